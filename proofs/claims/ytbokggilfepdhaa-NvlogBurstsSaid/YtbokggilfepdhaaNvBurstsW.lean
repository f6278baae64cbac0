/- NvlogBursts: the walk. -/
import Derived.Test.YtbokggilfepdhaaNvBackW
import Derived.Test.YtbokggilfepdhaaNvBLaw
namespace Go.Proofs.Ytbokggilfepdhaa
open Go.RowKit
set_option linter.unusedVariables false
attribute [local go_sem] Later.cell Later.frozen setCell_twice
attribute [local go_sem high] sliced_zero
theorem map_set_byw (l : List Nat) (p y : Nat) : (l.map byw).set p (byw y) = (l.set p y).map byw := by rw [List.map_set]
theorem set_mid (X t F : List Nat) (p y : Nat) (hp : p < t.length) : (X ++ (t ++ F)).set (X.length + p) y = X ++ (t.set p y ++ F) := by
  rw [List.set_append_right _ _ (by omega), Nat.add_sub_cancel_left, List.set_append_left _ _ hp]
theorem modify_set {l : List Nat} {p x : Nat} (f : Nat → Nat) (h : l[p]? = some x) : l.modify p f = l.set p (f x) := by
  apply List.ext_getElem?
  intro i
  rw [List.getElem?_modify, List.getElem?_set]
  by_cases hi : p = i
  · subst hi
    have hl := (List.getElem?_eq_some_iff.1 h).1
    rw [if_pos rfl, if_pos hl, h]
    simp
  · rw [if_neg hi]
    simp [hi]
set_option maxRecDepth 100000 in
set_option maxHeartbeats 4000000 in
theorem nvlogBursts_walk (A : Option Addr) (l : List Rc) (c : Nat) (a T : Nat) (w : World) (hR : Rcs w w.heap.size A l) (hlc : l.length ≤ c) (hc : c ≤ 9223372036854775807) (hA : A = none → c = 0) (ha : a < 65536) (hT : T < 4294967296) :
    Calls Try.prog 4 #[.slice A l.length c, .int .u16 (a : Int), .int .u32 (T : Int)] w fun e w' => e = .returned (.bool true) ∧ Below w.heap.size w w' := by
  obtain ⟨i2, hif2, hx0, hx1, hx2⟩ := info_parts info_b8
  have kw := Lib.hid (fun w => awake_any w)
  have kr := row_any A l c w hR hlc hc hA
  clear hR hA
  go_enter Try.func4, Try.ntmps4
  go_wp2_with fail
  refine kr.mono ?_
  clear kr
  rintro e w1 ⟨A1, c1, A2, n2, c2, A3, c3, hs, m, rfl, hlm, hm12, hl2, o1, o2, o3, hhs, bb⟩
  by_cases h0 : m = 0 ∨ T = 0
  · have BE := Lib.hid bb
    clear o1 o2 o3 hhs bb hl2
    rcases Nat.eq_zero_or_pos m with hm | hm
    · have g1 : ((m : Int) == 0) = true := by subst hm; rfl
      clear h0 hm hlm
      go_wp2_with fail
      refine (kw.out _).mono ?_
      rintro e w7 ⟨rfl, b7⟩
      go_wp2
      go_ret
      exact ⟨rfl, BE.out.trans (b7.mono BE.out.size)⟩
    · have g1 : ((m : Int) == 0) = false := by simp; omega
      have g2 : ((T : Int) == 0) = true := by
        have : T = 0 := by omega
        subst this; rfl
      clear h0 hm hlm
      go_wp2_with fail
      refine (kw.out _).mono ?_
      rintro e w7 ⟨rfl, b7⟩
      go_wp2
      go_ret
      exact ⟨rfl, BE.out.trans (b7.mono BE.out.size)⟩
  · have g1 : ((m : Int) == 0) = false := by simp; omega
    have g2 : ((T : Int) == 0) = false := by simp; omega
    obtain ⟨m0, hm0⟩ : ∃ m0, m = m0 + 1 := ⟨m - 1, by omega⟩
    have hma : m0 + 1 ≤ m := by omega
    have hmb : m ≤ m0 + 1 := by omega
    have hmI : (m : Int) - 1 = (m0 : Int) := by omega
    obtain ⟨M, hM⟩ : ∃ M, m + 1 = M := ⟨_, rfl⟩
    have hMa : m0 + 2 ≤ M := by omega
    have hMb : M ≤ 14 := by omega
    have hMI : (M : Int) - 2 = (m0 : Int) := by omega
    rw [hM] at o3 ⊢
    obtain ⟨xr, hxr⟩ : ∃ xr, hs[m0]? = some xr := ⟨_, List.getElem?_eq_getElem (by omega)⟩
    obtain ⟨H, hH⟩ : ∃ H, hs.map Rc.p = H := ⟨_, rfl⟩
    have HHH := Lib.hid hH
    rw [hH] at hl2 o2 o3
    obtain ⟨x, hx⟩ : ∃ x, xr.p = x := ⟨_, rfl⟩
    have hHx : H[m0]? = some x := by rw [← hH, List.getElem?_map, hxr, ← hx]; rfl
    have HGD : Hid (∀ x ∈ H, x.right = true ∧ x.Fit) := Lib.hid (fun x hx => by
      rw [← hH] at hx
      obtain ⟨z, hz, rfl⟩ := List.mem_map.1 hx
      exact ⟨(hhs z hz).2.1, (hhs z hz).1.fit⟩)
    have hxg := HGD.out x (List.mem_of_getElem? hHx)
    have HXG := Lib.hid hxg
    have h2l : n2 ≤ 12 * 313 := by
      have h4 := Nr.all_le H (fun y hy => by rw [← hH] at hy; obtain ⟨z, hz, rfl⟩ := List.mem_map.1 hy; exact (hhs z hz).2.2)
      rw [hl2, ← hH, List.length_map, hlm] at h4
      omega
    have HL2 := Lib.hid hl2
    have HLM := Lib.hid hlm
    have HHL : Hid (H.length = m) := Lib.hid (by rw [← hH, List.length_map, hlm])
    have HXS : Hid (H = H.take m0 ++ [x]) := Lib.hid (by
      have h5 := List.take_add_one (l := H) (i := m0)
      rw [hHx, List.take_of_length_le (by rw [HHL.out]; omega)] at h5
      exact h5)
    obtain ⟨X, hX⟩ : ∃ X, Nr.all (H.take m0) = X := ⟨_, rfl⟩
    obtain ⟨bd, hbd⟩ : ∃ bd, x.body = bd := ⟨_, rfl⟩
    obtain ⟨F, hF⟩ : ∃ F, Nr.four (Crc.bytes x.body) = F := ⟨_, rfl⟩
    have HALL : Hid (Nr.all H = X ++ (bd ++ F)) := Lib.hid (by
      have h6 : Nr.all H = Nr.all (H.take m0) ++ Nr.all [x] := by
        conv => lhs; rw [HXS.out]
        exact Nr.all_append _ _
      rw [h6, hX, Nr.all_cons, Nr.all_nil, List.append_nil, Nr.bytes, hF, hbd])
    obtain ⟨f0, hf0⟩ : ∃ f0, X.length = f0 := ⟨_, rfl⟩
    obtain ⟨nn, hnn⟩ : ∃ nn, bd.length = nn := ⟨_, rfl⟩
    have hFl : F.length = 4 := by rw [← hF]; rfl
    have hnn9 : 9 ≤ nn := by rw [← hnn, ← hbd, Nr.body_length]; omega
    have hsum : f0 + nn + 4 = n2 := by rw [← hl2, HALL.out, List.length_append, List.length_append, hf0, hnn, hFl]; omega
    have hsa : f0 + nn + 4 ≤ n2 := by omega
    have hsb : n2 ≤ f0 + nn + 4 := by omega
    have hnI : (n2 : Int) - (f0 : Int) - 4 = (nn : Int) := by omega
    obtain ⟨k, hk⟩ : ∃ k, a % nn = k := ⟨_, rfl⟩
    have hkI : (a : Int) % (nn : Int) = (k : Int) := by rw [← hk]; push_cast; rfl
    have hk2 : k < nn := by rw [← hk]; exact Nat.mod_lt _ (by omega)
    have hnnI : ((nn : Int) == 0) = false := by simp; omega
    have RX : Hid (Rcs w1 w1.heap.size A1 hs) := Lib.hid ⟨Recs.of_own recK_fine.hf recK_fine.hs o1, fun x hx => ((hhs x hx).1.below bb).more bb.size⟩
    have S2 := Lib.hid (Sq.of_own o2)
    have S3 := Sq.of_own o3
    have N1 := own_nil_s o1
    have N2 := own_nil_s o2
    have hn1c := N1.2.1
    have hn2c := N2.2.1
    have hc1 := N1.2.2
    have hc2 := N2.2.2
    have NA2 := Lib.hid (fun e => (N2.1 e).1)
    have hn3c := (own_nil_s o3).2.1
    have hc3 := (own_nil_s o3).2.2
    have BE := Lib.hid bb
    obtain ⟨b3, o3', hA3, hb3, hcell⟩ := S3 (by rw [Nr.ends_length]; omega)
    subst hA3
    have c3m : w1.cell? ⟨b3, o3' + m0, none⟩ = some (.int .i64 (f0 : Int)) := by
      rw [hcell m0 _ (Nr.ends_get (by rw [HHL.out]; omega)), hX, hf0]
      rfl
    have HX := Lib.hid hX
    have HBD := Lib.hid hbd
    have HF := Lib.hid hF
    have HF0 := Lib.hid hf0
    have HNN := Lib.hid hnn
    have HFL := Lib.hid hFl
    have hBU : Hid (∀ y ∈ bd, y < 256) := Lib.hid (by rw [← hbd]; exact Nr.body_u hxg.2)
    have e0 := own_empty w1 5 .u8
    have hm0I : (0 : Int) ≤ (m0 : Int) := by omega
    have hm0M : (m0 : Int) < (M : Int) := by omega
    clear h0 hm0 hM hxr hH hx hHx hxg hl2 hlm o1 o2 o3 hhs bb N1 N2 hcell S3 hX hbd hF hf0 hnn hFl hsum hk
    go_wp2_with (at_builtin; refine wpList_append_n (f := byw) _ rfl (.tmp 49) (.tmp 50) 24 rfl (fun _ => rfl) w1.heap.size 5 i2 _ _ Try.underlying24 hif2 hx0 rfl hx1 hx2 (by decide) (some ⟨w1.heap.size, 0, none⟩) 0 0 [] rfl rfl e0 w1.heap.size A2 (Nr.all H) c2 n2 HL2.out rfl (S2.out.alloc (Nat.le_refl _) _) NA2.out n2 (by omega) (by omega) (by simp) ?_; intro A5 c5 w5 o5 g5 b5; have O5 := Lib.hid o5; have BX0 := Lib.hid (((Below.refl w1.heap.size w1).alloc (Nat.le_refl _) _).trans b5); clear o5 g5 b5)
    clear e0 c3m
    obtain ⟨g, hg, hg1, hg2⟩ := own_some O5.out (by omega)
    subst hg
    go_loopw [14, 52] (fun v14 i wr => ∃ j : Nat, j ≤ 4 ∧ v14 = .bool (Crc.tch bd k T j) ∧ i = .int .i64 (j : Int) ∧ Hid (wr.ownsRow w1.heap.size 5 1 (.slice (some ⟨g, 0, none⟩) n2 c5) n2 ((X ++ (Crc.turn bd k T j ++ F)).map byw)) ∧ Hid (Below w1.heap.size w1 wr)) (fun _ i _ => 4 - (intOf i).toNat)
    case atStart => exact ⟨0, by omega, rfl, rfl, Lib.hid (by rw [Crc.turn, ← HALL.out]; exact O5.out), BX0⟩
    case round =>
      rename World => wr
      clear O5 BX0
      obtain ⟨j, hj, rfl, rfl, OB, BX⟩ := hrel
      by_cases hlt : j < 4
      · have hjI : (j : Int) < 4 := by omega
        obtain ⟨p, hp⟩ : ∃ p, k + j = p := ⟨_, rfl⟩
        have hpI : (k : Int) + (j : Int) = (p : Int) := by omega
        have hpl : p ≤ 10000 := by omega
        by_cases hp7 : p = 7
        · have g7 : ((p : Int) == 7) = true := by subst hp7; rfl
          have HTC : Hid (Crc.tcond bd k T j = false) := Lib.hid (decide_eq_false (by omega))
          clear hp hp7
          have HT1 : Hid (Crc.turn bd k T (j + 1) = Crc.turn bd k T j) := Lib.hid (by rw [Crc.turn, if_neg (by rw [HTC.out]; decide)])
          have HC1 : Hid (Crc.tch bd k T (j + 1) = Crc.tch bd k T j) := Lib.hid (by rw [Crc.tch, HTC.out, Bool.or_false])
          go_wp2
          go_roundw
          case rel => exact ⟨j + 1, by omega, by rw [HC1.out], by go_num, by rw [HT1.out]; exact OB, BX⟩
          case measure => simp [intOf]; omega
        · have g7 : ((p : Int) == 7) = false := by simp; omega
          by_cases hp8 : p = 8
          · have g8 : ((p : Int) == 8) = true := by subst hp8; rfl
            have HTC : Hid (Crc.tcond bd k T j = false) := Lib.hid (decide_eq_false (by omega))
            clear hp hp8 hp7
            have HT1 : Hid (Crc.turn bd k T (j + 1) = Crc.turn bd k T j) := Lib.hid (by rw [Crc.turn, if_neg (by rw [HTC.out]; decide)])
            have HC1 : Hid (Crc.tch bd k T (j + 1) = Crc.tch bd k T j) := Lib.hid (by rw [Crc.tch, HTC.out, Bool.or_false])
            go_wp2
            go_roundw
            case rel => exact ⟨j + 1, by omega, by rw [HC1.out], by go_num, by rw [HT1.out]; exact OB, BX⟩
            case measure => simp [intOf]; omega
          · have g8 : ((p : Int) == 8) = false := by simp; omega
            by_cases hpn : nn ≤ p
            · have gn1 : decide (nn ≤ p) = true := decide_eq_true hpn
              have gn2 : decide ((nn : Int) ≤ (p : Int)) = true := decide_eq_true (by omega)
              have HTC : Hid (Crc.tcond bd k T j = false) := Lib.hid (decide_eq_false (by rw [HNN.out]; omega))
              clear hp hp8 hp7
              have HT1 : Hid (Crc.turn bd k T (j + 1) = Crc.turn bd k T j) := Lib.hid (by rw [Crc.turn, if_neg (by rw [HTC.out]; decide)])
              have HC1 : Hid (Crc.tch bd k T (j + 1) = Crc.tch bd k T j) := Lib.hid (by rw [Crc.tch, HTC.out, Bool.or_false])
              go_wp2
              go_roundw
              case rel => exact ⟨j + 1, by omega, by rw [HC1.out], by go_num, by rw [HT1.out]; exact OB, BX⟩
              case measure => simp [intOf]; omega
            · have gn1 : decide (nn ≤ p) = false := decide_eq_false hpn
              have gn2 : decide ((nn : Int) ≤ (p : Int)) = false := decide_eq_false (by omega)
              obtain ⟨j8, hj8⟩ : ∃ j8, 8 * j = j8 := ⟨_, rfl⟩
              have hj8I : 8 * (j : Int) = (j8 : Int) := by omega
              have hj8l : j8 ≤ 24 := by omega
              obtain ⟨cc, hcc⟩ : ∃ cc, Crc.tbyte T j = cc := ⟨_, rfl⟩
              have hccI : (T : Int) / 2 ^ j8 % 256 = (cc : Int) := by rw [← hcc, Crc.tbyte, hj8]; push_cast; rfl
              have hccl : cc < 256 := by rw [← hcc]; exact Crc.tbyte_lt T j
              by_cases hc0 : cc = 0
              · have gc : ((cc : Int) != 0) = false := by subst hc0; rfl
                have HTC : Hid (Crc.tcond bd k T j = false) := Lib.hid (decide_eq_false (by rw [hcc]; omega))
                clear hp hp8 hp7 hcc hc0 hj8
                have HT1 : Hid (Crc.turn bd k T (j + 1) = Crc.turn bd k T j) := Lib.hid (by rw [Crc.turn, if_neg (by rw [HTC.out]; decide)])
                have HC1 : Hid (Crc.tch bd k T (j + 1) = Crc.tch bd k T j) := Lib.hid (by rw [Crc.tch, HTC.out, Bool.or_false])
                go_wp2
                go_roundw
                case rel => exact ⟨j + 1, by omega, by rw [HC1.out], by go_num, by rw [HT1.out]; exact OB, BX⟩
                case measure => simp [intOf]; omega
              · have gc : ((cc : Int) != 0) = true := by simp; omega
                have HTC : Hid (Crc.tcond bd k T j = true) := Lib.hid (decide_eq_true ⟨by omega, by omega, by rw [HNN.out]; omega, by rw [hcc]; exact hc0⟩)
                obtain ⟨q, hq⟩ : ∃ q, f0 + p = q := ⟨_, rfl⟩
                have hqI : (f0 : Int) + (p : Int) = (q : Int) := by omega
                have hqa : q < n2 := by omega
                obtain ⟨z, hz⟩ : ∃ z, (Crc.turn bd k T j)[p]? = some z := ⟨_, List.getElem?_eq_getElem (by rw [Crc.turn_length, HNN.out]; omega)⟩
                have hzl : z < 256 := Crc.turn_byte bd k T hBU.out j z (List.mem_of_getElem? hz)
                have cz : wr.cell? ⟨g, q, none⟩ = some (.int .u8 (z : Int)) := by
                  rw [OB.out.cellAt q (by omega), List.getElem?_map, ← hq, List.getElem?_append_right (by rw [HF0.out]; omega), HF0.out, Nat.add_sub_cancel_left, List.getElem?_append_left (by rw [Crc.turn_length, HNN.out]; omega), hz]
                  rfl
                have fz := OB.out.frozenAt q
                obtain ⟨y, hy⟩ : ∃ y, z ^^^ cc = y := ⟨_, rfl⟩
                have hyI : bits .xor .u8 (z : Int) (cc : Int) = (y : Int) := by rw [u8_xor_nat _ _ hzl hccl, hy]
                have HT1 : Hid (Crc.turn bd k T (j + 1) = (Crc.turn bd k T j).set p y) := Lib.hid (by rw [Crc.turn, if_pos HTC.out, hp, modify_set _ hz, hcc, hy])
                have HC1 : Hid (Crc.tch bd k T (j + 1) = true) := Lib.hid (by rw [Crc.tch, HTC.out, Bool.or_true])
                have HPQ : Hid (f0 + p = q) := Lib.hid hq
                have HPL : Hid (p < (Crc.turn bd k T j).length) := Lib.hid (by rw [Crc.turn_length, HNN.out]; omega)
                clear hp hp8 hp7 hcc hc0 hj8 hq hz hy
                go_wp2
                go_roundw
                case rel =>
                  have hs := (OB.out.stored q (byw y)).1
                  rw [map_set_byw, ← HPQ.out, ← HF0.out, set_mid _ _ _ _ _ HPL.out, ← HT1.out, HF0.out, HPQ.out] at hs
                  first | exact ⟨j + 1, by omega, by rw [HC1.out], by go_num, Lib.hid hs.drew, Lib.hid (BX.out.setCell hg1 _).drew⟩ | exact ⟨j + 1, by omega, by rw [HC1.out], by go_num, Lib.hid hs, Lib.hid (BX.out.setCell hg1 _)⟩
                case measure => simp [intOf]; omega
      · obtain rfl : j = 4 := by omega
        have hcap5 := own_nil_c OB.out
        have hcc5 := own_cap OB.out
        have hn5c : n2 ≤ c5 := hcap5.2
        have HU : Hid (∀ y ∈ Nr.all H, y < 256) := Lib.hid (fun y hy => by
          obtain ⟨z, hz, hyz⟩ := List.mem_flatMap.1 hy
          exact Nr.bytes_u (HGD.out z hz).2 y hyz)
        have HU4 : Hid (∀ y ∈ X ++ (Crc.turn bd k T 4 ++ F), y < 256) := Lib.hid (fun y hy => by
          rcases List.mem_append.1 hy with h | h
          · exact HU.out y (by rw [HALL.out]; exact List.mem_append_left _ h)
          · rcases List.mem_append.1 h with h | h
            · exact Crc.turn_byte bd k T hBU.out 4 y h
            · exact HU.out y (by rw [HALL.out]; exact List.mem_append_right _ (List.mem_append_right _ h)))
        have HLL : Hid ((X ++ (Crc.turn bd k T 4 ++ F)).length = n2) := Lib.hid (by rw [List.length_append, List.length_append, Crc.turn_length, HF0.out, HNN.out, HFL.out]; omega)
        have SB := Sq.of_own OB.out
        clear hcap5
        obtain ⟨ch, hch⟩ : ∃ ch, Crc.tch bd k T 4 = ch := ⟨_, rfl⟩
        rw [hch]
        cases ch
        · have hr : Nr.read (X ++ (Crc.turn bd k T 4 ++ F)) = (H, n2) := by rw [Crc.tch_same _ _ _ 4 hch, ← HALL.out, Nr.read_is H HGD.out, HL2.out]
          have kr2 := nread_rcs (some ⟨g, 0, none⟩) c5 n2 _ HLL.out wr SB HU4.out (by simp) hn5c hcc5 (by omega) H n2 hr
          clear hch hr SB
          go_wp2_with fail
          refine kr2.mono ?_
          clear kr2
          rintro e w6 ⟨A6, c6, m6, rs, rfl, hl6, hrs, rg, bb⟩
          have hm6 : m = m6 := by rw [← hl6, ← HHL.out, ← hrs, List.length_map]
          subst hm6
          have BY := Lib.hid (BX.out.trans (bb.mono BX.out.size))
          have ka := all_any A6 A1 rs hs c6 c1 m m w6 hl6 HLM.out rg (RX.out.to BY.out) (by omega)
          rw [(Nr.eqs_iff _ _).2 (hrs.trans HHH.out.symm)] at ka
          clear bb hl6 hrs rg
          go_wp2_with fail
          refine ka.mono ?_
          clear ka
          rintro e w7 ⟨rfl, b7⟩
          replace BY := Lib.hid (BY.out.trans (b7.mono BY.out.size))
          clear b7
          go_wp2_with fail
          refine (kw.out _).mono ?_
          rintro e w8 ⟨rfl, b8⟩
          go_wp2
          go_ret
          exact ⟨rfl, BE.out.trans ((BY.out.trans (b8.mono BY.out.size)).mono BE.out.size)⟩
        · have hr := Nr.read_turn (H := H.take m0) (x := x) (fun y hy => HGD.out y (List.mem_of_mem_take hy)) HXG.out.1 HXG.out.2 k T (by rw [HBD.out]; exact hch)
          rw [HF.out, HX.out, HBD.out, HF0.out] at hr
          have kr2 := nread_rcs (some ⟨g, 0, none⟩) c5 n2 _ HLL.out wr SB HU4.out (by simp) hn5c hcc5 (by omega) (H.take m0) f0 hr
          have gff : ((f0 : Int) == (f0 : Int)) = true := by simp
          clear hch hr SB
          go_wp2_with fail
          refine kr2.mono ?_
          clear kr2
          rintro e w6 ⟨A6, c6, m6, rs, rfl, hl6, hrs, rg, bb⟩
          have hm6 : m0 = m6 := by
            have h1 : (rs.map Rc.p).length = (H.take m0).length := by rw [hrs]
            rw [List.length_map, hl6, List.length_take, HHL.out] at h1
            omega
          subst hm6
          have BY := Lib.hid (BX.out.trans (bb.mono BX.out.size))
          have ka := all_any A6 A1 rs (hs.take m0) c6 c1 m0 m0 w6 hl6 (by rw [List.length_take, HLM.out]; omega) rg ((RX.out.to BY.out).take m0) (by omega)
          rw [(Nr.eqs_iff _ _).2 (by rw [hrs, List.map_take, HHH.out])] at ka
          clear bb hl6 hrs rg
          go_wp2_with fail
          refine ka.mono ?_
          clear ka
          rintro e w7 ⟨rfl, b7⟩
          replace BY := Lib.hid (BY.out.trans (b7.mono BY.out.size))
          clear b7
          go_wp2_with fail
          refine (kw.out _).mono ?_
          rintro e w8 ⟨rfl, b8⟩
          go_wp2
          go_ret
          exact ⟨rfl, BE.out.trans ((BY.out.trans (b8.mono BY.out.size)).mono BE.out.size)⟩
end Go.Proofs.Ytbokggilfepdhaa
