/- NvlogBack: the walk, and the plain law of a cut. -/
import Derived.Test.YtbokggilfepdhaaNvRow
import Derived.Test.YtbokggilfepdhaaNvAwk
import Derived.Test.YtbokggilfepdhaaBs
namespace Go.Proofs.Ytbokggilfepdhaa
open Go.RowKit
set_option linter.unusedVariables false
attribute [local go_sem] Later.cell Later.frozen setCell_twice
theorem sliced_zero (a : Option Addr) (h m s : Nat) : sliced a 0 h m s = .slice a h m := by
  unfold sliced
  rw [Nat.zero_mul, Nat.sub_zero, Nat.sub_zero]
  cases a with
  | none => simp
  | some p => split <;> rfl
attribute [local go_sem high] sliced_zero
namespace Nr
theorem all_nil : all [] = [] := rfl
theorem all_ge : ∀ (H : List Nr), H.length * 13 ≤ (all H).length
  | [] => by simp
  | x :: H => by
    have h1 := all_ge H
    rw [all_cons, List.length_append, bytes_length, size, List.length_cons]
    omega
theorem read_cut {H : List Nr} (hg : ∀ x ∈ H, x.right = true ∧ Fit x) {j k : Nat} (hj : j ≤ H.length) (h1 : (all (H.take j)).length ≤ k) (h2 : j = H.length ∨ k < (all (H.take (j + 1))).length) : read ((all H).take k) = (H.take j, (all (H.take j)).length) := by
  have hH : all H = all (H.take j) ++ all (H.drop j) := by rw [← all_append, List.take_append_drop]
  have h3 : (all H).take k = all (H.take j) ++ (all (H.drop j)).take (k - (all (H.take j)).length) := by
    conv => lhs; rw [hH]
    rw [List.take_append, List.take_of_length_le h1]
  rw [h3, read_all _ _ (fun x hx => hg x (List.mem_of_mem_take hx))]
  have h4 : read ((all (H.drop j)).take (k - (all (H.take j)).length)) = ([], 0) := by
    by_cases hjl : j < H.length
    · have hk : k < (all (H.take (j + 1))).length := by rcases h2 with h2 | h2; omega; exact h2
      have h5 := List.take_add_one (l := H) (i := j)
      rw [List.getElem?_eq_getElem hjl] at h5
      rw [h5, all_append, List.length_append] at hk
      replace hk : k < (all (H.take j)).length + (all [H[j]]).length := hk
      rw [all_cons, all_nil, List.append_nil, bytes_length] at hk
      rw [List.drop_eq_getElem_cons hjl, all_cons, List.take_append_of_le_length (by rw [bytes_length]; omega)]
      have h6 := hg H[j] (List.getElem_mem hjl)
      exact read_none (first_short h6.1 h6.2 (by omega))
    · rw [List.drop_of_length_le (by omega), all_nil, List.take_nil]
      exact read_nil
  rw [h4]
  simp
end Nr
theorem nread_rcs (A : Option Addr) (c n : Nat) (b : List Nat) (hn : b.length = n) (w : World) (hsq : Sq byw w w.heap.size A b) (hu : ∀ y ∈ b, y < 256) (hA : A = none → c = 0) (hnc : n ≤ c) (hc : c ≤ 9223372036854775807) (hn1 : n ≤ 1000000) (G : List Nr) (q : Nat) (hr : Nr.read b = (G, q)) :
    Calls Try.prog 11 #[.slice A n c] w fun e w' => ∃ A' c' m rs, e = .returned (.tuple #[.slice A' m c', .int .i64 (q : Int)]) ∧ rs.length = m ∧ rs.map Rc.p = G ∧ Rcs w' w'.heap.size A' rs ∧ Below w.heap.size w w' := by
  refine (nread_any A c n b hn w hsq hu hA hnc hc hn1).mono (fun e w' h => ?_)
  obtain ⟨A', c', m, rs, rfl, og, hrs, hnl, bb⟩ := h
  have hf := (Nr.read_back hu).2
  rw [hr] at hrs hf
  refine ⟨A', c', m, rs, by rw [hr], og.len, hrs, og.rcs (fun x hx => ⟨(hf x.p (by rw [← hrs]; exact List.mem_map_of_mem hx)).2, (hnl x hx).1⟩), bb⟩
set_option maxRecDepth 100000 in
set_option maxHeartbeats 4000000 in
theorem nvlogBack_walk (A : Option Addr) (l : List Rc) (c : Nat) (a : Nat) (B : Option Addr) (b : List Nat) (cb : Nat) (w : World) (hR : Rcs w w.heap.size A l) (hlc : l.length ≤ c) (hc : c ≤ 9223372036854775807) (hA : A = none → c = 0) (ha : a < 65536) (hB : Bs w w.heap.size B cb b) :
    Calls Try.prog 3 #[.slice A l.length c, .int .u16 (a : Int), .slice B b.length cb] w fun e w' => e = .returned (.bool true) ∧ Below w.heap.size w w' := by
  obtain ⟨i2, hif2, hx0, hx1, hx2⟩ := info_parts info_b8
  have HB := Lib.hid hB
  have kw := Lib.hid (fun w => awake_any w)
  have kr := row_any A l c w hR hlc hc hA
  obtain ⟨nb, hnb⟩ : ∃ nb, b.length = nb := ⟨_, rfl⟩
  have HNB := Lib.hid hnb
  have hln := hB.ln
  have hcap := hB.cap
  rw [hnb] at hln ⊢
  clear hB hR hA hnb
  by_cases hbig : 1000 < nb
  · have g1 : decide ((1000 : Int) < (nb : Int)) = true := decide_eq_true (by omega)
    clear kr
    go_enter Try.func3, Try.ntmps3
    go_wp2_with fail
    refine (kw.out _).mono ?_
    rintro e w7 ⟨rfl, b7⟩
    go_wp2
    go_ret
    exact ⟨rfl, b7⟩
  · have g1 : decide ((1000 : Int) < (nb : Int)) = false := decide_eq_false (by omega)
    go_enter Try.func3, Try.ntmps3
    go_wp2_with fail
    refine kr.mono ?_
    clear kr
    rintro e w1 ⟨A1, c1, A2, n2, c2, A3, c3, hs, m, rfl, hlm, hm12, hl2, o1, o2, o3, hhs, bb⟩
    obtain ⟨H, hH⟩ : ∃ H, hs.map Rc.p = H := ⟨_, rfl⟩
    have HHH := Lib.hid hH
    rw [hH] at hl2 o2 o3
    have HGD : Hid (∀ x ∈ H, x.right = true ∧ x.Fit) := Lib.hid (fun x hx => by
      rw [← hH] at hx
      obtain ⟨z, hz, rfl⟩ := List.mem_map.1 hx
      exact ⟨(hhs z hz).2.1, (hhs z hz).1.fit⟩)
    have h2l : n2 ≤ 12 * 313 := by
      have h4 := Nr.all_le H (fun y hy => by rw [← hH] at hy; obtain ⟨z, hz, rfl⟩ := List.mem_map.1 hy; exact (hhs z hz).2.2)
      rw [hl2, ← hH, List.length_map, hlm] at h4
      omega
    have HL2 := Lib.hid hl2
    have HLM := Lib.hid hlm
    have HHL : Hid (H.length = m) := Lib.hid (by rw [← hH, List.length_map, hlm])
    have RX : Hid (Rcs w1 w1.heap.size A1 hs) := Lib.hid ⟨Recs.of_own recK_fine.hf recK_fine.hs o1, fun x hx => ((hhs x hx).1.below bb).more bb.size⟩
    have S2 := Lib.hid (Sq.of_own o2)
    have S3 := Lib.hid (Sq.of_own o3)
    have N1 := own_nil_s o1
    have N2 := own_nil_s o2
    have hn1c := N1.2.1
    have hn2c := N2.2.1
    have hc1 := N1.2.2
    have hc2 := N2.2.2
    have NA2 := Lib.hid (fun e => (N2.1 e).1)
    have hn3c := (own_nil_s o3).2.1
    have hc3 := (own_nil_s o3).2.2
    have BE := Lib.hid bb
    have HU : Hid (∀ y ∈ Nr.all H, y < 256) := Lib.hid (fun y hy => by
      obtain ⟨z, hz, hyz⟩ := List.mem_flatMap.1 hy
      exact Nr.bytes_u (HGD.out z hz).2 y hyz)
    obtain ⟨b3, o3', hA3, hb3, hcell⟩ := S3.out (by rw [Nr.ends_length]; omega)
    subst hA3
    have E3 : Hid (∀ j, j ≤ m → w1.cell? ⟨b3, o3' + j, none⟩ = some (.int .i64 ((Nr.all (H.take j)).length : Int))) := Lib.hid (fun j hj => hcell j _ (Nr.ends_get (by rw [HHL.out]; exact hj)))
    clear hH hl2 hlm o1 o2 o3 hhs bb N1 N2 hcell S3
    have kr1 := nread_rcs A2 c2 n2 (Nr.all H) HL2.out w1 S2.out HU.out NA2.out hn2c hc2 (by omega) H n2 (by rw [Nr.read_is H HGD.out, HL2.out])
    go_wp2_with fail
    refine kr1.mono ?_
    clear kr1
    rintro e w2 ⟨A4, c4, m4, rs, rfl, hl4, hrs, rg, bb⟩
    have hm4 : m = m4 := by rw [← hl4, ← HHL.out, ← hrs, List.length_map]
    subst hm4
    have ka := all_any A4 A1 rs hs c4 c1 m m w2 hl4 HLM.out rg (RX.out.to bb) (by omega)
    rw [(Nr.eqs_iff _ _).2 (hrs.trans HHH.out.symm)] at ka
    have BX := Lib.hid bb
    clear bb hl4 hrs rg
    have gnn : ((n2 : Int) != (n2 : Int)) = false := by simp
    go_wp2_with fail
    refine ka.mono ?_
    clear ka
    rintro e w3 ⟨rfl, bb⟩
    replace BX := Lib.hid (BX.out.trans (bb.mono BX.out.size))
    obtain ⟨k, hk⟩ : ∃ k, a % (n2 + 1) = k := ⟨_, rfl⟩
    have hkI : (a : Int) % ((n2 : Int) + 1) = (k : Int) := by rw [← hk]; push_cast; rfl
    have hk2 : k ≤ n2 := by rw [← hk]; have := Nat.mod_lt a (show 0 < n2 + 1 by omega); omega
    clear hk bb
    go_wp2
    go_loopw [13] (fun v wr => ∃ j : Nat, j ≤ m ∧ v = .int .i64 (j : Int) ∧ Hid ((Nr.all (H.take j)).length ≤ k) ∧ Below w1.heap.size w1 wr) (fun v _ => m - (intOf v).toNat)
    case atStart => exact ⟨0, by omega, rfl, Lib.hid (by simp [Nr.all]), BX.out⟩
    case round =>
      rename World => wr
      clear BX
      obtain ⟨j, hj, rfl, HJ, hbx⟩ := hrel
      have BX := Lib.hid hbx
      obtain ⟨ej, hej⟩ : ∃ ej, (Nr.all (H.take j)).length = ej := ⟨_, rfl⟩
      have HEJ := Lib.hid hej
      have hb3r : b3 < wr.heap.size := Nat.lt_of_lt_of_le hb3 hbx.size
      clear hej
      by_cases hlt : j < m
      · obtain ⟨e1, he1⟩ : ∃ e1, (Nr.all (H.take (j + 1))).length = e1 := ⟨_, rfl⟩
        have cj1 : wr.cell? ⟨b3, o3' + (j + 1), none⟩ = some (.int .i64 (e1 : Int)) := (hbx.cell (p := ⟨b3, o3' + (j + 1), none⟩) hb3).trans (by rw [E3.out (j + 1) (by omega), he1])
        have HE1 := Lib.hid he1
        have hj0 : (0 : Int) ≤ (j : Int) + 1 := by omega
        have gj : decide ((j : Int) + 1 < (m : Int) + 1) = true := decide_eq_true (by omega)
        clear he1 hbx
        by_cases hle : e1 ≤ k
        · have gk : decide ((e1 : Int) ≤ (k : Int)) = true := decide_eq_true (by omega)
          have gk2 : decide (e1 ≤ k) = true := decide_eq_true hle
          go_wp2
          go_roundw
          case rel => exact ⟨j + 1, by omega, by go_num, Lib.hid (by rw [HE1.out]; exact hle), BX.out⟩
          case measure => simp [intOf]; omega
        · have gk : decide ((e1 : Int) ≤ (k : Int)) = false := decide_eq_false (by omega)
          have gk2 : decide (e1 ≤ k) = false := decide_eq_false hle
          have HCUT : Hid (j = H.length ∨ k < (Nr.all (H.take (j + 1))).length) := Lib.hid (.inr (by rw [HE1.out]; omega))
          have kr2 := nread_rcs A2 c2 k ((Nr.all H).take k) (by rw [List.length_take, HL2.out]; omega) wr (((S2.out.below BX.out).more BX.out.size).take k) (fun y hy => HU.out y (List.mem_of_mem_take hy)) NA2.out (by omega) hc2 (by omega) (H.take j) ej (by rw [Nr.read_cut HGD.out (by rw [HHL.out]; exact hj) HJ.out HCUT.out, HEJ.out])
          go_wp2_with fail
          refine kr2.mono ?_
          clear kr2
          rintro e w4 ⟨A5, c5, m5, ts, rfl, hl5, hts, rg5, bb⟩
          replace BX := Lib.hid (BX.out.trans (bb.mono BX.out.size))
          have hm5 : j = m5 := by
            have h1 : (ts.map Rc.p).length = (H.take j).length := by rw [hts]
            rw [List.length_map, hl5, List.length_take, HHL.out] at h1
            omega
          subst hm5
          have ka := all_any A5 A1 ts (hs.take j) c5 c1 j j w4 hl5 (by rw [List.length_take, HLM.out]; omega) rg5 ((RX.out.to BX.out).take j) (by omega)
          rw [(Nr.eqs_iff _ _).2 (by rw [hts, List.map_take, HHH.out])] at ka
          clear bb hl5 hts rg5
          go_wp2_with fail
          refine ka.mono ?_
          clear ka
          rintro e w5 ⟨rfl, bb⟩
          replace BX := Lib.hid (BX.out.trans (bb.mono BX.out.size))
          have hb5 : b3 < w5.heap.size := Nat.lt_of_lt_of_le hb3 BX.out.size
          have cj5 : w5.cell? ⟨b3, o3' + j, none⟩ = some (.int .i64 (ej : Int)) := (BX.out.cell (p := ⟨b3, o3' + j, none⟩) hb3).trans (by rw [E3.out j hj, HEJ.out])
          have gee : ((ej : Int) != (ej : Int)) = false := by simp
          have h0j : (0 : Int) ≤ (j : Int) := by omega
          have hjm : (j : Int) < (m : Int) + 1 := by omega
          have BW := Lib.hid (BE.out.trans (BX.out.mono BE.out.size))
          obtain ⟨G, q, hGq⟩ : ∃ G q, Nr.read b = (G, q) := ⟨_, _, rfl⟩
          have kr3 := nread_rcs B cb nb b HNB.out w5 (HB.out.to BW.out).sq HB.out.u HB.out.nl hln hcap (by omega) G q hGq
          have hq : q ≤ nb := by have := Nr.read_le b; rw [hGq, HNB.out] at this; exact this
          have HGB : Hid (b.take q = Nr.all G ∧ ∀ x ∈ G, x.right = true ∧ x.Fit) := Lib.hid (by have := Nr.read_back HB.out.u; rw [hGq] at this; exact this)
          clear bb hGq
          go_wp2_with fail
          refine kr3.mono ?_
          clear kr3
          rintro e w6 ⟨A6, c6, m6, ys, rfl, hl6, hys, rg6, bb⟩
          replace BW := Lib.hid (BW.out.trans (bb.mono BW.out.size))
          have HL6 := Lib.hid hl6
          have HYS := Lib.hid hys
          have RY := Lib.hid rg6
          have hm6 : m6 * 13 ≤ 1000 := by
            have h1 : (b.take q).length = (Nr.all G).length := by rw [HGB.out.1]
            have h2 : G.length * 13 ≤ (Nr.all G).length := Nr.all_ge G
            rw [← hys, List.length_map, hl6] at h2
            rw [← hys] at h1
            rw [List.length_take, HNB.out] at h1
            omega
          clear bb hl6 hys rg6 cj5
          go_wp2
          go_loopw [16, 96] (fun v16 i wq => ∃ (i0 : Nat) (Ac : Option Addr) (cc nc : Nat), i0 ≤ m6 ∧ v16 = .slice Ac nc cc ∧ i = .int .i64 (i0 : Int) ∧ Hid ((Nr.all (G.take i0)).length = nc) ∧ Hid (wq.ownsRow w6.heap.size 5 1 (.slice Ac nc cc) nc ((Nr.all (G.take i0)).map byw)) ∧ Hid (Below w6.heap.size w6 wq)) (fun _ i _ => m6 - (intOf i).toNat)
          case atStart => exact ⟨0, none, 0, 0, by omega, rfl, rfl, Lib.hid rfl, Lib.hid (World.ownsRow_nil _ _ _ _), Lib.hid (Below.refl _ _)⟩
          case round =>
            rename World => wq
            obtain ⟨i0, Ac, cc, nc, hi0, rfl, rfl, HNC, OC, BQ⟩ := hrel
            have hz : w6.heap.size ≤ wq.heap.size := BQ.out.size
            by_cases hlt2 : i0 < m6
            · obtain ⟨gy, oy, y, hA', hgy, hy, hyk, d0, d1, d2, d3, d4⟩ := (RY.out.below BQ.out).at_ (k := i0) (by rw [HL6.out]; exact hlt2)
              cases hA'
              have hyG : G[i0]? = some y.p := by rw [← HYS.out, List.getElem?_map, hy]; rfl
              have hyr := HGB.out.2 y.p (List.mem_of_getElem? hyG)
              have HTK : Hid (Nr.all (G.take (i0 + 1)) = Nr.all (G.take i0) ++ y.p.bytes) := Lib.hid (by rw [List.take_add_one, hyG, Nr.all_append]; simp [Nr.all])
              have hltI : (i0 : Int) < (m6 : Int) := by omega
              have h0I : (0 : Int) ≤ (i0 : Int) := by omega
              have hgr : gy < wq.heap.size := Nat.lt_of_lt_of_le hgy hz
              have ba := bel_alloc (Below.refl wq.heap.size wq) (.cells (recK.f y).toArray 34)
              have kb := nbytes_any y.p y.A y.c y.p.text.length rfl hyk.fit (wq.alloc (.cells (recK.f y).toArray 34)) ((hyk.sq.below (ba.mono hz)).more (by simp; omega)) hyk.nl.1
              replace OC := Lib.hid (own_below OC.out ba)
              replace BQ := Lib.hid (BQ.out.trans (ba.mono hz))
              have hsz : y.p.text.length ≤ 8192 := Nr.right_len hyr.1
              have hncle : nc ≤ 1000 := by
                have h1 : (b.take q).length = (Nr.all G).length := by rw [HGB.out.1]
                have h2 : (Nr.all G).length = (Nr.all (G.take i0)).length + (Nr.all (G.drop i0)).length := by rw [← List.length_append, ← Nr.all_append, List.take_append_drop]
                rw [List.length_take, HNB.out] at h1
                rw [HNC.out] at h2
                omega
              have HR := Lib.hid hyr.1
              clear hy hyk ba hyG hyr
              go_wp2_with fail
              refine kb.mono ?_
              clear kb
              rintro e w7 ⟨bb, hif⟩
              rw [if_pos HR.out] at hif
              obtain ⟨A7, c7, rfl, o7⟩ := hif
              obtain ⟨n7, hn7⟩ : ∃ n7, y.p.bytes.length = n7 := ⟨_, rfl⟩
              rw [hn7] at o7
              rw [hn7]
              have hn7l : n7 ≤ 10000 := by rw [← hn7, Nr.bytes_length, Nr.size]; omega
              have HN7 := Lib.hid hn7
              have O7 := Lib.hid o7
              have N7 := Lib.hid (own_nil_c o7).1
              replace OC := Lib.hid (own_below OC.out bb)
              replace BQ := Lib.hid (BQ.out.trans (bb.mono (by simp; omega)))
              have hz7 : w6.heap.size ≤ w7.heap.size := BQ.out.size
              clear bb hn7 o7 d0 d1 d2 d3 d4
              go_wp2_with (at_builtin; refine wpList_append_n (f := byw) _ rfl (.tmp 105) (.tmp 106) 24 rfl (fun _ => rfl) w6.heap.size 5 i2 _ _ Try.underlying24 hif2 hx0 rfl hx1 hx2 (by decide) Ac cc nc (Nr.all (G.take i0)) rfl HNC.out OC.out w7.heap.size A7 y.p.bytes c7 n7 HN7.out rfl (Sq.of_own O7.out) N7.out (nc + n7) rfl (by omega) hz7 ?_; intro A8 c8 w8 o8 g8 b8; have O8 := Lib.hid o8; have B8 := Lib.hid (BQ.out.trans b8); clear o8 g8 b8)
              go_roundw
              case rel => exact ⟨i0 + 1, A8, c8, nc + n7, by omega, rfl, by go_num, Lib.hid (by rw [HTK.out, List.length_append, HNC.out, HN7.out]), Lib.hid (by rw [HTK.out]; exact O8.out), B8⟩
              case measure => simp [intOf]; omega
            · obtain rfl : i0 = m6 := by omega
              have hall : Nr.all (G.take i0) = b.take q := by
                rw [List.take_of_length_le (by rw [← HYS.out, List.length_map, HL6.out]; exact Nat.le_refl _), HGB.out.1]
              have hncq : q = nc := by rw [← HNC.out, hall, List.length_take, HNB.out]; omega
              subst hncq
              have gq0 : decide ((q : Int) < 0) = false := decide_eq_false (by omega)
              have gq1 : decide (nb < q) = false := decide_eq_false (by omega)
              have gq2 : decide ((nb : Int) < (q : Int)) = false := decide_eq_false (by omega)
              have SC := Sq.of_own OC.out
              rw [hall] at SC
              have ks := same_by B Ac (b.take q) (b.take q) cb cc q q true wq (by rw [List.length_take, HNB.out]; omega) (by rw [List.length_take, HNB.out]; omega) ((HB.out.to (BW.out.trans (BQ.out.mono BW.out.size))).sq.take q) SC (fun x hx => HB.out.u x (List.mem_of_mem_take hx)) (fun x hx => HB.out.u x (List.mem_of_mem_take hx)) (by simp)
              clear hall SC
              go_wp2_with fail
              refine ks.mono ?_
              clear ks
              rintro e w9 ⟨rfl, rfl⟩
              go_wp2_with fail
              refine (kw.out _).mono ?_
              rintro e w10 ⟨rfl, b10⟩
              go_wp2
              go_ret
              exact ⟨rfl, BW.out.trans ((BQ.out.trans (b10.mono hz)).mono BW.out.size)⟩
      · have HCUT : Hid (j = H.length ∨ k < (Nr.all (H.take (j + 1))).length) := Lib.hid (.inl (by rw [HHL.out]; omega))
        have gj : decide ((j : Int) + 1 < (m : Int) + 1) = false := decide_eq_false (by omega)
        clear hbx
        have kr2 := nread_rcs A2 c2 k ((Nr.all H).take k) (by rw [List.length_take, HL2.out]; omega) wr (((S2.out.below BX.out).more BX.out.size).take k) (fun y hy => HU.out y (List.mem_of_mem_take hy)) NA2.out (by omega) hc2 (by omega) (H.take j) ej (by rw [Nr.read_cut HGD.out (by rw [HHL.out]; exact hj) HJ.out HCUT.out, HEJ.out])
        go_wp2_with fail
        refine kr2.mono ?_
        clear kr2
        rintro e w4 ⟨A5, c5, m5, ts, rfl, hl5, hts, rg5, bb⟩
        replace BX := Lib.hid (BX.out.trans (bb.mono BX.out.size))
        have hm5 : j = m5 := by
          have h1 : (ts.map Rc.p).length = (H.take j).length := by rw [hts]
          rw [List.length_map, hl5, List.length_take, HHL.out] at h1
          omega
        subst hm5
        have ka := all_any A5 A1 ts (hs.take j) c5 c1 j j w4 hl5 (by rw [List.length_take, HLM.out]; omega) rg5 ((RX.out.to BX.out).take j) (by omega)
        rw [(Nr.eqs_iff _ _).2 (by rw [hts, List.map_take, HHH.out])] at ka
        clear bb hl5 hts rg5
        go_wp2_with fail
        refine ka.mono ?_
        clear ka
        rintro e w5 ⟨rfl, bb⟩
        replace BX := Lib.hid (BX.out.trans (bb.mono BX.out.size))
        have hb5 : b3 < w5.heap.size := Nat.lt_of_lt_of_le hb3 BX.out.size
        have cj5 : w5.cell? ⟨b3, o3' + j, none⟩ = some (.int .i64 (ej : Int)) := (BX.out.cell (p := ⟨b3, o3' + j, none⟩) hb3).trans (by rw [E3.out j hj, HEJ.out])
        have gee : ((ej : Int) != (ej : Int)) = false := by simp
        have h0j : (0 : Int) ≤ (j : Int) := by omega
        have hjm : (j : Int) < (m : Int) + 1 := by omega
        have BW := Lib.hid (BE.out.trans (BX.out.mono BE.out.size))
        obtain ⟨G, q, hGq⟩ : ∃ G q, Nr.read b = (G, q) := ⟨_, _, rfl⟩
        have kr3 := nread_rcs B cb nb b HNB.out w5 (HB.out.to BW.out).sq HB.out.u HB.out.nl hln hcap (by omega) G q hGq
        have hq : q ≤ nb := by have := Nr.read_le b; rw [hGq, HNB.out] at this; exact this
        have HGB : Hid (b.take q = Nr.all G ∧ ∀ x ∈ G, x.right = true ∧ x.Fit) := Lib.hid (by have := Nr.read_back HB.out.u; rw [hGq] at this; exact this)
        clear bb hGq
        go_wp2_with fail
        refine kr3.mono ?_
        clear kr3
        rintro e w6 ⟨A6, c6, m6, ys, rfl, hl6, hys, rg6, bb⟩
        replace BW := Lib.hid (BW.out.trans (bb.mono BW.out.size))
        have HL6 := Lib.hid hl6
        have HYS := Lib.hid hys
        have RY := Lib.hid rg6
        have hm6 : m6 * 13 ≤ 1000 := by
          have h1 : (b.take q).length = (Nr.all G).length := by rw [HGB.out.1]
          have h2 : G.length * 13 ≤ (Nr.all G).length := Nr.all_ge G
          rw [← hys, List.length_map, hl6] at h2
          rw [← hys] at h1
          rw [List.length_take, HNB.out] at h1
          omega
        clear bb hl6 hys rg6 cj5
        go_wp2
        go_loopw [16, 96] (fun v16 i wq => ∃ (i0 : Nat) (Ac : Option Addr) (cc nc : Nat), i0 ≤ m6 ∧ v16 = .slice Ac nc cc ∧ i = .int .i64 (i0 : Int) ∧ Hid ((Nr.all (G.take i0)).length = nc) ∧ Hid (wq.ownsRow w6.heap.size 5 1 (.slice Ac nc cc) nc ((Nr.all (G.take i0)).map byw)) ∧ Hid (Below w6.heap.size w6 wq)) (fun _ i _ => m6 - (intOf i).toNat)
        case atStart => exact ⟨0, none, 0, 0, by omega, rfl, rfl, Lib.hid rfl, Lib.hid (World.ownsRow_nil _ _ _ _), Lib.hid (Below.refl _ _)⟩
        case round =>
          rename World => wq
          obtain ⟨i0, Ac, cc, nc, hi0, rfl, rfl, HNC, OC, BQ⟩ := hrel
          have hz : w6.heap.size ≤ wq.heap.size := BQ.out.size
          by_cases hlt2 : i0 < m6
          · obtain ⟨gy, oy, y, hA', hgy, hy, hyk, d0, d1, d2, d3, d4⟩ := (RY.out.below BQ.out).at_ (k := i0) (by rw [HL6.out]; exact hlt2)
            cases hA'
            have hyG : G[i0]? = some y.p := by rw [← HYS.out, List.getElem?_map, hy]; rfl
            have hyr := HGB.out.2 y.p (List.mem_of_getElem? hyG)
            have HTK : Hid (Nr.all (G.take (i0 + 1)) = Nr.all (G.take i0) ++ y.p.bytes) := Lib.hid (by rw [List.take_add_one, hyG, Nr.all_append]; simp [Nr.all])
            have hltI : (i0 : Int) < (m6 : Int) := by omega
            have h0I : (0 : Int) ≤ (i0 : Int) := by omega
            have hgr : gy < wq.heap.size := Nat.lt_of_lt_of_le hgy hz
            have ba := bel_alloc (Below.refl wq.heap.size wq) (.cells (recK.f y).toArray 34)
            have kb := nbytes_any y.p y.A y.c y.p.text.length rfl hyk.fit (wq.alloc (.cells (recK.f y).toArray 34)) ((hyk.sq.below (ba.mono hz)).more (by simp; omega)) hyk.nl.1
            replace OC := Lib.hid (own_below OC.out ba)
            replace BQ := Lib.hid (BQ.out.trans (ba.mono hz))
            have hsz : y.p.text.length ≤ 8192 := Nr.right_len hyr.1
            have hncle : nc ≤ 1000 := by
              have h1 : (b.take q).length = (Nr.all G).length := by rw [HGB.out.1]
              have h2 : (Nr.all G).length = (Nr.all (G.take i0)).length + (Nr.all (G.drop i0)).length := by rw [← List.length_append, ← Nr.all_append, List.take_append_drop]
              rw [List.length_take, HNB.out] at h1
              rw [HNC.out] at h2
              omega
            have HR := Lib.hid hyr.1
            clear hy hyk ba hyG hyr
            go_wp2_with fail
            refine kb.mono ?_
            clear kb
            rintro e w7 ⟨bb, hif⟩
            rw [if_pos HR.out] at hif
            obtain ⟨A7, c7, rfl, o7⟩ := hif
            obtain ⟨n7, hn7⟩ : ∃ n7, y.p.bytes.length = n7 := ⟨_, rfl⟩
            rw [hn7] at o7
            rw [hn7]
            have hn7l : n7 ≤ 10000 := by rw [← hn7, Nr.bytes_length, Nr.size]; omega
            have HN7 := Lib.hid hn7
            have O7 := Lib.hid o7
            have N7 := Lib.hid (own_nil_c o7).1
            replace OC := Lib.hid (own_below OC.out bb)
            replace BQ := Lib.hid (BQ.out.trans (bb.mono (by simp; omega)))
            have hz7 : w6.heap.size ≤ w7.heap.size := BQ.out.size
            clear bb hn7 o7 d0 d1 d2 d3 d4
            go_wp2_with (at_builtin; refine wpList_append_n (f := byw) _ rfl (.tmp 105) (.tmp 106) 24 rfl (fun _ => rfl) w6.heap.size 5 i2 _ _ Try.underlying24 hif2 hx0 rfl hx1 hx2 (by decide) Ac cc nc (Nr.all (G.take i0)) rfl HNC.out OC.out w7.heap.size A7 y.p.bytes c7 n7 HN7.out rfl (Sq.of_own O7.out) N7.out (nc + n7) rfl (by omega) hz7 ?_; intro A8 c8 w8 o8 g8 b8; have O8 := Lib.hid o8; have B8 := Lib.hid (BQ.out.trans b8); clear o8 g8 b8)
            go_roundw
            case rel => exact ⟨i0 + 1, A8, c8, nc + n7, by omega, rfl, by go_num, Lib.hid (by rw [HTK.out, List.length_append, HNC.out, HN7.out]), Lib.hid (by rw [HTK.out]; exact O8.out), B8⟩
            case measure => simp [intOf]; omega
          · obtain rfl : i0 = m6 := by omega
            have hall : Nr.all (G.take i0) = b.take q := by
              rw [List.take_of_length_le (by rw [← HYS.out, List.length_map, HL6.out]; exact Nat.le_refl _), HGB.out.1]
            have hncq : q = nc := by rw [← HNC.out, hall, List.length_take, HNB.out]; omega
            subst hncq
            have gq0 : decide ((q : Int) < 0) = false := decide_eq_false (by omega)
            have gq1 : decide (nb < q) = false := decide_eq_false (by omega)
            have gq2 : decide ((nb : Int) < (q : Int)) = false := decide_eq_false (by omega)
            have SC := Sq.of_own OC.out
            rw [hall] at SC
            have ks := same_by B Ac (b.take q) (b.take q) cb cc q q true wq (by rw [List.length_take, HNB.out]; omega) (by rw [List.length_take, HNB.out]; omega) ((HB.out.to (BW.out.trans (BQ.out.mono BW.out.size))).sq.take q) SC (fun x hx => HB.out.u x (List.mem_of_mem_take hx)) (fun x hx => HB.out.u x (List.mem_of_mem_take hx)) (by simp)
            clear hall SC
            go_wp2_with fail
            refine ks.mono ?_
            clear ks
            rintro e w9 ⟨rfl, rfl⟩
            go_wp2_with fail
            refine (kw.out _).mono ?_
            rintro e w10 ⟨rfl, b10⟩
            go_wp2
            go_ret
            exact ⟨rfl, BW.out.trans ((BQ.out.trans (b10.mono hz)).mono BW.out.size)⟩
end Go.Proofs.Ytbokggilfepdhaa
