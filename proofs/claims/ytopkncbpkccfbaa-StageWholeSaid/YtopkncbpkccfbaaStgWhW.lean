/- The walk of StageWhole. -/
import Derived.Test.YtopkncbpkccfbaaStgWLaw
import Derived.Test.YtopkncbpkccfbaaPutsW
import Derived.Deep.DeepCutAuto
import Derived.BigRegion
namespace Go.Proofs.Ytopkncbpkccfbaa
open Go.RowKit
set_option linter.unusedVariables false
set_option linter.unusedSimpArgs false
attribute [local go_sem] Later.cell Later.frozen setCell_twice
theorem Stv.Is.less {s : Stv} {w : World} {B tx : Nat} {S : SS} (h : s.Is w B tx S) {i : Nat} (hi : i < 8) : (⟨s.tx, s.hs.set i false, s.bs⟩ : Stv).Is w B tx (S.set i none) := by
  refine ⟨⟨by simp [h.ok.lh], h.ok.lb, h.ok.tx, h.ok.ok⟩, h.tx, ?_, h.new, h.ln⟩
  rw [← h.S]
  refine ss_eq (Stv.S_length _) (by rw [List.length_set, Stv.S_length]) fun k hk => ?_
  unfold Stv.S
  rw [ssOf_get? hk]
  by_cases hki : k = i
  · subst hki
    rw [List.getElem?_set_self (by rw [ssOf_length]; exact hk)]
    have : (s.hs.set k false).getD k false = false := by rw [List.getD_eq_getElem?_getD, List.getElem?_set_self (by rw [h.ok.lh]; exact hk)]; rfl
    rw [this]; rfl
  · have : (s.hs.set i false).getD k false = s.hs.getD k false := by rw [List.getD_eq_getElem?_getD, List.getElem?_set_ne (fun e => hki e.symm), ← List.getD_eq_getElem?_getD]
    rw [List.getElem?_set_ne (fun e => hki e.symm), ssOf_get? hk, this]
theorem bool_iff (P : Prop) : ∃ r : Bool, r = true ↔ P := by
  rcases Classical.em P with h | h
  · exact ⟨true, fun _ => h, fun _ => rfl⟩
  · exact ⟨false, (fun e => by cases e), fun e => absurd e h⟩
theorem own_at {w : World} {base e n c : Nat} {A : Option Addr} {xs : List Value} (ho : w.ownsRow base e 1 (.slice A n c) n xs) {p : Addr} (hp : A = some p) : ∃ cur, w.heap[p.block]? = some (.cells cur e (0, 0)) := by
  rcases ho.2 with ⟨h1, _⟩ | ⟨g, cap, cur, hv, _, hh, _⟩
  · rw [hp] at h1; simp at h1
  · have hA : A = some ⟨g, 0, none⟩ := by simp at hv; exact hv.1
    rw [hp] at hA
    obtain rfl := Option.some.inj hA
    exact ⟨cur, hh⟩
theorem own_ne_row {w : World} {base e n c h : Nat} {T : TypeId} {C : List Value} {A : Option Addr} {xs : List Value} (ho : w.ownsRow base e 1 (.slice A n c) n xs) (hr : RowAt w h T C) (hT : e ≠ T) : ∀ p, A = some p → p.block ≠ h := fun p hp hb => by
  obtain ⟨cur, hc⟩ := own_at ho hp
  have hr' : w.heap[h]? = some (.cells C.toArray T (0, 0)) := hr
  rw [hb, hr'] at hc
  simp at hc
  exact hT hc.2.symm
theorem own_set_other {w : World} {base e n c h i : Nat} {A : Option Addr} {xs : List Value} {v : Value} (ho : w.ownsRow base e 1 (.slice A n c) n xs) (hne : ∀ p, A = some p → p.block ≠ h) : (w.setCell ⟨h, i, none⟩ v).ownsRow base e 1 (.slice A n c) n xs := by
  obtain ⟨h1, h2⟩ := ho
  refine ⟨h1, ?_⟩
  rcases h2 with h2 | ⟨g, cap, cur, hv, hg, hh, r⟩
  · exact .inl h2
  · have hA : A = some ⟨g, 0, none⟩ := by simp at hv; exact hv.1
    exact .inr ⟨g, cap, cur, hv, hg, (Below.heap_setCell _ _ _ _ (hne _ hA)).trans hh, r⟩
set_option maxRecDepth 100000 in
set_option maxHeartbeats 4000000 in
theorem stageWhole_walk (t : Nat) (l : List Blk) (A0 : Option Addr) (c0 : Nat) (ai wi by_ : Nat) (w : World) (ht : t < 4294967296) (h : Blks w w.heap.size A0 l) (hlc : l.length ≤ c0) (hc0 : c0 ≤ 9223372036854775807)
    (hai : ai < 256) (hwi : wi < 256) (hby : by_ < 65536) :
    Calls Try.prog 7 #[.int .u32 (t : Int), .slice A0 l.length c0, .int .u8 (ai : Int), .int .u8 (wi : Int), .int .u16 (by_ : Int)] w fun e w' => e = .returned (.bool true) ∧ Below w.heap.size w w' := by
  have kfit : Hid (∀ W, Below w.heap.size w W → Calls Try.prog 18 #[.slice A0 l.length c0, .int .i64 8] W (BlocksQ W ((prs (l.take 8)).map Bk.fitP))) := Lib.hid (fun W (hW : Below w.heap.size w W) => fit_new A0 l c0 8 W (h.to hW) hlc hc0 (by omega))
  obtain ⟨ps, hps⟩ : ∃ ps, (prs (l.take 8)).map Bk.fitP = ps := ⟨_, rfl⟩
  rw [hps] at kfit
  have hpf : ∀ p ∈ ps, Bk.fits p.1 p.2.length = true := fun p hp => by
    rw [← hps] at hp
    obtain ⟨q, _, rfl⟩ := List.mem_map.1 hp
    exact Bk.fitP_fits q
  have hp8 : ps.length ≤ 8 := by rw [← hps]; simp; omega
  have HPF := Lib.hid hpf
  clear hps hpf
  go_enter Try.func7, Try.ntmps7
  go_wp2_with fail
  with_reducible refine (kfit.out _ (Below.refl _ _)).mono ?_
  rintro e_ w1 ⟨A, c, bl, rfl, hpr, hB, hbc, hcc, hnl, hown, hIO, hb1⟩
  obtain ⟨n, hn⟩ : ∃ n, bl.length = n := ⟨_, rfl⟩
  have hn8 : n ≤ 8 := by rw [← hn]; have := congrArg List.length hpr; simp at this; omega
  have hpn : ps.length = n := by rw [← hpr, ← hn]; simp
  have HPN := Lib.hid hpn
  have HBL := Lib.hid hn
  have HPR := Lib.hid hpr
  have HB := Lib.hid hB
  have HU := Lib.hid (show ∀ p ∈ ps, ∀ x ∈ p.2, x < 65536 from hpr ▸ prs_u16 hB.ok)
  have kput := puts_any t bl A none c 0 0 [] w1 ht hB hbc hcc Sq.nil (by simp) rfl (by omega)
  have hS : putN ((prs (bl.take 20)).map Bk.fitP) [] (min bl.length 20) = firstN ps n := by
    rw [List.take_of_length_le (show bl.length ≤ 20 by omega), hpr, fitP_all HPF.out, show min bl.length 20 = n by omega]
    exact putN_first ps n hn8
  rw [hS] at kput
  rw [hn] at kput ⊢
  rw [hn] at hbc
  have KP := Lib.hid kput
  have BW := Lib.hid hb1
  clear hpr hB hnl hown hIO hb1 kput hS hn hpn kfit
  go_wp2_with fail
  with_reducible refine (KP.out).mono ?_
  rintro e_ w2 ⟨s, rfl, hs, hb2⟩
  replace HB := Lib.hid (HB.out.to hb2)
  have hz1 := BW.out.size
  have hz2 := hb2.size
  replace BW := Lib.hid (BW.out.trans (hb2.mono (by omega)))
  have IS := Lib.hid hs
  have HC := Lib.hid hs.C25
  clear hs hb2 KP
  by_cases hn0 : n = 0
  · subst hn0
    go_wp2_with (refine wpList_store_var rfl 42 (.tmp 11) (.tmp 32) rfl w2.heap.size Stv.zero.C s.C 25 rfl rfl (heap_alloc_new w2 _) size_25 rfl HC.out (Stv.C_one s) ?_; intro w3 r11 k3; have K3 := Lib.hid k3; clear r11 k3)
    have hb3 : Below w.heap.size w w3 := K3.out.to (bel_alloc BW.out _) (by omega)
    go_wp2_with fail
    refine (awake_any _).mono ?_
    rintro e_z9 w_z9 ⟨rfl, hb_z9⟩
    obtain ⟨z9, rfl⟩ := later_is hb_z9
    clear hb_z9
    have hz_z9 := z9.bel.size
    try simp at hz_z9
    go_wp2
    go_ret
    exact ⟨rfl, bel_later z9 hb3⟩
  have hn0' : ((n : Int) == 0) = false := beq_eq_false_iff_ne.2 (by omega)
  go_wp2_with (refine wpList_store_var rfl 42 (.tmp 11) (.tmp 32) rfl w2.heap.size Stv.zero.C s.C 25 rfl rfl (heap_alloc_new w2 _) size_25 rfl HC.out (Stv.C_one s) ?_; intro w3 r11 k3; have R11 := Lib.hid r11; have K3 := Lib.hid k3; clear r11 k3)
  have hb3 : Below w2.heap.size w2 w3 := K3.out.to (bel_alloc (Below.refl _ _) _) (by omega)
  have hz3' : w3.heap.size = w2.heap.size + 1 := by rw [K3.out.size]; simp
  have hz3 : w2.heap.size + 1 ≤ w3.heap.size := by omega
  clear hz3'
  replace HB := Lib.hid (HB.out.to hb3)
  replace IS := Lib.hid (IS.out.to hb3)
  replace BW := Lib.hid (BW.out.trans (hb3.mono (by omega)))
  have ksum := Lib.hid (stSum_any A bl c n ps w3 HB.out HBL.out (by omega) hbc hcc HPR.out)
  clear hb3 K3
  with_reducible refine (ksum.out).mono ?_
  rintro e_ w4 ⟨rfl, hb4⟩
  have hck := chk_lt HU.out
  obtain ⟨ck, hckE⟩ : ∃ ck, chk ps = ck := ⟨_, rfl⟩
  have HCK := Lib.hid hckE
  rw [hckE] at hck ⊢
  replace HB := Lib.hid (HB.out.to hb4)
  replace IS := Lib.hid (IS.out.to hb4)
  replace R11 := Lib.hid (R11.out.to hb4)
  replace BW := Lib.hid (BW.out.trans (hb4.mono (by omega)))
  have hz4 := hb4.size
  clear ksum hb4 hckE
  go_wp2
  go_loopw [49] (fun i wr => ∃ k : Nat, k ≤ 11 ∧ i = .int .i64 k ∧ Below w4.heap.size w4 wr) (fun i _ => 11 - (intOf i).toNat)
  case atStart => exact ⟨0, by omega, rfl, Below.refl _ _⟩
  case round =>
    obtain ⟨k, hk, rfl, hbr⟩ := hrel
    have hzr := hbr.size
    by_cases hlt : k < 11
    · obtain ⟨r, hr⟩ : ∃ r, ((k : Int) - 1 == (n : Int)) = r := ⟨_, rfl⟩
      have hr2 : r = true ↔ SSW (firstN ps n) ((k : Int) - 1) ck := by
        rw [← HCK.out, ssw_first HPN.out hn8, ← hr]
        simp
      have kwh := Lib.hid (whole_S ((k : Int) - 1) ck r wr (IS.out.to hbr) hr2)
      have R11r := Lib.hid (R11.out.to hbr)
      clear hr2
      go_wp2_with (refine wpList_load_var rfl 42 (.tmp 11) rfl w2.heap.size rfl s.C _ 25 R11r.out Try.underlying42 rfl size_25 HC.out ?_)
      with_reducible refine (kwh.out).mono ?_
      rintro e_ w5 ⟨rfl, hb5⟩
      have hb5r : Below w4.heap.size w4 w5 := hbr.trans (hb5.mono hzr)
      clear kwh hb5 hbr
      go_wp2
      go_roundw
      case rel => exact ⟨k + 1, by omega, by go_num, hb5r⟩
      case measure => simp [intOf]; omega
    · obtain rfl : k = 11 := by omega
      replace HB := Lib.hid (HB.out.to hbr)
      replace IS := Lib.hid (IS.out.to hbr)
      replace R11 := Lib.hid (R11.out.to hbr)
      replace BW := Lib.hid (BW.out.trans (hbr.mono (by omega)))
      obtain ⟨i, hi⟩ : ∃ i, ai % n = i := ⟨_, rfl⟩
      have hin : i < n := by rw [← hi]; exact Nat.mod_lt _ (by omega)
      have hi1 : (ai : Int) % (n : Int) = (i : Int) := by rw [← hi]; rfl
      have hi2 : (ai : Int).tmod (n : Int) = (i : Int) := by rw [Int.tmod_eq_emod_of_nonneg (by omega), hi1]
      have hnz : ¬ (n : Int) = 0 := by omega
      obtain ⟨g, oo, x, rfl, hg, hx, hxo, hc0', hc1'⟩ := HB.out.at_ (k := i) (by rw [HBL.out]; exact hin)
      have hiI : (i : Int) < (n : Int) := by omega
      have hicI : (i : Int) < (c : Int) := by omega
      have hpi : ps[i]? = some x.pr := by rw [← HPR.out]; exact prs_get hx
      have HPI := Lib.hid hpi
      have HX := Lib.hid hxo
      have hfx : Bk.fits x.a x.ws.length = true := HPF.out x.pr (List.mem_of_getElem? hpi)
      have HFX := Lib.hid hfx
      clear hbr hi hx hxo hpi hfx
      go_upto_region 15 with fail
      have r17 := RowAt.new wr 26 x.C
      obtain ⟨w6, hw6⟩ : ∃ w6, w6 = wr.alloc (.cells x.C.toArray 26) := ⟨_, rfl⟩
      rw [← hw6] at r17
      have e6 : wr.alloc (.cells #[.int .i64 x.a, .slice x.A x.ws.length x.c] 26) = w6 := hw6.symm
      rw [e6]
      have hb6 : Below wr.heap.size wr w6 := by rw [hw6]; exact bel_alloc (Below.refl _ _) _
      have hz6' : w6.heap.size = wr.heap.size + 1 := by rw [hw6]; simp
      have hz6 : wr.heap.size + 1 ≤ w6.heap.size := by omega
      clear hz6'
      have hg17 : wr.heap.size < w6.heap.size := by omega
      replace HB := Lib.hid (HB.out.to hb6)
      replace IS := Lib.hid (IS.out.to hb6)
      replace R11 := Lib.hid (R11.out.to hb6)
      replace HX := Lib.hid (HX.out.to hb6)
      replace BW := Lib.hid (BW.out.trans (hb6.mono (by omega)))
      have R17 := Lib.hid r17
      obtain ⟨g17, hg17e⟩ : ∃ g17, wr.heap.size = g17 := ⟨_, rfl⟩
      rw [hg17e] at R17 hg17 ⊢
      have c17_0 : w6.cell? ⟨g17, 0, none⟩ = some (.int .i64 x.a) := R17.out.cells 0
      have c17_1 : w6.cell? ⟨g17, 1, none⟩ = some (.slice x.A x.ws.length x.c) := R17.out.cells 1
      clear hw6 e6 r17 hb6 hg17e hc0' hc1'
      obtain ⟨b1, hb1⟩ : ∃ b1, decide (0 < x.ws.length ∧ by_ ≠ 0) = b1 := ⟨_, rfl⟩
      go_cut [78] (fun v wx => v = .bool b1 ∧ w6 = wx)
      case first =>
        by_cases q1 : 0 < x.ws.length
        · have q1' : decide ((0 : Int) < (x.ws.length : Int)) = true := decide_eq_true (by omega)
          by_cases q2 : by_ = 0
          · have q2' : ((by_ : Int) != 0) = false := by simp [q2]
            have q2'' : ((by_ : Int) == 0) = true := by simp [q2]
            obtain rfl : b1 = false := by rw [← hb1]; exact decide_eq_false (fun h => h.2 q2)
            clear hb1 q2
            go_wp2
            go_meet
            case rel => exact ⟨rfl, rfl⟩
          · have q2' : ((by_ : Int) != 0) = true := bne_iff_ne.2 (by omega)
            obtain rfl : b1 = true := by rw [← hb1]; exact decide_eq_true ⟨q1, q2⟩
            clear hb1 q2
            go_wp2
            go_meet
            case rel => exact ⟨rfl, rfl⟩
        · have q1' : decide ((0 : Int) < (x.ws.length : Int)) = false := decide_eq_false (by omega)
          obtain rfl : b1 = false := by rw [← hb1]; exact decide_eq_false (fun h => q1 h.1)
          clear hb1
          go_wp2
          go_meet
          case rel => exact ⟨rfl, rfl⟩
      case rest =>
        obtain ⟨rfl, rfl⟩ := hcut
        go_upto_if 78 with fail
        go_cut [] (fun wx => Below w6.heap.size w6 wx)
        case first =>
          cases b1
          · clear hb1
            go_wp2
            go_meet
            case rel => exact Below.refl _ _
          · have hb1' := of_decide_eq_true hb1
            obtain ⟨hx0, hby0⟩ := hb1'
            clear hb1
            obtain ⟨i0, hif, hz0, hz1', hz2'⟩ := info_parts info_w16
            obtain ⟨bx, ox, _, hxA, hbx, _, _⟩ := HX.out.sq.at_ hx0
            have hxl : x.ws.length ≤ 14 := (Bk.fits_iff.1 HFX.out).1
            have hxsq := HX.out.sq
            rw [hxA] at hxsq c17_1
            have hsq : ∀ W, Below w6.heap.size w6 W → Sq u16w W w6.heap.size (some ⟨bx, ox, none⟩) x.ws := fun W hW => hxsq.below hW
            have HSQ := Lib.hid hsq
            clear hxsq hsq
            go_upto_region 16 with fail
            go_cut [18] (fun v wx => ∃ g18 A18 c18, v = .pointer (some ⟨g18, 0, none⟩) ∧ RowAt wx g18 26 [.int .i64 x.a, .slice A18 x.ws.length c18] ∧ wx.ownsRow w6.heap.size 22 1 (.slice A18 x.ws.length c18) x.ws.length (x.ws.map u16w) ∧ Below w6.heap.size w6 wx ∧ w6.heap.size ≤ g18 ∧ (∀ p, A18 = some p → p.block ≠ g18))
            case first =>
              have HO1 : (w6.alloc (.cells #[] 22)).ownsRow w6.heap.size 22 1 (.slice (some ⟨w6.heap.size, 0, none⟩) 0 0) ([] : List Nat).length (([] : List Nat).map u16w) := own_empty w6 22 .u16
              have HO2 : ((w6.alloc (.cells #[.int .i64 0, .slice none 0 0] 26)).alloc (.cells #[] 22)).ownsRow w6.heap.size 22 1 (.slice (some ⟨w6.heap.size + 1, 0, none⟩) 0 0) ([] : List Nat).length (([] : List Nat).map u16w) := by
                have := own_more (own_empty (w6.alloc (.cells #[.int .i64 0, .slice none 0 0] 26)) 22 .u16) (B' := w6.heap.size) (by simp)
                simpa [vals] using this
              have HR2 : RowAt ((w6.alloc (.cells #[.int .i64 0, .slice none 0 0] 26)).alloc (.cells #[] 22)) w6.heap.size 26 [.int .i64 0, .slice none 0 0] := (RowAt.new w6 26 [.int .i64 0, .slice none 0 0]).alloc _
              have HR3 : RowAt ((w6.alloc (.cells #[] 22)).alloc (.cells #[.int .i64 0, .slice none 0 0] 26)) (w6.heap.size + 1) 26 [.int .i64 0, .slice none 0 0] := by
                have := RowAt.new (w6.alloc (.cells #[] 22)) 26 [.int .i64 0, .slice none 0 0]
                simpa using this
              have HR2 := Lib.hid HR2
              have HR3 := Lib.hid HR3
              have HO1 := Lib.hid HO1
              have HO2 := Lib.hid HO2
              have hl1 : Below w6.heap.size w6 (w6.alloc (.cells #[] 22)) := bel_alloc (Below.refl _ _) _
              have hl2 : Below w6.heap.size w6 ((w6.alloc (.cells #[.int .i64 0, .slice none 0 0] 26)).alloc (.cells #[] 22)) := bel_alloc (bel_alloc (Below.refl _ _) _) _
              have hl3 : Below w6.heap.size w6 ((w6.alloc (.cells #[] 22)).alloc (.cells #[.int .i64 0, .slice none 0 0] 26)) := bel_alloc (bel_alloc (Below.refl _ _) _) _
              refine wp_region_held_drew (S := (fun w' => w'.cell? ⟨g17, 0, none⟩ = some (.int .i64 x.a) ∧ w'.cell? ⟨g17, 1, none⟩ = some (.slice (some ⟨bx, ox, none⟩) x.ws.length x.c))) (by kernel_rfl) ?_ (fun hHeld => ?_)
              · exact ⟨c17_0, c17_1⟩
              refine takeD (i := 0) (oi := _) (v := ?vv1) (d := some 79) rfl (by kernel_rfl) (by kernel_rfl) (by kernel_rfl) (by kernel_rfl) (fun _ _ _ h => h) (Or.inl ⟨by kernel_rfl, ?_⟩) (by assumption) ?_
              rotate_left 1
              · intro W_ hSw; (try dsimp only at hSw); go_simp; (first | done | with_reducible rfl)
              try simp only [Act.put, List.setIfInBounds_toArray, List.set_cons_zero, List.set_cons_succ]
              refine takeD (i := 1) (oi := _) (v := ?vv2) (d := some 80) rfl (by kernel_rfl) (by kernel_rfl) (by kernel_rfl) (by kernel_rfl) (fun _ _ _ h => h) (Or.inl ⟨by kernel_rfl, ?_⟩) (by assumption) ?_
              rotate_left 1
              · intro W_ hSw; (try dsimp only at hSw); go_simp; (first | done | with_reducible rfl)
              try simp only [Act.put, List.setIfInBounds_toArray, List.set_cons_zero, List.set_cons_succ]
              refine takeD (i := 3) (oi := _) (v := ?vv3) (d := some 82) rfl (by kernel_rfl) (by kernel_rfl) (by kernel_rfl) (by kernel_rfl) (fun _ _ _ h => h) (Or.inl ⟨by kernel_rfl, ?_⟩) (by assumption) ?_
              rotate_left 1
              · intro W_ hSw; (try dsimp only at hSw); go_simp; (first | done | with_reducible rfl)
              try simp only [Act.put, List.setIfInBounds_toArray, List.set_cons_zero, List.set_cons_succ]
              refine takeD (i := 4) (oi := _) (v := ?vv4) (d := some 83) rfl (by kernel_rfl) (by kernel_rfl) (by kernel_rfl) (by kernel_rfl) (fun _ _ _ h => h) (Or.inl ⟨by kernel_rfl, ?_⟩) (by assumption) ?_
              rotate_left 1
              · intro W_ hSw; (try dsimp only at hSw); go_simp; (first | done | with_reducible rfl)
              try simp only [Act.put, List.setIfInBounds_toArray, List.set_cons_zero, List.set_cons_succ]
              refine wpAnyH_ready (rs := [2, 7]) (by kernel_rfl) (by simp) ?_
              refine AllReadyH.cons (o := _) rfl (fun K hK => ?_) (AllReadyH.cons (o := _) rfl (fun K hK => ?_) AllReadyH.nil)
              · go_simp
                refine hK.out _ _ ?_ (fun hHeld => ?_)
                · exact ⟨keep_alloc c17_0, keep_alloc c17_1⟩
                clear hK K
                try simp only [Act.put, List.setIfInBounds_toArray, List.set_cons_zero, List.set_cons_succ]
                refine wpAnyH_ready (rs := [5, 7]) (by kernel_rfl) (by simp) ?_
                refine AllReadyH.cons (o := _) rfl (fun K hK => ?_) (AllReadyH.cons (o := _) rfl (fun K hK => ?_) AllReadyH.nil)
                · (refine step_append_sq (f := u16w) _ (by kernel_rfl) (.tmp 81) (.tmp 83) 24 (by kernel_rfl) (fun _ => rfl) w6.heap.size 22 i0 _ _ Try.underlying24 hif hz0 rfl hz1' hz2' (by decide) (.slice (some ⟨w6.heap.size, 0, none⟩) 0 0) [] (by kernel_rfl) HO1.out w6.heap.size (some ⟨bx, ox, none⟩) x.ws x.c x.ws.length rfl (by kernel_rfl) (HSQ.out _ hl1.drew) (by simp) (by simp; omega) hl1.size ?_; intro A2 c2 W2 hown2 hg2 hb2; simp only [List.nil_append] at hown2 ⊢)
                  refine hK.out _ _ ?_ (fun hHeld => ?_)
                  · exact ⟨(hb2.cell (p := ⟨g17, 0, none⟩) hg17).trans (keep_alloc c17_0), (hb2.cell (p := ⟨g17, 1, none⟩) hg17).trans (keep_alloc c17_1)⟩
                  clear hK K
                  try simp only [Act.put, List.setIfInBounds_toArray, List.set_cons_zero, List.set_cons_succ]
                  have qH := hHeld
                  refine takeD (i := 6) (oi := _) (v := ?vv5) (d := some 85) rfl (by kernel_rfl) (by kernel_rfl) (by kernel_rfl) (by kernel_rfl) (fun _ _ _ h => h) (Or.inl ⟨by kernel_rfl, ?_⟩) (by assumption) ?_
                  rotate_left 1
                  · intro W_ hSw; (try dsimp only at hSw); go_simp; (first | done | with_reducible rfl)
                  try simp only [Act.put, List.setIfInBounds_toArray, List.set_cons_zero, List.set_cons_succ]
                  refine wpAnyH_ready (rs := [7]) (by kernel_rfl) (by simp) ?_
                  refine AllReadyH.cons (o := _) rfl (fun K hK => ?_) AllReadyH.nil
                  go_simp
                  refine hK.out _ _ ?_ (fun hHeld => ?_)
                  · exact ⟨keep_alloc qH.1, keep_alloc qH.2⟩
                  clear hK K
                  try simp only [Act.put, List.setIfInBounds_toArray, List.set_cons_zero, List.set_cons_succ]
                  refine wpAnyH_ready (rs := [8]) (by kernel_rfl) (by simp) ?_
                  refine AllReadyH.cons (o := _) rfl (fun K hK => ?_) AllReadyH.nil
                  go_simp
                  refine hK.out _ _ ?_ (fun hHeld => ?_)
                  · exact ⟨keep_alloc qH.1, keep_alloc qH.2⟩
                  clear hK K
                  try simp only [Act.put, List.setIfInBounds_toArray, List.set_cons_zero, List.set_cons_succ]
                  refine wpAnyH_done (by kernel_rfl) ?_ _
                  go_wp2_with fail
                  go_meet
                  case rel => exact ⟨W2.heap.size, A2, c2, rfl, RowAt.new W2 _ [_, _], hown2.alloc _, (hl1.drew.trans hb2).alloc (hl1.drew.trans hb2).size _, (hl1.drew.trans hb2).size, fun p hp e => by have := (hown2.lt p.block (by rw [hp]; rfl)).2; omega⟩
                · go_simp
                  refine hK.out _ _ ?_ (fun hHeld => ?_)
                  · exact ⟨keep_alloc (keep_alloc c17_0), keep_alloc (keep_alloc c17_1)⟩
                  clear hK K
                  try simp only [Act.put, List.setIfInBounds_toArray, List.set_cons_zero, List.set_cons_succ]
                  refine wpAnyH_ready (rs := [5]) (by kernel_rfl) (by simp) ?_
                  refine AllReadyH.cons (o := _) rfl (fun K hK => ?_) AllReadyH.nil
                  (refine step_append_sq (f := u16w) _ (by kernel_rfl) (.tmp 81) (.tmp 83) 24 (by kernel_rfl) (fun _ => rfl) w6.heap.size 22 i0 _ _ Try.underlying24 hif hz0 rfl hz1' hz2' (by decide) (.slice (some ⟨w6.heap.size, 0, none⟩) 0 0) [] (by kernel_rfl) (HO1.out.alloc _) w6.heap.size (some ⟨bx, ox, none⟩) x.ws x.c x.ws.length rfl (by kernel_rfl) (HSQ.out _ hl3.drew) (by simp) (by simp; omega) hl3.size ?_; intro A2 c2 W2 hown2 hg2 hb2; simp only [List.nil_append] at hown2 ⊢)
                  refine hK.out _ _ ?_ (fun hHeld => ?_)
                  · exact ⟨(hb2.cell (p := ⟨g17, 0, none⟩) hg17).trans (keep_alloc (keep_alloc c17_0)), (hb2.cell (p := ⟨g17, 1, none⟩) hg17).trans (keep_alloc (keep_alloc c17_1))⟩
                  clear hK K
                  try simp only [Act.put, List.setIfInBounds_toArray, List.set_cons_zero, List.set_cons_succ]
                  have r2 := HR3.out.drew.grown hg2 (by simp [Value.ownBlock])
                  have n2 := own_ne_row hown2 r2 (by decide)
                  have d0 := r2.cells 0
                  have d1 := r2.cells 1
                  have f0 := r2.frozen 0
                  have f1 := r2.frozen 1
                  have qH := hHeld
                  have R2 := Lib.hid r2
                  clear r2
                  refine takeD (i := 6) (oi := _) (v := ?vv6) (d := some 85) rfl (by kernel_rfl) (by kernel_rfl) (by kernel_rfl) (by kernel_rfl) (fun _ _ _ h => h) (Or.inl ⟨by kernel_rfl, ?_⟩) (by assumption) ?_
                  rotate_left 1
                  · intro W_ hSw; (try dsimp only at hSw); go_simp; (first | done | with_reducible rfl)
                  try simp only [Act.put, List.setIfInBounds_toArray, List.set_cons_zero, List.set_cons_succ]
                  refine wpAnyH_ready (rs := [8]) (by kernel_rfl) (by simp) ?_
                  refine AllReadyH.cons (o := _) rfl (fun K hK => ?_) AllReadyH.nil
                  go_simp
                  refine hK.out _ _ ?_ (fun hHeld => ?_)
                  · exact ⟨keep_block (by omega) (keep_block (by omega) qH.1), keep_block (by omega) (keep_block (by omega) qH.2)⟩
                  clear hK K
                  try simp only [Act.put, List.setIfInBounds_toArray, List.set_cons_zero, List.set_cons_succ]
                  refine wpAnyH_done (by kernel_rfl) ?_ _
                  go_wp2_with fail
                  go_meet
                  case rel => exact ⟨w6.heap.size + 1, A2, c2, rfl, (R2.out.set 0 _).set 1 _, own_set_other (own_set_other hown2 n2) n2, ((hl3.drew.trans hb2).setCell (by simp) _).setCell (by simp) _, by omega, n2⟩
              · go_simp
                refine hK.out _ _ ?_ (fun hHeld => ?_)
                · exact ⟨keep_alloc c17_0, keep_alloc c17_1⟩
                clear hK K
                try simp only [Act.put, List.setIfInBounds_toArray, List.set_cons_zero, List.set_cons_succ]
                refine wpAnyH_ready (rs := [2]) (by kernel_rfl) (by simp) ?_
                refine AllReadyH.cons (o := _) rfl (fun K hK => ?_) AllReadyH.nil
                go_simp
                refine hK.out _ _ ?_ (fun hHeld => ?_)
                · exact ⟨keep_alloc (keep_alloc c17_0), keep_alloc (keep_alloc c17_1)⟩
                clear hK K
                try simp only [Act.put, List.setIfInBounds_toArray, List.set_cons_zero, List.set_cons_succ]
                refine wpAnyH_ready (rs := [5]) (by kernel_rfl) (by simp) ?_
                refine AllReadyH.cons (o := _) rfl (fun K hK => ?_) AllReadyH.nil
                (refine step_append_sq (f := u16w) _ (by kernel_rfl) (.tmp 81) (.tmp 83) 24 (by kernel_rfl) (fun _ => rfl) w6.heap.size 22 i0 _ _ Try.underlying24 hif hz0 rfl hz1' hz2' (by decide) (.slice (some ⟨w6.heap.size + 1, 0, none⟩) 0 0) [] (by kernel_rfl) HO2.out w6.heap.size (some ⟨bx, ox, none⟩) x.ws x.c x.ws.length rfl (by kernel_rfl) (HSQ.out _ hl2.drew) (by simp) (by simp; omega) hl2.size ?_; intro A2 c2 W2 hown2 hg2 hb2; simp only [List.nil_append] at hown2 ⊢)
                refine hK.out _ _ ?_ (fun hHeld => ?_)
                · exact ⟨(hb2.cell (p := ⟨g17, 0, none⟩) hg17).trans (keep_alloc (keep_alloc c17_0)), (hb2.cell (p := ⟨g17, 1, none⟩) hg17).trans (keep_alloc (keep_alloc c17_1))⟩
                clear hK K
                try simp only [Act.put, List.setIfInBounds_toArray, List.set_cons_zero, List.set_cons_succ]
                have r2 := HR2.out.drew.grown hg2 (by simp [Value.ownBlock])
                have n2 := own_ne_row hown2 r2 (by decide)
                have d0 := r2.cells 0
                have d1 := r2.cells 1
                have f0 := r2.frozen 0
                have f1 := r2.frozen 1
                have qH := hHeld
                have R2 := Lib.hid r2
                clear r2
                refine takeD (i := 6) (oi := _) (v := ?vv7) (d := some 85) rfl (by kernel_rfl) (by kernel_rfl) (by kernel_rfl) (by kernel_rfl) (fun _ _ _ h => h) (Or.inl ⟨by kernel_rfl, ?_⟩) (by assumption) ?_
                rotate_left 1
                · intro W_ hSw; (try dsimp only at hSw); go_simp; (first | done | with_reducible rfl)
                try simp only [Act.put, List.setIfInBounds_toArray, List.set_cons_zero, List.set_cons_succ]
                refine wpAnyH_ready (rs := [8]) (by kernel_rfl) (by simp) ?_
                refine AllReadyH.cons (o := _) rfl (fun K hK => ?_) AllReadyH.nil
                go_simp
                refine hK.out _ _ ?_ (fun hHeld => ?_)
                · exact ⟨keep_block (by omega) (keep_block (by omega) qH.1), keep_block (by omega) (keep_block (by omega) qH.2)⟩
                clear hK K
                try simp only [Act.put, List.setIfInBounds_toArray, List.set_cons_zero, List.set_cons_succ]
                refine wpAnyH_done (by kernel_rfl) ?_ _
                go_wp2_with fail
                go_meet
                case rel => exact ⟨w6.heap.size, A2, c2, rfl, (R2.out.set 0 _).set 1 _, own_set_other (own_set_other hown2 n2) n2, ((hl2.drew.trans hb2).setCell (by simp) _).setCell (by simp) _, by omega, n2⟩
            case rest =>
              obtain ⟨g18, A18, c18, rfl, r18, o18, hb18, hg18, hn18⟩ := hcut
              obtain ⟨ga, rfl, hga, hgb⟩ := own_some o18 hx0
              have hn18' : ga ≠ g18 := hn18 _ rfl
              have hzc := hb18.size
              have HB18 := Lib.hid hb18
              obtain ⟨j, hj⟩ : ∃ j, wi % x.ws.length = j := ⟨_, rfl⟩
              have hjl : j < x.ws.length := by rw [← hj]; exact Nat.mod_lt _ hx0
              have hj1 : (wi : Int) % (x.ws.length : Int) = (j : Int) := by rw [← hj]; rfl
              have hj2 : (wi : Int).tmod (x.ws.length : Int) = (j : Int) := by rw [Int.tmod_eq_emod_of_nonneg (by omega), hj1]
              have hjz : ¬ (x.ws.length : Int) = 0 := by omega
              have hj0 : (0 : Int) ≤ (j : Int) := by omega
              have hjI : (j : Int) < (x.ws.length : Int) := by omega
              obtain ⟨v, hv⟩ : ∃ v, x.ws[j]? = some v := ⟨_, List.getElem?_eq_getElem hjl⟩
              have hvu := HX.out.u v (List.mem_of_getElem? hv)
              have k0 : wc.cell? ⟨ga, j, none⟩ = some (.int .u16 (v : Int)) := (o18.cellAt j (by omega)).trans (map_get hv)
              have f0 : wc.frozen? ⟨ga, j, none⟩ = false := o18.frozenAt j
              have d18_1 : wc.cell? ⟨g18, 1, none⟩ = some (.slice (some ⟨ga, 0, none⟩) x.ws.length c18) := r18.cells 1
              have HV := Lib.hid hv
              have R18 := Lib.hid r18
              have O18 := Lib.hid o18
              clear c17_0 c17_1 hv r18 o18 hj hb18 hn18
              go_wp2
              go_region
              have he : IntKind.u16.wrap ((v : Int) + (by_ : Int)) = (((v + by_) % 65536 : Nat) : Int) := by rw [wrap_u16]; omega
              rw [he]
              obtain ⟨v', hv'⟩ : ∃ v', (v + by_) % 65536 = v' := ⟨_, rfl⟩
              rw [hv']
              have hvne : x.ws.getD j 0 ≠ v' := by rw [List.getD_eq_getElem?_getD, HV.out]; simp only [Option.getD_some]; omega
              have hvu' : v' < 65536 := by omega
              obtain ⟨w7, hw7⟩ : ∃ w7, w7 = (wc.setCell ⟨ga, j, none⟩ (.int .u16 (v' : Int))).drew := ⟨_, rfl⟩
              rw [← hw7]
              have hb7 : Below w6.heap.size w6 w7 := by rw [hw7]; exact (HB18.out.setCell hga _).drew
              have r18 : RowAt w7 g18 26 [.int .i64 x.a, .slice (some ⟨ga, 0, none⟩) x.ws.length c18] := by rw [hw7]; exact (R18.out.other hn18' _).drew
              have o18 : w7.ownsRow w6.heap.size 22 1 (.slice (some ⟨ga, 0, none⟩) x.ws.length c18) x.ws.length ((x.ws.set j v').map u16w) := by rw [hw7]; exact (own_set O18.out).drew
              have hyu : ∀ z ∈ x.ws.set j v', z < 65536 := Stg.mem_set_u16 HX.out.u hvu'
              have hyo : (Blk.mk x.a (x.ws.set j v') (some ⟨ga, 0, none⟩) c18).Ok w7 w7.heap.size := Blk.Ok.of_own (by simp) o18 hyu HX.out.lo HX.out.hi
              have hyl : (x.ws.set j v').length = x.ws.length := by simp
              have hck7 : chk (ps.set i (x.a, x.ws.set j v')) ≠ ck := by rw [← HCK.out]; exact chk_word HU.out HPI.out HFX.out hjl hvu' hvne
              have kput := put_S i (Blk.mk x.a (x.ws.set j v') (some ⟨ga, 0, none⟩) c18) w7 (IS.out.to hb7) hyo (by omega) (by simp only [hyl]; exact HFX.out)
              simp only [hyl] at kput
              have KP := Lib.hid kput
              have d18_0 : w7.cell? ⟨g18, 0, none⟩ = some (.int .i64 x.a) := r18.cells 0
              have d18_1' : w7.cell? ⟨g18, 1, none⟩ = some (.slice (some ⟨ga, 0, none⟩) x.ws.length c18) := r18.cells 1
              have R117 := Lib.hid (R11.out.to hb7)
              have IS7 := Lib.hid (IS.out.to hb7)
              have HB7 := Lib.hid hb7
              have HK7 := Lib.hid hck7
              have hz7 : w6.heap.size ≤ w7.heap.size := hb7.size
              clear hw7 r18 o18 hyu hyo hyl hck7 kput hb7 k0 f0 d18_1 he hv' hvne hj1 hj2
              go_wp2_with (refine wpList_load_var rfl 42 (.tmp 11) rfl w2.heap.size rfl s.C _ 25 R117.out Try.underlying42 rfl size_25 HC.out ?_)
              with_reducible refine (KP.out).mono ?_
              rintro e_ w8 ⟨s8, rfl, hs8, hb8⟩
              replace R117 := Lib.hid (R117.out.to hb8)
              replace IS7 := Lib.hid (IS7.out.to hb8)
              have hz8 := hb8.size
              have HB8 := Lib.hid (HB7.out.trans (hb8.mono hz7))
              have IS8 := Lib.hid hs8
              have HC8 := Lib.hid hs8.C25
              clear hb8 hs8 KP d18_0 d18_1'
              have kwh := Lib.hid (fun W (hW : Below w8.heap.size w8 W) => whole_S (n : Int) ck false W (IS8.out.to hW) (by simp only [Bool.false_eq_true, false_iff]; rw [← HCK.out]; exact not_chk hin HPN.out hn8 (by rw [HCK.out]; exact HK7.out) _))
              have ksm := Lib.hid (fun W (hW : Below w8.heap.size w8 W) => same_S false W (IS7.out.to hW) (IS8.out.to hW) (fun p hp => by have := IS7.out.lens p hp; omega) (decide_eq_false (fun h => HK7.out (by rw [← HCK.out, ← there_set _ hin HPN.out hn8, ← h.2, there_first HPN.out hn8]))))
              go_wp2_with (first | (refine wpList_store_var rfl 42 (.tmp 19) (.tmp 104) rfl w8.heap.size Stv.zero.C s8.C 25 rfl rfl (heap_alloc_new w8 _) size_25 rfl HC8.out (Stv.C_one s8) ?_; intro w9 r19 k9; have R19 := Lib.hid r19; have K9 := Lib.hid k9; clear r19 k9) | (refine wpList_load_var rfl 42 (.tmp 19) rfl w8.heap.size rfl s8.C _ 25 R19.out Try.underlying42 rfl size_25 HC8.out ?_))
              have hb9 : Below w8.heap.size w8 w9 := K9.out.to (bel_alloc (Below.refl _ _) _) (Nat.le_refl _)
              have hz9 := hb9.size
              with_reducible refine (kwh.out _ hb9).mono ?_
              rintro e_ w10 ⟨rfl, hb10⟩
              replace R117 := Lib.hid (R117.out.to hb9)
              replace R117 := Lib.hid (R117.out.to hb10)
              replace R19 := Lib.hid (R19.out.to hb10)
              have hb810 : Below w8.heap.size w8 w10 := hb9.trans (hb10.mono hz9)
              replace HB8 := Lib.hid (HB8.out.trans (hb810.mono (by omega)))
              clear hb9 hb10 K9 kwh
              go_wp2_with (first | (refine wpList_load_var rfl 42 (.tmp 11) rfl w2.heap.size rfl s.C _ 25 R117.out Try.underlying42 rfl size_25 HC.out ?_) | (refine wpList_load_var rfl 42 (.tmp 19) rfl w8.heap.size rfl s8.C _ 25 R19.out Try.underlying42 rfl size_25 HC8.out ?_))
              with_reducible refine (ksm.out _ hb810).mono ?_
              rintro e_ w11 ⟨rfl, hb11⟩
              have hfin : Below w6.heap.size w6 w11 := HB8.out.trans (hb11.mono HB8.out.size)
              clear hb11 hb810 ksm
              go_wp2_with fail
              go_meet
              case rel => exact hfin
        case rest =>
          clear hb1 b1
          have hzc := hcut.size
          replace HB := Lib.hid (HB.out.to hcut)
          replace IS := Lib.hid (IS.out.to hcut)
          replace R11 := Lib.hid (R11.out.to hcut)
          replace HX := Lib.hid (HX.out.to hcut)
          replace R17 := Lib.hid (R17.out.to hcut)
          replace BW := Lib.hid (BW.out.trans (hcut.mono (by omega)))
          have HX' := HX
          clear c17_0 c17_1 hcut
          have c17_0 : wc.cell? ⟨g17, 0, none⟩ = some (.int .i64 x.a) := R17.out.cells 0
          have c17_1 : wc.cell? ⟨g17, 1, none⟩ = some (.slice x.A x.ws.length x.c) := R17.out.cells 1
          obtain ⟨b2, hb2⟩ : ∃ b2, decide (0 < x.a) = b2 := ⟨_, rfl⟩
          go_upto_if 121 with fail
          have hxa := Bk.fits_iff.1 HFX.out
          have hxa1 : 0 ≤ x.a := by omega
          have hxa2 : x.a < 64 := by omega
          go_cut [] (fun wx => Below wc.heap.size wc wx)
          case first =>
            cases b2
            rotate_left
            · have q : 0 < x.a := of_decide_eq_true hb2
              obtain ⟨hf2, hck2⟩ := chk_at HU.out HPI.out HFX.out q
              rw [HCK.out] at hck2
              have HK2 := Lib.hid hck2
              have hxo' : (Blk.mk (x.a - 1) x.ws x.A x.c).Ok wc wc.heap.size := ⟨HX.out.sq, HX.out.u, by show _ ≤ x.a - 1; omega, by show x.a - 1 ≤ _; omega, HX.out.ln, HX.out.cap, HX.out.nl⟩
              have KP := Lib.hid (put_S i (Blk.mk (x.a - 1) x.ws x.A x.c) wc IS.out hxo' (by omega) hf2)
              clear hf2 hck2 hxo' q hb2
              go_wp2_with (refine wpList_load_var rfl 42 (.tmp 11) rfl w2.heap.size rfl s.C _ 25 R11.out Try.underlying42 rfl size_25 HC.out ?_)
              with_reducible refine (KP.out).mono ?_
              rintro e_ w8 ⟨s8, rfl, hs8, hb8⟩
              have HB8 := Lib.hid hb8
              have IS8 := Lib.hid hs8
              have HC8 := Lib.hid hs8.C25
              clear hb8 hs8 KP
              have kwh := Lib.hid (fun W (hW : Below w8.heap.size w8 W) => whole_S (n : Int) ck false W (IS8.out.to hW) (by simp only [Bool.false_eq_true, false_iff]; rw [← HCK.out]; exact not_chk hin HPN.out hn8 (by rw [HCK.out]; exact HK2.out) _))
              go_wp2_with (first | (refine wpList_store_var rfl 42 (.tmp 21) (.tmp 132) rfl w8.heap.size Stv.zero.C s8.C 25 rfl rfl (heap_alloc_new w8 _) size_25 rfl HC8.out (Stv.C_one s8) ?_; intro w9 r19 k9; have R19 := Lib.hid r19; have K9 := Lib.hid k9; clear r19 k9) | (refine wpList_load_var rfl 42 (.tmp 21) rfl w8.heap.size rfl s8.C _ 25 R19.out Try.underlying42 rfl size_25 HC8.out ?_))
              have hb9 : Below w8.heap.size w8 w9 := K9.out.to (bel_alloc (Below.refl _ _) _) (Nat.le_refl _)
              with_reducible refine (kwh.out _ hb9).mono ?_
              rintro e_ w10 ⟨rfl, hb10⟩
              have hfin : Below wc.heap.size wc w10 := HB8.out.trans ((hb9.trans (hb10.mono hb9.size)).mono HB8.out.size)
              clear hb9 hb10 K9 kwh
              go_wp2_with fail
              go_meet
              case rel => exact hfin
            · clear hb2
              go_wp2
              go_meet
              case rel => exact Below.refl _ _
          case rest =>
            have hzd := hcut.size
            clear c17_0 c17_1 hb2 b2
            replace R11 := Lib.hid (R11.out.to hcut)
            replace IS := Lib.hid (IS.out.to hcut)
            replace R17 := Lib.hid (R17.out.to hcut)
            replace HX := Lib.hid (HX.out.to hcut)
            replace BW := Lib.hid (BW.out.trans (hcut.mono (by omega)))
            clear hcut
            have hi8 : i < 8 := by omega
            have h0i : (0 : Int) ≤ (i : Int) := by omega
            have hi8I : (i : Int) < 8 := by omega
            have HIH := Lib.hid (show i < s.hs.length by rw [IS.out.ok.lh]; exact hi8)
            have HCL := Lib.hid (IS.out.less hi8).C25
            go_wp2_with (first | (refine wpList_load_var rfl 42 (.tmp 11) rfl w2.heap.size rfl s.C _ 25 R11.out Try.underlying42 rfl size_25 HC.out ?_) | (refine wpList_store_var rfl 42 (.tmp 23) (.tmp 142) rfl wc.heap.size Stv.zero.C s.C 25 rfl rfl (heap_alloc_new wc _) size_25 rfl HC.out (Stv.C_one s) ?_; intro w9 r23 k9; have cc := (r23.cells (1 + i)).trans (Stv.C_have (getD_hs HIH.out)); have ff := r23.frozen (1 + i); have R23 := Lib.hid (Stv.C_have_set (s := s) false HIH.out ▸ r23.set (1 + i) (.bool false)); have K9 := Lib.hid k9; clear r23 k9) | (refine wpList_load_var rfl 42 (.tmp 23) rfl wc.heap.size rfl (Stv.mk s.tx (s.hs.set i false) s.bs).C _ 25 R23.out Try.underlying42 rfl size_25 HCL.out ?_))
            obtain ⟨w10, hw10⟩ : ∃ w10, w10 = w9.setCell ⟨wc.heap.size, 1 + i, none⟩ (.bool false) := ⟨_, rfl⟩
            have r23 := R23.out
            rw [← hw10] at r23 ⊢
            have hb10 : Below wc.heap.size wc w10 := by rw [hw10]; exact (K9.out.to (bel_alloc (Below.refl _ _) _) (Nat.le_refl _)).setCell (Nat.le_refl _) _
            have hz10 := hb10.size
            replace R11 := Lib.hid (R11.out.to hb10)
            replace IS := Lib.hid (IS.out.to hb10)
            replace R17 := Lib.hid (R17.out.to hb10)
            replace HX := Lib.hid (HX.out.to hb10)
            replace BW := Lib.hid (BW.out.trans (hb10.mono (by omega)))
            replace R23 := Lib.hid r23
            have ISL := Lib.hid (IS.out.less hi8)
            clear hw10 hb10 r23 cc ff K9 HIH
            have kw1 := Lib.hid (whole_S (n : Int) ck false w10 ISL.out (by simp only [Bool.false_eq_true, false_iff]; exact not_less hin hn8 _ _ (by omega)))
            with_reducible refine (kw1.out).mono ?_
            rintro e_ w11 ⟨rfl, hb11⟩
            replace R11 := Lib.hid (R11.out.to hb11)
            replace IS := Lib.hid (IS.out.to hb11)
            replace R17 := Lib.hid (R17.out.to hb11)
            replace HX := Lib.hid (HX.out.to hb11)
            replace R23 := Lib.hid (R23.out.to hb11)
            replace ISL := Lib.hid (ISL.out.to hb11)
            have hz11 := hb11.size
            replace BW := Lib.hid (BW.out.trans (hb11.mono (by omega)))
            clear hb11 kw1
            obtain ⟨r, hr⟩ := bool_iff (SSW ((firstN ps n).set i none) ((n : Int) - 1) ck)
            obtain ⟨r2, hr2⟩ : ∃ r2, ((i : Int) != (n : Int) - 1) = r2 := ⟨_, rfl⟩
            have hrr : r = false ∨ r2 = false := by
              cases r
              · exact .inl rfl
              · cases r2
                · exact .inr rfl
                · exact absurd (hr.1 rfl) (not_less hin hn8 _ _ (by have := bne_iff_ne.1 hr2; omega))
            have kw2 := Lib.hid (whole_S ((n : Int) - 1) ck r w11 ISL.out hr)
            have HRR := Lib.hid hrr
            clear hr hrr
            go_wp2_with (refine wpList_load_var rfl 42 (.tmp 23) rfl wc.heap.size rfl (Stv.mk s.tx (s.hs.set i false) s.bs).C _ 25 R23.out Try.underlying42 rfl size_25 HCL.out ?_)
            with_reducible refine (kw2.out).mono ?_
            rintro e_ w12 ⟨rfl, hb12⟩
            replace R11 := Lib.hid (R11.out.to hb12)
            replace IS := Lib.hid (IS.out.to hb12)
            replace R17 := Lib.hid (R17.out.to hb12)
            replace HX := Lib.hid (HX.out.to hb12)
            have hz12 := hb12.size
            replace BW := Lib.hid (BW.out.trans (hb12.mono (by omega)))
            clear hb12 kw2 R23 ISL HCL
            have c17_0 : w12.cell? ⟨g17, 0, none⟩ = some (.int .i64 x.a) := R17.out.cells 0
            have c17_1 : w12.cell? ⟨g17, 1, none⟩ = some (.slice x.A x.ws.length x.c) := R17.out.cells 1
            cases r
            · clear hr2 HRR
              by_cases h8 : n = 8
              · have g8 : ((n : Int) == 8) = true := by rw [beq_iff_eq]; omega
                clear c17_0 c17_1
                go_wp2_with fail
                refine (awake_any _).mono ?_
                rintro e_ w13 ⟨rfl, hb13⟩
                have hfin : Below w.heap.size w w13 := BW.out.trans (hb13.mono (by omega))
                clear hb13
                go_wp2
                go_ret
                exact ⟨rfl, hfin⟩
              · have g8 : ((n : Int) == 8) = false := beq_eq_false_iff_ne.2 (by omega)
                have hn7 : n < 8 := by omega
                have KP := Lib.hid (put_S n x w12 IS.out HX.out (by omega) HFX.out)
                clear h8
                go_wp2_with (refine wpList_load_var rfl 42 (.tmp 11) rfl w2.heap.size rfl s.C _ 25 R11.out Try.underlying42 rfl size_25 HC.out ?_)
                with_reducible refine (KP.out).mono ?_
                rintro e_ w13 ⟨s8, rfl, hs8, hb13⟩
                have hz13 := hb13.size
                replace BW := Lib.hid (BW.out.trans (hb13.mono (by omega)))
                have IS8 := Lib.hid hs8
                have HC8 := Lib.hid hs8.C25
                clear hb13 hs8 KP c17_0 c17_1
                have kwh := Lib.hid (fun W (hW : Below w13.heap.size w13 W) => whole_S (n : Int) ck false W (IS8.out.to hW) (by simp only [Bool.false_eq_true, false_iff]; exact not_more hn7 _ _))
                go_wp2_with (first | (refine wpList_store_var rfl 42 (.tmp 24) (.tmp 171) rfl w13.heap.size Stv.zero.C s8.C 25 rfl rfl (heap_alloc_new w13 _) size_25 rfl HC8.out (Stv.C_one s8) ?_; intro w14 r19 k9; have R19 := Lib.hid r19; have K9 := Lib.hid k9; clear r19 k9) | (refine wpList_load_var rfl 42 (.tmp 24) rfl w13.heap.size rfl s8.C _ 25 R19.out Try.underlying42 rfl size_25 HC8.out ?_))
                have hb14 : Below w13.heap.size w13 w14 := K9.out.to (bel_alloc (Below.refl _ _) _) (Nat.le_refl _)
                have hz14 := hb14.size
                with_reducible refine (kwh.out _ hb14).mono ?_
                rintro e_ w15 ⟨rfl, hb15⟩
                have hb15' : Below w.heap.size w w15 := BW.out.trans ((hb14.trans (hb15.mono hz14)).mono (by omega))
                clear hb14 hb15 K9 kwh R19
                go_wp2_with fail
                refine (awake_any _).mono ?_
                rintro e_ w16 ⟨rfl, hb16⟩
                have hfin : Below w.heap.size w w16 := hb15'.trans (hb16.mono hb15'.size)
                clear hb16 hb15'
                go_wp2
                go_ret
                exact ⟨rfl, hfin⟩
            · obtain rfl : r2 = false := by
                rcases HRR.out with h | h
                · cases h
                · exact h
              have hr3 : ((i : Int) == (n : Int) - 1) = true := by rw [beq_iff_eq]; have := hr2; simpa using this
              clear HRR
              by_cases h8 : n = 8
              · have g8 : ((n : Int) == 8) = true := by rw [beq_iff_eq]; omega
                clear c17_0 c17_1
                go_wp2_with fail
                refine (awake_any _).mono ?_
                rintro e_ w13 ⟨rfl, hb13⟩
                have hfin : Below w.heap.size w w13 := BW.out.trans (hb13.mono (by omega))
                clear hb13
                go_wp2
                go_ret
                exact ⟨rfl, hfin⟩
              · have g8 : ((n : Int) == 8) = false := beq_eq_false_iff_ne.2 (by omega)
                have hn7 : n < 8 := by omega
                have KP := Lib.hid (put_S n x w12 IS.out HX.out (by omega) HFX.out)
                clear h8
                go_wp2_with (refine wpList_load_var rfl 42 (.tmp 11) rfl w2.heap.size rfl s.C _ 25 R11.out Try.underlying42 rfl size_25 HC.out ?_)
                with_reducible refine (KP.out).mono ?_
                rintro e_ w13 ⟨s8, rfl, hs8, hb13⟩
                have hz13 := hb13.size
                replace BW := Lib.hid (BW.out.trans (hb13.mono (by omega)))
                have IS8 := Lib.hid hs8
                have HC8 := Lib.hid hs8.C25
                clear hb13 hs8 KP c17_0 c17_1
                have kwh := Lib.hid (fun W (hW : Below w13.heap.size w13 W) => whole_S (n : Int) ck false W (IS8.out.to hW) (by simp only [Bool.false_eq_true, false_iff]; exact not_more hn7 _ _))
                go_wp2_with (first | (refine wpList_store_var rfl 42 (.tmp 24) (.tmp 171) rfl w13.heap.size Stv.zero.C s8.C 25 rfl rfl (heap_alloc_new w13 _) size_25 rfl HC8.out (Stv.C_one s8) ?_; intro w14 r19 k9; have R19 := Lib.hid r19; have K9 := Lib.hid k9; clear r19 k9) | (refine wpList_load_var rfl 42 (.tmp 24) rfl w13.heap.size rfl s8.C _ 25 R19.out Try.underlying42 rfl size_25 HC8.out ?_))
                have hb14 : Below w13.heap.size w13 w14 := K9.out.to (bel_alloc (Below.refl _ _) _) (Nat.le_refl _)
                have hz14 := hb14.size
                with_reducible refine (kwh.out _ hb14).mono ?_
                rintro e_ w15 ⟨rfl, hb15⟩
                have hb15' : Below w.heap.size w w15 := BW.out.trans ((hb14.trans (hb15.mono hz14)).mono (by omega))
                clear hb14 hb15 K9 kwh R19
                go_wp2_with fail
                refine (awake_any _).mono ?_
                rintro e_ w16 ⟨rfl, hb16⟩
                have hfin : Below w.heap.size w w16 := hb15'.trans (hb16.mono hb15'.size)
                clear hb16 hb15'
                go_wp2
                go_ret
                exact ⟨rfl, hfin⟩
end Go.Proofs.Ytopkncbpkccfbaa
