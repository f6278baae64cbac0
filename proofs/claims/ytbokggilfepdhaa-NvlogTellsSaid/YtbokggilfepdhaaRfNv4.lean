/- The document's answer, layer 10: Append. (under way) -/
import Derived.Test.YtbokggilfepdhaaRfNvA
import Derived.Test.YtbokggilfepdhaaRfDkA
import Derived.Test.YtbokggilfepdhaaNvLog
namespace Go.Proofs.Ytbokggilfepdhaa
open Go.RowKit
set_option linter.unusedVariables false
set_option linter.unusedSimpArgs false
attribute [local go_sem] Later.cell Later.frozen setCell_twice
abbrev dC (D : Dk) (z : Int) (A : Option Addr) (m c : Nat) : List Value := [.int .i64 (D.room : Int), .int .i64 (D.safe : Int), .int .i64 z, .slice A m c, .bool D.off]
theorem dC_one (D : Dk) (z : Int) (A : Option Addr) (m c : Nat) : ∀ v ∈ dC D z A m c, v.oneCell' = true := by
  intro v hv
  simp only [dC, List.mem_cons, List.not_mem_nil, or_false] at hv
  rcases hv with rfl | rfl | rfl | rfl | rfl <;> rfl
theorem Rb.only {w w' : World} {A : Option Addr} {c g : Nat} {l : List Nat} (h : Rb w A c l) (k : Only g w w') (hg : ∀ p, A = some p → p.block ≠ g) : Rb w' A c l := by
  refine ⟨fun hn => ?_, h.nil, h.le, h.cap, fun p hp => ?_⟩
  · obtain ⟨b, o, hA, hb, hc⟩ := h.sq hn
    have hne : b ≠ g := hg ⟨b, o, none⟩ hA
    exact ⟨b, o, hA, by rw [k.size]; exact hb, fun j x hx => (k.cell hne).trans (hc j x hx)⟩
  · rw [k.size]; exact h.lt p hp
set_option maxRecDepth 100000 in
set_option maxHeartbeats 1000000 in
theorem rlappend_any (D : Dk) (A : Option Addr) (c : Nat) (w : World) (hok : D.Ok) (hb : Rb w A c D.l) (x : Nr) (hr : x.right = true) (hf : x.Fit) (Ax : Option Addr) (cx nx : Nat) (hn : x.text.length = nx) (hsq : Sq byw w w.heap.size Ax x.text) (hAx : Ax = none → cx = 0) :
    Calls Try.prog 35 #[D.R A c, .agg (rcV x.what x.tx x.who x.yes Ax nx cx).toArray] w (RdP w A (D.lappend x)) := by
  have HB := Lib.hid hb
  have HSQ := Lib.hid hsq
  have HF := Lib.hid hf
  have HN := Lib.hid hn
  have hn8 : nx ≤ 8192 := by have := Nr.right_len hr; omega
  obtain ⟨m, hm⟩ : ∃ m, D.l.length = m := ⟨_, rfl⟩
  obtain ⟨zl, hzl⟩ : ∃ z, lf D.left = z := ⟨_, rfl⟩
  have hxb : x.bytes.length ≤ 140737488355328 := by rw [Nr.bytes_length, Nr.size, hn]; omega
  simp only [Dk.R, hm, hzl]
  have HM := Lib.hid hm
  have HZL := Lib.hid hzl
  clear hb hsq hf hn hm hzl
  go_enter Try.func35, Try.ntmps35
  go_wp2_with fail
  obtain ⟨wa, hwa⟩ : ∃ wa, ((w.alloc (.cells #[.int .i64 (D.room : Int), .int .i64 (D.safe : Int), .int .i64 zl, .slice A m c, .bool D.off] 67)).alloc (.cells #[.int .u8 (x.what : Int), .int .u32 (x.tx : Int), .int .u8 (x.who : Int), .bool x.yes, .slice Ax nx cx] 34)).alloc (.cells #[.int .i64 0, .int .i64 0, .int .i64 0, .slice none 0 0, .bool false] 67) = wa := ⟨_, rfl⟩
  have RA : Hid (RowAt wa w.heap.size 67 (dC D zl A m c)) := Lib.hid (by rw [← hwa]; exact ((RowAt.new w 67 (dC D zl A m c)).alloc _).alloc _)
  have RX : Hid (RowAt wa (w.heap.size + 1) 34 (rcV x.what x.tx x.who x.yes Ax nx cx)) := Lib.hid (by rw [← hwa]; exact (RowAt.new' _ (w.heap.size + 1) 34 (rcV x.what x.tx x.who x.yes Ax nx cx) (by simp)).alloc _)
  have RZ : Hid (RowAt wa (w.heap.size + 1 + 1) 67 rd0) := Lib.hid (by rw [← hwa]; exact RowAt.new' _ (w.heap.size + 1 + 1) 67 rd0 (by simp))
  have BE0 : Hid (Below w.heap.size w wa) := Lib.hid (by rw [← hwa]; exact bel_alloc (bel_alloc (bel_alloc (Below.refl _ _) _) _) _)
  have hza : w.heap.size + 1 + 1 < wa.heap.size := RZ.out.lt
  rw [hwa]
  clear hwa
  have dalt : w.heap.size < (wa).heap.size := RA.out.lt
  have dalu : w.heap.size < (wa).heap.size + 1 := Nat.lt_succ_of_lt RA.out.lt
  have da0 : (wa).cell? ⟨w.heap.size, 0, none⟩ = some (.int .i64 (D.room : Int)) := RA.out.cells 0
  have daz0 : (wa).frozen? ⟨w.heap.size, 0, none⟩ = false := RA.out.frozen 0
  have da1 : (wa).cell? ⟨w.heap.size, 1, none⟩ = some (.int .i64 (D.safe : Int)) := RA.out.cells 1
  have daz1 : (wa).frozen? ⟨w.heap.size, 1, none⟩ = false := RA.out.frozen 1
  have da2 : (wa).cell? ⟨w.heap.size, 2, none⟩ = some (.int .i64 zl) := RA.out.cells 2
  have daz2 : (wa).frozen? ⟨w.heap.size, 2, none⟩ = false := RA.out.frozen 2
  have da3 : (wa).cell? ⟨w.heap.size, 3, none⟩ = some (.slice A m c) := RA.out.cells 3
  have daz3 : (wa).frozen? ⟨w.heap.size, 3, none⟩ = false := RA.out.frozen 3
  have da4 : (wa).cell? ⟨w.heap.size, 4, none⟩ = some (.bool D.off) := RA.out.cells 4
  have daz4 : (wa).frozen? ⟨w.heap.size, 4, none⟩ = false := RA.out.frozen 4
  have dxlt : w.heap.size + 1 < (wa).heap.size := RX.out.lt
  have dxlu : w.heap.size + 1 < (wa).heap.size + 1 := Nat.lt_succ_of_lt RX.out.lt
  have dx0 : (wa).cell? ⟨w.heap.size + 1, 0, none⟩ = some (.int .u8 (x.what : Int)) := RX.out.cells 0
  have dxz0 : (wa).frozen? ⟨w.heap.size + 1, 0, none⟩ = false := RX.out.frozen 0
  have dx1 : (wa).cell? ⟨w.heap.size + 1, 1, none⟩ = some (.int .u32 (x.tx : Int)) := RX.out.cells 1
  have dxz1 : (wa).frozen? ⟨w.heap.size + 1, 1, none⟩ = false := RX.out.frozen 1
  have dx2 : (wa).cell? ⟨w.heap.size + 1, 2, none⟩ = some (.int .u8 (x.who : Int)) := RX.out.cells 2
  have dxz2 : (wa).frozen? ⟨w.heap.size + 1, 2, none⟩ = false := RX.out.frozen 2
  have dx3 : (wa).cell? ⟨w.heap.size + 1, 3, none⟩ = some (.bool x.yes) := RX.out.cells 3
  have dxz3 : (wa).frozen? ⟨w.heap.size + 1, 3, none⟩ = false := RX.out.frozen 3
  have dx4 : (wa).cell? ⟨w.heap.size + 1, 4, none⟩ = some (.slice Ax nx cx) := RX.out.cells 4
  have dxz4 : (wa).frozen? ⟨w.heap.size + 1, 4, none⟩ = false := RX.out.frozen 4
  refine wp_region_held_drew (S := (fun w' => True)) (by kernel_rfl) ?_ (fun hHeld => ?_)
  · trivial
  refine wpAnyH_ready (rs := [0, 1]) (by kernel_rfl) (by simp) ?_
  refine AllReadyH.cons (o := _) rfl (fun K hK => ?_) (AllReadyH.cons (o := _) rfl (fun K hK => ?_) AllReadyH.nil)
  · go_simp
    refine hK.out _ _ ?_ (fun hHeld => ?_)
    · trivial
    clear hK K
    try simp only [Act.put]
    try simp only [List.setIfInBounds_toArray]
    try simp only [List.set_cons_succ]
    try simp only [List.set_cons_zero]
    refine wpAnyH_ready (rs := [1]) (by kernel_rfl) (by simp) ?_
    refine AllReadyH.cons (o := _) rfl (fun K hK => ?_) AllReadyH.nil
    go_simp
    refine hK.out _ _ ?_ (fun hHeld => ?_)
    · trivial
    clear hK K
    try simp only [Act.put]
    try simp only [List.setIfInBounds_toArray]
    try simp only [List.set_cons_succ]
    try simp only [List.set_cons_zero]
    refine wpAnyH_ready (rs := [2]) (by kernel_rfl) (by simp) ?_
    refine AllReadyH.cons (o := _) rfl (fun K hK => ?_) AllReadyH.nil
    go_simp
    (go_at_call 34; (with_reducible refine (rbytes_any x Ax cx nx HN.out HF.out (by omega) wa.drew ((HSQ.out.below BE0.out.drew).more BE0.out.drew.size) hAx).mono ?_); rintro e w3 ⟨A3, c3, rfl, o3, b3⟩; have O3 := Lib.hid o3; have B3 : Hid (Below wa.heap.size wa w3) := Lib.hid ((Below.refl wa.heap.size wa).drew.trans b3); clear o3 b3)
    go_wp2_with fail
    refine hK.out _ _ ?_ (fun hHeld => ?_)
    · trivial
    clear hK K
    try simp only [Act.put, List.setIfInBounds_toArray, List.set_cons_zero, List.set_cons_succ]
    have BE3 := Lib.hid (BE0.out.trans (B3.out.mono BE0.out.size))
    have R3 := Lib.hid (RA.out.to B3.out)
    have Z3 := Lib.hid (RZ.out.to B3.out)
    clear RA RX RZ BE0 dalt dalu da0 da1 da2 da3 da4 daz0 daz1 daz2 daz3 daz4 dxlt dxlu dx0 dx1 dx2 dx3 dx4 dxz0 dxz1 dxz2 dxz3 dxz4
    have HB3 := Lib.hid (HB.out.to BE3.out)
    obtain ⟨D1, E1, hd⟩ : ∃ D1 E1, D.append x.bytes = (D1, E1) := ⟨_, _, rfl⟩
    have ka := rappend_any D A c w3 hok HB3.out A3 c3 x.bytes.length x.bytes rfl hxb (Sq.of_own O3.out) (Nr.bytes_u HF.out)
    have hok1 := Dk.append_ok hok (Nr.bytes_u HF.out)
    rw [hd] at ka hok1
    have HD := Lib.hid hd
    have OK1 : Hid D1.Ok := Lib.hid hok1
    simp only [Dk.R, HM.out, HZL.out] at ka
    have KA := Lib.hid ka
    clear ka hd hok1
    refine wpAnyH_ready (rs := [3]) (by kernel_rfl) (by simp) ?_
    refine AllReadyH.cons (o := _) rfl (fun K hK => ?_) AllReadyH.nil
    go_simp
    (go_at_call 31; (with_reducible refine (KA.out).mono ?_); rintro e w4 ⟨A4, c4, rfl, rb4, b4, fr4⟩; have RB4 : Hid (Rb w4 A4 c4 D1.l) := Lib.hid rb4; have B4 := Lib.hid b4; have FR4 := Lib.hid fr4; clear rb4 b4 fr4; simp only [Dk.R])
    go_wp2_with fail
    refine hK.out _ _ ?_ (fun hHeld => ?_)
    · trivial
    clear hK K
    try simp only [Act.put, List.setIfInBounds_toArray, List.set_cons_zero, List.set_cons_succ]
    have R4 := Lib.hid (R3.out.to B4.out)
    have Z4 := Lib.hid (Z3.out.to B4.out)
    have BE4 := Lib.hid (BE3.out.trans (B4.out.mono BE3.out.size))
    have FRR : Hid (A4 = A ∨ ∀ p, A4 = some p → w.heap.size + 1 + 1 < p.block) := Lib.hid (FR4.out.imp id (fun h p hp => by have h1 := h p hp; have h2 := Z3.out.lt; omega))
    have FG : Hid (∀ p, A4 = some p → p.block ≠ w.heap.size ∧ p.block ≠ w.heap.size + 1 + 1) := Lib.hid (fun p hp => by rcases FRR.out with h | h; have := HB.out.lt p (h.symm.trans hp); omega; have := h p hp; omega)
    obtain ⟨m1, hm1⟩ : ∃ m1, D1.l.length = m1 := ⟨_, rfl⟩
    obtain ⟨z1, hz1⟩ : ∃ z1, lf D1.left = z1 := ⟨_, rfl⟩
    rw [hm1, hz1]
    have HM1 := Lib.hid hm1
    have HZ1 := Lib.hid hz1
    clear hm1 hz1
    have ddlt : w.heap.size < (w4).heap.size := R4.out.lt
    have ddlu : w.heap.size < (w4).heap.size + 1 := Nat.lt_succ_of_lt R4.out.lt
    have dd0 : (w4).cell? ⟨w.heap.size, 0, none⟩ = some (.int .i64 (D.room : Int)) := R4.out.cells 0
    have ddz0 : (w4).frozen? ⟨w.heap.size, 0, none⟩ = false := R4.out.frozen 0
    have dd1 : (w4).cell? ⟨w.heap.size, 1, none⟩ = some (.int .i64 (D.safe : Int)) := R4.out.cells 1
    have ddz1 : (w4).frozen? ⟨w.heap.size, 1, none⟩ = false := R4.out.frozen 1
    have dd2 : (w4).cell? ⟨w.heap.size, 2, none⟩ = some (.int .i64 zl) := R4.out.cells 2
    have ddz2 : (w4).frozen? ⟨w.heap.size, 2, none⟩ = false := R4.out.frozen 2
    have dd3 : (w4).cell? ⟨w.heap.size, 3, none⟩ = some (.slice A m c) := R4.out.cells 3
    have ddz3 : (w4).frozen? ⟨w.heap.size, 3, none⟩ = false := R4.out.frozen 3
    have dd4 : (w4).cell? ⟨w.heap.size, 4, none⟩ = some (.bool D.off) := R4.out.cells 4
    have ddz4 : (w4).frozen? ⟨w.heap.size, 4, none⟩ = false := R4.out.frozen 4
    refine takeD (i := 4) (oi := _) (v := ?vv64) (d := some 7) rfl (by kernel_rfl) (by kernel_rfl) (by kernel_rfl) (by kernel_rfl) (fun _ _ _ h => h) (Or.inl ⟨by kernel_rfl, ?_⟩) (by assumption) ?_
    rotate_left 1
    · intro W_ hSw; (try dsimp only at hSw); go_simp; (first | done | with_reducible rfl)
    try simp only [Act.put, List.setIfInBounds_toArray, List.set_cons_zero, List.set_cons_succ]
    refine takeD (i := 5) (oi := _) (v := ?vv65) (d := some 12) rfl (by kernel_rfl) (by kernel_rfl) (by kernel_rfl) (by kernel_rfl) (fun _ _ _ h => h) (Or.inl ⟨by kernel_rfl, ?_⟩) (by assumption) ?_
    rotate_left 1
    · intro W_ hSw; (try dsimp only at hSw); go_simp; (first | done | with_reducible rfl)
    try simp only [Act.put, List.setIfInBounds_toArray, List.set_cons_zero, List.set_cons_succ]
    refine takeD (i := 6) (oi := _) (v := ?vv66) (d := some 13) rfl (by kernel_rfl) (by kernel_rfl) (by kernel_rfl) (by kernel_rfl) (fun _ _ _ h => h) (Or.inl ⟨by kernel_rfl, ?_⟩) (by assumption) ?_
    rotate_left 1
    · intro W_ hSw; (try dsimp only at hSw); go_simp; (first | done | with_reducible rfl)
    try simp only [Act.put, List.setIfInBounds_toArray, List.set_cons_zero, List.set_cons_succ]
    refine wpAnyH_ready (rs := [7]) (by kernel_rfl) (by simp) ?_
    refine AllReadyH.cons (o := _) rfl (fun K hK => ?_) AllReadyH.nil
    go_simp
    refine hK.out _ _ ?_ (fun hHeld => ?_)
    · trivial
    clear hK K
    try simp only [Act.put]
    try simp only [List.setIfInBounds_toArray]
    try simp only [List.set_cons_succ]
    try simp only [List.set_cons_zero]
    have R5 := Lib.hid (R4.out.set5 (.int .i64 (D1.room : Int)) (.int .i64 (D1.safe : Int)) (.int .i64 z1) (.slice A4 m1 c4) (.bool D1.off))
    have K5 := Lib.hid ((((((Only.refl w.heap.size w4).set (i := 0) (.int .i64 (D1.room : Int))).set (i := 1) (.int .i64 (D1.safe : Int))).set (i := 2) (.int .i64 z1)).set (i := 3) (.slice A4 m1 c4)).set (i := 4) (.bool D1.off))
    obtain ⟨w5, hw5⟩ : ∃ w5, (((((w4.setCell ⟨w.heap.size, 0, none⟩ (.int .i64 (D1.room : Int))).setCell ⟨w.heap.size, 1, none⟩ (.int .i64 (D1.safe : Int))).setCell ⟨w.heap.size, 2, none⟩ (.int .i64 z1)).setCell ⟨w.heap.size, 3, none⟩ (.slice A4 m1 c4)).setCell ⟨w.heap.size, 4, none⟩ (.bool D1.off)) = w5 := ⟨_, rfl⟩
    rw [hw5] at R5 K5 ⊢
    clear hw5
    have Z5 := Lib.hid (Z4.out.only K5.out (by omega))
    have BE5 := Lib.hid (BE4.out.trans ((K5.out.below (Nat.le_refl _))))
    have RB5 := Lib.hid (RB4.out.only K5.out (fun p hp => (FG.out p hp).1))
    clear R4 Z4 K5 ddlt ddlu dd0 dd1 dd2 dd3 dd4 ddz0 ddz1 ddz2 ddz3 ddz4
    refine takeD (i := 8) (oi := _) (v := ?vv67) (d := some 6) rfl (by kernel_rfl) (by kernel_rfl) (by kernel_rfl) (by kernel_rfl) (fun _ _ _ h => h) (Or.inl ⟨by kernel_rfl, ?_⟩) (by assumption) ?_
    rotate_left 1
    · intro W_ hSw; (try dsimp only at hSw); go_simp; (first | done | with_reducible rfl)
    try simp only [Act.put, List.setIfInBounds_toArray, List.set_cons_zero, List.set_cons_succ]
    refine wpAnyH_done (by kernel_rfl) ?_ _
    by_cases hE : E1 = 0
    · subst hE
      have ks := rsync_any D1 A4 c4 w5 OK1.out RB5.out
      obtain ⟨D2, E2, hd2⟩ : ∃ D2 E2, D1.sync = (D2, E2) := ⟨_, _, rfl⟩
      rw [hd2] at ks
      simp only [Dk.R, HM1.out, HZ1.out] at ks
      have HD2 := Lib.hid hd2
      clear hd2
      go_wp2_with (refine wpList_load_var rfl 67 (.tmp 2) rfl w.heap.size rfl (dC D1 z1 A4 m1 c4) _ 5 R5.out Try.underlying67 rfl size_rd rfl ?_)
      refine ks.mono ?_
      clear ks
      rintro e w6 ⟨A6, c6, rfl, rb6, b6, fr6⟩
      have RB6 : Hid (Rb w6 A6 c6 D2.l) := Lib.hid rb6
      have FR6 := Lib.hid fr6
      have Z6 := Lib.hid (Z5.out.to b6)
      have BE6 := Lib.hid (BE5.out.trans (b6.mono BE5.out.size))
      clear rb6 fr6
      simp only [Dk.R]
      have FR7 : Hid (A6 = A ∨ ∀ p, A6 = some p → w.heap.size + 1 + 1 < p.block) := Lib.hid (by
        rcases FR6.out with h | h
        · rcases FRR.out with h2 | h2
          · exact .inl (h.trans h2)
          · exact .inr (fun p hp => h2 p (h.symm.trans hp))
        · exact .inr (fun p hp => by have h1 := h p hp; have h2 := Z5.out.lt; omega))
      have FG6 : Hid (∀ p, A6 = some p → p.block ≠ w.heap.size + 1 + 1) := Lib.hid (fun p hp => by rcases FR7.out with h | h; have := HB.out.lt p (h.symm.trans hp); omega; have := h p hp; omega)
      clear b6
      go_wp2_with (refine wpList_store_var rfl 67 (.tmp 4) (.tmp 20) rfl (w.heap.size + 1 + 1) rd0 (dC D2 (lf D2.left) A6 D2.l.length c6) 5 rfl rfl Z6.out size_rd rfl rfl (dC_one _ _ _ _ _) ?_; intro w7 r7 k7; have R7 := Lib.hid r7; have K7 := Lib.hid k7; clear r7 k7)
      refine bodyPost_ret (results_cell_tmp rfl _ _ (w.heap.size + 1 + 1) 67 (dC D2 (lf D2.left) A6 D2.l.length c6).toArray (0, 0) _ rfl R7.out Try.underlying67 rfl size_rd) rfl ?_
      rw [show D.lappend x = (D2, E2) by unfold Dk.lappend; rw [if_pos hr, HD.out, if_pos rfl]; exact HD2.out]
      exact ⟨A6, c6, rfl, RB6.out.only K7.out FG6.out, BE6.out.trans (K7.out.below (by omega)), FR7.out.imp id (fun h p hp => by have := h p hp; omega)⟩
    · have hEb : (E1 != 0) = true := by simp [hE]
      go_wp2_with (first
        | (refine wpList_load_var rfl 67 (.tmp 2) rfl w.heap.size rfl (dC D1 z1 A4 m1 c4) _ 5 R5.out Try.underlying67 rfl size_rd rfl ?_)
        | (refine wpList_store_var rfl 67 (.tmp 4) (.tmp 16) rfl (w.heap.size + 1 + 1) rd0 (dC D1 z1 A4 m1 c4) 5 rfl rfl Z5.out size_rd rfl rfl (dC_one _ _ _ _ _) ?_; intro w7 r7 k7; have R7 := Lib.hid r7; have K7 := Lib.hid k7; clear r7 k7))
      refine bodyPost_ret (results_cell_tmp rfl _ _ (w.heap.size + 1 + 1) 67 (dC D1 z1 A4 m1 c4).toArray (0, 0) _ rfl R7.out Try.underlying67 rfl size_rd) rfl ?_
      rw [show D.lappend x = (D1, E1) by unfold Dk.lappend; rw [if_pos hr, HD.out, if_neg hE]]
      exact ⟨A4, c4, by rw [← HM1.out, ← HZ1.out]; rfl, RB5.out.only K7.out (fun p hp => (FG.out p hp).2), BE5.out.trans (K7.out.below (by omega)), FRR.out.imp id (fun h p hp => by have := h p hp; omega)⟩
  · go_simp
    refine hK.out _ _ ?_ (fun hHeld => ?_)
    · trivial
    clear hK K
    try simp only [Act.put]
    try simp only [List.setIfInBounds_toArray]
    try simp only [List.set_cons_succ]
    try simp only [List.set_cons_zero]
    refine wpAnyH_ready (rs := [0, 2]) (by kernel_rfl) (by simp) ?_
    refine AllReadyH.cons (o := _) rfl (fun K hK => ?_) (AllReadyH.cons (o := _) rfl (fun K hK => ?_) AllReadyH.nil)
    · go_simp
      refine hK.out _ _ ?_ (fun hHeld => ?_)
      · trivial
      clear hK K
      try simp only [Act.put]
      try simp only [List.setIfInBounds_toArray]
      try simp only [List.set_cons_succ]
      try simp only [List.set_cons_zero]
      refine wpAnyH_ready (rs := [2]) (by kernel_rfl) (by simp) ?_
      refine AllReadyH.cons (o := _) rfl (fun K hK => ?_) AllReadyH.nil
      go_simp
      (go_at_call 34; (with_reducible refine (rbytes_any x Ax cx nx HN.out HF.out (by omega) wa.drew ((HSQ.out.below BE0.out.drew).more BE0.out.drew.size) hAx).mono ?_); rintro e w3 ⟨A3, c3, rfl, o3, b3⟩; have O3 := Lib.hid o3; have B3 : Hid (Below wa.heap.size wa w3) := Lib.hid ((Below.refl wa.heap.size wa).drew.trans b3); clear o3 b3)
      go_wp2_with fail
      refine hK.out _ _ ?_ (fun hHeld => ?_)
      · trivial
      clear hK K
      try simp only [Act.put, List.setIfInBounds_toArray, List.set_cons_zero, List.set_cons_succ]
      have BE3 := Lib.hid (BE0.out.trans (B3.out.mono BE0.out.size))
      have R3 := Lib.hid (RA.out.to B3.out)
      have Z3 := Lib.hid (RZ.out.to B3.out)
      clear RA RX RZ BE0 dalt dalu da0 da1 da2 da3 da4 daz0 daz1 daz2 daz3 daz4 dxlt dxlu dx0 dx1 dx2 dx3 dx4 dxz0 dxz1 dxz2 dxz3 dxz4
      have HB3 := Lib.hid (HB.out.to BE3.out)
      obtain ⟨D1, E1, hd⟩ : ∃ D1 E1, D.append x.bytes = (D1, E1) := ⟨_, _, rfl⟩
      have ka := rappend_any D A c w3 hok HB3.out A3 c3 x.bytes.length x.bytes rfl hxb (Sq.of_own O3.out) (Nr.bytes_u HF.out)
      have hok1 := Dk.append_ok hok (Nr.bytes_u HF.out)
      rw [hd] at ka hok1
      have HD := Lib.hid hd
      have OK1 : Hid D1.Ok := Lib.hid hok1
      simp only [Dk.R, HM.out, HZL.out] at ka
      have KA := Lib.hid ka
      clear ka hd hok1
      refine wpAnyH_ready (rs := [3]) (by kernel_rfl) (by simp) ?_
      refine AllReadyH.cons (o := _) rfl (fun K hK => ?_) AllReadyH.nil
      go_simp
      (go_at_call 31; (with_reducible refine (KA.out).mono ?_); rintro e w4 ⟨A4, c4, rfl, rb4, b4, fr4⟩; have RB4 : Hid (Rb w4 A4 c4 D1.l) := Lib.hid rb4; have B4 := Lib.hid b4; have FR4 := Lib.hid fr4; clear rb4 b4 fr4; simp only [Dk.R])
      go_wp2_with fail
      refine hK.out _ _ ?_ (fun hHeld => ?_)
      · trivial
      clear hK K
      try simp only [Act.put, List.setIfInBounds_toArray, List.set_cons_zero, List.set_cons_succ]
      have R4 := Lib.hid (R3.out.to B4.out)
      have Z4 := Lib.hid (Z3.out.to B4.out)
      have BE4 := Lib.hid (BE3.out.trans (B4.out.mono BE3.out.size))
      have FRR : Hid (A4 = A ∨ ∀ p, A4 = some p → w.heap.size + 1 + 1 < p.block) := Lib.hid (FR4.out.imp id (fun h p hp => by have h1 := h p hp; have h2 := Z3.out.lt; omega))
      have FG : Hid (∀ p, A4 = some p → p.block ≠ w.heap.size ∧ p.block ≠ w.heap.size + 1 + 1) := Lib.hid (fun p hp => by rcases FRR.out with h | h; have := HB.out.lt p (h.symm.trans hp); omega; have := h p hp; omega)
      obtain ⟨m1, hm1⟩ : ∃ m1, D1.l.length = m1 := ⟨_, rfl⟩
      obtain ⟨z1, hz1⟩ : ∃ z1, lf D1.left = z1 := ⟨_, rfl⟩
      rw [hm1, hz1]
      have HM1 := Lib.hid hm1
      have HZ1 := Lib.hid hz1
      clear hm1 hz1
      have ddlt : w.heap.size < (w4).heap.size := R4.out.lt
      have ddlu : w.heap.size < (w4).heap.size + 1 := Nat.lt_succ_of_lt R4.out.lt
      have dd0 : (w4).cell? ⟨w.heap.size, 0, none⟩ = some (.int .i64 (D.room : Int)) := R4.out.cells 0
      have ddz0 : (w4).frozen? ⟨w.heap.size, 0, none⟩ = false := R4.out.frozen 0
      have dd1 : (w4).cell? ⟨w.heap.size, 1, none⟩ = some (.int .i64 (D.safe : Int)) := R4.out.cells 1
      have ddz1 : (w4).frozen? ⟨w.heap.size, 1, none⟩ = false := R4.out.frozen 1
      have dd2 : (w4).cell? ⟨w.heap.size, 2, none⟩ = some (.int .i64 zl) := R4.out.cells 2
      have ddz2 : (w4).frozen? ⟨w.heap.size, 2, none⟩ = false := R4.out.frozen 2
      have dd3 : (w4).cell? ⟨w.heap.size, 3, none⟩ = some (.slice A m c) := R4.out.cells 3
      have ddz3 : (w4).frozen? ⟨w.heap.size, 3, none⟩ = false := R4.out.frozen 3
      have dd4 : (w4).cell? ⟨w.heap.size, 4, none⟩ = some (.bool D.off) := R4.out.cells 4
      have ddz4 : (w4).frozen? ⟨w.heap.size, 4, none⟩ = false := R4.out.frozen 4
      refine takeD (i := 4) (oi := _) (v := ?vv68) (d := some 7) rfl (by kernel_rfl) (by kernel_rfl) (by kernel_rfl) (by kernel_rfl) (fun _ _ _ h => h) (Or.inl ⟨by kernel_rfl, ?_⟩) (by assumption) ?_
      rotate_left 1
      · intro W_ hSw; (try dsimp only at hSw); go_simp; (first | done | with_reducible rfl)
      try simp only [Act.put, List.setIfInBounds_toArray, List.set_cons_zero, List.set_cons_succ]
      refine takeD (i := 5) (oi := _) (v := ?vv69) (d := some 12) rfl (by kernel_rfl) (by kernel_rfl) (by kernel_rfl) (by kernel_rfl) (fun _ _ _ h => h) (Or.inl ⟨by kernel_rfl, ?_⟩) (by assumption) ?_
      rotate_left 1
      · intro W_ hSw; (try dsimp only at hSw); go_simp; (first | done | with_reducible rfl)
      try simp only [Act.put, List.setIfInBounds_toArray, List.set_cons_zero, List.set_cons_succ]
      refine takeD (i := 6) (oi := _) (v := ?vv70) (d := some 13) rfl (by kernel_rfl) (by kernel_rfl) (by kernel_rfl) (by kernel_rfl) (fun _ _ _ h => h) (Or.inl ⟨by kernel_rfl, ?_⟩) (by assumption) ?_
      rotate_left 1
      · intro W_ hSw; (try dsimp only at hSw); go_simp; (first | done | with_reducible rfl)
      try simp only [Act.put, List.setIfInBounds_toArray, List.set_cons_zero, List.set_cons_succ]
      refine wpAnyH_ready (rs := [7]) (by kernel_rfl) (by simp) ?_
      refine AllReadyH.cons (o := _) rfl (fun K hK => ?_) AllReadyH.nil
      go_simp
      refine hK.out _ _ ?_ (fun hHeld => ?_)
      · trivial
      clear hK K
      try simp only [Act.put]
      try simp only [List.setIfInBounds_toArray]
      try simp only [List.set_cons_succ]
      try simp only [List.set_cons_zero]
      have R5 := Lib.hid (R4.out.set5 (.int .i64 (D1.room : Int)) (.int .i64 (D1.safe : Int)) (.int .i64 z1) (.slice A4 m1 c4) (.bool D1.off))
      have K5 := Lib.hid ((((((Only.refl w.heap.size w4).set (i := 0) (.int .i64 (D1.room : Int))).set (i := 1) (.int .i64 (D1.safe : Int))).set (i := 2) (.int .i64 z1)).set (i := 3) (.slice A4 m1 c4)).set (i := 4) (.bool D1.off))
      obtain ⟨w5, hw5⟩ : ∃ w5, (((((w4.setCell ⟨w.heap.size, 0, none⟩ (.int .i64 (D1.room : Int))).setCell ⟨w.heap.size, 1, none⟩ (.int .i64 (D1.safe : Int))).setCell ⟨w.heap.size, 2, none⟩ (.int .i64 z1)).setCell ⟨w.heap.size, 3, none⟩ (.slice A4 m1 c4)).setCell ⟨w.heap.size, 4, none⟩ (.bool D1.off)) = w5 := ⟨_, rfl⟩
      rw [hw5] at R5 K5 ⊢
      clear hw5
      have Z5 := Lib.hid (Z4.out.only K5.out (by omega))
      have BE5 := Lib.hid (BE4.out.trans ((K5.out.below (Nat.le_refl _))))
      have RB5 := Lib.hid (RB4.out.only K5.out (fun p hp => (FG.out p hp).1))
      clear R4 Z4 K5 ddlt ddlu dd0 dd1 dd2 dd3 dd4 ddz0 ddz1 ddz2 ddz3 ddz4
      refine takeD (i := 8) (oi := _) (v := ?vv71) (d := some 6) rfl (by kernel_rfl) (by kernel_rfl) (by kernel_rfl) (by kernel_rfl) (fun _ _ _ h => h) (Or.inl ⟨by kernel_rfl, ?_⟩) (by assumption) ?_
      rotate_left 1
      · intro W_ hSw; (try dsimp only at hSw); go_simp; (first | done | with_reducible rfl)
      try simp only [Act.put, List.setIfInBounds_toArray, List.set_cons_zero, List.set_cons_succ]
      refine wpAnyH_done (by kernel_rfl) ?_ _
      by_cases hE : E1 = 0
      · subst hE
        have ks := rsync_any D1 A4 c4 w5 OK1.out RB5.out
        obtain ⟨D2, E2, hd2⟩ : ∃ D2 E2, D1.sync = (D2, E2) := ⟨_, _, rfl⟩
        rw [hd2] at ks
        simp only [Dk.R, HM1.out, HZ1.out] at ks
        have HD2 := Lib.hid hd2
        clear hd2
        go_wp2_with (refine wpList_load_var rfl 67 (.tmp 2) rfl w.heap.size rfl (dC D1 z1 A4 m1 c4) _ 5 R5.out Try.underlying67 rfl size_rd rfl ?_)
        refine ks.mono ?_
        clear ks
        rintro e w6 ⟨A6, c6, rfl, rb6, b6, fr6⟩
        have RB6 : Hid (Rb w6 A6 c6 D2.l) := Lib.hid rb6
        have FR6 := Lib.hid fr6
        have Z6 := Lib.hid (Z5.out.to b6)
        have BE6 := Lib.hid (BE5.out.trans (b6.mono BE5.out.size))
        clear rb6 fr6
        simp only [Dk.R]
        have FR7 : Hid (A6 = A ∨ ∀ p, A6 = some p → w.heap.size + 1 + 1 < p.block) := Lib.hid (by
          rcases FR6.out with h | h
          · rcases FRR.out with h2 | h2
            · exact .inl (h.trans h2)
            · exact .inr (fun p hp => h2 p (h.symm.trans hp))
          · exact .inr (fun p hp => by have h1 := h p hp; have h2 := Z5.out.lt; omega))
        have FG6 : Hid (∀ p, A6 = some p → p.block ≠ w.heap.size + 1 + 1) := Lib.hid (fun p hp => by rcases FR7.out with h | h; have := HB.out.lt p (h.symm.trans hp); omega; have := h p hp; omega)
        clear b6
        go_wp2_with (refine wpList_store_var rfl 67 (.tmp 4) (.tmp 20) rfl (w.heap.size + 1 + 1) rd0 (dC D2 (lf D2.left) A6 D2.l.length c6) 5 rfl rfl Z6.out size_rd rfl rfl (dC_one _ _ _ _ _) ?_; intro w7 r7 k7; have R7 := Lib.hid r7; have K7 := Lib.hid k7; clear r7 k7)
        refine bodyPost_ret (results_cell_tmp rfl _ _ (w.heap.size + 1 + 1) 67 (dC D2 (lf D2.left) A6 D2.l.length c6).toArray (0, 0) _ rfl R7.out Try.underlying67 rfl size_rd) rfl ?_
        rw [show D.lappend x = (D2, E2) by unfold Dk.lappend; rw [if_pos hr, HD.out, if_pos rfl]; exact HD2.out]
        exact ⟨A6, c6, rfl, RB6.out.only K7.out FG6.out, BE6.out.trans (K7.out.below (by omega)), FR7.out.imp id (fun h p hp => by have := h p hp; omega)⟩
      · have hEb : (E1 != 0) = true := by simp [hE]
        go_wp2_with (first
          | (refine wpList_load_var rfl 67 (.tmp 2) rfl w.heap.size rfl (dC D1 z1 A4 m1 c4) _ 5 R5.out Try.underlying67 rfl size_rd rfl ?_)
          | (refine wpList_store_var rfl 67 (.tmp 4) (.tmp 16) rfl (w.heap.size + 1 + 1) rd0 (dC D1 z1 A4 m1 c4) 5 rfl rfl Z5.out size_rd rfl rfl (dC_one _ _ _ _ _) ?_; intro w7 r7 k7; have R7 := Lib.hid r7; have K7 := Lib.hid k7; clear r7 k7))
        refine bodyPost_ret (results_cell_tmp rfl _ _ (w.heap.size + 1 + 1) 67 (dC D1 z1 A4 m1 c4).toArray (0, 0) _ rfl R7.out Try.underlying67 rfl size_rd) rfl ?_
        rw [show D.lappend x = (D1, E1) by unfold Dk.lappend; rw [if_pos hr, HD.out, if_neg hE]]
        exact ⟨A4, c4, by rw [← HM1.out, ← HZ1.out]; rfl, RB5.out.only K7.out (fun p hp => (FG.out p hp).2), BE5.out.trans (K7.out.below (by omega)), FRR.out.imp id (fun h p hp => by have := h p hp; omega)⟩
    · go_simp
      (go_at_call 34; (with_reducible refine (rbytes_any x Ax cx nx HN.out HF.out (by omega) wa.drew ((HSQ.out.below BE0.out.drew).more BE0.out.drew.size) hAx).mono ?_); rintro e w3 ⟨A3, c3, rfl, o3, b3⟩; have O3 := Lib.hid o3; have B3 : Hid (Below wa.heap.size wa w3) := Lib.hid ((Below.refl wa.heap.size wa).drew.trans b3); clear o3 b3)
      go_wp2_with fail
      refine hK.out _ _ ?_ (fun hHeld => ?_)
      · trivial
      clear hK K
      try simp only [Act.put, List.setIfInBounds_toArray, List.set_cons_zero, List.set_cons_succ]
      have BE3 := Lib.hid (BE0.out.trans (B3.out.mono BE0.out.size))
      have R3 := Lib.hid (RA.out.to B3.out)
      have Z3 := Lib.hid (RZ.out.to B3.out)
      clear RA RX RZ BE0 dalt dalu da0 da1 da2 da3 da4 daz0 daz1 daz2 daz3 daz4 dxlt dxlu dx0 dx1 dx2 dx3 dx4 dxz0 dxz1 dxz2 dxz3 dxz4
      have dalt : w.heap.size < (w3).heap.size := R3.out.lt
      have dalu : w.heap.size < (w3).heap.size + 1 := Nat.lt_succ_of_lt R3.out.lt
      have da0 : (w3).cell? ⟨w.heap.size, 0, none⟩ = some (.int .i64 (D.room : Int)) := R3.out.cells 0
      have daz0 : (w3).frozen? ⟨w.heap.size, 0, none⟩ = false := R3.out.frozen 0
      have da1 : (w3).cell? ⟨w.heap.size, 1, none⟩ = some (.int .i64 (D.safe : Int)) := R3.out.cells 1
      have daz1 : (w3).frozen? ⟨w.heap.size, 1, none⟩ = false := R3.out.frozen 1
      have da2 : (w3).cell? ⟨w.heap.size, 2, none⟩ = some (.int .i64 zl) := R3.out.cells 2
      have daz2 : (w3).frozen? ⟨w.heap.size, 2, none⟩ = false := R3.out.frozen 2
      have da3 : (w3).cell? ⟨w.heap.size, 3, none⟩ = some (.slice A m c) := R3.out.cells 3
      have daz3 : (w3).frozen? ⟨w.heap.size, 3, none⟩ = false := R3.out.frozen 3
      have da4 : (w3).cell? ⟨w.heap.size, 4, none⟩ = some (.bool D.off) := R3.out.cells 4
      have daz4 : (w3).frozen? ⟨w.heap.size, 4, none⟩ = false := R3.out.frozen 4
      refine wpAnyH_ready (rs := [0]) (by kernel_rfl) (by simp) ?_
      refine AllReadyH.cons (o := _) rfl (fun K hK => ?_) AllReadyH.nil
      go_simp
      refine hK.out _ _ ?_ (fun hHeld => ?_)
      · trivial
      clear hK K
      try simp only [Act.put]
      try simp only [List.setIfInBounds_toArray]
      try simp only [List.set_cons_succ]
      try simp only [List.set_cons_zero]
      clear dalt dalu da0 da1 da2 da3 da4 daz0 daz1 daz2 daz3 daz4
      have HB3 := Lib.hid (HB.out.to BE3.out)
      obtain ⟨D1, E1, hd⟩ : ∃ D1 E1, D.append x.bytes = (D1, E1) := ⟨_, _, rfl⟩
      have ka := rappend_any D A c w3 hok HB3.out A3 c3 x.bytes.length x.bytes rfl hxb (Sq.of_own O3.out) (Nr.bytes_u HF.out)
      have hok1 := Dk.append_ok hok (Nr.bytes_u HF.out)
      rw [hd] at ka hok1
      have HD := Lib.hid hd
      have OK1 : Hid D1.Ok := Lib.hid hok1
      simp only [Dk.R, HM.out, HZL.out] at ka
      have KA := Lib.hid ka
      clear ka hd hok1
      refine wpAnyH_ready (rs := [3]) (by kernel_rfl) (by simp) ?_
      refine AllReadyH.cons (o := _) rfl (fun K hK => ?_) AllReadyH.nil
      go_simp
      (go_at_call 31; (with_reducible refine (KA.out).mono ?_); rintro e w4 ⟨A4, c4, rfl, rb4, b4, fr4⟩; have RB4 : Hid (Rb w4 A4 c4 D1.l) := Lib.hid rb4; have B4 := Lib.hid b4; have FR4 := Lib.hid fr4; clear rb4 b4 fr4; simp only [Dk.R])
      go_wp2_with fail
      refine hK.out _ _ ?_ (fun hHeld => ?_)
      · trivial
      clear hK K
      try simp only [Act.put, List.setIfInBounds_toArray, List.set_cons_zero, List.set_cons_succ]
      have R4 := Lib.hid (R3.out.to B4.out)
      have Z4 := Lib.hid (Z3.out.to B4.out)
      have BE4 := Lib.hid (BE3.out.trans (B4.out.mono BE3.out.size))
      have FRR : Hid (A4 = A ∨ ∀ p, A4 = some p → w.heap.size + 1 + 1 < p.block) := Lib.hid (FR4.out.imp id (fun h p hp => by have h1 := h p hp; have h2 := Z3.out.lt; omega))
      have FG : Hid (∀ p, A4 = some p → p.block ≠ w.heap.size ∧ p.block ≠ w.heap.size + 1 + 1) := Lib.hid (fun p hp => by rcases FRR.out with h | h; have := HB.out.lt p (h.symm.trans hp); omega; have := h p hp; omega)
      obtain ⟨m1, hm1⟩ : ∃ m1, D1.l.length = m1 := ⟨_, rfl⟩
      obtain ⟨z1, hz1⟩ : ∃ z1, lf D1.left = z1 := ⟨_, rfl⟩
      rw [hm1, hz1]
      have HM1 := Lib.hid hm1
      have HZ1 := Lib.hid hz1
      clear hm1 hz1
      have ddlt : w.heap.size < (w4).heap.size := R4.out.lt
      have ddlu : w.heap.size < (w4).heap.size + 1 := Nat.lt_succ_of_lt R4.out.lt
      have dd0 : (w4).cell? ⟨w.heap.size, 0, none⟩ = some (.int .i64 (D.room : Int)) := R4.out.cells 0
      have ddz0 : (w4).frozen? ⟨w.heap.size, 0, none⟩ = false := R4.out.frozen 0
      have dd1 : (w4).cell? ⟨w.heap.size, 1, none⟩ = some (.int .i64 (D.safe : Int)) := R4.out.cells 1
      have ddz1 : (w4).frozen? ⟨w.heap.size, 1, none⟩ = false := R4.out.frozen 1
      have dd2 : (w4).cell? ⟨w.heap.size, 2, none⟩ = some (.int .i64 zl) := R4.out.cells 2
      have ddz2 : (w4).frozen? ⟨w.heap.size, 2, none⟩ = false := R4.out.frozen 2
      have dd3 : (w4).cell? ⟨w.heap.size, 3, none⟩ = some (.slice A m c) := R4.out.cells 3
      have ddz3 : (w4).frozen? ⟨w.heap.size, 3, none⟩ = false := R4.out.frozen 3
      have dd4 : (w4).cell? ⟨w.heap.size, 4, none⟩ = some (.bool D.off) := R4.out.cells 4
      have ddz4 : (w4).frozen? ⟨w.heap.size, 4, none⟩ = false := R4.out.frozen 4
      refine takeD (i := 4) (oi := _) (v := ?vv72) (d := some 7) rfl (by kernel_rfl) (by kernel_rfl) (by kernel_rfl) (by kernel_rfl) (fun _ _ _ h => h) (Or.inl ⟨by kernel_rfl, ?_⟩) (by assumption) ?_
      rotate_left 1
      · intro W_ hSw; (try dsimp only at hSw); go_simp; (first | done | with_reducible rfl)
      try simp only [Act.put, List.setIfInBounds_toArray, List.set_cons_zero, List.set_cons_succ]
      refine takeD (i := 5) (oi := _) (v := ?vv73) (d := some 12) rfl (by kernel_rfl) (by kernel_rfl) (by kernel_rfl) (by kernel_rfl) (fun _ _ _ h => h) (Or.inl ⟨by kernel_rfl, ?_⟩) (by assumption) ?_
      rotate_left 1
      · intro W_ hSw; (try dsimp only at hSw); go_simp; (first | done | with_reducible rfl)
      try simp only [Act.put, List.setIfInBounds_toArray, List.set_cons_zero, List.set_cons_succ]
      refine takeD (i := 6) (oi := _) (v := ?vv74) (d := some 13) rfl (by kernel_rfl) (by kernel_rfl) (by kernel_rfl) (by kernel_rfl) (fun _ _ _ h => h) (Or.inl ⟨by kernel_rfl, ?_⟩) (by assumption) ?_
      rotate_left 1
      · intro W_ hSw; (try dsimp only at hSw); go_simp; (first | done | with_reducible rfl)
      try simp only [Act.put, List.setIfInBounds_toArray, List.set_cons_zero, List.set_cons_succ]
      refine wpAnyH_ready (rs := [7]) (by kernel_rfl) (by simp) ?_
      refine AllReadyH.cons (o := _) rfl (fun K hK => ?_) AllReadyH.nil
      go_simp
      refine hK.out _ _ ?_ (fun hHeld => ?_)
      · trivial
      clear hK K
      try simp only [Act.put]
      try simp only [List.setIfInBounds_toArray]
      try simp only [List.set_cons_succ]
      try simp only [List.set_cons_zero]
      have R5 := Lib.hid (R4.out.set5 (.int .i64 (D1.room : Int)) (.int .i64 (D1.safe : Int)) (.int .i64 z1) (.slice A4 m1 c4) (.bool D1.off))
      have K5 := Lib.hid ((((((Only.refl w.heap.size w4).set (i := 0) (.int .i64 (D1.room : Int))).set (i := 1) (.int .i64 (D1.safe : Int))).set (i := 2) (.int .i64 z1)).set (i := 3) (.slice A4 m1 c4)).set (i := 4) (.bool D1.off))
      obtain ⟨w5, hw5⟩ : ∃ w5, (((((w4.setCell ⟨w.heap.size, 0, none⟩ (.int .i64 (D1.room : Int))).setCell ⟨w.heap.size, 1, none⟩ (.int .i64 (D1.safe : Int))).setCell ⟨w.heap.size, 2, none⟩ (.int .i64 z1)).setCell ⟨w.heap.size, 3, none⟩ (.slice A4 m1 c4)).setCell ⟨w.heap.size, 4, none⟩ (.bool D1.off)) = w5 := ⟨_, rfl⟩
      rw [hw5] at R5 K5 ⊢
      clear hw5
      have Z5 := Lib.hid (Z4.out.only K5.out (by omega))
      have BE5 := Lib.hid (BE4.out.trans ((K5.out.below (Nat.le_refl _))))
      have RB5 := Lib.hid (RB4.out.only K5.out (fun p hp => (FG.out p hp).1))
      clear R4 Z4 K5 ddlt ddlu dd0 dd1 dd2 dd3 dd4 ddz0 ddz1 ddz2 ddz3 ddz4
      refine takeD (i := 8) (oi := _) (v := ?vv75) (d := some 6) rfl (by kernel_rfl) (by kernel_rfl) (by kernel_rfl) (by kernel_rfl) (fun _ _ _ h => h) (Or.inl ⟨by kernel_rfl, ?_⟩) (by assumption) ?_
      rotate_left 1
      · intro W_ hSw; (try dsimp only at hSw); go_simp; (first | done | with_reducible rfl)
      try simp only [Act.put, List.setIfInBounds_toArray, List.set_cons_zero, List.set_cons_succ]
      refine wpAnyH_done (by kernel_rfl) ?_ _
      by_cases hE : E1 = 0
      · subst hE
        have ks := rsync_any D1 A4 c4 w5 OK1.out RB5.out
        obtain ⟨D2, E2, hd2⟩ : ∃ D2 E2, D1.sync = (D2, E2) := ⟨_, _, rfl⟩
        rw [hd2] at ks
        simp only [Dk.R, HM1.out, HZ1.out] at ks
        have HD2 := Lib.hid hd2
        clear hd2
        go_wp2_with (refine wpList_load_var rfl 67 (.tmp 2) rfl w.heap.size rfl (dC D1 z1 A4 m1 c4) _ 5 R5.out Try.underlying67 rfl size_rd rfl ?_)
        refine ks.mono ?_
        clear ks
        rintro e w6 ⟨A6, c6, rfl, rb6, b6, fr6⟩
        have RB6 : Hid (Rb w6 A6 c6 D2.l) := Lib.hid rb6
        have FR6 := Lib.hid fr6
        have Z6 := Lib.hid (Z5.out.to b6)
        have BE6 := Lib.hid (BE5.out.trans (b6.mono BE5.out.size))
        clear rb6 fr6
        simp only [Dk.R]
        have FR7 : Hid (A6 = A ∨ ∀ p, A6 = some p → w.heap.size + 1 + 1 < p.block) := Lib.hid (by
          rcases FR6.out with h | h
          · rcases FRR.out with h2 | h2
            · exact .inl (h.trans h2)
            · exact .inr (fun p hp => h2 p (h.symm.trans hp))
          · exact .inr (fun p hp => by have h1 := h p hp; have h2 := Z5.out.lt; omega))
        have FG6 : Hid (∀ p, A6 = some p → p.block ≠ w.heap.size + 1 + 1) := Lib.hid (fun p hp => by rcases FR7.out with h | h; have := HB.out.lt p (h.symm.trans hp); omega; have := h p hp; omega)
        clear b6
        go_wp2_with (refine wpList_store_var rfl 67 (.tmp 4) (.tmp 20) rfl (w.heap.size + 1 + 1) rd0 (dC D2 (lf D2.left) A6 D2.l.length c6) 5 rfl rfl Z6.out size_rd rfl rfl (dC_one _ _ _ _ _) ?_; intro w7 r7 k7; have R7 := Lib.hid r7; have K7 := Lib.hid k7; clear r7 k7)
        refine bodyPost_ret (results_cell_tmp rfl _ _ (w.heap.size + 1 + 1) 67 (dC D2 (lf D2.left) A6 D2.l.length c6).toArray (0, 0) _ rfl R7.out Try.underlying67 rfl size_rd) rfl ?_
        rw [show D.lappend x = (D2, E2) by unfold Dk.lappend; rw [if_pos hr, HD.out, if_pos rfl]; exact HD2.out]
        exact ⟨A6, c6, rfl, RB6.out.only K7.out FG6.out, BE6.out.trans (K7.out.below (by omega)), FR7.out.imp id (fun h p hp => by have := h p hp; omega)⟩
      · have hEb : (E1 != 0) = true := by simp [hE]
        go_wp2_with (first
          | (refine wpList_load_var rfl 67 (.tmp 2) rfl w.heap.size rfl (dC D1 z1 A4 m1 c4) _ 5 R5.out Try.underlying67 rfl size_rd rfl ?_)
          | (refine wpList_store_var rfl 67 (.tmp 4) (.tmp 16) rfl (w.heap.size + 1 + 1) rd0 (dC D1 z1 A4 m1 c4) 5 rfl rfl Z5.out size_rd rfl rfl (dC_one _ _ _ _ _) ?_; intro w7 r7 k7; have R7 := Lib.hid r7; have K7 := Lib.hid k7; clear r7 k7))
        refine bodyPost_ret (results_cell_tmp rfl _ _ (w.heap.size + 1 + 1) 67 (dC D1 z1 A4 m1 c4).toArray (0, 0) _ rfl R7.out Try.underlying67 rfl size_rd) rfl ?_
        rw [show D.lappend x = (D1, E1) by unfold Dk.lappend; rw [if_pos hr, HD.out, if_neg hE]]
        exact ⟨A4, c4, by rw [← HM1.out, ← HZ1.out]; rfl, RB5.out.only K7.out (fun p hp => (FG.out p hp).2), BE5.out.trans (K7.out.below (by omega)), FRR.out.imp id (fun h p hp => by have := h p hp; omega)⟩
end Go.Proofs.Ytbokggilfepdhaa
