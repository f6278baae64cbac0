/- The walk of saucierlaw20.AgentTells. -/
import Derived.Test.YtajbghjjpebndaaKAgTellsA
import Derived.Test.YtajbghjjpebndaaQ30
import Derived.Test.YtajbghjjpebndaaQ21
import Derived.Deep.CutBlock
namespace Go.Proofs.Ytajbghjjpebndaa
set_option maxRecDepth 100000
open Go.RowKit
set_option linter.unusedVariables false
set_option linter.unusedSimpArgs false
attribute [local go_sem] Later.cell Later.frozen setCell_twice
attribute [local go_sem high] sliced_zero
set_option maxHeartbeats 8000000 in
theorem tells_walk (bs : List Nat) (Ab : Option Addr) (cb : Nat) (tk : Int) (l : List OV) (Al : Option Addr) (cl : Nat) (Ao : Option Addr) (co : Nat) (so : Stv) (g0 : Ag) (ws : List Nat) (Aw : Option Addr) (cw : Nat) (w : World) (sb : Sq u16w w w.heap.size Ab bs) (hub : ∀ x ∈ bs, x < 65536) (hnb : Ab = none → cb = 0) (ht : -9223372036854775808 ≤ tk ∧ tk ≤ 9223372036854775807) (hl : Ops w w.heap.size Al l) (hcl : l.length ≤ cl) (hcl2 : cl ≤ 9223372036854775807) (ho : AgRaw Ao co so g0 w) (sw : Sq u16w w w.heap.size Aw ws) (huw : ∀ x ∈ ws, x < 65536) :
    Calls Try.prog 4 #[.slice Ab bs.length cb, .int .i64 tk, .slice Al l.length cl, .agg (agC Ao co so g0).toArray, .slice Aw ws.length cw] w fun e w' => e = .returned (.bool true) ∧ Below w.heap.size w w' := by
  obtain ⟨N, hnl⟩ : ∃ n, l.length = n := ⟨_, rfl⟩
  have OPS := Lib.hid hl
  have HLN := Lib.hid hnl
  obtain ⟨b1, hb1⟩ : ∃ b, few20 l 60 = b := ⟨_, rfl⟩
  have kf := Lib.hid (fun W (hW : Below w.heap.size w W) => few20_any Al l cl N 60 b1 W hnl (hl.to hW) (by omega) hcl2 hb1)
  obtain ⟨b2, hb2⟩ : ∃ b, light so.bs = b := ⟨_, rfl⟩
  have HB2 := Lib.hid hb2
  have HO := Lib.hid ho
  have HCO : Hid ((agC Ao co so g0).length = 32) := Lib.hid (agL_length (Stv.C_length ho.ok.lh ho.ok.lb))
  have HT := Lib.hid ht
  have SB := Lib.hid sb
  have HUB := Lib.hid hub
  have HNB := Lib.hid hnb
  obtain ⟨nb, hnb_⟩ : ∃ n, bs.length = n := ⟨_, rfl⟩
  have HBL := Lib.hid hnb_
  obtain ⟨nw, hnw⟩ : ∃ n, ws.length = n := ⟨_, rfl⟩
  obtain ⟨no, hno⟩ : ∃ n, g0.bank.length = n := ⟨_, rfl⟩
  have HNO := Lib.hid hno
  obtain ⟨⟨Y, F⟩, hY⟩ : ∃ y, rd ws = y := ⟨_, rfl⟩
  have kr1 : Hid (∀ W, Below w.heap.size w W → Calls Try.prog 22 #[.slice Aw nw cw] W fun e w' => e = .returned (.tuple #[.agg (cmdL Y).toArray, .int .i64 F]) ∧ Below W.heap.size W w') := Lib.hid (fun W hW => by have := read_any Aw ws nw cw W hnw ((sw.below hW).more hW.size) huw; rw [hY] at this; exact this)
  have kr2 : Hid (∀ W, Below w.heap.size w W → Calls Try.prog 23 #[.slice Aw nw cw] W fun e w' => e = .returned (.tuple #[.agg (cmdL Y).toArray, .int .i64 F]) ∧ Below W.heap.size W w') := Lib.hid (fun W hW => by have := rread_any Aw ws nw cw W hnw ((sw.below hW).more hW.size) huw; rw [hY] at this; exact this)
  have HYF : Hid Y.Fit := Lib.hid (by have := rd_fit huw; rw [hY] at this; exact this)
  rw [hnl] at hcl ⊢
  rw [hnb_, hnw]
  clear sb hub ht hl hb1 hnl sw huw hY hnw hb2 ho hnb hno hnb_
  go_enter Try.func4, Try.ntmps4
  go_upto_region 1 with fail
  obtain ⟨w0, hw0⟩ : ∃ w_q_, w_q_ = w.alloc (.cells (agC Ao co so g0).toArray 35) := ⟨_, rfl⟩
  rw [← hw0]
  have RI : Hid (RowAt w0 w.heap.size 35 (agC Ao co so g0)) := Lib.hid (by rw [hw0]; exact RowAt.new w _ _)
  have BZ : Hid (Below w.heap.size w w0) := Lib.hid (by rw [hw0]; exact bel_alloc (Below.refl _ _) _)
  have hz0 : w.heap.size + 1 ≤ w0.heap.size := by rw [hw0, World.size_alloc]; exact Nat.le_refl _
  clear hw0
  by_cases h1 : 80 < nb
  · have u1 : decide ((80 : Int) < (nb : Int)) = true := decide_eq_true (by omega)
    clear h1
    go_wp2_with fail
    with_reducible refine (awake20_any _).mono ?_
    rintro e3 w3 ⟨rfl, hq3⟩
    have BZ3 := Lib.hid (BZ.out.trans (hq3.mono BZ.out.size))
    clear hq3
    go_wp2
    go_ret
    exact ⟨rfl, BZ3.out⟩
  have u1 : decide ((80 : Int) < (nb : Int)) = false := decide_eq_false (by omega)
  have h80 : nb ≤ 80 := by omega
  clear h1
  go_wp2_with fail
  with_reducible refine (kf.out _ BZ.out).mono ?_
  rintro e1 w1 ⟨rfl, hq1⟩
  replace RI := Lib.hid (RI.out.to hq1)
  replace BZ := Lib.hid (BZ.out.trans (hq1.mono BZ.out.size))
  have hz1 := hq1.size
  clear hq1 kf
  cases b1
  · go_wp2_with fail
    with_reducible refine (awake20_any _).mono ?_
    rintro e3 w3 ⟨rfl, hq3⟩
    have BZ3 := Lib.hid (BZ.out.trans (hq3.mono BZ.out.size))
    clear hq3
    go_wp2
    go_ret
    exact ⟨rfl, BZ3.out⟩
  have kl := Lib.hid (light_any (some ⟨w.heap.size, 15, none⟩) so.bs 8 8 b2 w1 HO.out.ok.lb (RI.out.ablks (HO.out.to BZ.out).ok) (by omega) (by omega) HB2.out)
  have hlt := RI.out.lt
  go_wp2_with fail
  with_reducible refine (kl.out).mono ?_
  rintro e2 w2 ⟨rfl, hq2⟩
  replace RI := Lib.hid (RI.out.to hq2)
  replace BZ := Lib.hid (BZ.out.trans (hq2.mono BZ.out.size))
  have hz2 := hq2.size
  clear hq2 kl hlt
  cases b2
  · go_wp2_with fail
    with_reducible refine (awake20_any _).mono ?_
    rintro e3 w3 ⟨rfl, hq3⟩
    have BZ3 := Lib.hid (BZ.out.trans (hq3.mono BZ.out.size))
    clear hq3
    go_wp2
    go_ret
    exact ⟨rfl, BZ3.out⟩
  have a0 : w2.cell? ⟨w.heap.size, 0, none⟩ = some (.slice Ao no co) := by
    have h9 := RI.out.cells 0
    rw [← HNO.out]; exact h9
  have hlt := RI.out.lt
  by_cases h2 : 100 < no
  · have u2 : decide ((100 : Int) < (no : Int)) = true := decide_eq_true (by omega)
    clear h2
    go_wp2_with fail
    with_reducible refine (awake20_any _).mono ?_
    rintro e3 w3 ⟨rfl, hq3⟩
    have BZ3 := Lib.hid (BZ.out.trans (hq3.mono BZ.out.size))
    clear hq3
    go_wp2
    go_ret
    exact ⟨rfl, BZ3.out⟩
  have u2 : decide ((100 : Int) < (no : Int)) = false := decide_eq_false (by omega)
  by_cases h3 : 20 < nw
  · have u3 : decide ((20 : Int) < (nw : Int)) = true := decide_eq_true (by omega)
    clear h2 h3
    go_wp2_with fail
    with_reducible refine (awake20_any _).mono ?_
    rintro e3 w3 ⟨rfl, hq3⟩
    have BZ3 := Lib.hid (BZ.out.trans (hq3.mono BZ.out.size))
    clear hq3
    go_wp2
    go_ret
    exact ⟨rfl, BZ3.out⟩
  have u3 : decide ((20 : Int) < (nw : Int)) = false := decide_eq_false (by omega)
  have IO0 : Hid (AgIs Ao co so g0 w2 0) := Lib.hid ((HO.out.to BZ.out).is (by rw [HNO.out]; omega) (light_all HB2.out))
  have OFF0 : Hid (∀ b, w.heap.size ≤ b → AgOff b Ao so g0) := Lib.hid (fun b hb => (HO.out.is (by rw [HNO.out]; omega) (light_all HB2.out)).off (.inr hb))
  clear h2 h3
  go_upto_region 3 with fail
  clear u1 u2 u3 a0
  -- right, and the status
  obtain ⟨r, hr⟩ : ∃ b : Bool, b = true ↔ g0.right := by classical exact ⟨decide g0.right, by simp⟩
  have HR0 := Lib.hid hr
  have k1 := Lib.hid (fun W (hW : Below w2.heap.size w2 W) => agright_any r W (IO0.out.to hW) hr)
  have k2 := Lib.hid (fun W (hW : Below w2.heap.size w2 W) => ragright_any r W (IO0.out.to hW) hr)
  have k3 := Lib.hid (fun W (hW : Below w2.heap.size w2 W) => status_any W (IO0.out.to hW))
  have k4 := Lib.hid (fun W (hW : Below w2.heap.size w2 W) => rstatus_any W (IO0.out.to hW))
  have k5 := Lib.hid (fun W (x y : Nat) (hx : Sq u16w W W.heap.size (some ⟨x, 0, none⟩) (st8 g0)) (hy : Sq u16w W W.heap.size (some ⟨y, 0, none⟩) (st8 g0)) => lowWords_any (some ⟨x, 0, none⟩) (some ⟨y, 0, none⟩) (st8 g0) (st8 g0) 8 8 8 8 true W rfl rfl hx hy (by show 8 ≤ _; decide) (by simp))
  clear hr
  refine wp_region_held_drew (S := (fun w' => RowAt w' w.heap.size 35 (agC Ao co so g0))) (by kernel_rfl) ?_ (fun hHeld => ?_)
  · exact RI.out
  refine takeD (i := 0) (oi := _) (v := _) (d := some 52) rfl (by kernel_rfl) (by kernel_rfl) (by kernel_rfl) (by kernel_rfl) (fun _ _ _ h => h) (yieldsIf_load_mid (by kernel_rfl) 35 (.tmp 8) (by kernel_rfl) w.heap.size 0 (by kernel_rfl) (agC Ao co so g0) _ (fun W h => h.all) Try.underlying35 rfl (by rw [size_32, HCO.out])) (by assumption) ?_
  try simp only [Act.put, List.setIfInBounds_toArray, List.set_cons_zero, List.set_cons_succ]
  refine takeD (i := 2) (oi := _) (v := _) (d := some 54) rfl (by kernel_rfl) (by kernel_rfl) (by kernel_rfl) (by kernel_rfl) (fun _ _ _ h => h) (yieldsIf_load_mid (by kernel_rfl) 35 (.tmp 8) (by kernel_rfl) w.heap.size 0 (by kernel_rfl) (agC Ao co so g0) _ (fun W h => h.all) Try.underlying35 rfl (by rw [size_32, HCO.out])) (by assumption) ?_
  try simp only [Act.put, List.setIfInBounds_toArray, List.set_cons_zero, List.set_cons_succ]
  refine wpAnyH_ready (rs := [1]) (by kernel_rfl) (by simp) ?_
  refine AllReadyH.cons (o := _) rfl (fun K hK => ?_) AllReadyH.nil
  go_simp
  (go_at_call 13; (with_reducible refine (k1.out _ (Below.refl _ _).drew).mono ?_); rintro e_ w3 ⟨rfl, hb3⟩; have hx3 : Below w2.heap.size w2 w3 := (Below.refl _ _).drew.trans (hb3.mono (Nat.le_refl _)))
  go_wp2_with fail
  refine hK.out _ _ ?_ (fun hHeld => ?_)
  · exact RI.out.to hx3
  clear hK K
  try simp only [Act.put, List.setIfInBounds_toArray, List.set_cons_zero, List.set_cons_succ]
  refine wpAnyH_ready (rs := [3]) (by kernel_rfl) (by simp) ?_
  refine AllReadyH.cons (o := _) rfl (fun K hK => ?_) AllReadyH.nil
  go_simp
  (go_at_call 19; (with_reducible refine (k2.out _ hx3).mono ?_); rintro e_ w4 ⟨rfl, hb4⟩; have hx4 : Below w2.heap.size w2 w4 := hx3.trans (hb4.mono hx3.size))
  go_wp2_with fail
  refine hK.out _ _ ?_ (fun hHeld => ?_)
  · exact RI.out.to hx4
  clear hK K
  try simp only [Act.put, List.setIfInBounds_toArray, List.set_cons_zero, List.set_cons_succ]
  have hrr : (r != r) = false := by simp
  refine takeD (i := 4) (oi := _) (v := ?vv1) (d := some 56) rfl (by kernel_rfl) (by kernel_rfl) (by kernel_rfl) (by kernel_rfl) (fun _ _ _ h => h) (Or.inl ⟨by kernel_rfl, ?_⟩) (by assumption) ?_
  rotate_left 1
  · intro W_ hSw; (try dsimp only at hSw); go_simp; (first | done | with_reducible rfl)
  try simp only [Act.put, List.setIfInBounds_toArray, List.set_cons_zero, List.set_cons_succ]
  refine takeD (i := 5) (oi := _) (v := ?vv2) (d := some 57) rfl (by kernel_rfl) (by kernel_rfl) (by kernel_rfl) (by kernel_rfl) (fun _ _ _ h => h) (Or.inl ⟨by kernel_rfl, ?_⟩) (by assumption) ?_
  rotate_left 1
  · intro W_ hSw; (try dsimp only at hSw); go_simp; (first | done | with_reducible rfl)
  try simp only [Act.put, List.setIfInBounds_toArray, List.set_cons_zero, List.set_cons_succ]
  refine takeD (i := 6) (oi := _) (v := _) (d := some 58) rfl (by kernel_rfl) (by kernel_rfl) (by kernel_rfl) (by kernel_rfl) (fun _ _ _ h => h) (yieldsIf_load_mid (by kernel_rfl) 35 (.tmp 8) (by kernel_rfl) w.heap.size 0 (by kernel_rfl) (agC Ao co so g0) _ (fun W h => h.all) Try.underlying35 rfl (by rw [size_32, HCO.out])) (by assumption) ?_
  try simp only [Act.put, List.setIfInBounds_toArray, List.set_cons_zero, List.set_cons_succ]
  refine takeD (i := 8) (oi := _) (v := _) (d := some 60) rfl (by kernel_rfl) (by kernel_rfl) (by kernel_rfl) (by kernel_rfl) (fun _ _ _ h => h) (yieldsIf_load_mid (by kernel_rfl) 35 (.tmp 8) (by kernel_rfl) w.heap.size 0 (by kernel_rfl) (agC Ao co so g0) _ (fun W h => h.all) Try.underlying35 rfl (by rw [size_32, HCO.out])) (by assumption) ?_
  try simp only [Act.put, List.setIfInBounds_toArray, List.set_cons_zero, List.set_cons_succ]
  refine wpAnyH_ready (rs := [7]) (by kernel_rfl) (by simp) ?_
  refine AllReadyH.cons (o := _) rfl (fun K hK => ?_) AllReadyH.nil
  go_simp
  (go_at_call 20; (with_reducible refine (k3.out _ hx4).mono ?_); rintro e_ w5 ⟨hb5, x5, hn5, rfl, sq5⟩; have hx5 : Below w2.heap.size w2 w5 := hx4.trans (hb5.mono hx4.size))
  go_wp2_with fail
  refine hK.out _ _ ?_ (fun hHeld => ?_)
  · exact RI.out.to hx5
  clear hK K
  try simp only [Act.put, List.setIfInBounds_toArray, List.set_cons_zero, List.set_cons_succ]
  refine wpAnyH_ready (rs := [9]) (by kernel_rfl) (by simp) ?_
  refine AllReadyH.cons (o := _) rfl (fun K hK => ?_) AllReadyH.nil
  go_simp
  (go_at_call 21; (with_reducible refine (k4.out _ hx5).mono ?_); rintro e_ w6 ⟨hb6, x6, hn6, rfl, sq6⟩; have hx6 : Below w2.heap.size w2 w6 := hx5.trans (hb6.mono hx5.size))
  go_wp2_with fail
  refine hK.out _ _ ?_ (fun hHeld => ?_)
  · exact RI.out.to hx6
  clear hK K
  try simp only [Act.put, List.setIfInBounds_toArray, List.set_cons_zero, List.set_cons_succ]
  refine wpAnyH_ready (rs := [10]) (by kernel_rfl) (by simp) ?_
  refine AllReadyH.cons (o := _) rfl (fun K hK => ?_) AllReadyH.nil
  go_simp
  (go_at_call 15; (with_reducible refine (k5.out _ _ _ ((sq5.below hb6).more hb6.size) sq6).mono ?_); rintro e_ w7 ⟨rfl, hb7⟩; have hx7 : Below w2.heap.size w2 w7 := hx6.trans (hb7.mono hx6.size))
  go_wp2_with fail
  refine hK.out _ _ ?_ (fun hHeld => ?_)
  · exact RI.out.to hx7
  clear hK K
  try simp only [Act.put, List.setIfInBounds_toArray, List.set_cons_zero, List.set_cons_succ]
  refine takeD (i := 11) (oi := _) (v := ?vv3) (d := some 63) rfl (by kernel_rfl) (by kernel_rfl) (by kernel_rfl) (by kernel_rfl) (fun _ _ _ h => h) (Or.inl ⟨by kernel_rfl, ?_⟩) (by assumption) ?_
  rotate_left 1
  · intro W_ hSw; (try dsimp only at hSw); go_simp; (first | done | with_reducible rfl)
  try simp only [Act.put, List.setIfInBounds_toArray, List.set_cons_zero, List.set_cons_succ]
  refine takeD (i := 12) (oi := _) (v := ?vv4) (d := some 64) rfl (by kernel_rfl) (by kernel_rfl) (by kernel_rfl) (by kernel_rfl) (fun _ _ _ h => h) (Or.inl ⟨by kernel_rfl, ?_⟩) (by assumption) ?_
  rotate_left 1
  · intro W_ hSw; (try dsimp only at hSw); go_simp; (first | done | with_reducible rfl)
  try simp only [Act.put, List.setIfInBounds_toArray, List.set_cons_zero, List.set_cons_succ]
  refine wpAnyH_done (by kernel_rfl) ?_ _
  replace RI := Lib.hid (RI.out.to hx7)
  replace BZ := Lib.hid (BZ.out.trans (hx7.mono BZ.out.size))
  replace IO0 := Lib.hid (IO0.out.to hx7)
  replace hz2 : w0.heap.size ≤ w7.heap.size := by have := hx7.size; omega
  clear hx3 hx4 hx5 hx6 hx7 hb3 hb4 hb5 hb6 hb7 sq5 sq6 hn5 hn6 k1 k2 k3 k4 k5 hrr hlt
  -- Read
  go_wp2_with fail
  with_reducible refine (kr1.out _ BZ.out).mono ?_
  rintro e8 w8 ⟨rfl, hb8⟩
  replace RI := Lib.hid (RI.out.to hb8)
  replace IO0 := Lib.hid (IO0.out.to hb8)
  replace BZ := Lib.hid (BZ.out.trans (hb8.mono BZ.out.size))
  have hz8 := hb8.size
  clear hb8 kr1
  go_upto_region 6 with (refine wpList_store_var rfl 41 (.tmp 11) (.tmp 68) rfl w8.heap.size _ (cmdL Y) 5 rfl rfl (heap_alloc_new w8 _) size_cmdw rfl rfl (cmdL_onew Y) ?_; intro w_9 r_9 k_9; have RY := Lib.hid r_9; have HB_9 : Hid (Below w8.heap.size w8 w_9) := Lib.hid (k_9.to (bel_alloc (Below.refl _ _) _) (Nat.le_refl _)); clear r_9 k_9)
  replace RI := Lib.hid (RI.out.to HB_9.out)
  replace IO0 := Lib.hid (IO0.out.to HB_9.out)
  replace BZ := Lib.hid (BZ.out.trans (HB_9.out.mono BZ.out.size))
  have hz9 := HB_9.out.size
  obtain ⟨gY, hgY⟩ : ∃ gY, w8.heap.size = gY := ⟨_, rfl⟩
  have hwY : w.heap.size < gY := by omega
  rw [hgY] at RY ⊢
  clear HB_9 hgY
  try simp only [Act.put]
  go_wp2_with fail
  with_reducible refine (kr2.out _ BZ.out).mono ?_
  rintro e10 w10 ⟨rfl, hb10⟩
  replace RI := Lib.hid (RI.out.to hb10)
  replace IO0 := Lib.hid (IO0.out.to hb10)
  replace RY := Lib.hid (RY.out.to hb10)
  replace BZ := Lib.hid (BZ.out.trans (hb10.mono BZ.out.size))
  have hz10 := hb10.size
  clear hb10 kr2
  go_upto_region 7 with (refine wpList_store_var rfl 41 (.tmp 13) (.tmp 73) rfl w10.heap.size _ (cmdL Y) 5 rfl rfl (heap_alloc_new w10 _) size_cmdw rfl rfl (cmdL_onew Y) ?_; intro w_11 r_11 k_11; have RZ := Lib.hid r_11; have HB_11 : Hid (Below w10.heap.size w10 w_11) := Lib.hid (k_11.to (bel_alloc (Below.refl _ _) _) (Nat.le_refl _)); clear r_11 k_11)
  replace RI := Lib.hid (RI.out.to HB_11.out)
  replace IO0 := Lib.hid (IO0.out.to HB_11.out)
  replace RY := Lib.hid (RY.out.to HB_11.out)
  replace BZ := Lib.hid (BZ.out.trans (HB_11.out.mono BZ.out.size))
  have hz11 := HB_11.out.size
  obtain ⟨gZ, hgZ⟩ : ∃ gZ, w10.heap.size = gZ := ⟨_, rfl⟩
  rw [hgZ] at RZ ⊢
  clear HB_11 hgZ
  try simp only [Act.put]
  have kne := cmd_neq Y
  have hFF : (F != F) = false := by simp
  have k5 := Lib.hid (fun W (x y : Nat) (hx : Sq u16w W W.heap.size (some ⟨x, 0, none⟩) (wd Y)) (hy : Sq u16w W W.heap.size (some ⟨y, 0, none⟩) (wd Y)) => lowWords_any (some ⟨x, 0, none⟩) (some ⟨y, 0, none⟩) (wd Y) (wd Y) 8 8 8 8 true W rfl rfl hx hy (by show 8 ≤ _; decide) (by simp))
  refine wp_region_held_drew (S := (fun w' => RowAt w' gY 41 (cmdL Y) ∧ RowAt w' gZ 41 (cmdL Y))) (by kernel_rfl) ?_ (fun hHeld => ?_)
  · exact ⟨RY.out, RZ.out⟩
  refine takeD (i := 0) (oi := _) (v := _) (d := some 75) rfl (by kernel_rfl) (by kernel_rfl) (by kernel_rfl) (by kernel_rfl) (fun _ _ _ h => h) (yieldsIf_load_mid (by kernel_rfl) 41 (.tmp 11) (by kernel_rfl) gY 0 (by kernel_rfl) (cmdL Y) _ (fun W h => h.1.all) Try.underlying41 rfl size_cmdw) (by assumption) ?_
  try simp only [Act.put, List.setIfInBounds_toArray, List.set_cons_zero, List.set_cons_succ]
  refine takeD (i := 1) (oi := _) (v := _) (d := some 76) rfl (by kernel_rfl) (by kernel_rfl) (by kernel_rfl) (by kernel_rfl) (fun _ _ _ h => h) (yieldsIf_load_mid (by kernel_rfl) 41 (.tmp 13) (by kernel_rfl) gZ 0 (by kernel_rfl) (cmdL Y) _ (fun W h => h.2.all) Try.underlying41 rfl size_cmdw) (by assumption) ?_
  try simp only [Act.put, List.setIfInBounds_toArray, List.set_cons_zero, List.set_cons_succ]
  refine takeD (i := 2) (oi := _) (v := ?vv5) (d := some 77) rfl (by kernel_rfl) (by kernel_rfl) (by kernel_rfl) (by kernel_rfl) (fun _ _ _ h => h) (Or.inl ⟨by kernel_rfl, ?_⟩) (by assumption) ?_
  rotate_left 1
  · intro W_ hSw; (try dsimp only at hSw); go_simp; (first | done | with_reducible rfl)
  try simp only [Act.put, List.setIfInBounds_toArray, List.set_cons_zero, List.set_cons_succ]
  refine takeD (i := 3) (oi := _) (v := ?vv6) (d := some 78) rfl (by kernel_rfl) (by kernel_rfl) (by kernel_rfl) (by kernel_rfl) (fun _ _ _ h => h) (Or.inl ⟨by kernel_rfl, ?_⟩) (by assumption) ?_
  rotate_left 1
  · intro W_ hSw; (try dsimp only at hSw); go_simp; (first | done | with_reducible rfl)
  try simp only [Act.put, List.setIfInBounds_toArray, List.set_cons_zero, List.set_cons_succ]
  refine takeD (i := 4) (oi := _) (v := ?vv7) (d := some 79) rfl (by kernel_rfl) (by kernel_rfl) (by kernel_rfl) (by kernel_rfl) (fun _ _ _ h => h) (Or.inl ⟨by kernel_rfl, ?_⟩) (by assumption) ?_
  rotate_left 1
  · intro W_ hSw; (try dsimp only at hSw); go_simp; (first | done | with_reducible rfl)
  try simp only [Act.put, List.setIfInBounds_toArray, List.set_cons_zero, List.set_cons_succ]
  refine takeD (i := 5) (oi := _) (v := ?vv8) (d := some 80) rfl (by kernel_rfl) (by kernel_rfl) (by kernel_rfl) (by kernel_rfl) (fun _ _ _ h => h) (Or.inl ⟨by kernel_rfl, ?_⟩) (by assumption) ?_
  rotate_left 1
  · intro W_ hSw; (try dsimp only at hSw); go_simp; (first | done | with_reducible rfl)
  try simp only [Act.put, List.setIfInBounds_toArray, List.set_cons_zero, List.set_cons_succ]
  refine takeD (i := 6) (oi := _) (v := ?vv9) (d := some 81) rfl (by kernel_rfl) (by kernel_rfl) (by kernel_rfl) (by kernel_rfl) (fun _ _ _ h => h) (Or.inl ⟨by kernel_rfl, ?_⟩) (by assumption) ?_
  rotate_left 1
  · intro W_ hSw; (try dsimp only at hSw); go_simp; (first | done | with_reducible rfl)
  try simp only [Act.put, List.setIfInBounds_toArray, List.set_cons_zero, List.set_cons_succ]
  refine takeD (i := 7) (oi := _) (v := ?vv10) (d := some 82) rfl (by kernel_rfl) (by kernel_rfl) (by kernel_rfl) (by kernel_rfl) (fun _ _ _ h => h) (Or.inl ⟨by kernel_rfl, ?_⟩) (by assumption) ?_
  rotate_left 1
  · intro W_ hSw; (try dsimp only at hSw); go_simp; (first | done | with_reducible rfl)
  try simp only [Act.put, List.setIfInBounds_toArray, List.set_cons_zero, List.set_cons_succ]
  refine takeD (i := 8) (oi := _) (v := ?vv11) (d := some 83) rfl (by kernel_rfl) (by kernel_rfl) (by kernel_rfl) (by kernel_rfl) (fun _ _ _ h => h) (Or.inl ⟨by kernel_rfl, ?_⟩) (by assumption) ?_
  rotate_left 1
  · intro W_ hSw; (try dsimp only at hSw); go_simp; (first | done | with_reducible rfl)
  try simp only [Act.put, List.setIfInBounds_toArray, List.set_cons_zero, List.set_cons_succ]
  refine takeD (i := 9) (oi := _) (v := _) (d := some 84) rfl (by kernel_rfl) (by kernel_rfl) (by kernel_rfl) (by kernel_rfl) (fun _ _ _ h => h) (yieldsIf_load_mid (by kernel_rfl) 41 (.tmp 11) (by kernel_rfl) gY 0 (by kernel_rfl) (cmdL Y) _ (fun W h => h.1.all) Try.underlying41 rfl size_cmdw) (by assumption) ?_
  try simp only [Act.put, List.setIfInBounds_toArray, List.set_cons_zero, List.set_cons_succ]
  refine takeD (i := 11) (oi := _) (v := _) (d := some 86) rfl (by kernel_rfl) (by kernel_rfl) (by kernel_rfl) (by kernel_rfl) (fun _ _ _ h => h) (yieldsIf_load_mid (by kernel_rfl) 41 (.tmp 11) (by kernel_rfl) gY 0 (by kernel_rfl) (cmdL Y) _ (fun W h => h.1.all) Try.underlying41 rfl size_cmdw) (by assumption) ?_
  try simp only [Act.put, List.setIfInBounds_toArray, List.set_cons_zero, List.set_cons_succ]
  refine wpAnyH_ready (rs := [10]) (by kernel_rfl) (by simp) ?_
  refine AllReadyH.cons (o := _) rfl (fun K hK => ?_) AllReadyH.nil
  go_simp
  (go_at_call 24; (with_reducible refine (words_any Y HYF.out _).mono ?_); rintro e_ w12 ⟨hb12, x12, hn12, rfl, sq12⟩; have hx12 : Below w_11.heap.size w_11 w12 := (Below.refl _ _).drew.trans (hb12.mono (Nat.le_refl _)))
  go_wp2_with fail
  refine hK.out _ _ ?_ (fun hHeld => ?_)
  · exact ⟨RY.out.to hx12, RZ.out.to hx12⟩
  clear hK K
  try simp only [Act.put, List.setIfInBounds_toArray, List.set_cons_zero, List.set_cons_succ]
  refine wpAnyH_ready (rs := [12]) (by kernel_rfl) (by simp) ?_
  refine AllReadyH.cons (o := _) rfl (fun K hK => ?_) AllReadyH.nil
  go_simp
  (go_at_call 25; (with_reducible refine (rwords_any Y HYF.out _).mono ?_); rintro e_ w13 ⟨hb13, x13, hn13, rfl, sq13⟩; have hx13 : Below w_11.heap.size w_11 w13 := hx12.trans (hb13.mono hx12.size))
  go_wp2_with fail
  refine hK.out _ _ ?_ (fun hHeld => ?_)
  · exact ⟨RY.out.to hx13, RZ.out.to hx13⟩
  clear hK K
  try simp only [Act.put, List.setIfInBounds_toArray, List.set_cons_zero, List.set_cons_succ]
  refine wpAnyH_ready (rs := [13]) (by kernel_rfl) (by simp) ?_
  refine AllReadyH.cons (o := _) rfl (fun K hK => ?_) AllReadyH.nil
  go_simp
  (go_at_call 15; (with_reducible refine (k5.out _ _ _ ((sq12.below hb13).more hb13.size) sq13).mono ?_); rintro e_ w14 ⟨rfl, hb14⟩; have hx14 : Below w_11.heap.size w_11 w14 := hx13.trans (hb14.mono hx13.size))
  go_wp2_with fail
  refine hK.out _ _ ?_ (fun hHeld => ?_)
  · exact ⟨RY.out.to hx14, RZ.out.to hx14⟩
  clear hK K
  try simp only [Act.put, List.setIfInBounds_toArray, List.set_cons_zero, List.set_cons_succ]
  refine takeD (i := 14) (oi := _) (v := ?vv12) (d := some 89) rfl (by kernel_rfl) (by kernel_rfl) (by kernel_rfl) (by kernel_rfl) (fun _ _ _ h => h) (Or.inl ⟨by kernel_rfl, ?_⟩) (by assumption) ?_
  rotate_left 1
  · intro W_ hSw; (try dsimp only at hSw); go_simp; (first | done | with_reducible rfl)
  try simp only [Act.put, List.setIfInBounds_toArray, List.set_cons_zero, List.set_cons_succ]
  refine takeD (i := 15) (oi := _) (v := ?vv13) (d := some 90) rfl (by kernel_rfl) (by kernel_rfl) (by kernel_rfl) (by kernel_rfl) (fun _ _ _ h => h) (Or.inl ⟨by kernel_rfl, ?_⟩) (by assumption) ?_
  rotate_left 1
  · intro W_ hSw; (try dsimp only at hSw); go_simp; (first | done | with_reducible rfl)
  try simp only [Act.put, List.setIfInBounds_toArray, List.set_cons_zero, List.set_cons_succ]
  refine wpAnyH_done (by kernel_rfl) ?_ _
  replace RI := Lib.hid (RI.out.to hx14)
  replace IO0 := Lib.hid (IO0.out.to hx14)
  replace BZ := Lib.hid (BZ.out.trans (hx14.mono BZ.out.size))
  have hz14 := hx14.size
  clear hx12 hx13 hx14 hb12 hb13 hb14 sq12 sq13 hn12 hn13 k5 kne hFF RY RZ HYF
  -- New
  obtain ⟨⟨G, E⟩, hG⟩ : ∃ y, newR bs tk = y := ⟨_, rfl⟩
  have kn1 : Hid (∀ W, Below w.heap.size w W → Calls Try.prog 26 #[.slice Ab nb cb, .int .i64 tk] W (AgEE W (G, E))) := Lib.hid (fun W hW => by rw [← hG]; exact agnew_any Ab cb nb bs tk W ((SB.out.below hW).more hW.size) HBL.out HNB.out (by rw [HBL.out]; omega) HUB.out HT.out)
  have kn2 : Hid (∀ W, Below w.heap.size w W → Calls Try.prog 27 #[.slice Ab nb cb, .int .i64 tk] W (AgEE W (G, E))) := Lib.hid (fun W hW => by rw [← hG]; exact rnew_any nb bs tk W ((SB.out.below hW).more hW.size) HBL.out HNB.out (by rw [HBL.out]; omega) HUB.out HT.out)
  have HGR : Hid (E = 0 → G.right) := Lib.hid (fun h => by have := newR_zero (bank := bs) (tk := tk) (by rw [hG]; exact h); rw [hG] at this; exact this)
  clear hG
  go_wp2_with fail
  with_reducible refine (kn1.out _ BZ.out).mono ?_
  rintro e15 w15 ⟨A1, c1, s1, rfl, i1, hb15⟩
  have HC1 := Lib.hid i1.C32
  have I1 := Lib.hid (i1.more (base' := w14.heap.size) (Nat.le_refl _))
  replace RI := Lib.hid (RI.out.to hb15)
  replace IO0 := Lib.hid (IO0.out.to hb15)
  replace BZ := Lib.hid (BZ.out.trans (hb15.mono BZ.out.size))
  have hz15 := hb15.size
  clear i1 hb15 kn1
  go_upto_region 10 with (refine wpList_store_var rfl 35 (.tmp 15) (.tmp 95) rfl w15.heap.size (agC none 0 Stv.zero Ag0) (agC A1 c1 s1 G) 32 rfl rfl (new_agent w15) size_32 rfl HC1.out (agC_one _) ?_; intro w_3 r_3 k_3; have R_3 := Lib.hid r_3; have HB_3 : Hid (Below w15.heap.size w15 w_3) := Lib.hid (k_3.to (bel_alloc (Below.refl _ _) (.cells z32 35)) (Nat.le_refl _)); clear r_3 k_3)
  have OA1 : Hid (∀ b, w15.heap.size ≤ b → AgOff b A1 s1 G) := Lib.hid (fun b hb => I1.out.off (.inr hb))
  replace RI := Lib.hid (RI.out.to HB_3.out)
  replace IO0 := Lib.hid (IO0.out.to HB_3.out)
  replace I1 := Lib.hid (I1.out.to HB_3.out)
  replace BZ := Lib.hid (BZ.out.trans (HB_3.out.mono BZ.out.size))
  have hz16 := HB_3.out.size
  have ltA := R_3.out.lt
  obtain ⟨gA, hgA⟩ : ∃ gA, w15.heap.size = gA := ⟨_, rfl⟩
  have hwA : w.heap.size < gA := by omega
  have RA := R_3
  rw [hgA] at RA OA1 ltA ⊢
  clear HB_3 R_3 hz8 hz9 hz10 hz11 hz14 hz2 hwY
  try simp only [Act.put]
  go_wp2_with fail
  with_reducible refine (kn2.out _ BZ.out).mono ?_
  rintro e17 w17 ⟨A2, c2, s2, rfl, i2, hb17⟩
  have HC2 := Lib.hid i2.C32
  have I2 := Lib.hid i2
  replace RI := Lib.hid (RI.out.to hb17)
  replace IO0 := Lib.hid (IO0.out.to hb17)
  replace I1 := Lib.hid (I1.out.to hb17)
  replace RA := Lib.hid (RA.out.to hb17)
  replace BZ := Lib.hid (BZ.out.trans (hb17.mono BZ.out.size))
  have hz17 := hb17.size
  clear i2 hb17 kn2
  go_upto_region 11 with (refine wpList_store_var rfl 35 (.tmp 17) (.tmp 101) rfl w17.heap.size (agC none 0 Stv.zero Ag0) (agC A2 c2 s2 G) 32 rfl rfl (new_agent w17) size_32 rfl HC2.out (agC_one _) ?_; intro w_4 r_4 k_4; have R_4 := Lib.hid r_4; have HB_4 : Hid (Below w17.heap.size w17 w_4) := Lib.hid (k_4.to (bel_alloc (Below.refl _ _) (.cells z32 35)) (Nat.le_refl _)); clear r_4 k_4)
  have OB2 : Hid (AgOff gA A2 s2 G ∧ ∀ b, w17.heap.size ≤ b → AgOff b A2 s2 G) := Lib.hid ⟨I2.out.off (.inl ltA), fun b hb => I2.out.off (.inr hb)⟩
  replace RI := Lib.hid (RI.out.to HB_4.out)
  replace IO0 := Lib.hid (IO0.out.to HB_4.out)
  replace I1 := Lib.hid (I1.out.to HB_4.out)
  replace I2 := Lib.hid (I2.out.to HB_4.out)
  replace RA := Lib.hid (RA.out.to HB_4.out)
  replace BZ := Lib.hid (BZ.out.trans (HB_4.out.mono BZ.out.size))
  have hz18 := HB_4.out.size
  obtain ⟨gB, hgB⟩ : ∃ gB, w17.heap.size = gB := ⟨_, rfl⟩
  have hAB : gA < gB := by omega
  have RB := R_4
  rw [hgB] at RB OB2 ⊢
  clear HB_4 R_4 hgB hgA hz15 hz16 hz17 hz18
  try simp only [Act.put]
  rename World => w18
  have hEE : (E != E) = false := by simp
  have k2 := Lib.hid (fun W (hW : Below w18.heap.size w18 W) => ragright_any r W (IO0.out.to hW) HR0.out)
  go_wp2_with (refine wpList_load_var rfl 35 (.tmp 8) rfl w.heap.size rfl _ _ 32 RI.out Try.underlying35 rfl size_32 HCO.out ?_)
  with_reducible refine (k2.out _ (Below.refl _ _)).mono ?_
  rintro e19 w19 ⟨rfl, hb19⟩
  replace RI := Lib.hid (RI.out.to hb19)
  replace IO0 := Lib.hid (IO0.out.to hb19)
  replace I1 := Lib.hid (I1.out.to hb19)
  replace I2 := Lib.hid (I2.out.to hb19)
  replace RA := Lib.hid (RA.out.to hb19)
  replace RB := Lib.hid (RB.out.to hb19)
  replace BZ := Lib.hid (BZ.out.trans (hb19.mono BZ.out.size))
  clear hb19 k2 hEE
  go_upto_if 107 with fail
  go_cut [16] (fun x wx => ∃ E2 : Int, x = .int .i64 E2 ∧ Hid (Below w.heap.size w wx) ∧ Hid (E2 = 0 → ∃ (g : Ag) (Ax : Option Addr) (cx : Nat) (sx : Stv) (Ay : Option Addr) (cy : Nat) (sy : Stv), TT w gA gB g Ax cx sx Ay cy sy wx))
  case first =>
    cases r
    · go_wp2
      go_meet
      case rel => exact ⟨E, rfl, BZ, Lib.hid (fun h => ⟨G, A1, c1, s1, A2, c2, s2, HGR.out h, RA.out, I1.out.more (Nat.zero_le _), OA1.out _ (Nat.le_refl _), OA1.out _ (by omega), ⟨RB.out, I2.out.more (Nat.zero_le _), OB2.out.1, OB2.out.2 _ (Nat.le_refl _)⟩, BZ.out⟩)⟩
    · have hr0 := HR0.out.1 rfl
      have HRR := Lib.hid hr0
      clear hr0
      go_upto_region 14 with fail
      refine wp_region_held_drew (S := (fun w' => RowAt w' w.heap.size 35 (agC Ao co so g0))) (by kernel_rfl) ?_ (fun hHeld => ?_)
      · exact RI.out
      refine takeD (i := 0) (oi := _) (v := _) (d := some 108) rfl (by kernel_rfl) (by kernel_rfl) (by kernel_rfl) (by kernel_rfl) (fun _ _ _ h => h) (yieldsIf_load_mid (by kernel_rfl) 35 (.tmp 8) (by kernel_rfl) w.heap.size 0 (by kernel_rfl) (agC Ao co so g0) _ (fun W h => h.all) Try.underlying35 rfl (by rw [size_32, HCO.out])) (by assumption) ?_
      try simp only [Act.put, List.setIfInBounds_toArray, List.set_cons_zero, List.set_cons_succ]
      refine takeD (i := 1) (oi := _) (v := _) (d := some 109) rfl (by kernel_rfl) (by kernel_rfl) (by kernel_rfl) (by kernel_rfl) (fun _ _ _ h => h) (yieldsIf_load_mid (by kernel_rfl) 35 (.tmp 8) (by kernel_rfl) w.heap.size 0 (by kernel_rfl) (agC Ao co so g0) _ (fun W h => h.all) Try.underlying35 rfl (by rw [size_32, HCO.out])) (by assumption) ?_
      try simp only [Act.put, List.setIfInBounds_toArray, List.set_cons_zero, List.set_cons_succ]
      refine wpAnyH_ready (rs := [2]) (by kernel_rfl) (by simp) ?_
      refine AllReadyH.cons (o := _) rfl (fun K hK => ?_) AllReadyH.nil
      (refine step_store_var rfl 35 (.tmp 15) (.tmp 108) rfl gA _ (agC Ao co so g0) 32 rfl rfl RA.out.drew size_32 HC1.out HCO.out (agC_one _) ?_)
      intro w5 r5 k5
      go_simp
      refine hK.out _ _ ?_ (fun hHeld => ?_)
      · exact RI.out.drew.only k5 (by omega)
      clear hK K
      try simp only [Act.put, List.setIfInBounds_toArray, List.set_cons_zero, List.set_cons_succ]
      refine wpAnyH_ready (rs := [3]) (by kernel_rfl) (by simp) ?_
      refine AllReadyH.cons (o := _) rfl (fun K hK => ?_) AllReadyH.nil
      (refine step_store_var rfl 35 (.tmp 17) (.tmp 109) rfl gB _ (agC Ao co so g0) 32 rfl rfl (RB.out.drew.only k5 (by omega)) size_32 HC2.out HCO.out (agC_one _) ?_)
      intro w6 r6 k6
      go_simp
      refine hK.out _ _ ?_ (fun hHeld => ?_)
      · exact (RI.out.drew.only k5 (by omega)).only k6 (by omega)
      clear hK K
      try simp only [Act.put, List.setIfInBounds_toArray, List.set_cons_zero, List.set_cons_succ]
      refine takeD (i := 4) (oi := _) (v := ?vv14) (d := some 16) rfl (by kernel_rfl) (by kernel_rfl) (by kernel_rfl) (by kernel_rfl) (fun _ _ _ h => h) (Or.inl ⟨by kernel_rfl, ?_⟩) (by assumption) ?_
      rotate_left 1
      · intro W_ hSw; (try dsimp only at hSw); go_simp; (first | done | with_reducible rfl)
      try simp only [Act.put, List.setIfInBounds_toArray, List.set_cons_zero, List.set_cons_succ]
      refine wpAnyH_done (by kernel_rfl) ?_ _
      have i5 := (IO0.out.to (Below.refl _ _).drew).onlyO k5 (OFF0.out _ (by omega))
      have i6 := i5.onlyO k6 (OFF0.out _ (by omega))
      have b6 := k6.to (k5.to (BZ.out.trans (Below.refl _ _).drew) (by omega)) (by omega)
      have T6 : Hid (TT w gA gB g0 Ao co so Ao co so w6) := Lib.hid ⟨HRR.out, r5.only k6 (by omega), i6, OFF0.out _ (by omega), OFF0.out _ (by omega), ⟨r6, i6, OFF0.out _ (by omega), OFF0.out _ (by omega)⟩, b6⟩
      have BZ6 := Lib.hid b6
      clear i5 i6 b6 k5 k6 r5 r6
      go_wp2
      go_meet
      case rel => exact ⟨0, rfl, BZ6, Lib.hid (fun _ => ⟨g0, Ao, co, so, Ao, co, so, T6.out⟩)⟩
  case rest =>
  obtain ⟨E2, rfl, BZ2, HTT⟩ := hcut
  replace BZ := BZ2
  clear BZ2 RI IO0 I1 I2 RA RB OA1 OB2 HGR HC1 HC2 HR0
  by_cases h5 : E2 = 0
  rotate_left
  · have u5 : (E2 != 0) = true := bne_iff_ne.2 h5
    clear h5
    go_wp2_with fail
    with_reducible refine (awake20_any _).mono ?_
    rintro e3 w3 ⟨rfl, hq3⟩
    have BZ3 := Lib.hid (BZ.out.trans (hq3.mono BZ.out.size))
    clear hq3
    go_wp2
    go_ret
    exact ⟨rfl, BZ3.out⟩
  have u5 : (E2 != 0) = false := by simp [h5]
  have HTT2 := Lib.hid (HTT.out h5)
  clear h5 HTT
  obtain ⟨g, Ax, cx, sx, Ay, cy, sy, T⟩ := HTT2.out
  have HT0 := Lib.hid T
  clear T HTT2 OFF0 HO HCO SB HUB HNB HBL HNO HT HB2
  go_wp2
  clear u5
  go_loopw [115] (fun i wr => ∃ (k : Nat) (g : Ag) (Aa : Option Addr) (ca : Nat) (sa : Stv) (Ab_ : Option Addr) (cb_ : Nat) (sb : Stv), k ≤ N ∧ i = .int .i64 (k : Int) ∧ Hid (TT w gA gB g Aa ca sa Ab_ cb_ sb wr)) (fun i _ => N - (intOf i).toNat)
  case atStart => exact ⟨0, g, Ax, cx, sx, Ay, cy, sy, by omega, rfl, HT0⟩
  case round =>
    rename World => wr
    clear HT0 BZ
    obtain ⟨k, g, Aa, ca, sa, A9, c9, s9, hk, rfl, TT0⟩ := hrel
    by_cases hlt : k < N
    rotate_left
    · obtain rfl : k = N := by omega
      have BZ := Lib.hid TT0.out.bk
      go_wp2_with fail
      with_reducible refine (awake20_any _).mono ?_
      rintro e3 w3 ⟨rfl, hq3⟩
      have BZ3 := Lib.hid (BZ.out.trans (hq3.mono BZ.out.size))
      clear hq3
      go_wp2
      go_ret
      exact ⟨rfl, BZ3.out⟩
    have hltI : (k : Int) < (N : Int) := by omega
    have h0I : (0 : Int) ≤ (k : Int) := by omega
    have HCA := Lib.hid TT0.out.ia.C32
    have hlA := TT0.out.ra.lt
    have hlB := TT0.out.b.rb.lt
    obtain ⟨go, oo, v, rfl, hgo, hv, hok, hrg⟩ := (OPS.out.to TT0.out.bk).at_ (k := k) (by rw [HLN.out]; exact hlt)
    have HG := Lib.hid hrg
    have HOK := Lib.hid hok
    clear hv hok hrg hgo
    go_upto_region 20 with (first | (refine wpList_load_mid rfl 43 (.tmp 117) rfl go (oo + k * 10) rfl (opL v) _ HG.out Try.underlying43 rfl (by rw [size_op]; rfl) ?_) | (refine wpList_store_var rfl 43 (.tmp 20) (.tmp 118) rfl wr.heap.size _ (opL v) 10 rfl rfl (heap_alloc_new wr _) size_op rfl rfl (opL_one v) ?_; intro w_5 r_5 k_5; have RO := Lib.hid r_5; have HB_5 : Hid (Below wr.heap.size wr w_5) := Lib.hid (k_5.to (bel_alloc (Below.refl _ _) _) (Nat.le_refl _)); clear r_5 k_5))
    replace TT0 := Lib.hid (TT0.out.to HB_5.out)
    replace HOK := Lib.hid (HOK.out.to HB_5.out)
    obtain ⟨gO, hgO⟩ : ∃ gO, wr.heap.size = gO := ⟨_, rfl⟩
    have hAO : gA < gO := by omega
    have hBO : gB < gO := by omega
    have hlO := RO.out.lt
    rw [hgO] at RO hlO ⊢
    clear HB_5 hgO hlA hlB
    try simp only [Act.put]
    have RA := Lib.hid TT0.out.ra
    have kc := Lib.hid (rcopy_any w_5 TT0.out.ia)
    go_wp2_with (refine wpList_load_var rfl 35 (.tmp 15) rfl (gA) rfl _ _ 32 RA.out Try.underlying35 rfl size_32 HCA.out ?_)
    with_reducible refine (kc.out).mono ?_
    rintro e6 w6 ⟨Aq, cq, sq, rfl, iw, hb6⟩
    have IW := Lib.hid iw
    have HCW := Lib.hid iw.C32
    replace TT0 := Lib.hid (TT0.out.to hb6)
    replace HOK := Lib.hid (HOK.out.to hb6)
    replace RO := Lib.hid (RO.out.to hb6)
    have hz6 := hb6.size
    clear iw hb6 kc RA
    go_upto_region 21 with (refine wpList_store_var rfl 35 (.tmp 21) (.tmp 120) rfl w6.heap.size (agC none 0 Stv.zero Ag0) (agC Aq cq sq g) 32 rfl rfl (new_agent w6) size_32 rfl HCW.out (agC_one _) ?_; intro w_7 r_7 k_7; have R_7 := Lib.hid r_7; have HB_7 : Hid (Below w6.heap.size w6 w_7) := Lib.hid (k_7.to (bel_alloc (Below.refl _ _) (.cells z32 35)) (Nat.le_refl _)); clear r_7 k_7)
    replace TT0 := Lib.hid (TT0.out.to HB_7.out)
    replace HOK := Lib.hid (HOK.out.to HB_7.out)
    replace RO := Lib.hid (RO.out.to HB_7.out)
    replace IW := Lib.hid (IW.out.to HB_7.out)
    have hlW := R_7.out.lt
    obtain ⟨gW, hgW⟩ : ∃ gW, w6.heap.size = gW := ⟨_, rfl⟩
    have hOW : gO < gW := by omega
    have RW := R_7
    rw [hgW] at RW hlW ⊢
    have OWB : Hid (AgOff gB Aq sq g) := Lib.hid (IW.out.off (.inl (by omega)))
    clear HB_7 R_7 hgW hz6
    try simp only [Act.put]
    obtain ⟨⟨gn, E⟩, hX⟩ : ∃ XX, v.op.does g = XX := ⟨_, rfl⟩
    have kd := Lib.hid (does_any w_7 TT0.out.ia TT0.out.r v HOK.out)
    rw [hX] at kd
    have HX := Lib.hid hX
    have HRN : Hid gn.right := Lib.hid (by have := AOp.does_right v.op TT0.out.r TT0.out.ia.S8; rw [hX] at this; exact this)
    clear hX
    have RA := Lib.hid TT0.out.ra
    go_wp2_with (first | (refine wpList_load_var rfl 35 (.tmp 15) rfl (gA) rfl _ _ 32 RA.out Try.underlying35 rfl size_32 HCA.out ?_) | (refine wpList_load_var rfl 43 (.tmp 20) rfl gO rfl _ _ 10 RO.out Try.underlying43 rfl size_op rfl ?_))
    with_reducible refine (kd.out).mono ?_
    rintro e8 w8 ⟨A8, c8, s8, rfl, i8, of8, hb8⟩
    have IN := Lib.hid i8
    have HCN := Lib.hid i8.C32
    have OFA := Lib.hid (of8 gA (by omega) TT0.out.oa)
    have OFB := Lib.hid (of8 gB (by omega) TT0.out.ob)
    replace TT0 := Lib.hid (TT0.out.to hb8)
    replace HOK := Lib.hid (HOK.out.to hb8)
    replace RO := Lib.hid (RO.out.to hb8)
    replace IW := Lib.hid (IW.out.to hb8)
    replace RW := Lib.hid (RW.out.to hb8)
    have hz8 := hb8.size
    clear i8 of8 hb8 kd RA
    go_upto_region 22 with (refine wpList_store_var rfl 35 (.tmp 22) (.tmp 125) rfl w8.heap.size (agC none 0 Stv.zero Ag0) (agC A8 c8 s8 gn) 32 rfl rfl (new_agent w8) size_32 rfl HCN.out (agC_one _) ?_; intro w_9 r_9 k_9; have R_9 := Lib.hid r_9; have HB_9 : Hid (Below w8.heap.size w8 w_9) := Lib.hid (k_9.to (bel_alloc (Below.refl _ _) (.cells z32 35)) (Nat.le_refl _)); clear r_9 k_9)
    replace TT0 := Lib.hid (TT0.out.to HB_9.out)
    replace HOK := Lib.hid (HOK.out.to HB_9.out)
    replace RO := Lib.hid (RO.out.to HB_9.out)
    replace IW := Lib.hid (IW.out.to HB_9.out)
    replace RW := Lib.hid (RW.out.to HB_9.out)
    replace IN := Lib.hid (IN.out.to HB_9.out)
    obtain ⟨gN, hgN⟩ : ∃ gN, w8.heap.size = gN := ⟨_, rfl⟩
    have hWN : gW < gN := by omega
    have RN := R_9
    rw [hgN] at RN ⊢
    clear HB_9 R_9 hgN hz8 hlW hlO
    try simp only [Act.put]
    rename World => w9
    have TS0 : Hid (TS w gA gW gN gO g gn Aa ca sa Aq cq sq A8 c8 s8 v w9) := Lib.hid ⟨TT0.out.ra, RW.out, RN.out, RO.out, TT0.out.ia, IW.out.more (Nat.zero_le _), IN.out, TT0.out.bk⟩
    have TF : Hid (TOff w gA gB gW gN gO g gn Aa sa Aq sq A8 s8) := Lib.hid ⟨by omega, by omega, by omega, by omega, TT0.out.ob, OWB.out, OFB.out, by omega⟩
    have TB0 := Lib.hid TT0.out.b
    have HR := Lib.hid TT0.out.r
    clear TT0 RW RN RO IW IN OWB OFB
    have c0 : w9.cell? ⟨gO, 0, none⟩ = some (.int .u8 (v.what : Int)) := TS0.out.ro.cells 0
    obtain ⟨m, hm⟩ : ∃ m, v.what % 4 = m := ⟨_, rfl⟩
    have hmI : (v.what : Int) % 4 = (m : Int) := by omega
    have hm4 : m < 4 := by omega
    have HM := Lib.hid hm
    have HC9 := Lib.hid TB0.out.ib.C32
    have HCO := HC9
    clear hm
    go_upto_block 2 with fail
    rw [hmI]
    clear hmI c0
    go_cut [24] (fun x wx => ∃ (A' : Option Addr) (c' : Nat) (s' : Stv), x = .int .i64 E ∧ Hid (TB gA gB A' c' s' gn wx) ∧ Hid (TS w gA gW gN gO g gn Aa ca sa Aq cq sq A8 c8 s8 v wx))
    case first =>
      have ltB := TB0.out.rb.lt
      by_cases h0 : m = 0
      · have u0 : ((m : Int) == 0) = true := by simp [h0]
        have hd : g.doit (v.op.cmd g) = (gn, E) := by
          rw [← HX.out]; unfold AOp.does; exact (if_pos (show v.op.what % 4 = 0 from HM.out.trans h0)).symm
        have HQF := Lib.hid (TB0.out.ib.cmd_fit HOK.out)
        have kcm := Lib.hid (fun W (hW : Below w9.heap.size w9 W) => command_any W (TB0.out.ib.to hW) v (HOK.out.to hW))
        have kdo := Lib.hid (fun W (hW : Below w9.heap.size w9 W) => rdo_any W (TB0.out.ib.to hW) HR.out (v.op.cmd g) HQF.out)
        rw [hd] at kdo
        obtain ⟨Q, hQ⟩ : ∃ Q, v.op.cmd g = Q := ⟨_, rfl⟩
        rw [hQ] at kcm kdo
        clear hd hQ HQF h0
        go_upto_region 26 with fail
        have RBD := Lib.hid TB0.out.rb.drew
        refine wp_region_held_drew (S := (fun w' => RowAt w' gO 43 (opL v))) (by kernel_rfl) ?_ (fun hHeld => ?_)
        · exact TS0.out.ro
        refine takeD (i := 1) (oi := _) (v := _) (d := some 136) rfl (by kernel_rfl) (by kernel_rfl) (by kernel_rfl) (by kernel_rfl) (fun _ _ _ h => h) (yieldsIf_load_mid (by kernel_rfl) 43 (.tmp 20) (by kernel_rfl) gO 0 (by kernel_rfl) (opL v) _ (fun W h => h.all) Try.underlying43 rfl (by rw [size_op]; rfl)) (by assumption) ?_
        try simp only [Act.put, List.setIfInBounds_toArray, List.set_cons_zero, List.set_cons_succ]
        refine wpAnyH_ready (rs := [0, 2]) (by kernel_rfl) (by simp) ?_
        refine AllReadyH.cons (o := _) rfl (fun K hK => ?_) (AllReadyH.cons (o := _) rfl (fun K hK => ?_) AllReadyH.nil)
        · (refine step_load_var rfl 35 (.tmp 17) rfl gB rfl _ _ 32 RBD.out Try.underlying35 rfl size_32 HC9.out ?_)
          refine hK.out _ _ hHeld (fun hHeld => ?_)
          clear hK K
          try simp only [Act.put, List.setIfInBounds_toArray, List.set_cons_zero, List.set_cons_succ]
          refine wpAnyH_ready (rs := [2]) (by kernel_rfl) (by simp) ?_
          refine AllReadyH.cons (o := _) rfl (fun K hK => ?_) AllReadyH.nil
          (refine step_load_var rfl 35 (.tmp 17) rfl gB rfl _ _ 32 RBD.out Try.underlying35 rfl size_32 HC9.out ?_)
          refine hK.out _ _ hHeld (fun hHeld => ?_)
          clear hK K
          try simp only [Act.put, List.setIfInBounds_toArray, List.set_cons_zero, List.set_cons_succ]
          refine wpAnyH_ready (rs := [3]) (by kernel_rfl) (by simp) ?_
          refine AllReadyH.cons (o := _) rfl (fun K hK => ?_) AllReadyH.nil
          go_simp
          (go_at_call 30; (with_reducible refine (kcm.out _ (Below.refl _ _).drew).mono ?_); rintro e_ w10 ⟨rfl, hb10⟩; have hx10 : Below w9.heap.size w9 w10 := (Below.refl _ _).drew.trans (hb10.mono (Nat.le_refl _)); have RBD := Lib.hid (TB0.out.rb.to hx10))
          go_wp2_with fail
          refine hK.out _ _ (TS0.out.ro.to hx10) (fun hHeld => ?_)
          clear hK K
          try simp only [Act.put, List.setIfInBounds_toArray, List.set_cons_zero, List.set_cons_succ]
          refine wpAnyH_ready (rs := [4]) (by kernel_rfl) (by simp) ?_
          refine AllReadyH.cons (o := _) rfl (fun K hK => ?_) AllReadyH.nil
          go_simp
          (go_at_call 29; (with_reducible refine (kdo.out _ hx10).mono ?_); rintro e_ w11 ⟨A', c', s', rfl, i11, hb11⟩; have hx11 : Below w9.heap.size w9 w11 := hx10.trans (hb11.mono hx10.size))
          go_wp2_with fail
          refine hK.out _ _ ?_ (fun hHeld => ?_)
          · exact TS0.out.ro.to hx11
          clear hK K
          try simp only [Act.put, List.setIfInBounds_toArray, List.set_cons_zero, List.set_cons_succ]
          refine takeD (i := 5) (oi := _) (v := ?vv15) (d := some 134) rfl (by kernel_rfl) (by kernel_rfl) (by kernel_rfl) (by kernel_rfl) (fun _ _ _ h => h) (Or.inl ⟨by kernel_rfl, ?_⟩) (by assumption) ?_
          rotate_left 1
          · intro W_ hSw; (try dsimp only at hSw); go_simp; (first | done | with_reducible rfl)
          try simp only [Act.put, List.setIfInBounds_toArray, List.set_cons_zero, List.set_cons_succ]
          refine takeD (i := 6) (oi := _) (v := ?vv16) (d := some 140) rfl (by kernel_rfl) (by kernel_rfl) (by kernel_rfl) (by kernel_rfl) (fun _ _ _ h => h) (Or.inl ⟨by kernel_rfl, ?_⟩) (by assumption) ?_
          rotate_left 1
          · intro W_ hSw; (try dsimp only at hSw); go_simp; (first | done | with_reducible rfl)
          try simp only [Act.put, List.setIfInBounds_toArray, List.set_cons_zero, List.set_cons_succ]
          refine takeD (i := 7) (oi := _) (v := ?vv17) (d := some 141) rfl (by kernel_rfl) (by kernel_rfl) (by kernel_rfl) (by kernel_rfl) (fun _ _ _ h => h) (Or.inl ⟨by kernel_rfl, ?_⟩) (by assumption) ?_
          rotate_left 1
          · intro W_ hSw; (try dsimp only at hSw); go_simp; (first | done | with_reducible rfl)
          try simp only [Act.put, List.setIfInBounds_toArray, List.set_cons_zero, List.set_cons_succ]
          refine wpAnyH_ready (rs := [8]) (by kernel_rfl) (by simp) ?_
          refine AllReadyH.cons (o := _) rfl (fun K hK => ?_) AllReadyH.nil
          (refine step_store_var rfl 35 (.tmp 17) (.tmp 140) rfl gB _ (agC A' c' s' gn) 32 rfl rfl (TB0.out.rb.to hx11) size_32 HC9.out i11.C32 (agC_one _) ?_)
          intro w12 r12 k12
          go_simp
          refine hK.out _ _ ?_ (fun hHeld => ?_)
          · exact (TS0.out.ro.to hx11).only k12 (by omega)
          clear hK K
          try simp only [Act.put, List.setIfInBounds_toArray, List.set_cons_zero, List.set_cons_succ]
          refine takeD (i := 9) (oi := _) (v := ?vv18) (d := some 24) rfl (by kernel_rfl) (by kernel_rfl) (by kernel_rfl) (by kernel_rfl) (fun _ _ _ h => h) (Or.inl ⟨by kernel_rfl, ?_⟩) (by assumption) ?_
          rotate_left 1
          · intro W_ hSw; (try dsimp only at hSw); go_simp; (first | done | with_reducible rfl)
          try simp only [Act.put, List.setIfInBounds_toArray, List.set_cons_zero, List.set_cons_succ]
          refine wpAnyH_done (by kernel_rfl) ?_ _
          have TB1 : Hid (TB gA gB A' c' s' gn w12) := Lib.hid (TB.of r12 k12 i11 (by have := hx10.size; omega) (by have := hx10.size; omega))
          have TS1 : Hid (TS w gA gW gN gO g gn Aa ca sa Aq cq sq A8 c8 s8 v w12) := Lib.hid ((TS0.out.to hx11).only k12 TF.out)
          clear r12 k12 i11 hx10 hx11 hb10 hb11
          go_wp2
          go_meet
          case rel => exact ⟨A', c', s', rfl, TB1, TS1⟩
        · (refine step_load_var rfl 35 (.tmp 17) rfl gB rfl _ _ 32 RBD.out Try.underlying35 rfl size_32 HC9.out ?_)
          refine hK.out _ _ hHeld (fun hHeld => ?_)
          clear hK K
          try simp only [Act.put, List.setIfInBounds_toArray, List.set_cons_zero, List.set_cons_succ]
          refine wpAnyH_ready (rs := [0, 3]) (by kernel_rfl) (by simp) ?_
          refine AllReadyH.cons (o := _) rfl (fun K hK => ?_) (AllReadyH.cons (o := _) rfl (fun K hK => ?_) AllReadyH.nil)
          · (refine step_load_var rfl 35 (.tmp 17) rfl gB rfl _ _ 32 RBD.out Try.underlying35 rfl size_32 HC9.out ?_)
            refine hK.out _ _ hHeld (fun hHeld => ?_)
            clear hK K
            try simp only [Act.put, List.setIfInBounds_toArray, List.set_cons_zero, List.set_cons_succ]
            refine wpAnyH_ready (rs := [3]) (by kernel_rfl) (by simp) ?_
            refine AllReadyH.cons (o := _) rfl (fun K hK => ?_) AllReadyH.nil
            go_simp
            (go_at_call 30; (with_reducible refine (kcm.out _ (Below.refl _ _).drew).mono ?_); rintro e_ w10 ⟨rfl, hb10⟩; have hx10 : Below w9.heap.size w9 w10 := (Below.refl _ _).drew.trans (hb10.mono (Nat.le_refl _)); have RBD := Lib.hid (TB0.out.rb.to hx10))
            go_wp2_with fail
            refine hK.out _ _ (TS0.out.ro.to hx10) (fun hHeld => ?_)
            clear hK K
            try simp only [Act.put, List.setIfInBounds_toArray, List.set_cons_zero, List.set_cons_succ]
            refine wpAnyH_ready (rs := [4]) (by kernel_rfl) (by simp) ?_
            refine AllReadyH.cons (o := _) rfl (fun K hK => ?_) AllReadyH.nil
            go_simp
            (go_at_call 29; (with_reducible refine (kdo.out _ hx10).mono ?_); rintro e_ w11 ⟨A', c', s', rfl, i11, hb11⟩; have hx11 : Below w9.heap.size w9 w11 := hx10.trans (hb11.mono hx10.size))
            go_wp2_with fail
            refine hK.out _ _ ?_ (fun hHeld => ?_)
            · exact TS0.out.ro.to hx11
            clear hK K
            try simp only [Act.put, List.setIfInBounds_toArray, List.set_cons_zero, List.set_cons_succ]
            refine takeD (i := 5) (oi := _) (v := ?vv19) (d := some 134) rfl (by kernel_rfl) (by kernel_rfl) (by kernel_rfl) (by kernel_rfl) (fun _ _ _ h => h) (Or.inl ⟨by kernel_rfl, ?_⟩) (by assumption) ?_
            rotate_left 1
            · intro W_ hSw; (try dsimp only at hSw); go_simp; (first | done | with_reducible rfl)
            try simp only [Act.put, List.setIfInBounds_toArray, List.set_cons_zero, List.set_cons_succ]
            refine takeD (i := 6) (oi := _) (v := ?vv20) (d := some 140) rfl (by kernel_rfl) (by kernel_rfl) (by kernel_rfl) (by kernel_rfl) (fun _ _ _ h => h) (Or.inl ⟨by kernel_rfl, ?_⟩) (by assumption) ?_
            rotate_left 1
            · intro W_ hSw; (try dsimp only at hSw); go_simp; (first | done | with_reducible rfl)
            try simp only [Act.put, List.setIfInBounds_toArray, List.set_cons_zero, List.set_cons_succ]
            refine takeD (i := 7) (oi := _) (v := ?vv21) (d := some 141) rfl (by kernel_rfl) (by kernel_rfl) (by kernel_rfl) (by kernel_rfl) (fun _ _ _ h => h) (Or.inl ⟨by kernel_rfl, ?_⟩) (by assumption) ?_
            rotate_left 1
            · intro W_ hSw; (try dsimp only at hSw); go_simp; (first | done | with_reducible rfl)
            try simp only [Act.put, List.setIfInBounds_toArray, List.set_cons_zero, List.set_cons_succ]
            refine wpAnyH_ready (rs := [8]) (by kernel_rfl) (by simp) ?_
            refine AllReadyH.cons (o := _) rfl (fun K hK => ?_) AllReadyH.nil
            (refine step_store_var rfl 35 (.tmp 17) (.tmp 140) rfl gB _ (agC A' c' s' gn) 32 rfl rfl (TB0.out.rb.to hx11) size_32 HC9.out i11.C32 (agC_one _) ?_)
            intro w12 r12 k12
            go_simp
            refine hK.out _ _ ?_ (fun hHeld => ?_)
            · exact (TS0.out.ro.to hx11).only k12 (by omega)
            clear hK K
            try simp only [Act.put, List.setIfInBounds_toArray, List.set_cons_zero, List.set_cons_succ]
            refine takeD (i := 9) (oi := _) (v := ?vv22) (d := some 24) rfl (by kernel_rfl) (by kernel_rfl) (by kernel_rfl) (by kernel_rfl) (fun _ _ _ h => h) (Or.inl ⟨by kernel_rfl, ?_⟩) (by assumption) ?_
            rotate_left 1
            · intro W_ hSw; (try dsimp only at hSw); go_simp; (first | done | with_reducible rfl)
            try simp only [Act.put, List.setIfInBounds_toArray, List.set_cons_zero, List.set_cons_succ]
            refine wpAnyH_done (by kernel_rfl) ?_ _
            have TB1 : Hid (TB gA gB A' c' s' gn w12) := Lib.hid (TB.of r12 k12 i11 (by have := hx10.size; omega) (by have := hx10.size; omega))
            have TS1 : Hid (TS w gA gW gN gO g gn Aa ca sa Aq cq sq A8 c8 s8 v w12) := Lib.hid ((TS0.out.to hx11).only k12 TF.out)
            clear r12 k12 i11 hx10 hx11 hb10 hb11
            go_wp2
            go_meet
            case rel => exact ⟨A', c', s', rfl, TB1, TS1⟩
          · go_simp
            (go_at_call 30; (with_reducible refine (kcm.out _ (Below.refl _ _).drew).mono ?_); rintro e_ w10 ⟨rfl, hb10⟩; have hx10 : Below w9.heap.size w9 w10 := (Below.refl _ _).drew.trans (hb10.mono (Nat.le_refl _)); have RBD := Lib.hid (TB0.out.rb.to hx10))
            go_wp2_with fail
            refine hK.out _ _ (TS0.out.ro.to hx10) (fun hHeld => ?_)
            clear hK K
            try simp only [Act.put, List.setIfInBounds_toArray, List.set_cons_zero, List.set_cons_succ]
            refine wpAnyH_ready (rs := [0]) (by kernel_rfl) (by simp) ?_
            refine AllReadyH.cons (o := _) rfl (fun K hK => ?_) AllReadyH.nil
            (refine step_load_var rfl 35 (.tmp 17) rfl gB rfl _ _ 32 RBD.out Try.underlying35 rfl size_32 HC9.out ?_)
            refine hK.out _ _ hHeld (fun hHeld => ?_)
            clear hK K
            try simp only [Act.put, List.setIfInBounds_toArray, List.set_cons_zero, List.set_cons_succ]
            refine wpAnyH_ready (rs := [4]) (by kernel_rfl) (by simp) ?_
            refine AllReadyH.cons (o := _) rfl (fun K hK => ?_) AllReadyH.nil
            go_simp
            (go_at_call 29; (with_reducible refine (kdo.out _ hx10).mono ?_); rintro e_ w11 ⟨A', c', s', rfl, i11, hb11⟩; have hx11 : Below w9.heap.size w9 w11 := hx10.trans (hb11.mono hx10.size))
            go_wp2_with fail
            refine hK.out _ _ ?_ (fun hHeld => ?_)
            · exact TS0.out.ro.to hx11
            clear hK K
            try simp only [Act.put, List.setIfInBounds_toArray, List.set_cons_zero, List.set_cons_succ]
            refine takeD (i := 5) (oi := _) (v := ?vv23) (d := some 134) rfl (by kernel_rfl) (by kernel_rfl) (by kernel_rfl) (by kernel_rfl) (fun _ _ _ h => h) (Or.inl ⟨by kernel_rfl, ?_⟩) (by assumption) ?_
            rotate_left 1
            · intro W_ hSw; (try dsimp only at hSw); go_simp; (first | done | with_reducible rfl)
            try simp only [Act.put, List.setIfInBounds_toArray, List.set_cons_zero, List.set_cons_succ]
            refine takeD (i := 6) (oi := _) (v := ?vv24) (d := some 140) rfl (by kernel_rfl) (by kernel_rfl) (by kernel_rfl) (by kernel_rfl) (fun _ _ _ h => h) (Or.inl ⟨by kernel_rfl, ?_⟩) (by assumption) ?_
            rotate_left 1
            · intro W_ hSw; (try dsimp only at hSw); go_simp; (first | done | with_reducible rfl)
            try simp only [Act.put, List.setIfInBounds_toArray, List.set_cons_zero, List.set_cons_succ]
            refine takeD (i := 7) (oi := _) (v := ?vv25) (d := some 141) rfl (by kernel_rfl) (by kernel_rfl) (by kernel_rfl) (by kernel_rfl) (fun _ _ _ h => h) (Or.inl ⟨by kernel_rfl, ?_⟩) (by assumption) ?_
            rotate_left 1
            · intro W_ hSw; (try dsimp only at hSw); go_simp; (first | done | with_reducible rfl)
            try simp only [Act.put, List.setIfInBounds_toArray, List.set_cons_zero, List.set_cons_succ]
            refine wpAnyH_ready (rs := [8]) (by kernel_rfl) (by simp) ?_
            refine AllReadyH.cons (o := _) rfl (fun K hK => ?_) AllReadyH.nil
            (refine step_store_var rfl 35 (.tmp 17) (.tmp 140) rfl gB _ (agC A' c' s' gn) 32 rfl rfl (TB0.out.rb.to hx11) size_32 HC9.out i11.C32 (agC_one _) ?_)
            intro w12 r12 k12
            go_simp
            refine hK.out _ _ ?_ (fun hHeld => ?_)
            · exact (TS0.out.ro.to hx11).only k12 (by omega)
            clear hK K
            try simp only [Act.put, List.setIfInBounds_toArray, List.set_cons_zero, List.set_cons_succ]
            refine takeD (i := 9) (oi := _) (v := ?vv26) (d := some 24) rfl (by kernel_rfl) (by kernel_rfl) (by kernel_rfl) (by kernel_rfl) (fun _ _ _ h => h) (Or.inl ⟨by kernel_rfl, ?_⟩) (by assumption) ?_
            rotate_left 1
            · intro W_ hSw; (try dsimp only at hSw); go_simp; (first | done | with_reducible rfl)
            try simp only [Act.put, List.setIfInBounds_toArray, List.set_cons_zero, List.set_cons_succ]
            refine wpAnyH_done (by kernel_rfl) ?_ _
            have TB1 : Hid (TB gA gB A' c' s' gn w12) := Lib.hid (TB.of r12 k12 i11 (by have := hx10.size; omega) (by have := hx10.size; omega))
            have TS1 : Hid (TS w gA gW gN gO g gn Aa ca sa Aq cq sq A8 c8 s8 v w12) := Lib.hid ((TS0.out.to hx11).only k12 TF.out)
            clear r12 k12 i11 hx10 hx11 hb10 hb11
            go_wp2
            go_meet
            case rel => exact ⟨A', c', s', rfl, TB1, TS1⟩
      have u0 : ((m : Int) == 0) = false := beq_eq_false_iff_ne.2 (by omega)
      by_cases h1 : m = 1
      · have u1 : ((m : Int) == 1) = true := by simp [h1]
        have hd : g.put v.c.ow v.c.tx v.n v.x.pr = (gn, E) := by
          rw [← HX.out]; unfold AOp.does; rw [if_neg (show ¬ v.op.what % 4 = 0 by rw [show v.op.what % 4 = m from HM.out]; exact h0), if_pos (show v.op.what % 4 = 1 from HM.out.trans h1)]; rfl
        have kp := Lib.hid (rput20_any w9 TB0.out.ib v.c.ow v.c.tx v.n v.x HOK.out.c.ow HOK.out.c.tx HOK.out.x)
        rw [hd] at kp
        clear hd h0 h1
        have RB := Lib.hid TB0.out.rb
        have c1 : w9.cell? ⟨gO, 1, none⟩ = some (.int .u16 (v.c.ow : Int)) := TS0.out.ro.cells 1
        have c3 : w9.cell? ⟨gO, 3, none⟩ = some (.int .u32 (v.c.tx : Int)) := TS0.out.ro.cells 3
        have c7 : w9.cell? ⟨gO, 7, none⟩ = some (.int .i64 v.n) := TS0.out.ro.cells 7
        have c8 : w9.cell? ⟨gO, 8, none⟩ = some (.int .i64 v.x.a) := TS0.out.ro.cells 8
        have c9 : w9.cell? ⟨gO, 9, none⟩ = some (.slice v.x.A v.x.ws.length v.x.c) := TS0.out.ro.cells 9
        have ltO := TS0.out.ro.lt
        go_wp2_with (refine wpList_load_var rfl 35 (.tmp 17) rfl (gB) rfl _ _ 32 RB.out Try.underlying35 rfl size_32 HC9.out ?_)
        with_reducible refine (kp.out).mono ?_
        rintro e11 w11 ⟨A', c', s', rfl, i11, hb11⟩
        have I11 := Lib.hid i11
        have HC11 := Lib.hid i11.C32
        replace RB := Lib.hid (RB.out.to hb11)
        replace TS0 := Lib.hid (TS0.out.to hb11)
        clear hb11 i11 kp c1 c3 c7 c8 c9 ltO
        go_wp2_with (refine wpList_store_var rfl 35 (.tmp 17) (.tmp 157) rfl (gB) _ (agC A' c' s' gn) 32 rfl rfl RB.out size_32 (by first | rfl | exact HCO.out) HC11.out (agC_one _) ?_; intro w_12 r_12 k_12; have R_12 := Lib.hid r_12; have K_12 := Lib.hid k_12; clear r_12 k_12)
        have TB1 : Hid (TB gA gB A' c' s' gn w_12) := Lib.hid (TB.of R_12.out K_12.out I11.out (by omega) (by omega))
        have TS1 : Hid (TS w gA gW gN gO g gn Aa ca sa Aq cq sq A8 c8 s8 v w_12) := Lib.hid (TS0.out.only K_12.out TF.out)
        clear R_12 K_12 I11
        try simp only [Act.put]
        go_wp2
        go_meet
        case rel => exact ⟨A', c', s', rfl, TB1, TS1⟩
      have u1 : ((m : Int) == 1) = false := beq_eq_false_iff_ne.2 (by omega)
      by_cases h2 : m = 2
      · have u2 : ((m : Int) == 2) = true := by simp [h2]
        obtain ⟨n, hn⟩ : ∃ n, v.c.n % 21 = n := ⟨_, rfl⟩
        have hd : (g.ticks n, 0) = (gn, E) := by
          rw [← HX.out, ← hn]; unfold AOp.does; rw [if_neg (show ¬ v.op.what % 4 = 0 by rw [show v.op.what % 4 = m from HM.out]; exact h0), if_neg (show ¬ v.op.what % 4 = 1 by rw [show v.op.what % 4 = m from HM.out]; exact h1), if_pos (show v.op.what % 4 = 2 from HM.out.trans h2)]; rfl
        have hn21 : n < 21 := by omega
        have hnI : (v.c.n : Int) % 21 = (n : Int) := by omega
        obtain ⟨rfl, rfl⟩ : g.ticks n = gn ∧ E = 0 := by
          injection hd with z1 z2
          exact ⟨z1, z2.symm⟩
        clear hd h0 h1 h2 hn
        have c4 : w9.cell? ⟨gO, 4, none⟩ = some (.int .u16 (v.c.n : Int)) := TS0.out.ro.cells 4
        have ltO := TS0.out.ro.lt
        go_wp2
        rw [hnI]
        clear hnI c4 ltO
        go_loopw [165] (fun i wx => ∃ (j : Nat) (A' : Option Addr) (c' : Nat) (s' : Stv), j ≤ n ∧ i = .int .u16 (j : Int) ∧ Hid (TB gA gB A' c' s' (g.ticks j) wx) ∧ Hid (TS w gA gW gN gO g (g.ticks n) Aa ca sa Aq cq sq A8 c8 s8 v wx)) (fun i _ => n - (intOf i).toNat)
        case atStart => exact ⟨0, A9, c9, s9, by omega, rfl, TB0, TS0⟩
        case round =>
          rename World => wx
          clear TB0 TS0 HCO
          obtain ⟨j, A7, c7, s7, hj, rfl, TB0, TS0⟩ := hrel
          by_cases hjl : j < n
          rotate_left
          · obtain rfl : j = n := by omega
            have hff : decide (j < j) = false := decide_eq_false hjl
            go_wp2
            go_meet
            case rel => exact ⟨A7, c7, s7, rfl, TB0, TS0⟩
          have hjI : (j : Int) < (n : Int) := by omega
          have HC7 := Lib.hid TB0.out.ib.C32
          have HCO := HC7
          have ltB := TB0.out.rb.lt
          have RB := Lib.hid TB0.out.rb
          have kt := Lib.hid (rtick_any wx TB0.out.ib (HR.out.ticks j))
          go_wp2_with (refine wpList_load_var rfl 35 (.tmp 17) rfl (gB) rfl _ _ 32 RB.out Try.underlying35 rfl size_32 HC7.out ?_)
          with_reducible refine (kt.out).mono ?_
          rintro e11 w11 ⟨A', c', s', rfl, i11, hb11⟩
          have I11 := Lib.hid i11
          have HC11 := Lib.hid i11.C32
          replace RB := Lib.hid (RB.out.to hb11)
          replace TS0 := Lib.hid (TS0.out.to hb11)
          clear hb11 i11 kt
          go_upto_region 33 with (refine wpList_store_var rfl 35 (.tmp 17) (.tmp 168) rfl (gB) _ (agC A' c' s' (g.ticks j).tick) 32 rfl rfl RB.out size_32 (by first | rfl | exact HCO.out) HC11.out (agC_one _) ?_; intro w_12 r_12 k_12; have R_12 := Lib.hid r_12; have K_12 := Lib.hid k_12; clear r_12 k_12)
          have TB1 : Hid (TB gA gB A' c' s' (g.ticks j).tick w_12) := Lib.hid (TB.of R_12.out K_12.out I11.out (by omega) (by omega))
          have TS1 : Hid (TS w gA gW gN gO g (g.ticks n) Aa ca sa Aq cq sq A8 c8 s8 v w_12) := Lib.hid (TS0.out.only K_12.out TF.out)
          clear R_12 K_12 I11
          try simp only [Act.put]
          go_wp2
          go_roundw
          case rel => exact ⟨j + 1, A', c', s', by omega, by go_num, TB1, TS1⟩
          case measure => simp [intOf]; omega
      have u2 : ((m : Int) == 2) = false := beq_eq_false_iff_ne.2 (by omega)
      have hd : (g.boot, 0) = (gn, E) := by
        rw [← HX.out]; unfold AOp.does; rw [if_neg (show ¬ v.op.what % 4 = 0 by rw [show v.op.what % 4 = m from HM.out]; exact h0), if_neg (show ¬ v.op.what % 4 = 1 by rw [show v.op.what % 4 = m from HM.out]; exact h1), if_neg (show ¬ v.op.what % 4 = 2 by rw [show v.op.what % 4 = m from HM.out]; exact h2)]
      obtain ⟨rfl, rfl⟩ : g.boot = gn ∧ E = 0 := by
        injection hd with z1 z2
        exact ⟨z1, z2.symm⟩
      clear hd h0 h1 h2
      have RB := Lib.hid TB0.out.rb
      have kt := Lib.hid (rboot_any w9 TB0.out.ib)
      go_wp2_with (refine wpList_load_var rfl 35 (.tmp 17) rfl (gB) rfl _ _ 32 RB.out Try.underlying35 rfl size_32 HC9.out ?_)
      with_reducible refine (kt.out).mono ?_
      rintro e11 w11 ⟨A', c', s', rfl, i11, hb11⟩
      have I11 := Lib.hid i11
      have HC11 := Lib.hid i11.C32
      replace RB := Lib.hid (RB.out.to hb11)
      replace TS0 := Lib.hid (TS0.out.to hb11)
      clear hb11 i11 kt
      go_wp2_with (refine wpList_store_var rfl 35 (.tmp 17) (.tmp 131) rfl (gB) _ (agC A' c' s' g.boot) 32 rfl rfl RB.out size_32 (by first | rfl | exact HCO.out) HC11.out (agC_one _) ?_; intro w_12 r_12 k_12; have R_12 := Lib.hid r_12; have K_12 := Lib.hid k_12; clear r_12 k_12)
      have TB1 : Hid (TB gA gB A' c' s' g.boot w_12) := Lib.hid (TB.of R_12.out K_12.out I11.out (by omega) (by omega))
      have TS1 : Hid (TS w gA gW gN gO g g.boot Aa ca sa Aq cq sq A8 c8 s8 v w_12) := Lib.hid (TS0.out.only K_12.out TF.out)
      clear R_12 K_12 I11
      try simp only [Act.put]
      go_wp2
      go_meet
      case rel => exact ⟨A', c', s', rfl, TB1, TS1⟩
    case rest =>
    obtain ⟨A', c', s', rfl, TB1, TS1⟩ := hcut
    clear TB0 TS0 HC9 HCO HOK HM hm4 HX
    rename World => wx
    have HCB := Lib.hid TB1.out.ib.C32
    obtain ⟨rq, hrq⟩ : ∃ b : Bool, b = true ↔ gn = g := by classical exact ⟨decide (gn = g), by simp⟩
    have k1 := Lib.hid (fun W (hW : Below wx.heap.size wx W) => ragsame_any true W (TS1.out.inn.to hW) (TB1.out.ib.to hW) (by simp))
    have k2 := Lib.hid (fun W (hW : Below wx.heap.size wx W) => agsame_any true W (TS1.out.inn.to hW) (TB1.out.ib.to hW) (by simp))
    have k3 := Lib.hid (fun W (hW : Below wx.heap.size wx W) => ragsame_any true W (TS1.out.ia.to hW) (TS1.out.iw.to hW) (by simp))
    have k4 := Lib.hid (fun W (hW : Below wx.heap.size wx W) => agsame_any rq W (TS1.out.inn.to hW) (TS1.out.iw.to hW) hrq)
    have k5 := Lib.hid (fun W (hW : Below wx.heap.size wx W) => ragsame_any rq W (TB1.out.ib.to hW) (TS1.out.iw.to hW) hrq)
    have k6 := Lib.hid (fun W (hW : Below wx.heap.size wx W) => status_any W (TS1.out.inn.to hW))
    have k7 := Lib.hid (fun W (hW : Below wx.heap.size wx W) => rstatus_any W (TB1.out.ib.to hW))
    have k8 := Lib.hid (fun W (x y : Nat) (hx : Sq u16w W W.heap.size (some ⟨x, 0, none⟩) (st8 gn)) (hy : Sq u16w W W.heap.size (some ⟨y, 0, none⟩) (st8 gn)) => lowWords_any (some ⟨x, 0, none⟩) (some ⟨y, 0, none⟩) (st8 gn) (st8 gn) 8 8 8 8 true W rfl rfl hx hy (by show 8 ≤ _; decide) (by simp))
    have hEE : (E != E) = false := by simp
    have hqq : (rq != rq) = false := by simp
    clear hrq
    go_upto_region 34 with fail
    refine wp_region_held_drew (S := (fun w' => RowAt w' gA 35 (agC Aa ca sa g) ∧ RowAt w' gW 35 (agC Aq cq sq g) ∧ RowAt w' gN 35 (agC A8 c8 s8 gn) ∧ RowAt w' gB 35 (agC A' c' s' gn))) (by kernel_rfl) ?_ (fun hHeld => ?_)
    · exact ⟨TS1.out.ra, TS1.out.rw_, TS1.out.rn, TB1.out.rb⟩
    refine takeD (i := 0) (oi := _) (v := ?vv27) (d := some 170) rfl (by kernel_rfl) (by kernel_rfl) (by kernel_rfl) (by kernel_rfl) (fun _ _ _ h => h) (Or.inl ⟨by kernel_rfl, ?_⟩) (by assumption) ?_
    rotate_left 1
    · intro W_ hSw; (try dsimp only at hSw); go_simp; (first | done | with_reducible rfl)
    try simp only [Act.put, List.setIfInBounds_toArray, List.set_cons_zero, List.set_cons_succ]
    refine takeD (i := 1) (oi := _) (v := ?vv28) (d := some 171) rfl (by kernel_rfl) (by kernel_rfl) (by kernel_rfl) (by kernel_rfl) (fun _ _ _ h => h) (Or.inl ⟨by kernel_rfl, ?_⟩) (by assumption) ?_
    rotate_left 1
    · intro W_ hSw; (try dsimp only at hSw); go_simp; (first | done | with_reducible rfl)
    try simp only [Act.put, List.setIfInBounds_toArray, List.set_cons_zero, List.set_cons_succ]
    refine takeD (i := 2) (oi := _) (v := ?vv29) (d := some 172) rfl (by kernel_rfl) (by kernel_rfl) (by kernel_rfl) (by kernel_rfl) (fun _ _ _ h => h) (Or.inl ⟨by kernel_rfl, ?_⟩) (by assumption) ?_
    rotate_left 1
    · intro W_ hSw; (try dsimp only at hSw); go_simp; (first | done | with_reducible rfl)
    try simp only [Act.put, List.setIfInBounds_toArray, List.set_cons_zero, List.set_cons_succ]
    refine takeD (i := 3) (oi := _) (v := ?vv30) (d := some 173) rfl (by kernel_rfl) (by kernel_rfl) (by kernel_rfl) (by kernel_rfl) (fun _ _ _ h => h) (Or.inl ⟨by kernel_rfl, ?_⟩) (by assumption) ?_
    rotate_left 1
    · intro W_ hSw; (try dsimp only at hSw); go_simp; (first | done | with_reducible rfl)
    try simp only [Act.put, List.setIfInBounds_toArray, List.set_cons_zero, List.set_cons_succ]
    refine takeD (i := 4) (oi := _) (v := _) (d := some 174) rfl (by kernel_rfl) (by kernel_rfl) (by kernel_rfl) (by kernel_rfl) (fun _ _ _ h => h) (yieldsIf_load_mid (by kernel_rfl) 35 (.tmp 22) (by kernel_rfl) gN 0 (by kernel_rfl) (agC A8 c8 s8 gn) _ (fun W h => h.2.2.1.all) Try.underlying35 rfl (by rw [size_32, HCN.out])) (by assumption) ?_
    try simp only [Act.put, List.setIfInBounds_toArray, List.set_cons_zero, List.set_cons_succ]
    refine takeD (i := 5) (oi := _) (v := _) (d := some 175) rfl (by kernel_rfl) (by kernel_rfl) (by kernel_rfl) (by kernel_rfl) (fun _ _ _ h => h) (yieldsIf_load_mid (by kernel_rfl) 35 (.tmp 17) (by kernel_rfl) gB 0 (by kernel_rfl) (agC A' c' s' gn) _ (fun W h => h.2.2.2.all) Try.underlying35 rfl (by rw [size_32, HCB.out])) (by assumption) ?_
    try simp only [Act.put, List.setIfInBounds_toArray, List.set_cons_zero, List.set_cons_succ]
    refine wpAnyH_ready (rs := [6]) (by kernel_rfl) (by simp) ?_
    refine AllReadyH.cons (o := _) rfl (fun K hK => ?_) AllReadyH.nil
    go_simp
    (go_at_call 34; (with_reducible refine (k1.out _ (Below.refl _ _).drew).mono ?_); rintro e_ w20 ⟨rfl, hb20⟩; have hx20 : Below wx.heap.size wx w20 := (Below.refl _ _).drew.trans (hb20.mono (Nat.le_refl _)))
    go_wp2_with fail
    refine hK.out _ _ ?_ (fun hHeld => ?_)
    · exact ⟨TS1.out.ra.to hx20, TS1.out.rw_.to hx20, TS1.out.rn.to hx20, TB1.out.rb.to hx20⟩
    clear hK K
    try simp only [Act.put, List.setIfInBounds_toArray, List.set_cons_zero, List.set_cons_succ]
    refine takeD (i := 7) (oi := _) (v := ?vv31) (d := some 177) rfl (by kernel_rfl) (by kernel_rfl) (by kernel_rfl) (by kernel_rfl) (fun _ _ _ h => h) (Or.inl ⟨by kernel_rfl, ?_⟩) (by assumption) ?_
    rotate_left 1
    · intro W_ hSw; (try dsimp only at hSw); go_simp; (first | done | with_reducible rfl)
    try simp only [Act.put, List.setIfInBounds_toArray, List.set_cons_zero, List.set_cons_succ]
    refine takeD (i := 8) (oi := _) (v := ?vv32) (d := some 178) rfl (by kernel_rfl) (by kernel_rfl) (by kernel_rfl) (by kernel_rfl) (fun _ _ _ h => h) (Or.inl ⟨by kernel_rfl, ?_⟩) (by assumption) ?_
    rotate_left 1
    · intro W_ hSw; (try dsimp only at hSw); go_simp; (first | done | with_reducible rfl)
    try simp only [Act.put, List.setIfInBounds_toArray, List.set_cons_zero, List.set_cons_succ]
    refine takeD (i := 9) (oi := _) (v := ?vv33) (d := some 179) rfl (by kernel_rfl) (by kernel_rfl) (by kernel_rfl) (by kernel_rfl) (fun _ _ _ h => h) (Or.inl ⟨by kernel_rfl, ?_⟩) (by assumption) ?_
    rotate_left 1
    · intro W_ hSw; (try dsimp only at hSw); go_simp; (first | done | with_reducible rfl)
    try simp only [Act.put, List.setIfInBounds_toArray, List.set_cons_zero, List.set_cons_succ]
    refine takeD (i := 10) (oi := _) (v := _) (d := some 180) rfl (by kernel_rfl) (by kernel_rfl) (by kernel_rfl) (by kernel_rfl) (fun _ _ _ h => h) (yieldsIf_load_mid (by kernel_rfl) 35 (.tmp 22) (by kernel_rfl) gN 0 (by kernel_rfl) (agC A8 c8 s8 gn) _ (fun W h => h.2.2.1.all) Try.underlying35 rfl (by rw [size_32, HCN.out])) (by assumption) ?_
    try simp only [Act.put, List.setIfInBounds_toArray, List.set_cons_zero, List.set_cons_succ]
    refine takeD (i := 11) (oi := _) (v := _) (d := some 181) rfl (by kernel_rfl) (by kernel_rfl) (by kernel_rfl) (by kernel_rfl) (fun _ _ _ h => h) (yieldsIf_load_mid (by kernel_rfl) 35 (.tmp 17) (by kernel_rfl) gB 0 (by kernel_rfl) (agC A' c' s' gn) _ (fun W h => h.2.2.2.all) Try.underlying35 rfl (by rw [size_32, HCB.out])) (by assumption) ?_
    try simp only [Act.put, List.setIfInBounds_toArray, List.set_cons_zero, List.set_cons_succ]
    refine wpAnyH_ready (rs := [12]) (by kernel_rfl) (by simp) ?_
    refine AllReadyH.cons (o := _) rfl (fun K hK => ?_) AllReadyH.nil
    go_simp
    (go_at_call 14; (with_reducible refine (k2.out _ hx20).mono ?_); rintro e_ w21 ⟨rfl, hb21⟩; have hx21 : Below wx.heap.size wx w21 := hx20.trans (hb21.mono hx20.size))
    go_wp2_with fail
    refine hK.out _ _ ?_ (fun hHeld => ?_)
    · exact ⟨TS1.out.ra.to hx21, TS1.out.rw_.to hx21, TS1.out.rn.to hx21, TB1.out.rb.to hx21⟩
    clear hK K
    try simp only [Act.put, List.setIfInBounds_toArray, List.set_cons_zero, List.set_cons_succ]
    refine takeD (i := 13) (oi := _) (v := ?vv34) (d := some 183) rfl (by kernel_rfl) (by kernel_rfl) (by kernel_rfl) (by kernel_rfl) (fun _ _ _ h => h) (Or.inl ⟨by kernel_rfl, ?_⟩) (by assumption) ?_
    rotate_left 1
    · intro W_ hSw; (try dsimp only at hSw); go_simp; (first | done | with_reducible rfl)
    try simp only [Act.put, List.setIfInBounds_toArray, List.set_cons_zero, List.set_cons_succ]
    refine takeD (i := 14) (oi := _) (v := ?vv35) (d := some 184) rfl (by kernel_rfl) (by kernel_rfl) (by kernel_rfl) (by kernel_rfl) (fun _ _ _ h => h) (Or.inl ⟨by kernel_rfl, ?_⟩) (by assumption) ?_
    rotate_left 1
    · intro W_ hSw; (try dsimp only at hSw); go_simp; (first | done | with_reducible rfl)
    try simp only [Act.put, List.setIfInBounds_toArray, List.set_cons_zero, List.set_cons_succ]
    refine takeD (i := 15) (oi := _) (v := ?vv36) (d := some 185) rfl (by kernel_rfl) (by kernel_rfl) (by kernel_rfl) (by kernel_rfl) (fun _ _ _ h => h) (Or.inl ⟨by kernel_rfl, ?_⟩) (by assumption) ?_
    rotate_left 1
    · intro W_ hSw; (try dsimp only at hSw); go_simp; (first | done | with_reducible rfl)
    try simp only [Act.put, List.setIfInBounds_toArray, List.set_cons_zero, List.set_cons_succ]
    refine takeD (i := 16) (oi := _) (v := _) (d := some 186) rfl (by kernel_rfl) (by kernel_rfl) (by kernel_rfl) (by kernel_rfl) (fun _ _ _ h => h) (yieldsIf_load_mid (by kernel_rfl) 35 (.tmp 15) (by kernel_rfl) gA 0 (by kernel_rfl) (agC Aa ca sa g) _ (fun W h => h.1.all) Try.underlying35 rfl (by rw [size_32, HCA.out])) (by assumption) ?_
    try simp only [Act.put, List.setIfInBounds_toArray, List.set_cons_zero, List.set_cons_succ]
    refine takeD (i := 17) (oi := _) (v := _) (d := some 187) rfl (by kernel_rfl) (by kernel_rfl) (by kernel_rfl) (by kernel_rfl) (fun _ _ _ h => h) (yieldsIf_load_mid (by kernel_rfl) 35 (.tmp 21) (by kernel_rfl) gW 0 (by kernel_rfl) (agC Aq cq sq g) _ (fun W h => h.2.1.all) Try.underlying35 rfl (by rw [size_32, HCW.out])) (by assumption) ?_
    try simp only [Act.put, List.setIfInBounds_toArray, List.set_cons_zero, List.set_cons_succ]
    refine wpAnyH_ready (rs := [18]) (by kernel_rfl) (by simp) ?_
    refine AllReadyH.cons (o := _) rfl (fun K hK => ?_) AllReadyH.nil
    go_simp
    (go_at_call 34; (with_reducible refine (k3.out _ hx21).mono ?_); rintro e_ w22 ⟨rfl, hb22⟩; have hx22 : Below wx.heap.size wx w22 := hx21.trans (hb22.mono hx21.size))
    go_wp2_with fail
    refine hK.out _ _ ?_ (fun hHeld => ?_)
    · exact ⟨TS1.out.ra.to hx22, TS1.out.rw_.to hx22, TS1.out.rn.to hx22, TB1.out.rb.to hx22⟩
    clear hK K
    try simp only [Act.put, List.setIfInBounds_toArray, List.set_cons_zero, List.set_cons_succ]
    refine takeD (i := 19) (oi := _) (v := ?vv37) (d := some 189) rfl (by kernel_rfl) (by kernel_rfl) (by kernel_rfl) (by kernel_rfl) (fun _ _ _ h => h) (Or.inl ⟨by kernel_rfl, ?_⟩) (by assumption) ?_
    rotate_left 1
    · intro W_ hSw; (try dsimp only at hSw); go_simp; (first | done | with_reducible rfl)
    try simp only [Act.put, List.setIfInBounds_toArray, List.set_cons_zero, List.set_cons_succ]
    refine takeD (i := 20) (oi := _) (v := ?vv38) (d := some 190) rfl (by kernel_rfl) (by kernel_rfl) (by kernel_rfl) (by kernel_rfl) (fun _ _ _ h => h) (Or.inl ⟨by kernel_rfl, ?_⟩) (by assumption) ?_
    rotate_left 1
    · intro W_ hSw; (try dsimp only at hSw); go_simp; (first | done | with_reducible rfl)
    try simp only [Act.put, List.setIfInBounds_toArray, List.set_cons_zero, List.set_cons_succ]
    refine takeD (i := 21) (oi := _) (v := ?vv39) (d := some 191) rfl (by kernel_rfl) (by kernel_rfl) (by kernel_rfl) (by kernel_rfl) (fun _ _ _ h => h) (Or.inl ⟨by kernel_rfl, ?_⟩) (by assumption) ?_
    rotate_left 1
    · intro W_ hSw; (try dsimp only at hSw); go_simp; (first | done | with_reducible rfl)
    try simp only [Act.put, List.setIfInBounds_toArray, List.set_cons_zero, List.set_cons_succ]
    refine takeD (i := 22) (oi := _) (v := _) (d := some 192) rfl (by kernel_rfl) (by kernel_rfl) (by kernel_rfl) (by kernel_rfl) (fun _ _ _ h => h) (yieldsIf_load_mid (by kernel_rfl) 35 (.tmp 22) (by kernel_rfl) gN 0 (by kernel_rfl) (agC A8 c8 s8 gn) _ (fun W h => h.2.2.1.all) Try.underlying35 rfl (by rw [size_32, HCN.out])) (by assumption) ?_
    try simp only [Act.put, List.setIfInBounds_toArray, List.set_cons_zero, List.set_cons_succ]
    refine takeD (i := 23) (oi := _) (v := _) (d := some 193) rfl (by kernel_rfl) (by kernel_rfl) (by kernel_rfl) (by kernel_rfl) (fun _ _ _ h => h) (yieldsIf_load_mid (by kernel_rfl) 35 (.tmp 21) (by kernel_rfl) gW 0 (by kernel_rfl) (agC Aq cq sq g) _ (fun W h => h.2.1.all) Try.underlying35 rfl (by rw [size_32, HCW.out])) (by assumption) ?_
    try simp only [Act.put, List.setIfInBounds_toArray, List.set_cons_zero, List.set_cons_succ]
    refine takeD (i := 25) (oi := _) (v := _) (d := some 195) rfl (by kernel_rfl) (by kernel_rfl) (by kernel_rfl) (by kernel_rfl) (fun _ _ _ h => h) (yieldsIf_load_mid (by kernel_rfl) 35 (.tmp 17) (by kernel_rfl) gB 0 (by kernel_rfl) (agC A' c' s' gn) _ (fun W h => h.2.2.2.all) Try.underlying35 rfl (by rw [size_32, HCB.out])) (by assumption) ?_
    try simp only [Act.put, List.setIfInBounds_toArray, List.set_cons_zero, List.set_cons_succ]
    refine takeD (i := 26) (oi := _) (v := _) (d := some 196) rfl (by kernel_rfl) (by kernel_rfl) (by kernel_rfl) (by kernel_rfl) (fun _ _ _ h => h) (yieldsIf_load_mid (by kernel_rfl) 35 (.tmp 21) (by kernel_rfl) gW 0 (by kernel_rfl) (agC Aq cq sq g) _ (fun W h => h.2.1.all) Try.underlying35 rfl (by rw [size_32, HCW.out])) (by assumption) ?_
    try simp only [Act.put, List.setIfInBounds_toArray, List.set_cons_zero, List.set_cons_succ]
    refine wpAnyH_ready (rs := [24]) (by kernel_rfl) (by simp) ?_
    refine AllReadyH.cons (o := _) rfl (fun K hK => ?_) AllReadyH.nil
    go_simp
    (go_at_call 14; (with_reducible refine (k4.out _ hx22).mono ?_); rintro e_ w23 ⟨rfl, hb23⟩; have hx23 : Below wx.heap.size wx w23 := hx22.trans (hb23.mono hx22.size))
    go_wp2_with fail
    refine hK.out _ _ ?_ (fun hHeld => ?_)
    · exact ⟨TS1.out.ra.to hx23, TS1.out.rw_.to hx23, TS1.out.rn.to hx23, TB1.out.rb.to hx23⟩
    clear hK K
    try simp only [Act.put, List.setIfInBounds_toArray, List.set_cons_zero, List.set_cons_succ]
    refine wpAnyH_ready (rs := [27]) (by kernel_rfl) (by simp) ?_
    refine AllReadyH.cons (o := _) rfl (fun K hK => ?_) AllReadyH.nil
    go_simp
    (go_at_call 34; (with_reducible refine (k5.out _ hx23).mono ?_); rintro e_ w24 ⟨rfl, hb24⟩; have hx24 : Below wx.heap.size wx w24 := hx23.trans (hb24.mono hx23.size))
    go_wp2_with fail
    refine hK.out _ _ ?_ (fun hHeld => ?_)
    · exact ⟨TS1.out.ra.to hx24, TS1.out.rw_.to hx24, TS1.out.rn.to hx24, TB1.out.rb.to hx24⟩
    clear hK K
    try simp only [Act.put, List.setIfInBounds_toArray, List.set_cons_zero, List.set_cons_succ]
    refine takeD (i := 28) (oi := _) (v := ?vv40) (d := some 198) rfl (by kernel_rfl) (by kernel_rfl) (by kernel_rfl) (by kernel_rfl) (fun _ _ _ h => h) (Or.inl ⟨by kernel_rfl, ?_⟩) (by assumption) ?_
    rotate_left 1
    · intro W_ hSw; (try dsimp only at hSw); go_simp; (first | done | with_reducible rfl)
    try simp only [Act.put, List.setIfInBounds_toArray, List.set_cons_zero, List.set_cons_succ]
    refine takeD (i := 29) (oi := _) (v := ?vv41) (d := some 199) rfl (by kernel_rfl) (by kernel_rfl) (by kernel_rfl) (by kernel_rfl) (fun _ _ _ h => h) (Or.inl ⟨by kernel_rfl, ?_⟩) (by assumption) ?_
    rotate_left 1
    · intro W_ hSw; (try dsimp only at hSw); go_simp; (first | done | with_reducible rfl)
    try simp only [Act.put, List.setIfInBounds_toArray, List.set_cons_zero, List.set_cons_succ]
    refine takeD (i := 30) (oi := _) (v := ?vv42) (d := some 200) rfl (by kernel_rfl) (by kernel_rfl) (by kernel_rfl) (by kernel_rfl) (fun _ _ _ h => h) (Or.inl ⟨by kernel_rfl, ?_⟩) (by assumption) ?_
    rotate_left 1
    · intro W_ hSw; (try dsimp only at hSw); go_simp; (first | done | with_reducible rfl)
    try simp only [Act.put, List.setIfInBounds_toArray, List.set_cons_zero, List.set_cons_succ]
    refine takeD (i := 31) (oi := _) (v := _) (d := some 201) rfl (by kernel_rfl) (by kernel_rfl) (by kernel_rfl) (by kernel_rfl) (fun _ _ _ h => h) (yieldsIf_load_mid (by kernel_rfl) 35 (.tmp 22) (by kernel_rfl) gN 0 (by kernel_rfl) (agC A8 c8 s8 gn) _ (fun W h => h.2.2.1.all) Try.underlying35 rfl (by rw [size_32, HCN.out])) (by assumption) ?_
    try simp only [Act.put, List.setIfInBounds_toArray, List.set_cons_zero, List.set_cons_succ]
    refine takeD (i := 33) (oi := _) (v := _) (d := some 203) rfl (by kernel_rfl) (by kernel_rfl) (by kernel_rfl) (by kernel_rfl) (fun _ _ _ h => h) (yieldsIf_load_mid (by kernel_rfl) 35 (.tmp 17) (by kernel_rfl) gB 0 (by kernel_rfl) (agC A' c' s' gn) _ (fun W h => h.2.2.2.all) Try.underlying35 rfl (by rw [size_32, HCB.out])) (by assumption) ?_
    try simp only [Act.put, List.setIfInBounds_toArray, List.set_cons_zero, List.set_cons_succ]
    refine wpAnyH_ready (rs := [32]) (by kernel_rfl) (by simp) ?_
    refine AllReadyH.cons (o := _) rfl (fun K hK => ?_) AllReadyH.nil
    go_simp
    (go_at_call 20; (with_reducible refine (k6.out _ hx24).mono ?_); rintro e_ w25 ⟨hb25, x25, hn25, rfl, sq25⟩; have hx25 : Below wx.heap.size wx w25 := hx24.trans (hb25.mono hx24.size))
    go_wp2_with fail
    refine hK.out _ _ ?_ (fun hHeld => ?_)
    · exact ⟨TS1.out.ra.to hx25, TS1.out.rw_.to hx25, TS1.out.rn.to hx25, TB1.out.rb.to hx25⟩
    clear hK K
    try simp only [Act.put, List.setIfInBounds_toArray, List.set_cons_zero, List.set_cons_succ]
    refine wpAnyH_ready (rs := [34]) (by kernel_rfl) (by simp) ?_
    refine AllReadyH.cons (o := _) rfl (fun K hK => ?_) AllReadyH.nil
    go_simp
    (go_at_call 21; (with_reducible refine (k7.out _ hx25).mono ?_); rintro e_ w26 ⟨hb26, x26, hn26, rfl, sq26⟩; have hx26 : Below wx.heap.size wx w26 := hx25.trans (hb26.mono hx25.size))
    go_wp2_with fail
    refine hK.out _ _ ?_ (fun hHeld => ?_)
    · exact ⟨TS1.out.ra.to hx26, TS1.out.rw_.to hx26, TS1.out.rn.to hx26, TB1.out.rb.to hx26⟩
    clear hK K
    try simp only [Act.put, List.setIfInBounds_toArray, List.set_cons_zero, List.set_cons_succ]
    refine wpAnyH_ready (rs := [35]) (by kernel_rfl) (by simp) ?_
    refine AllReadyH.cons (o := _) rfl (fun K hK => ?_) AllReadyH.nil
    go_simp
    (go_at_call 15; (with_reducible refine (k8.out _ _ _ ((sq25.below hb26).more hb26.size) sq26).mono ?_); rintro e_ w27 ⟨rfl, hb27⟩; have hx27 : Below wx.heap.size wx w27 := hx26.trans (hb27.mono hx26.size))
    go_wp2_with fail
    refine hK.out _ _ ?_ (fun hHeld => ?_)
    · exact ⟨TS1.out.ra.to hx27, TS1.out.rw_.to hx27, TS1.out.rn.to hx27, TB1.out.rb.to hx27⟩
    clear hK K
    try simp only [Act.put, List.setIfInBounds_toArray, List.set_cons_zero, List.set_cons_succ]
    refine takeD (i := 36) (oi := _) (v := ?vv43) (d := some 206) rfl (by kernel_rfl) (by kernel_rfl) (by kernel_rfl) (by kernel_rfl) (fun _ _ _ h => h) (Or.inl ⟨by kernel_rfl, ?_⟩) (by assumption) ?_
    rotate_left 1
    · intro W_ hSw; (try dsimp only at hSw); go_simp; (first | done | with_reducible rfl)
    try simp only [Act.put, List.setIfInBounds_toArray, List.set_cons_zero, List.set_cons_succ]
    refine takeD (i := 37) (oi := _) (v := ?vv44) (d := some 207) rfl (by kernel_rfl) (by kernel_rfl) (by kernel_rfl) (by kernel_rfl) (fun _ _ _ h => h) (Or.inl ⟨by kernel_rfl, ?_⟩) (by assumption) ?_
    rotate_left 1
    · intro W_ hSw; (try dsimp only at hSw); go_simp; (first | done | with_reducible rfl)
    try simp only [Act.put, List.setIfInBounds_toArray, List.set_cons_zero, List.set_cons_succ]
    refine wpAnyH_done (by kernel_rfl) ?_ _
    replace TS1 := Lib.hid (TS1.out.to hx27)
    replace TB1 := Lib.hid (TB1.out.to hx27)
    clear hx20 hx21 hx22 hx23 hx24 hx25 hx26 hx27 hb20 hb21 hb22 hb23 hb24 hb25 hb26 hb27 sq25 sq26 hn25 hn26 k1 k2 k3 k4 k5 k6 k7 k8 hEE hqq
    have RA := Lib.hid TS1.out.ra
    have RN := Lib.hid TS1.out.rn
    have HCO := HCA
    go_upto_region 36 with fail
    go_upto_region 37 with (first | (refine wpList_load_var rfl 35 (.tmp 22) rfl (gN) rfl _ _ 32 RN.out Try.underlying35 rfl size_32 HCN.out ?_) | (refine wpList_store_var rfl 35 (.tmp 15) (.tmp 208) rfl (gA) _ (agC A8 c8 s8 gn) 32 rfl rfl RA.out size_32 (by first | rfl | exact HCO.out) HCN.out (agC_one _) ?_; intro w_14 r_14 k_14; have R_14 := Lib.hid r_14; have K_14 := Lib.hid k_14; clear r_14 k_14))
    have TT1 : Hid (TT w gA gB gn A8 c8 s8 A' c' s' w_14) := Lib.hid ⟨HRN.out, R_14.out, TS1.out.inn.onlyO K_14.out OFA.out, OFA.out, TF.out.on, ⟨TB1.out.rb.only K_14.out (by omega), TB1.out.ib.onlyO K_14.out TB1.out.oa, TB1.out.oa, TB1.out.ob⟩, K_14.out.to TS1.out.bk (by omega)⟩
    clear R_14 K_14 RA RN TS1 TB1
    try simp only [Act.put]
    go_wp2
    go_roundw
    case rel => exact ⟨k + 1, gn, A8, c8, s8, A', c', s', by omega, by go_num, TT1⟩
    case measure => simp [intOf]; omega
end Go.Proofs.Ytajbghjjpebndaa
