/- Layer 10: first. -/
import Derived.Test.YtalaobpehkgilaaNvBytes
import Derived.Test.YtalaobpehkgilaaRes
import Derived.Test.YtalaobpehkgilaaSqD
namespace Go.Proofs.Ytalaobpehkgilaa
open Go.RowKit
set_option linter.unusedVariables false
attribute [local go_sem] Later.cell Later.frozen setCell_twice
theorem i64_or_nat (a b : Nat) (ha : a < 4294967296) (hb : b < 4294967296) : bits .or .i64 (a : Int) (b : Int) = ((a ||| b : Nat) : Int) := by
  have hx : a ||| b < 2 ^ 32 := Nat.or_lt_two_pow (by omega) (by omega)
  show IntKind.i64.wrap ((BitVec.ofInt 64 (a : Int) ||| BitVec.ofInt 64 (b : Int)).toNat : Int) = _
  rw [BitVec.toNat_or, ofInt_u64 a (by omega), ofInt_u64 b (by omega), IntKind.wrap_i64]
  omega
theorem told_or (x7 x8 : Nat) (h7 : x7 < 256) (h8 : x8 < 256) : bits .or .i64 ((x7 : Int) * 256) (x8 : Int) = ((x7 * 256 + x8 : Nat) : Int) := by
  have r : ((x7 : Int) * 256) = ((x7 * 2 ^ 8 : Nat) : Int) := by omega
  rw [r, i64_or_nat _ _ (by omega) (by omega), Nat.mul_comm, Nat.two_pow_add_eq_or_of_lt (by omega)]
theorem keep_set5 {W : World} {g b o : Nat} {v v0 v1 v2 v3 v4 : Value} (hne : g ≠ b) (h : W.cell? ⟨b, o, none⟩ = some v) : (((((W.setCell ⟨g, 0, none⟩ v0).setCell ⟨g, 1, none⟩ v1).setCell ⟨g, 2, none⟩ v2).setCell ⟨g, 3, none⟩ v3).setCell ⟨g, 4, none⟩ v4).cell? ⟨b, o, none⟩ = some v :=
  keep_block hne (keep_block hne (keep_block hne (keep_block hne (keep_block hne h))))
theorem RowAt.set5 {W : World} {g : Nat} {T : TypeId} {a0 a1 a2 a3 a4 : Value} (h : RowAt W g T [a0, a1, a2, a3, a4]) (v0 v1 v2 v3 v4 : Value) : RowAt (((((W.setCell ⟨g, 0, none⟩ v0).setCell ⟨g, 1, none⟩ v1).setCell ⟨g, 2, none⟩ v2).setCell ⟨g, 3, none⟩ v3).setCell ⟨g, 4, none⟩ v4) g T [v0, v1, v2, v3, v4] := ((((h.set 0 v0).set 1 v1).set 2 v2).set 3 v3).set 4 v4
theorem RowAt.other5 {W : World} {g b : Nat} {T : TypeId} {C : List Value} (h : RowAt W b T C) (hne : g ≠ b) (v0 v1 v2 v3 v4 : Value) : RowAt (((((W.setCell ⟨g, 0, none⟩ v0).setCell ⟨g, 1, none⟩ v1).setCell ⟨g, 2, none⟩ v2).setCell ⟨g, 3, none⟩ v3).setCell ⟨g, 4, none⟩ v4) b T C := ((((h.other hne v0).other hne v1).other hne v2).other hne v3).other hne v4
theorem below_set5 {w W : World} {g : Nat} (h : Below w.heap.size w W) (hg : w.heap.size ≤ g) (v0 v1 v2 v3 v4 : Value) : Below w.heap.size w (((((W.setCell ⟨g, 0, none⟩ v0).setCell ⟨g, 1, none⟩ v1).setCell ⟨g, 2, none⟩ v2).setCell ⟨g, 3, none⟩ v3).setCell ⟨g, 4, none⟩ v4) :=
  bel_set (bel_set (bel_set (bel_set (bel_set h hg v0) hg v1) hg v2) hg v3) hg v4
abbrev rz : List Value := [.int .u8 0, .int .u32 0, .int .u8 0, .bool false, .slice none 0 0]
def FirstP (b : List Nat) (w : World) (e : Ending) (w' : World) : Prop :=
  Below w.heap.size w w' ∧ match Nr.first b with
  | none => e = .returned (.tuple #[.agg rz.toArray, .int .i64 0])
  | some x => ∃ A' c', e = .returned (.tuple #[.agg (rcV x.what x.tx x.who x.yes A' x.text.length c').toArray, .int .i64 (x.size : Int)]) ∧ w'.ownsRow w.heap.size 5 1 (.slice A' x.text.length c') x.text.length (x.text.map byw)
theorem FirstP.none {b : List Nat} {w w' : World} {e : Ending} (hb : Below w.heap.size w w') (h : Nr.first b = .none) (he : e = .returned (.tuple #[.agg rz.toArray, .int .i64 0])) : FirstP b w e w' := ⟨hb, by rw [h]; exact he⟩
theorem FirstP.some {b : List Nat} {w w' : World} {e : Ending} {X : Nr} {A : Option Addr} {n c B : Nat} (hb : Below w.heap.size w w') (h : Nr.first b = .some X) (hn : X.text.length = n) (he : e = .returned (.tuple #[.agg (rcV X.what X.tx X.who X.yes A n c).toArray, .int .i64 (X.size : Int)])) (ho : w'.ownsRow B 5 1 (.slice A n c) n (X.text.map byw)) (hB : w.heap.size ≤ B) : FirstP b w e w' := by
  subst hn
  exact ⟨hb, by rw [h]; exact ⟨A, c, he, own_more ho hB⟩⟩
set_option maxRecDepth 100000 in
set_option maxHeartbeats 4000000 in
theorem first_any (A : Option Addr) (c n : Nat) (b : List Nat) (hn : b.length = n) (w : World) (hsq : Sq byw w w.heap.size A b) (hu : ∀ y ∈ b, y < 256) (hA : A = none → c = 0) (hnc : n ≤ c) (hc : c ≤ 9223372036854775807) :
    Calls Try.prog 25 #[.slice A n c] w (FirstP b w) := by
  obtain ⟨i0, hif, hz0, hz1, hz2⟩ := info_parts info_b8
  have HN := Lib.hid hn
  have R2 := Lib.hid (RowAt.new' w w.heap.size 35 rz rfl)
  have BE := Lib.hid (bel_alloc (Below.refl w.heap.size w) (.cells rz.toArray 35))
  by_cases h13 : n < 13
  · have HF : Hid (Nr.first b = none) := Lib.hid (by unfold Nr.first; rw [if_pos (.inl (by omega))])
    have g13 : decide ((n : Int) < 13) = true := decide_eq_true (by omega)
    clear hsq hn
    go_enter Try.func25, Try.ntmps25
    go_wp2_with (refine wpList_store_var rfl 35 (.tmp 2) _ rfl w.heap.size rz rz 5 rfl rfl R2.out size_rec rfl rfl (by simp [Value.oneCell']) ?_; intro w9 r9 k9; have R9 := Lib.hid r9; have K9 := Lib.hid k9; clear r9 k9)
    exact bodyPost_ret (results_cell_tmp rfl _ _ w.heap.size 35 rz.toArray (0, 0) _ rfl R9.out Try.underlying35 rfl size_rec) rfl (FirstP.none (BE.out.trans (K9.out.below (Nat.le_refl _))) HF.out rfl)
  · obtain ⟨g, o, rfl, hg, hcl⟩ := hsq (by omega)
    have hcell : ∀ i, i < 13 → w.cell? ⟨g, o + i, none⟩ = some (.int .u8 ((b.getD i 0 : Nat) : Int)) := fun i hi => by
      have : b[i]? = some (b.getD i 0) := by rw [List.getD_eq_getElem?_getD, List.getElem?_eq_getElem (by omega)]; rfl
      exact hcl i _ this
    have hgu : ∀ i, b.getD i 0 < 256 := fun i => by
      rw [List.getD_eq_getElem?_getD]
      cases hi : b[i]? with
      | none => simp
      | some y => exact hu y (List.mem_of_getElem? hi)
    obtain ⟨b0, h0⟩ : ∃ x, b.getD 0 0 = x := ⟨_, rfl⟩
    obtain ⟨b5, h5⟩ : ∃ x, b.getD 5 0 = x := ⟨_, rfl⟩
    obtain ⟨b6, h6⟩ : ∃ x, b.getD 6 0 = x := ⟨_, rfl⟩
    obtain ⟨b7, h7⟩ : ∃ x, b.getD 7 0 = x := ⟨_, rfl⟩
    obtain ⟨b8, h8⟩ : ∃ x, b.getD 8 0 = x := ⟨_, rfl⟩
    obtain ⟨T, hT⟩ : ∃ x, Nr.told b = x := ⟨_, rfl⟩
    have d0 : w.cell? ⟨g, o, none⟩ = some (.int .u8 (b0 : Int)) := by rw [← h0]; exact hcell 0 (by decide)
    have d5 : w.cell? ⟨g, o + 5, none⟩ = some (.int .u8 (b5 : Int)) := by rw [← h5]; exact hcell 5 (by decide)
    have d6 : w.cell? ⟨g, o + 6, none⟩ = some (.int .u8 (b6 : Int)) := by rw [← h6]; exact hcell 6 (by decide)
    have d7 : w.cell? ⟨g, o + 7, none⟩ = some (.int .u8 (b7 : Int)) := by rw [← h7]; exact hcell 7 (by decide)
    have d8 : w.cell? ⟨g, o + 8, none⟩ = some (.int .u8 (b8 : Int)) := by rw [← h8]; exact hcell 8 (by decide)
    have u0 : b0 < 256 := by rw [← h0]; exact hgu 0
    have u5 : b5 < 256 := by rw [← h5]; exact hgu 5
    have u6 : b6 < 256 := by rw [← h6]; exact hgu 6
    have u7 : b7 < 256 := by rw [← h7]; exact hgu 7
    have u8 : b8 < 256 := by rw [← h8]; exact hgu 8
    have HT : Hid (bits .or .i64 ((b7 : Int) * 256) (b8 : Int) = (T : Int)) := Lib.hid (by rw [told_or b7 b8 u7 u8, ← hT, Nr.told, h7, h8])
    have HTT := Lib.hid hT
    have H0 := Lib.hid h0
    have H5 := Lib.hid h5
    have H6 := Lib.hid h6
    have HU := Lib.hid hu
    have HSQ := Lib.hid hsq
    have hTb : T < 65536 := by rw [← hT, Nr.told, h7, h8]; omega
    have g13 : decide ((n : Int) < 13) = false := decide_eq_false (by omega)
    have e6 : (6 : Int) < (n : Int) := by omega
    have e7 : (7 : Int) < (n : Int) := by omega
    have e8 : (8 : Int) < (n : Int) := by omega
    clear hcl hcell hgu h0 h5 h7 h8 hT hu hsq hn
    by_cases hb6 : 1 < b6
    · have HF : Hid (Nr.first b = none) := Lib.hid (by unfold Nr.first; rw [if_pos (.inr (.inl (by omega)))])
      have g6 : decide ((1 : Int) < (b6 : Int)) = true := decide_eq_true (by omega)
      clear h6
      go_enter Try.func25, Try.ntmps25
      go_wp2_with (refine wpList_store_var rfl 35 (.tmp 2) _ rfl w.heap.size rz rz 5 rfl rfl R2.out size_rec rfl rfl (by simp [Value.oneCell']) ?_; intro w9 r9 k9; have R9 := Lib.hid r9; have K9 := Lib.hid k9; clear r9 k9)
      exact bodyPost_ret (results_cell_tmp rfl _ _ w.heap.size 35 rz.toArray (0, 0) _ rfl R9.out Try.underlying35 rfl size_rec) rfl (FirstP.none (BE.out.trans (K9.out.below (Nat.le_refl _))) HF.out rfl)
    · have g6 : decide ((1 : Int) < (b6 : Int)) = false := decide_eq_false (by omega)
      clear h6
      have hg1 : g < w.heap.size + 1 := Nat.lt_succ_of_lt hg
      go_enter Try.func25, Try.ntmps25
      go_wp2_with fail
      refine wp_region_lat (by kernel_rfl) (by kernel_rfl) ?_
      repeat (go_big_quiet_step (fail))
      refine wpQuiet_nil ?_
      rintro _ ⟨x1, rfl⟩
      have hz_x1 := x1.bel.size
      try simp at hz_x1
      rw [HT.out, IntWalk.wrap64_in (9 + (T : Int)) (by omega)]
      replace R2 := Lib.hid (R2.out.to x1.bel)
      replace BE := Lib.hid (BE.out.trans (x1.bel.mono (by simp)))
      by_cases hlen : n < 13 + T
      · have HF : Hid (Nr.first b = none) := Lib.hid (by unfold Nr.first; rw [if_pos (.inr (.inr (by rw [HTT.out, HN.out]; omega)))])
        have gl : decide ((n : Int) < 9 + (T : Int) + 4) = true := decide_eq_true (by omega)
        go_wp2_with (refine wpList_store_var rfl 35 (.tmp 2) _ rfl w.heap.size rz rz 5 rfl rfl R2.out size_rec rfl rfl (by simp [Value.oneCell']) ?_; intro w9 r9 k9; have R9 := Lib.hid r9; have K9 := Lib.hid k9; clear r9 k9)
        exact bodyPost_ret (results_cell_tmp rfl _ _ w.heap.size 35 rz.toArray (0, 0) _ rfl R9.out Try.underlying35 rfl size_rec) rfl (FirstP.none (BE.out.trans (K9.out.below (Nat.le_refl _))) HF.out rfl)
      · have gl : decide ((n : Int) < 9 + (T : Int) + 4) = false := decide_eq_false (by omega)
        have hT9 : (9 + (T : Int)).toNat = 9 + T := by omega
        have c1 : c ≠ 1 := by omega
        have en0 : 0 < n := by omega
        have en5 : 5 < n := by omega
        have en6 : 6 < n := by omega
        have en1 : (1 : Int) ≤ (n : Int) := by omega
        have ei5 : (5 : Int) < (n : Int) := by omega
        have ei9 : (9 : Int) ≤ 9 + (T : Int) := by omega
        have et1 : 9 + T ≤ c := by omega
        have et2 : (0 : Int) ≤ 9 + (T : Int) := by omega
        have et3 : 9 + (T : Int) ≤ (c : Int) := by omega
        have c9 : c ≠ 9 := by omega
        obtain ⟨tx, htx⟩ : ∃ tx, Nr.num4 (b.drop 1) = tx := ⟨_, rfl⟩
        obtain ⟨yes, hyes⟩ : ∃ yes, ((b6 : Int) == 1) = yes := ⟨_, rfl⟩
        obtain ⟨X, hX⟩ : ∃ X, Nr.parse b = X := ⟨_, rfl⟩
        have hXp : X.what = b0 ∧ X.tx = tx ∧ X.who = b5 ∧ X.yes = yes ∧ X.text = (b.drop 9).take T := by
          rw [← hX]
          exact ⟨H0.out, htx, H5.out, by rw [← hyes]; simp only [Nr.parse, H6.out]; rw [Bool.eq_iff_iff]; simp; omega, by rw [← HTT.out]; rfl⟩
        have hXl : X.text.length = T := by rw [hXp.2.2.2.2, List.length_take, List.length_drop, HN.out]; omega
        obtain ⟨rt, hrt⟩ : ∃ rt, X.right = rt := ⟨_, rfl⟩
        have kr := Lib.hid (fun W => nright_any X (some ⟨g, o + 9, none⟩) (c - 9) T hXl W)
        rw [hXp.1, hXp.2.1, hXp.2.2.1, hXp.2.2.2.1, hrt] at kr
        have kn := Lib.hid (fun W (hW : Below w.heap.size w W) => number_any g (o + 1) (n - 1) (c - 1) (b.drop 1) W (by rw [List.length_drop, HN.out]) (by omega) (fun y hy => HU.out y (List.mem_of_mem_drop hy)) (Sq.drop ((HSQ.out.below hW).more hW.size)))
        rw [htx] at kn
        obtain ⟨ck, hck⟩ : ∃ ck, Crc.bytes (b.take (9 + T)) = ck := ⟨_, rfl⟩
        obtain ⟨cn, hcn⟩ : ∃ cn, Nr.num4 (b.drop (9 + T)) = cn := ⟨_, rfl⟩
        have kc := Lib.hid (fun W (hW : Below w.heap.size w W) => ck_bytes_n (some ⟨g, o, none⟩) c (9 + T) (b.take (9 + T)) W.heap.size W (sq_nums (((HSQ.out.below hW).more hW.size).take _)) (fun y hy => HU.out y (List.mem_of_mem_take hy)) (by rw [List.length_take]; omega) (by rw [List.length_take, HN.out]; omega))
        have kn2 := Lib.hid (fun W (hW : Below w.heap.size w W) => number_any g (o + (9 + T)) (n - (9 + T)) (c - (9 + T)) (b.drop (9 + T)) W (by rw [List.length_drop, HN.out]) (by omega) (fun y hy => HU.out y (List.mem_of_mem_drop hy)) (Sq.drop ((HSQ.out.below hW).more hW.size)))
        rw [hck] at kc
        rw [hcn] at kn2
        have cT : c ≠ 9 + T := by omega
        have eT : 9 + (T : Int) ≤ (n : Int) := by omega
        have HCK := Lib.hid hck
        have HCN := Lib.hid hcn
        clear hck hcn
        have HX := Lib.hid hX
        have HXP := Lib.hid hXp
        have HXL := Lib.hid hXl
        have HRT := Lib.hid hrt
        clear htx hX hXp hXl hrt
        go_wp2_with fail
        refine wp_region_held_drew (S := (fun w' => w'.cell? ⟨g, o, none⟩ = some (.int .u8 (b0 : Int)) ∧ w'.cell? ⟨g, o + 5, none⟩ = some (.int .u8 (b5 : Int)) ∧ w'.cell? ⟨g, o + 6, none⟩ = some (.int .u8 (b6 : Int)))) (by kernel_rfl) ?_ (fun hHeld => ?_)
        · exact ⟨x1.keep (keep_alloc d0), x1.keep (keep_alloc d5), x1.keep (keep_alloc d6)⟩
        refine takeD (i := 0) (oi := _) (v := ?vv7) (d := some 33) rfl (by kernel_rfl) (by kernel_rfl) (by kernel_rfl) (by kernel_rfl) (fun _ _ _ h => h) (Or.inl ⟨by kernel_rfl, ?_⟩) (by assumption) ?_
        rotate_left 1
        · intro W_ hSw; (try dsimp only at hSw); go_simp; (first | done | with_reducible rfl)
        try simp only [Act.put, List.setIfInBounds_toArray, List.set_cons_zero, List.set_cons_succ]
        refine takeD (i := 1) (oi := _) (v := ?vv8) (d := some 34) rfl (by kernel_rfl) (by kernel_rfl) (by kernel_rfl) (by kernel_rfl) (fun _ _ _ h => h) (Or.inl ⟨by kernel_rfl, ?_⟩) (by assumption) ?_
        rotate_left 1
        · intro W_ hSw; (try dsimp only at hSw); go_simp; (first | done | with_reducible rfl)
        try simp only [Act.put, List.setIfInBounds_toArray, List.set_cons_zero, List.set_cons_succ]
        refine takeD (i := 2) (oi := _) (v := ?vv9) (d := some 35) rfl (by kernel_rfl) (by kernel_rfl) (by kernel_rfl) (by kernel_rfl) (fun _ _ _ h => h) (Or.inl ⟨by kernel_rfl, ?_⟩) (by assumption) ?_
        rotate_left 1
        · intro W_ hSw; (try dsimp only at hSw); go_simp; (first | done | with_reducible rfl)
        try simp only [Act.put, List.setIfInBounds_toArray, List.set_cons_zero, List.set_cons_succ]
        refine takeD (i := 3) (oi := _) (v := ?vv10) (d := some 36) rfl (by kernel_rfl) (by kernel_rfl) (by kernel_rfl) (by kernel_rfl) (fun _ _ _ h => h) (Or.inl ⟨by kernel_rfl, ?_⟩) (by assumption) ?_
        rotate_left 1
        · intro W_ hSw; (try dsimp only at hSw); go_simp; (first | done | with_reducible rfl)
        try simp only [Act.put, List.setIfInBounds_toArray, List.set_cons_zero, List.set_cons_succ]
        refine takeD (i := 4) (oi := _) (v := ?vv11) (d := some 37) rfl (by kernel_rfl) (by kernel_rfl) (by kernel_rfl) (by kernel_rfl) (fun _ _ _ h => h) (Or.inl ⟨by kernel_rfl, ?_⟩) (by assumption) ?_
        rotate_left 1
        · intro W_ hSw; (try dsimp only at hSw); go_simp; (first | done | with_reducible rfl)
        try simp only [Act.put, List.setIfInBounds_toArray, List.set_cons_zero, List.set_cons_succ]
        refine takeD (i := 6) (oi := _) (v := ?vv12) (d := some 39) rfl (by kernel_rfl) (by kernel_rfl) (by kernel_rfl) (by kernel_rfl) (fun _ _ _ h => h) (Or.inl ⟨by kernel_rfl, ?_⟩) (by assumption) ?_
        rotate_left 1
        · intro W_ hSw; (try dsimp only at hSw); go_simp; (first | done | with_reducible rfl)
        try simp only [Act.put, List.setIfInBounds_toArray, List.set_cons_zero, List.set_cons_succ]
        refine takeD (i := 7) (oi := _) (v := ?vv13) (d := some 40) rfl (by kernel_rfl) (by kernel_rfl) (by kernel_rfl) (by kernel_rfl) (fun _ _ _ h => h) (Or.inl ⟨by kernel_rfl, ?_⟩) (by assumption) ?_
        rotate_left 1
        · intro W_ hSw; (try dsimp only at hSw); go_simp; (first | done | with_reducible rfl)
        try simp only [Act.put, List.setIfInBounds_toArray, List.set_cons_zero, List.set_cons_succ]
        refine takeD (i := 8) (oi := _) (v := ?vv14) (d := some 41) rfl (by kernel_rfl) (by kernel_rfl) (by kernel_rfl) (by kernel_rfl) (fun _ _ _ h => h) (Or.inl ⟨by kernel_rfl, ?_⟩) (by assumption) ?_
        rotate_left 1
        · intro W_ hSw; (try dsimp only at hSw); go_simp; (first | done | with_reducible rfl)
        try simp only [Act.put, List.setIfInBounds_toArray, List.set_cons_zero, List.set_cons_succ]
        refine takeD (i := 9) (oi := _) (v := ?vv15) (d := some 42) rfl (by kernel_rfl) (by kernel_rfl) (by kernel_rfl) (by kernel_rfl) (fun _ _ _ h => h) (Or.inl ⟨by kernel_rfl, ?_⟩) (by assumption) ?_
        rotate_left 1
        · intro W_ hSw; (try dsimp only at hSw); go_simp; (first | done | with_reducible rfl)
        try simp only [Act.put, List.setIfInBounds_toArray, List.set_cons_zero, List.set_cons_succ]
        refine takeD (i := 10) (oi := _) (v := ?vv16) (d := some 43) rfl (by kernel_rfl) (by kernel_rfl) (by kernel_rfl) (by kernel_rfl) (fun _ _ _ h => h) (Or.inl ⟨by kernel_rfl, ?_⟩) (by assumption) ?_
        rotate_left 1
        · intro W_ hSw; (try dsimp only at hSw); go_simp; (first | done | with_reducible rfl)
        try simp only [Act.put, List.setIfInBounds_toArray, List.set_cons_zero, List.set_cons_succ]
        refine takeD (i := 11) (oi := _) (v := ?vv17) (d := some 44) rfl (by kernel_rfl) (by kernel_rfl) (by kernel_rfl) (by kernel_rfl) (fun _ _ _ h => h) (Or.inl ⟨by kernel_rfl, ?_⟩) (by assumption) ?_
        rotate_left 1
        · intro W_ hSw; (try dsimp only at hSw); go_simp; (first | done | with_reducible rfl)
        try simp only [Act.put, List.setIfInBounds_toArray, List.set_cons_zero, List.set_cons_succ]
        refine takeD (i := 12) (oi := _) (v := ?vv18) (d := some 45) rfl (by kernel_rfl) (by kernel_rfl) (by kernel_rfl) (by kernel_rfl) (fun _ _ _ h => h) (Or.inl ⟨by kernel_rfl, ?_⟩) (by assumption) ?_
        rotate_left 1
        · intro W_ hSw; (try dsimp only at hSw); go_simp; (first | done | with_reducible rfl)
        try simp only [Act.put, List.setIfInBounds_toArray, List.set_cons_zero, List.set_cons_succ]
        refine takeD (i := 13) (oi := _) (v := ?vv19) (d := some 46) rfl (by kernel_rfl) (by kernel_rfl) (by kernel_rfl) (by kernel_rfl) (fun _ _ _ h => h) (Or.inl ⟨by kernel_rfl, ?_⟩) (by assumption) ?_
        rotate_left 1
        · intro W_ hSw; (try dsimp only at hSw); go_simp; (first | done | with_reducible rfl)
        try simp only [Act.put, List.setIfInBounds_toArray, List.set_cons_zero, List.set_cons_succ]
        refine takeD (i := 14) (oi := _) (v := ?vv20) (d := some 47) rfl (by kernel_rfl) (by kernel_rfl) (by kernel_rfl) (by kernel_rfl) (fun _ _ _ h => h) (Or.inl ⟨by kernel_rfl, ?_⟩) (by assumption) ?_
        rotate_left 1
        · intro W_ hSw; (try dsimp only at hSw); go_simp; (first | done | with_reducible rfl)
        try simp only [Act.put, List.setIfInBounds_toArray, List.set_cons_zero, List.set_cons_succ]
        refine takeD (i := 15) (oi := _) (v := ?vv21) (d := some 48) rfl (by kernel_rfl) (by kernel_rfl) (by kernel_rfl) (by kernel_rfl) (fun _ _ _ h => h) (Or.inl ⟨by kernel_rfl, ?_⟩) (by assumption) ?_
        rotate_left 1
        · intro W_ hSw; (try dsimp only at hSw); go_simp; (first | done | with_reducible rfl)
        try simp only [Act.put, List.setIfInBounds_toArray, List.set_cons_zero, List.set_cons_succ]
        refine wpAnyH_ready (rs := [5, 17]) (by kernel_rfl) (by simp) ?_
        refine AllReadyH.cons (o := _) rfl (fun K hK => ?_) (AllReadyH.cons (o := _) rfl (fun K hK => ?_) AllReadyH.nil)
        · (go_simp; (go_at_call 34; (with_reducible refine (kn.out _ BE.out.drew).mono ?_); rintro e w3 ⟨rfl, b3⟩; have B3 := Lib.hid (BE.out.drew.trans (b3.mono BE.out.drew.size)); have R3 := Lib.hid (R2.out.drew.to b3); have f0 : w3.cell? ⟨g, o, none⟩ = some (.int .u8 (b0 : Int)) := (B3.out.cell (p := ⟨g, o, none⟩) hg).trans d0; have f5 : w3.cell? ⟨g, o + 5, none⟩ = some (.int .u8 (b5 : Int)) := (B3.out.cell (p := ⟨g, o + 5, none⟩) hg).trans d5; have f6 : w3.cell? ⟨g, o + 6, none⟩ = some (.int .u8 (b6 : Int)) := (B3.out.cell (p := ⟨g, o + 6, none⟩) hg).trans d6; have hne3 : w3.heap.size ≠ g := (by have := B3.out.size; omega); clear b3); go_wp2_with fail)
          refine hK.out _ _ ?_ (fun hHeld => ?_)
          · exact ⟨f0, f5, f6⟩
          clear hK K
          try simp only [Act.put]
          try simp only [List.setIfInBounds_toArray]
          try simp only [List.set_cons_succ]
          try simp only [List.set_cons_zero]
          refine takeD (i := 16) (oi := _) (v := ?vv22) (d := some 49) rfl (by kernel_rfl) (by kernel_rfl) (by kernel_rfl) (by kernel_rfl) (fun _ _ _ h => h) (Or.inl ⟨by kernel_rfl, ?_⟩) (by assumption) ?_
          rotate_left 1
          · intro W_ hSw; (try dsimp only at hSw); go_simp; (first | done | with_reducible rfl)
          try simp only [Act.put, List.setIfInBounds_toArray, List.set_cons_zero, List.set_cons_succ]
          refine wpAnyH_ready (rs := [17]) (by kernel_rfl) (by simp) ?_
          refine AllReadyH.cons (o := _) rfl (fun K hK => ?_) AllReadyH.nil
          go_simp
          refine hK.out _ _ ?_ (fun hHeld => ?_)
          · exact ⟨keep_alloc f0, keep_alloc f5, keep_alloc f6⟩
          clear hK K
          try simp only [Act.put]
          try simp only [List.setIfInBounds_toArray]
          try simp only [List.set_cons_succ]
          try simp only [List.set_cons_zero]
          refine wpAnyH_ready (rs := [18]) (by kernel_rfl) (by simp) ?_
          refine AllReadyH.cons (o := _) rfl (fun K hK => ?_) AllReadyH.nil
          go_simp
          refine hK.out _ _ ?_ (fun hHeld => ?_)
          · exact ⟨keep_alloc f0, keep_alloc f5, keep_alloc f6⟩
          clear hK K
          try simp only [Act.put]
          try simp only [List.setIfInBounds_toArray]
          try simp only [List.set_cons_succ]
          try simp only [List.set_cons_zero]
          obtain ⟨G5, hGG⟩ : ∃ G5, w3.heap.size = G5 := ⟨_, rfl⟩
          rw [hGG]
          have R5 := Lib.hid (RowAt.new' w3 G5 35 (rcV b0 tx b5 yes (some ⟨g, o + 9, none⟩) T (c - 9)) hGG.symm)
          have Z5 := Lib.hid (R3.out.alloc (.cells (rcV b0 tx b5 yes (some ⟨g, o + 9, none⟩) T (c - 9)).toArray 35))
          have B5 := Lib.hid (bel_alloc B3.out (.cells (rcV b0 tx b5 yes (some ⟨g, o + 9, none⟩) T (c - 9)).toArray 35))
          have hG5 : G5 ≠ w.heap.size := by have := R3.out.lt; omega
          have hG6 : w.heap.size ≤ G5 := by have := R3.out.lt; omega
          clear hGG
          refine wpAnyH_done (by kernel_rfl) ?_ _
          go_wp2_with fail
          refine wp_region_held_drew (S := (fun w' => RowAt w' G5 35 (rcV b0 tx b5 yes (some ⟨g, o + 9, none⟩) T (c - 9)))) (by kernel_rfl) ?_ (fun hHeld => ?_)
          · exact R5.out.drew
          refine takeD (i := 0) (oi := _) (v := _) (d := some 50) rfl (by kernel_rfl) (by kernel_rfl) (by kernel_rfl) (by kernel_rfl) (fun _ _ _ h => h) (yieldsIf_load_mid (by kernel_rfl) 35 (.tmp 5) (by kernel_rfl) G5 0 (by kernel_rfl) (rcV b0 tx b5 yes (some ⟨g, o + 9, none⟩) T (c - 9)) _ (fun W h => h.all) Try.underlying35 rfl size_rec) (by assumption) ?_
          try simp only [Act.put, List.setIfInBounds_toArray, List.set_cons_zero, List.set_cons_succ]
          refine wpAnyH_ready (rs := [1]) (by kernel_rfl) (by simp) ?_
          refine AllReadyH.cons (o := _) rfl (fun K hK => ?_) AllReadyH.nil
          go_simp
          (go_at_call 30; (with_reducible refine (kr.out _).mono ?_); rintro e w6 ⟨rfl, b6⟩; have R6 := Lib.hid (R5.out.drew.to b6); have Z6 := Lib.hid (Z5.out.drew.to b6); have B6 := Lib.hid (B5.out.drew.trans (b6.mono B5.out.drew.size)); clear b6)
          go_wp2_with fail
          refine hK.out _ _ ?_ (fun hHeld => ?_)
          · exact R6.out
          clear hK K
          try simp only [Act.put, List.setIfInBounds_toArray, List.set_cons_zero, List.set_cons_succ]
          refine takeD (i := 2) (oi := _) (v := ?vv23) (d := some 52) rfl (by kernel_rfl) (by kernel_rfl) (by kernel_rfl) (by kernel_rfl) (fun _ _ _ h => h) (Or.inl ⟨by kernel_rfl, ?_⟩) (by assumption) ?_
          rotate_left 1
          · intro W_ hSw; (try dsimp only at hSw); go_simp; (first | done | with_reducible rfl)
          try simp only [Act.put, List.setIfInBounds_toArray, List.set_cons_zero, List.set_cons_succ]
          refine takeD (i := 3) (oi := _) (v := ?vv24) (d := some 53) rfl (by kernel_rfl) (by kernel_rfl) (by kernel_rfl) (by kernel_rfl) (fun _ _ _ h => h) (Or.inl ⟨by kernel_rfl, ?_⟩) (by assumption) ?_
          rotate_left 1
          · intro W_ hSw; (try dsimp only at hSw); go_simp; (first | done | with_reducible rfl)
          try simp only [Act.put, List.setIfInBounds_toArray, List.set_cons_zero, List.set_cons_succ]
          cases rt
          · have HF : Hid (Nr.first b = none) := Lib.hid (by unfold Nr.first; rw [if_neg (by rw [H6.out, HTT.out, HN.out]; omega), if_neg (by rw [HX.out, HRT.out]; simp)])
            refine takeD (i := 4) (oi := _) (v := undef) (d := some 54) rfl (by kernel_rfl) (by kernel_rfl) (by kernel_rfl) (by kernel_rfl) (fun _ _ _ h => h) (Or.inr ⟨by kernel_rfl, rfl⟩) (by assumption) ?_
            try simp only [Act.put, List.setIfInBounds_toArray, List.set_cons_zero, List.set_cons_succ]
            refine takeD (i := 5) (oi := _) (v := undef) (d := some 55) rfl (by kernel_rfl) (by kernel_rfl) (by kernel_rfl) (by kernel_rfl) (fun _ _ _ h => h) (Or.inr ⟨by kernel_rfl, rfl⟩) (by assumption) ?_
            try simp only [Act.put, List.setIfInBounds_toArray, List.set_cons_zero, List.set_cons_succ]
            refine takeD (i := 6) (oi := _) (v := undef) (d := some 56) rfl (by kernel_rfl) (by kernel_rfl) (by kernel_rfl) (by kernel_rfl) (fun _ _ _ h => h) (Or.inr ⟨by kernel_rfl, rfl⟩) (by assumption) ?_
            try simp only [Act.put, List.setIfInBounds_toArray, List.set_cons_zero, List.set_cons_succ]
            refine takeD (i := 7) (oi := _) (v := undef) (d := some 57) rfl (by kernel_rfl) (by kernel_rfl) (by kernel_rfl) (by kernel_rfl) (fun _ _ _ h => h) (Or.inr ⟨by kernel_rfl, rfl⟩) (by assumption) ?_
            try simp only [Act.put, List.setIfInBounds_toArray, List.set_cons_zero, List.set_cons_succ]
            refine takeD (i := 8) (oi := _) (v := undef) (d := some 58) rfl (by kernel_rfl) (by kernel_rfl) (by kernel_rfl) (by kernel_rfl) (fun _ _ _ h => h) (Or.inr ⟨by kernel_rfl, rfl⟩) (by assumption) ?_
            try simp only [Act.put, List.setIfInBounds_toArray, List.set_cons_zero, List.set_cons_succ]
            refine takeD (i := 9) (oi := _) (v := undef) (d := some 59) rfl (by kernel_rfl) (by kernel_rfl) (by kernel_rfl) (by kernel_rfl) (fun _ _ _ h => h) (Or.inr ⟨by kernel_rfl, rfl⟩) (by assumption) ?_
            try simp only [Act.put, List.setIfInBounds_toArray, List.set_cons_zero, List.set_cons_succ]
            refine takeD (i := 10) (oi := _) (v := undef) (d := some 60) rfl (by kernel_rfl) (by kernel_rfl) (by kernel_rfl) (by kernel_rfl) (fun _ _ _ h => h) (Or.inr ⟨by kernel_rfl, rfl⟩) (by assumption) ?_
            try simp only [Act.put, List.setIfInBounds_toArray, List.set_cons_zero, List.set_cons_succ]
            refine takeD (i := 11) (oi := _) (v := undef) (d := some 61) rfl (by kernel_rfl) (by kernel_rfl) (by kernel_rfl) (by kernel_rfl) (fun _ _ _ h => h) (Or.inr ⟨by kernel_rfl, rfl⟩) (by assumption) ?_
            try simp only [Act.put, List.setIfInBounds_toArray, List.set_cons_zero, List.set_cons_succ]
            refine takeD (i := 12) (oi := _) (v := undef) (d := some 62) rfl (by kernel_rfl) (by kernel_rfl) (by kernel_rfl) (by kernel_rfl) (fun _ _ _ h => h) (Or.inr ⟨by kernel_rfl, rfl⟩) (by assumption) ?_
            try simp only [Act.put, List.setIfInBounds_toArray, List.set_cons_zero, List.set_cons_succ]
            refine takeD (i := 13) (oi := _) (v := ?vv25) (d := some 63) rfl (by kernel_rfl) (by kernel_rfl) (by kernel_rfl) (by kernel_rfl) (fun _ _ _ h => h) (Or.inl ⟨by kernel_rfl, ?_⟩) (by assumption) ?_
            rotate_left 1
            · intro W_ hSw; (try dsimp only at hSw); go_simp; (first | done | with_reducible rfl)
            try simp only [Act.put, List.setIfInBounds_toArray, List.set_cons_zero, List.set_cons_succ]
            refine wpAnyH_done (by kernel_rfl) ?_ _
            have R2 := Z6
            have BE := B6
            go_wp2_with (refine wpList_store_var rfl 35 (.tmp 2) _ rfl w.heap.size rz rz 5 rfl rfl R2.out size_rec rfl rfl (by simp [Value.oneCell']) ?_; intro w9 r9 k9; have R9 := Lib.hid r9; have K9 := Lib.hid k9; clear r9 k9)
            exact bodyPost_ret (results_cell_tmp rfl _ _ w.heap.size 35 rz.toArray (0, 0) _ rfl R9.out Try.underlying35 rfl size_rec) rfl (FirstP.none (BE.out.trans (K9.out.below (Nat.le_refl _))) HF.out rfl)
          · refine takeD (i := 4) (oi := _) (v := ?vv26) (d := some 54) rfl (by kernel_rfl) (by kernel_rfl) (by kernel_rfl) (by kernel_rfl) (fun _ _ _ h => h) (Or.inl ⟨by kernel_rfl, ?_⟩) (by assumption) ?_
            rotate_left 1
            · intro W_ hSw; (try dsimp only at hSw); go_simp; (first | done | with_reducible rfl)
            try simp only [Act.put, List.setIfInBounds_toArray, List.set_cons_zero, List.set_cons_succ]
            refine takeD (i := 5) (oi := _) (v := ?vv27) (d := some 55) rfl (by kernel_rfl) (by kernel_rfl) (by kernel_rfl) (by kernel_rfl) (fun _ _ _ h => h) (Or.inl ⟨by kernel_rfl, ?_⟩) (by assumption) ?_
            rotate_left 1
            · intro W_ hSw; (try dsimp only at hSw); go_simp; (first | done | with_reducible rfl)
            try simp only [Act.put, List.setIfInBounds_toArray, List.set_cons_zero, List.set_cons_succ]
            refine takeD (i := 6) (oi := _) (v := ?vv28) (d := some 56) rfl (by kernel_rfl) (by kernel_rfl) (by kernel_rfl) (by kernel_rfl) (fun _ _ _ h => h) (Or.inl ⟨by kernel_rfl, ?_⟩) (by assumption) ?_
            rotate_left 1
            · intro W_ hSw; (try dsimp only at hSw); go_simp; (first | done | with_reducible rfl)
            try simp only [Act.put, List.setIfInBounds_toArray, List.set_cons_zero, List.set_cons_succ]
            refine takeD (i := 8) (oi := _) (v := ?vv29) (d := some 58) rfl (by kernel_rfl) (by kernel_rfl) (by kernel_rfl) (by kernel_rfl) (fun _ _ _ h => h) (Or.inl ⟨by kernel_rfl, ?_⟩) (by assumption) ?_
            rotate_left 1
            · intro W_ hSw; (try dsimp only at hSw); go_simp; (first | done | with_reducible rfl)
            try simp only [Act.put, List.setIfInBounds_toArray, List.set_cons_zero, List.set_cons_succ]
            refine takeD (i := 9) (oi := _) (v := ?vv30) (d := some 59) rfl (by kernel_rfl) (by kernel_rfl) (by kernel_rfl) (by kernel_rfl) (fun _ _ _ h => h) (Or.inl ⟨by kernel_rfl, ?_⟩) (by assumption) ?_
            rotate_left 1
            · intro W_ hSw; (try dsimp only at hSw); go_simp; (first | done | with_reducible rfl)
            try simp only [Act.put, List.setIfInBounds_toArray, List.set_cons_zero, List.set_cons_succ]
            refine takeD (i := 10) (oi := _) (v := ?vv31) (d := some 60) rfl (by kernel_rfl) (by kernel_rfl) (by kernel_rfl) (by kernel_rfl) (fun _ _ _ h => h) (Or.inl ⟨by kernel_rfl, ?_⟩) (by assumption) ?_
            rotate_left 1
            · intro W_ hSw; (try dsimp only at hSw); go_simp; (first | done | with_reducible rfl)
            try simp only [Act.put, List.setIfInBounds_toArray, List.set_cons_zero, List.set_cons_succ]
            refine wpAnyH_ready (rs := [7]) (by kernel_rfl) (by simp) ?_
            refine AllReadyH.cons (o := _) rfl (fun K hK => ?_) AllReadyH.nil
            go_simp
            (go_at_call 32; (with_reducible refine (kc.out _ B6.out).mono ?_); rintro e w7 ⟨rfl, rfl⟩)
            go_wp2_with fail
            refine hK.out _ _ ?_ (fun hHeld => ?_)
            · exact R6.out
            clear hK K
            try simp only [Act.put, List.setIfInBounds_toArray, List.set_cons_zero, List.set_cons_succ]
            refine wpAnyH_ready (rs := [11]) (by kernel_rfl) (by simp) ?_
            refine AllReadyH.cons (o := _) rfl (fun K hK => ?_) AllReadyH.nil
            go_simp
            (go_at_call 34; (with_reducible refine (kn2.out _ B6.out).mono ?_); rintro e w7 ⟨rfl, b7⟩; have R7 := Lib.hid (R6.out.to b7); have Z7 := Lib.hid (Z6.out.to b7); have B7 := Lib.hid (B6.out.trans (b7.mono B6.out.size)); clear b7)
            go_wp2_with fail
            refine hK.out _ _ ?_ (fun hHeld => ?_)
            · exact R7.out
            clear hK K
            try simp only [Act.put, List.setIfInBounds_toArray, List.set_cons_zero, List.set_cons_succ]
            by_cases hcc : ck = cn
            · subst hcc
              have HF : Hid (Nr.first b = some X) := Lib.hid (by unfold Nr.first; rw [if_neg (by rw [H6.out, HTT.out, HN.out]; omega), if_pos (by rw [HTT.out, HCK.out, HCN.out, HX.out, HRT.out]; exact ⟨rfl, rfl⟩), HX.out])
              refine takeD (i := 12) (oi := _) (v := ?vv32) (d := some 62) rfl (by kernel_rfl) (by kernel_rfl) (by kernel_rfl) (by kernel_rfl) (fun _ _ _ h => h) (Or.inl ⟨by kernel_rfl, ?_⟩) (by assumption) ?_
              rotate_left 1
              · intro W_ hSw; (try dsimp only at hSw); go_simp; (first | done | with_reducible rfl)
              try simp only [Act.put, List.setIfInBounds_toArray, List.set_cons_zero, List.set_cons_succ]
              refine takeD (i := 13) (oi := _) (v := ?vv33) (d := some 63) rfl (by kernel_rfl) (by kernel_rfl) (by kernel_rfl) (by kernel_rfl) (fun _ _ _ h => h) (Or.inl ⟨by kernel_rfl, ?_⟩) (by assumption) ?_
              rotate_left 1
              · intro W_ hSw; (try dsimp only at hSw); go_simp; (first | done | with_reducible rfl)
              try simp only [Act.put, List.setIfInBounds_toArray, List.set_cons_zero, List.set_cons_succ]
              refine wpAnyH_done (by kernel_rfl) ?_ _
              have rslt : G5 < (w7).heap.size := R7.out.lt
              have rslu : G5 < (w7).heap.size + 1 := Nat.lt_succ_of_lt R7.out.lt
              have rs0 : (w7).cell? ⟨G5, 0, none⟩ = some (.int .u8 (b0 : Int)) := R7.out.cells 0
              have rsz0 : (w7).frozen? ⟨G5, 0, none⟩ = false := R7.out.frozen 0
              have rs1 : (w7).cell? ⟨G5, 1, none⟩ = some (.int .u32 (tx : Int)) := R7.out.cells 1
              have rsz1 : (w7).frozen? ⟨G5, 1, none⟩ = false := R7.out.frozen 1
              have rs2 : (w7).cell? ⟨G5, 2, none⟩ = some (.int .u8 (b5 : Int)) := R7.out.cells 2
              have rsz2 : (w7).frozen? ⟨G5, 2, none⟩ = false := R7.out.frozen 2
              have rs3 : (w7).cell? ⟨G5, 3, none⟩ = some (.bool yes) := R7.out.cells 3
              have rsz3 : (w7).frozen? ⟨G5, 3, none⟩ = false := R7.out.frozen 3
              have rs4 : (w7).cell? ⟨G5, 4, none⟩ = some (.slice (some ⟨g, o + 9, none⟩) T (c - 9)) := R7.out.cells 4
              have rsz4 : (w7).frozen? ⟨G5, 4, none⟩ = false := R7.out.frozen 4
              have hsx : Sq byw w7 w7.heap.size (some ⟨g, o + 9, none⟩) X.text := by rw [HXP.out.2.2.2.2]; exact (Sq.drop ((HSQ.out.below B7.out).more B7.out.size)).take _
              have HSX := Lib.hid hsx
              clear hsx
              go_wp2_with (first
                | (at_builtin; refine wpList_append_n (f := byw) _ rfl (.const (.slice none 0 0)) (.tmp 66) 33 rfl (fun _ => rfl) w7.heap.size 5 i0 _ _ Try.underlying33 hif hz0 rfl hz1 hz2 (by decide) none 0 0 [] rfl rfl (World.ownsRow_nil _ _ _ _) w7.heap.size (some ⟨g, o + 9, none⟩) X.text (c - 9) T HXL.out rfl HSX.out (by simp) T (by omega) (by omega) (Nat.le_refl _) ?_; intro A8 c8 w8 o8 g8 b8; have O8 := Lib.hid o8; have R8 := Lib.hid (R7.out.to b8); have Z8 := Lib.hid (Z7.out.to b8); have B8 := Lib.hid (B7.out.trans (b8.mono B7.out.size)); have s4 : w8.cell? ⟨G5, 4, none⟩ = some (.slice (some ⟨g, o + 9, none⟩) T (c - 9)) := R8.out.cells 4; have z4 : w8.frozen? ⟨G5, 4, none⟩ = false := R8.out.frozen 4; clear o8 g8 b8)
                | (refine wpList_load_var rfl 35 (.tmp 5) rfl G5 rfl (rcV b0 tx b5 yes A8 T c8) _ 5 (R8.out.set 4 (.slice A8 T c8)) Try.underlying35 rfl size_rec rfl ?_)
                | (refine wpList_store_var rfl 35 (.tmp 2) (.tmp 69) rfl w.heap.size rz (rcV b0 tx b5 yes A8 T c8) 5 rfl rfl (Z8.out.other hG5 (.slice A8 T c8)) size_rec rfl rfl (by simp [Value.oneCell']) ?_; intro w9 r9 k9; have R9 := Lib.hid r9; have K9 := Lib.hid k9; clear r9 k9))
              have hsz : ((X.size : Nat) : Int) = 9 + (T : Int) + 4 := by rw [Nr.size, HXL.out]; omega
              have HXS := Lib.hid hsz
              clear hsz
              exact bodyPost_ret (results_cell_tmp rfl _ _ w.heap.size 35 (rcV b0 tx b5 yes A8 T c8).toArray (0, 0) _ rfl R9.out Try.underlying35 rfl size_rec) rfl (FirstP.some ((bel_set B8.out (by show w.heap.size ≤ G5; omega) _).trans (K9.out.below (Nat.le_refl _))) HF.out HXL.out (by rw [HXP.out.1, HXP.out.2.1, HXP.out.2.2.1, HXP.out.2.2.2.1, HXS.out]; rfl) (K9.out.own (ownsRow_setCell_below O8.out (by show G5 < w7.heap.size; exact R7.out.lt) _) Z7.out.lt) B7.out.size)
            · have HF : Hid (Nr.first b = none) := Lib.hid (by unfold Nr.first; rw [if_neg (by rw [H6.out, HTT.out, HN.out]; omega), if_neg (by rw [HTT.out, HCK.out, HCN.out]; exact fun h => hcc h.2)])
              have gcc : ((ck : Int) != (cn : Int)) = true := by simp; omega
              clear hcc
              refine takeD (i := 12) (oi := _) (v := ?vv34) (d := some 62) rfl (by kernel_rfl) (by kernel_rfl) (by kernel_rfl) (by kernel_rfl) (fun _ _ _ h => h) (Or.inl ⟨by kernel_rfl, ?_⟩) (by assumption) ?_
              rotate_left 1
              · intro W_ hSw; (try dsimp only at hSw); go_simp; (first | done | with_reducible rfl)
              try simp only [Act.put, List.setIfInBounds_toArray, List.set_cons_zero, List.set_cons_succ]
              refine takeD (i := 13) (oi := _) (v := ?vv35) (d := some 63) rfl (by kernel_rfl) (by kernel_rfl) (by kernel_rfl) (by kernel_rfl) (fun _ _ _ h => h) (Or.inl ⟨by kernel_rfl, ?_⟩) (by assumption) ?_
              rotate_left 1
              · intro W_ hSw; (try dsimp only at hSw); go_simp; (first | done | with_reducible rfl)
              try simp only [Act.put, List.setIfInBounds_toArray, List.set_cons_zero, List.set_cons_succ]
              refine wpAnyH_done (by kernel_rfl) ?_ _
              have R2 := Z7
              have BE := B7
              go_wp2_with (refine wpList_store_var rfl 35 (.tmp 2) _ rfl w.heap.size rz rz 5 rfl rfl R2.out size_rec rfl rfl (by simp [Value.oneCell']) ?_; intro w9 r9 k9; have R9 := Lib.hid r9; have K9 := Lib.hid k9; clear r9 k9)
              exact bodyPost_ret (results_cell_tmp rfl _ _ w.heap.size 35 rz.toArray (0, 0) _ rfl R9.out Try.underlying35 rfl size_rec) rfl (FirstP.none (BE.out.trans (K9.out.below (Nat.le_refl _))) HF.out rfl)
        · go_simp
          refine hK.out _ _ ?_ (fun hHeld => ?_)
          · exact ⟨keep_alloc (x1.keep (keep_alloc d0)), keep_alloc (x1.keep (keep_alloc d5)), keep_alloc (x1.keep (keep_alloc d6))⟩
          clear hK K
          try simp only [Act.put]
          try simp only [List.setIfInBounds_toArray]
          try simp only [List.set_cons_succ]
          try simp only [List.set_cons_zero]
          obtain ⟨G5, hGG⟩ : ∃ G5, x1.val.heap.size = G5 := ⟨_, rfl⟩
          rw [hGG]
          have Ra := Lib.hid (RowAt.new' x1.val G5 35 rz hGG.symm).drew
          have hG5 : G5 ≠ w.heap.size := by have := R2.out.lt; omega
          have hG6 : w.heap.size ≤ G5 := by have := R2.out.lt; omega
          clear hGG
          refine wpAnyH_ready (rs := [5]) (by kernel_rfl) (by simp) ?_
          refine AllReadyH.cons (o := _) rfl (fun K hK => ?_) AllReadyH.nil
          go_simp
          (go_at_call 34; (with_reducible refine (kn.out _ (bel_alloc BE.out _).drew).mono ?_); rintro e w3 ⟨rfl, b3⟩; have B3 := Lib.hid ((bel_alloc BE.out _).drew.trans (b3.mono (bel_alloc BE.out _).drew.size)); have Rb := Lib.hid (Ra.out.to b3); have R3 := Lib.hid ((R2.out.alloc _).drew.to b3); have f0 : w3.cell? ⟨g, o, none⟩ = some (.int .u8 (b0 : Int)) := (B3.out.cell (p := ⟨g, o, none⟩) hg).trans d0; have f5 : w3.cell? ⟨g, o + 5, none⟩ = some (.int .u8 (b5 : Int)) := (B3.out.cell (p := ⟨g, o + 5, none⟩) hg).trans d5; have f6 : w3.cell? ⟨g, o + 6, none⟩ = some (.int .u8 (b6 : Int)) := (B3.out.cell (p := ⟨g, o + 6, none⟩) hg).trans d6; clear b3)
          go_wp2_with fail
          refine hK.out _ _ ?_ (fun hHeld => ?_)
          · exact ⟨f0, f5, f6⟩
          clear hK K
          try simp only [Act.put, List.setIfInBounds_toArray, List.set_cons_zero, List.set_cons_succ]
          refine takeD (i := 16) (oi := _) (v := ?vv36) (d := some 49) rfl (by kernel_rfl) (by kernel_rfl) (by kernel_rfl) (by kernel_rfl) (fun _ _ _ h => h) (Or.inl ⟨by kernel_rfl, ?_⟩) (by assumption) ?_
          rotate_left 1
          · intro W_ hSw; (try dsimp only at hSw); go_simp; (first | done | with_reducible rfl)
          try simp only [Act.put, List.setIfInBounds_toArray, List.set_cons_zero, List.set_cons_succ]
          have qlt : G5 < (w3).heap.size := Rb.out.lt
          have qlu : G5 < (w3).heap.size + 1 := Nat.lt_succ_of_lt Rb.out.lt
          have q0 : (w3).cell? ⟨G5, 0, none⟩ = some (.int .u8 0) := Rb.out.cells 0
          have qz0 : (w3).frozen? ⟨G5, 0, none⟩ = false := Rb.out.frozen 0
          have q1 : (w3).cell? ⟨G5, 1, none⟩ = some (.int .u32 0) := Rb.out.cells 1
          have qz1 : (w3).frozen? ⟨G5, 1, none⟩ = false := Rb.out.frozen 1
          have q2 : (w3).cell? ⟨G5, 2, none⟩ = some (.int .u8 0) := Rb.out.cells 2
          have qz2 : (w3).frozen? ⟨G5, 2, none⟩ = false := Rb.out.frozen 2
          have q3 : (w3).cell? ⟨G5, 3, none⟩ = some (.bool false) := Rb.out.cells 3
          have qz3 : (w3).frozen? ⟨G5, 3, none⟩ = false := Rb.out.frozen 3
          have q4 : (w3).cell? ⟨G5, 4, none⟩ = some (.slice none 0 0) := Rb.out.cells 4
          have qz4 : (w3).frozen? ⟨G5, 4, none⟩ = false := Rb.out.frozen 4
          have hne3 : G5 ≠ g := by omega
          refine wpAnyH_ready (rs := [18]) (by kernel_rfl) (by simp) ?_
          refine AllReadyH.cons (o := _) rfl (fun K hK => ?_) AllReadyH.nil
          go_simp
          refine hK.out _ _ ?_ (fun hHeld => ?_)
          · exact ⟨keep_set5 hne3 f0, keep_set5 hne3 f5, keep_set5 hne3 f6⟩
          clear hK K
          try simp only [Act.put]
          try simp only [List.setIfInBounds_toArray]
          try simp only [List.set_cons_succ]
          try simp only [List.set_cons_zero]
          have R5 := Lib.hid (Rb.out.set5 (.int .u8 (b0 : Int)) (.int .u32 (tx : Int)) (.int .u8 (b5 : Int)) (.bool yes) (.slice (some ⟨g, o + 9, none⟩) T (c - 9)))
          have Z5 := Lib.hid (R3.out.other5 hG5 (.int .u8 (b0 : Int)) (.int .u32 (tx : Int)) (.int .u8 (b5 : Int)) (.bool yes) (.slice (some ⟨g, o + 9, none⟩) T (c - 9)))
          have B5 := Lib.hid (below_set5 B3.out hG6 (.int .u8 (b0 : Int)) (.int .u32 (tx : Int)) (.int .u8 (b5 : Int)) (.bool yes) (.slice (some ⟨g, o + 9, none⟩) T (c - 9)))
          refine wpAnyH_done (by kernel_rfl) ?_ _
          go_wp2_with fail
          refine wp_region_held_drew (S := (fun w' => RowAt w' G5 35 (rcV b0 tx b5 yes (some ⟨g, o + 9, none⟩) T (c - 9)))) (by kernel_rfl) ?_ (fun hHeld => ?_)
          · exact R5.out.drew
          refine takeD (i := 0) (oi := _) (v := _) (d := some 50) rfl (by kernel_rfl) (by kernel_rfl) (by kernel_rfl) (by kernel_rfl) (fun _ _ _ h => h) (yieldsIf_load_mid (by kernel_rfl) 35 (.tmp 5) (by kernel_rfl) G5 0 (by kernel_rfl) (rcV b0 tx b5 yes (some ⟨g, o + 9, none⟩) T (c - 9)) _ (fun W h => h.all) Try.underlying35 rfl size_rec) (by assumption) ?_
          try simp only [Act.put, List.setIfInBounds_toArray, List.set_cons_zero, List.set_cons_succ]
          refine wpAnyH_ready (rs := [1]) (by kernel_rfl) (by simp) ?_
          refine AllReadyH.cons (o := _) rfl (fun K hK => ?_) AllReadyH.nil
          go_simp
          (go_at_call 30; (with_reducible refine (kr.out _).mono ?_); rintro e w6 ⟨rfl, b6⟩; have R6 := Lib.hid (R5.out.drew.to b6); have Z6 := Lib.hid (Z5.out.drew.to b6); have B6 := Lib.hid (B5.out.drew.trans (b6.mono B5.out.drew.size)); clear b6)
          go_wp2_with fail
          refine hK.out _ _ ?_ (fun hHeld => ?_)
          · exact R6.out
          clear hK K
          try simp only [Act.put, List.setIfInBounds_toArray, List.set_cons_zero, List.set_cons_succ]
          refine takeD (i := 2) (oi := _) (v := ?vv37) (d := some 52) rfl (by kernel_rfl) (by kernel_rfl) (by kernel_rfl) (by kernel_rfl) (fun _ _ _ h => h) (Or.inl ⟨by kernel_rfl, ?_⟩) (by assumption) ?_
          rotate_left 1
          · intro W_ hSw; (try dsimp only at hSw); go_simp; (first | done | with_reducible rfl)
          try simp only [Act.put, List.setIfInBounds_toArray, List.set_cons_zero, List.set_cons_succ]
          refine takeD (i := 3) (oi := _) (v := ?vv38) (d := some 53) rfl (by kernel_rfl) (by kernel_rfl) (by kernel_rfl) (by kernel_rfl) (fun _ _ _ h => h) (Or.inl ⟨by kernel_rfl, ?_⟩) (by assumption) ?_
          rotate_left 1
          · intro W_ hSw; (try dsimp only at hSw); go_simp; (first | done | with_reducible rfl)
          try simp only [Act.put, List.setIfInBounds_toArray, List.set_cons_zero, List.set_cons_succ]
          cases rt
          · have HF : Hid (Nr.first b = none) := Lib.hid (by unfold Nr.first; rw [if_neg (by rw [H6.out, HTT.out, HN.out]; omega), if_neg (by rw [HX.out, HRT.out]; simp)])
            refine takeD (i := 4) (oi := _) (v := undef) (d := some 54) rfl (by kernel_rfl) (by kernel_rfl) (by kernel_rfl) (by kernel_rfl) (fun _ _ _ h => h) (Or.inr ⟨by kernel_rfl, rfl⟩) (by assumption) ?_
            try simp only [Act.put, List.setIfInBounds_toArray, List.set_cons_zero, List.set_cons_succ]
            refine takeD (i := 5) (oi := _) (v := undef) (d := some 55) rfl (by kernel_rfl) (by kernel_rfl) (by kernel_rfl) (by kernel_rfl) (fun _ _ _ h => h) (Or.inr ⟨by kernel_rfl, rfl⟩) (by assumption) ?_
            try simp only [Act.put, List.setIfInBounds_toArray, List.set_cons_zero, List.set_cons_succ]
            refine takeD (i := 6) (oi := _) (v := undef) (d := some 56) rfl (by kernel_rfl) (by kernel_rfl) (by kernel_rfl) (by kernel_rfl) (fun _ _ _ h => h) (Or.inr ⟨by kernel_rfl, rfl⟩) (by assumption) ?_
            try simp only [Act.put, List.setIfInBounds_toArray, List.set_cons_zero, List.set_cons_succ]
            refine takeD (i := 7) (oi := _) (v := undef) (d := some 57) rfl (by kernel_rfl) (by kernel_rfl) (by kernel_rfl) (by kernel_rfl) (fun _ _ _ h => h) (Or.inr ⟨by kernel_rfl, rfl⟩) (by assumption) ?_
            try simp only [Act.put, List.setIfInBounds_toArray, List.set_cons_zero, List.set_cons_succ]
            refine takeD (i := 8) (oi := _) (v := undef) (d := some 58) rfl (by kernel_rfl) (by kernel_rfl) (by kernel_rfl) (by kernel_rfl) (fun _ _ _ h => h) (Or.inr ⟨by kernel_rfl, rfl⟩) (by assumption) ?_
            try simp only [Act.put, List.setIfInBounds_toArray, List.set_cons_zero, List.set_cons_succ]
            refine takeD (i := 9) (oi := _) (v := undef) (d := some 59) rfl (by kernel_rfl) (by kernel_rfl) (by kernel_rfl) (by kernel_rfl) (fun _ _ _ h => h) (Or.inr ⟨by kernel_rfl, rfl⟩) (by assumption) ?_
            try simp only [Act.put, List.setIfInBounds_toArray, List.set_cons_zero, List.set_cons_succ]
            refine takeD (i := 10) (oi := _) (v := undef) (d := some 60) rfl (by kernel_rfl) (by kernel_rfl) (by kernel_rfl) (by kernel_rfl) (fun _ _ _ h => h) (Or.inr ⟨by kernel_rfl, rfl⟩) (by assumption) ?_
            try simp only [Act.put, List.setIfInBounds_toArray, List.set_cons_zero, List.set_cons_succ]
            refine takeD (i := 11) (oi := _) (v := undef) (d := some 61) rfl (by kernel_rfl) (by kernel_rfl) (by kernel_rfl) (by kernel_rfl) (fun _ _ _ h => h) (Or.inr ⟨by kernel_rfl, rfl⟩) (by assumption) ?_
            try simp only [Act.put, List.setIfInBounds_toArray, List.set_cons_zero, List.set_cons_succ]
            refine takeD (i := 12) (oi := _) (v := undef) (d := some 62) rfl (by kernel_rfl) (by kernel_rfl) (by kernel_rfl) (by kernel_rfl) (fun _ _ _ h => h) (Or.inr ⟨by kernel_rfl, rfl⟩) (by assumption) ?_
            try simp only [Act.put, List.setIfInBounds_toArray, List.set_cons_zero, List.set_cons_succ]
            refine takeD (i := 13) (oi := _) (v := ?vv39) (d := some 63) rfl (by kernel_rfl) (by kernel_rfl) (by kernel_rfl) (by kernel_rfl) (fun _ _ _ h => h) (Or.inl ⟨by kernel_rfl, ?_⟩) (by assumption) ?_
            rotate_left 1
            · intro W_ hSw; (try dsimp only at hSw); go_simp; (first | done | with_reducible rfl)
            try simp only [Act.put, List.setIfInBounds_toArray, List.set_cons_zero, List.set_cons_succ]
            refine wpAnyH_done (by kernel_rfl) ?_ _
            have R2 := Z6
            have BE := B6
            go_wp2_with (refine wpList_store_var rfl 35 (.tmp 2) _ rfl w.heap.size rz rz 5 rfl rfl R2.out size_rec rfl rfl (by simp [Value.oneCell']) ?_; intro w9 r9 k9; have R9 := Lib.hid r9; have K9 := Lib.hid k9; clear r9 k9)
            exact bodyPost_ret (results_cell_tmp rfl _ _ w.heap.size 35 rz.toArray (0, 0) _ rfl R9.out Try.underlying35 rfl size_rec) rfl (FirstP.none (BE.out.trans (K9.out.below (Nat.le_refl _))) HF.out rfl)
          · refine takeD (i := 4) (oi := _) (v := ?vv40) (d := some 54) rfl (by kernel_rfl) (by kernel_rfl) (by kernel_rfl) (by kernel_rfl) (fun _ _ _ h => h) (Or.inl ⟨by kernel_rfl, ?_⟩) (by assumption) ?_
            rotate_left 1
            · intro W_ hSw; (try dsimp only at hSw); go_simp; (first | done | with_reducible rfl)
            try simp only [Act.put, List.setIfInBounds_toArray, List.set_cons_zero, List.set_cons_succ]
            refine takeD (i := 5) (oi := _) (v := ?vv41) (d := some 55) rfl (by kernel_rfl) (by kernel_rfl) (by kernel_rfl) (by kernel_rfl) (fun _ _ _ h => h) (Or.inl ⟨by kernel_rfl, ?_⟩) (by assumption) ?_
            rotate_left 1
            · intro W_ hSw; (try dsimp only at hSw); go_simp; (first | done | with_reducible rfl)
            try simp only [Act.put, List.setIfInBounds_toArray, List.set_cons_zero, List.set_cons_succ]
            refine takeD (i := 6) (oi := _) (v := ?vv42) (d := some 56) rfl (by kernel_rfl) (by kernel_rfl) (by kernel_rfl) (by kernel_rfl) (fun _ _ _ h => h) (Or.inl ⟨by kernel_rfl, ?_⟩) (by assumption) ?_
            rotate_left 1
            · intro W_ hSw; (try dsimp only at hSw); go_simp; (first | done | with_reducible rfl)
            try simp only [Act.put, List.setIfInBounds_toArray, List.set_cons_zero, List.set_cons_succ]
            refine takeD (i := 8) (oi := _) (v := ?vv43) (d := some 58) rfl (by kernel_rfl) (by kernel_rfl) (by kernel_rfl) (by kernel_rfl) (fun _ _ _ h => h) (Or.inl ⟨by kernel_rfl, ?_⟩) (by assumption) ?_
            rotate_left 1
            · intro W_ hSw; (try dsimp only at hSw); go_simp; (first | done | with_reducible rfl)
            try simp only [Act.put, List.setIfInBounds_toArray, List.set_cons_zero, List.set_cons_succ]
            refine takeD (i := 9) (oi := _) (v := ?vv44) (d := some 59) rfl (by kernel_rfl) (by kernel_rfl) (by kernel_rfl) (by kernel_rfl) (fun _ _ _ h => h) (Or.inl ⟨by kernel_rfl, ?_⟩) (by assumption) ?_
            rotate_left 1
            · intro W_ hSw; (try dsimp only at hSw); go_simp; (first | done | with_reducible rfl)
            try simp only [Act.put, List.setIfInBounds_toArray, List.set_cons_zero, List.set_cons_succ]
            refine takeD (i := 10) (oi := _) (v := ?vv45) (d := some 60) rfl (by kernel_rfl) (by kernel_rfl) (by kernel_rfl) (by kernel_rfl) (fun _ _ _ h => h) (Or.inl ⟨by kernel_rfl, ?_⟩) (by assumption) ?_
            rotate_left 1
            · intro W_ hSw; (try dsimp only at hSw); go_simp; (first | done | with_reducible rfl)
            try simp only [Act.put, List.setIfInBounds_toArray, List.set_cons_zero, List.set_cons_succ]
            refine wpAnyH_ready (rs := [7]) (by kernel_rfl) (by simp) ?_
            refine AllReadyH.cons (o := _) rfl (fun K hK => ?_) AllReadyH.nil
            go_simp
            (go_at_call 32; (with_reducible refine (kc.out _ B6.out).mono ?_); rintro e w7 ⟨rfl, rfl⟩)
            go_wp2_with fail
            refine hK.out _ _ ?_ (fun hHeld => ?_)
            · exact R6.out
            clear hK K
            try simp only [Act.put, List.setIfInBounds_toArray, List.set_cons_zero, List.set_cons_succ]
            refine wpAnyH_ready (rs := [11]) (by kernel_rfl) (by simp) ?_
            refine AllReadyH.cons (o := _) rfl (fun K hK => ?_) AllReadyH.nil
            go_simp
            (go_at_call 34; (with_reducible refine (kn2.out _ B6.out).mono ?_); rintro e w7 ⟨rfl, b7⟩; have R7 := Lib.hid (R6.out.to b7); have Z7 := Lib.hid (Z6.out.to b7); have B7 := Lib.hid (B6.out.trans (b7.mono B6.out.size)); clear b7)
            go_wp2_with fail
            refine hK.out _ _ ?_ (fun hHeld => ?_)
            · exact R7.out
            clear hK K
            try simp only [Act.put, List.setIfInBounds_toArray, List.set_cons_zero, List.set_cons_succ]
            by_cases hcc : ck = cn
            · subst hcc
              have HF : Hid (Nr.first b = some X) := Lib.hid (by unfold Nr.first; rw [if_neg (by rw [H6.out, HTT.out, HN.out]; omega), if_pos (by rw [HTT.out, HCK.out, HCN.out, HX.out, HRT.out]; exact ⟨rfl, rfl⟩), HX.out])
              refine takeD (i := 12) (oi := _) (v := ?vv46) (d := some 62) rfl (by kernel_rfl) (by kernel_rfl) (by kernel_rfl) (by kernel_rfl) (fun _ _ _ h => h) (Or.inl ⟨by kernel_rfl, ?_⟩) (by assumption) ?_
              rotate_left 1
              · intro W_ hSw; (try dsimp only at hSw); go_simp; (first | done | with_reducible rfl)
              try simp only [Act.put, List.setIfInBounds_toArray, List.set_cons_zero, List.set_cons_succ]
              refine takeD (i := 13) (oi := _) (v := ?vv47) (d := some 63) rfl (by kernel_rfl) (by kernel_rfl) (by kernel_rfl) (by kernel_rfl) (fun _ _ _ h => h) (Or.inl ⟨by kernel_rfl, ?_⟩) (by assumption) ?_
              rotate_left 1
              · intro W_ hSw; (try dsimp only at hSw); go_simp; (first | done | with_reducible rfl)
              try simp only [Act.put, List.setIfInBounds_toArray, List.set_cons_zero, List.set_cons_succ]
              refine wpAnyH_done (by kernel_rfl) ?_ _
              have rslt : G5 < (w7).heap.size := R7.out.lt
              have rslu : G5 < (w7).heap.size + 1 := Nat.lt_succ_of_lt R7.out.lt
              have rs0 : (w7).cell? ⟨G5, 0, none⟩ = some (.int .u8 (b0 : Int)) := R7.out.cells 0
              have rsz0 : (w7).frozen? ⟨G5, 0, none⟩ = false := R7.out.frozen 0
              have rs1 : (w7).cell? ⟨G5, 1, none⟩ = some (.int .u32 (tx : Int)) := R7.out.cells 1
              have rsz1 : (w7).frozen? ⟨G5, 1, none⟩ = false := R7.out.frozen 1
              have rs2 : (w7).cell? ⟨G5, 2, none⟩ = some (.int .u8 (b5 : Int)) := R7.out.cells 2
              have rsz2 : (w7).frozen? ⟨G5, 2, none⟩ = false := R7.out.frozen 2
              have rs3 : (w7).cell? ⟨G5, 3, none⟩ = some (.bool yes) := R7.out.cells 3
              have rsz3 : (w7).frozen? ⟨G5, 3, none⟩ = false := R7.out.frozen 3
              have rs4 : (w7).cell? ⟨G5, 4, none⟩ = some (.slice (some ⟨g, o + 9, none⟩) T (c - 9)) := R7.out.cells 4
              have rsz4 : (w7).frozen? ⟨G5, 4, none⟩ = false := R7.out.frozen 4
              have hsx : Sq byw w7 w7.heap.size (some ⟨g, o + 9, none⟩) X.text := by rw [HXP.out.2.2.2.2]; exact (Sq.drop ((HSQ.out.below B7.out).more B7.out.size)).take _
              have HSX := Lib.hid hsx
              clear hsx
              go_wp2_with (first
                | (at_builtin; refine wpList_append_n (f := byw) _ rfl (.const (.slice none 0 0)) (.tmp 66) 33 rfl (fun _ => rfl) w7.heap.size 5 i0 _ _ Try.underlying33 hif hz0 rfl hz1 hz2 (by decide) none 0 0 [] rfl rfl (World.ownsRow_nil _ _ _ _) w7.heap.size (some ⟨g, o + 9, none⟩) X.text (c - 9) T HXL.out rfl HSX.out (by simp) T (by omega) (by omega) (Nat.le_refl _) ?_; intro A8 c8 w8 o8 g8 b8; have O8 := Lib.hid o8; have R8 := Lib.hid (R7.out.to b8); have Z8 := Lib.hid (Z7.out.to b8); have B8 := Lib.hid (B7.out.trans (b8.mono B7.out.size)); have s4 : w8.cell? ⟨G5, 4, none⟩ = some (.slice (some ⟨g, o + 9, none⟩) T (c - 9)) := R8.out.cells 4; have z4 : w8.frozen? ⟨G5, 4, none⟩ = false := R8.out.frozen 4; clear o8 g8 b8)
                | (refine wpList_load_var rfl 35 (.tmp 5) rfl G5 rfl (rcV b0 tx b5 yes A8 T c8) _ 5 (R8.out.set 4 (.slice A8 T c8)) Try.underlying35 rfl size_rec rfl ?_)
                | (refine wpList_store_var rfl 35 (.tmp 2) (.tmp 69) rfl w.heap.size rz (rcV b0 tx b5 yes A8 T c8) 5 rfl rfl (Z8.out.other hG5 (.slice A8 T c8)) size_rec rfl rfl (by simp [Value.oneCell']) ?_; intro w9 r9 k9; have R9 := Lib.hid r9; have K9 := Lib.hid k9; clear r9 k9))
              have hsz : ((X.size : Nat) : Int) = 9 + (T : Int) + 4 := by rw [Nr.size, HXL.out]; omega
              have HXS := Lib.hid hsz
              clear hsz
              exact bodyPost_ret (results_cell_tmp rfl _ _ w.heap.size 35 (rcV b0 tx b5 yes A8 T c8).toArray (0, 0) _ rfl R9.out Try.underlying35 rfl size_rec) rfl (FirstP.some ((bel_set B8.out (by show w.heap.size ≤ G5; omega) _).trans (K9.out.below (Nat.le_refl _))) HF.out HXL.out (by rw [HXP.out.1, HXP.out.2.1, HXP.out.2.2.1, HXP.out.2.2.2.1, HXS.out]; rfl) (K9.out.own (ownsRow_setCell_below O8.out (by show G5 < w7.heap.size; exact R7.out.lt) _) Z7.out.lt) B7.out.size)
            · have HF : Hid (Nr.first b = none) := Lib.hid (by unfold Nr.first; rw [if_neg (by rw [H6.out, HTT.out, HN.out]; omega), if_neg (by rw [HTT.out, HCK.out, HCN.out]; exact fun h => hcc h.2)])
              have gcc : ((ck : Int) != (cn : Int)) = true := by simp; omega
              clear hcc
              refine takeD (i := 12) (oi := _) (v := ?vv48) (d := some 62) rfl (by kernel_rfl) (by kernel_rfl) (by kernel_rfl) (by kernel_rfl) (fun _ _ _ h => h) (Or.inl ⟨by kernel_rfl, ?_⟩) (by assumption) ?_
              rotate_left 1
              · intro W_ hSw; (try dsimp only at hSw); go_simp; (first | done | with_reducible rfl)
              try simp only [Act.put, List.setIfInBounds_toArray, List.set_cons_zero, List.set_cons_succ]
              refine takeD (i := 13) (oi := _) (v := ?vv49) (d := some 63) rfl (by kernel_rfl) (by kernel_rfl) (by kernel_rfl) (by kernel_rfl) (fun _ _ _ h => h) (Or.inl ⟨by kernel_rfl, ?_⟩) (by assumption) ?_
              rotate_left 1
              · intro W_ hSw; (try dsimp only at hSw); go_simp; (first | done | with_reducible rfl)
              try simp only [Act.put, List.setIfInBounds_toArray, List.set_cons_zero, List.set_cons_succ]
              refine wpAnyH_done (by kernel_rfl) ?_ _
              have R2 := Z7
              have BE := B7
              go_wp2_with (refine wpList_store_var rfl 35 (.tmp 2) _ rfl w.heap.size rz rz 5 rfl rfl R2.out size_rec rfl rfl (by simp [Value.oneCell']) ?_; intro w9 r9 k9; have R9 := Lib.hid r9; have K9 := Lib.hid k9; clear r9 k9)
              exact bodyPost_ret (results_cell_tmp rfl _ _ w.heap.size 35 rz.toArray (0, 0) _ rfl R9.out Try.underlying35 rfl size_rec) rfl (FirstP.none (BE.out.trans (K9.out.below (Nat.le_refl _))) HF.out rfl)
end Go.Proofs.Ytalaobpehkgilaa
