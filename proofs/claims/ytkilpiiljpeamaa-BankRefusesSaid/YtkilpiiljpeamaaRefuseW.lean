/- The walk of saucierlaw17.BankRefuses. -/
import Derived.Test.YtkilpiiljpeamaaApartW
import Derived.Test.YtkilpiiljpeamaaOvW
import Derived.Test.YtkilpiiljpeamaaSameB
namespace Go.Proofs.Ytkilpiiljpeamaa
open Go.RowKit
set_option linter.unusedVariables false
set_option linter.unusedSimpArgs false
attribute [local go_sem] Later.cell Later.frozen setCell_twice
attribute [local go_sem high] sliced_zero' run_slcd
attribute [local irreducible] slcd
theorem Bk.fit_mid {P : List Bk.Pr} (h : ∀ z ∈ P, Bk.fits z.1 z.2.length = true) (k : Nat) (x : Bk.Pr) : Bk.fit (P.take k ++ [x] ++ P.drop k) = Bk.fits x.1 x.2.length := by
  apply Bool.eq_iff_iff.2
  rw [Bk.fit_iff]
  refine ⟨fun H => H x (by simp), fun hx z hz => ?_⟩
  rcases List.mem_append.1 hz with hz | hz
  · rcases List.mem_append.1 hz with hz | hz
    · exact h z (List.mem_of_mem_take hz)
    · obtain rfl := List.mem_singleton.1 hz
      exact hx
  · exact h z (List.mem_of_mem_drop hz)
theorem OverP.some {bank : List Nat} {l : List Bk.Pr} {w w' : World} {e : Ending} (h : OverP bank l w e w') : ∃ A n c z, e = .returned (.tuple #[.slice A n c, .int .i64 z]) ∧ z = (if bank.length = 64 then (if Bk.fit l = true then 0 else 20) else 21) ∧ Below w.heap.size w w' := by
  obtain ⟨hb, h⟩ := h
  by_cases h1 : bank.length = 64
  · by_cases h2 : Bk.fit l = true
    · rw [if_pos h1, if_pos h2] at h
      obtain ⟨A, c, he, _⟩ := h
      exact ⟨A, 64, c, 0, he, by rw [if_pos h1, if_pos h2], hb⟩
    · rw [if_pos h1, if_neg h2] at h
      exact ⟨_, _, _, 20, h, by rw [if_pos h1, if_neg h2], hb⟩
  · rw [if_neg h1] at h
    exact ⟨_, _, _, 21, h, by rw [if_neg h1], hb⟩
theorem CellsP.some {l : List Bk.Pr} {w w' : World} {e : Ending} (h : CellsP l w e w') : ∃ A n c z, e = .returned (.tuple #[.slice A n c, .int .i64 z]) ∧ z = (if Bk.fit l = true then 0 else 20) ∧ Below w.heap.size w w' := by
  obtain ⟨hb, h⟩ := h
  by_cases h2 : Bk.fit l = true
  · rw [if_pos h2] at h
    obtain ⟨A, c, he, _⟩ := h
    exact ⟨A, _, c, 0, he, by rw [if_pos h2], hb⟩
  · rw [if_neg h2] at h
    exact ⟨_, _, _, 20, h, by rw [if_neg h2], hb⟩
theorem DiffQ.some {a b : List Nat} {w w' : World} {e : Ending} (hb64 : b.length = 64) (h : DiffQ a b w e w') : ∃ A n c z, e = .returned (.tuple #[.slice A n c, .int .i64 z]) ∧ z = (if a.length = 64 then 0 else 21) ∧ Below w.heap.size w w' := by
  obtain ⟨hb, h⟩ := h
  by_cases h64 : a.length = 64
  · rw [if_pos ⟨h64, hb64⟩] at h
    obtain ⟨bl, Al, cl, he, _⟩ := h
    exact ⟨Al, _, cl, 0, he, by rw [if_pos h64], hb⟩
  · rw [if_neg (fun hc => h64 hc.1)] at h
    exact ⟨_, _, _, 21, h, by rw [if_neg h64], hb⟩
theorem Recs.grown {α : Type} {f : α → List Value} {s : Nat} {w w' : World} {B B' g o : Nat} {l : List α} {row : Option Nat} (h : Recs f s w B (some ⟨g, o, none⟩) l) (hg : w.grownBy w' row) (ho : some g ≠ row) (hB : B ≤ B') : Recs f s w' B' (some ⟨g, o, none⟩) l := fun hn => by
  obtain ⟨b, o', hA, hb, hc⟩ := h hn
  obtain ⟨rfl, rfl⟩ : g = b ∧ o = o' := by simpa using hA
  exact ⟨g, o, rfl, Nat.lt_of_lt_of_le hb hB, fun j a ha i v hv => hg.cell (hc j a ha i v hv) ho⟩
theorem blks_mid {w : World} {B e n c : Nat} {A : Option Addr} {l : List Blk} {b : Blk} (k : Nat) (hl : l.length = n) (h : w.ownsRow B e 2 (.slice A (n + 1) c) (n + 1) ((l.take k ++ [b] ++ l.drop k).flatMap Blk.cells)) (hk : k ≤ n) (ho : ∀ y ∈ l, y.Ok w w.heap.size) (hb : b.Ok w w.heap.size) : Blks w w.heap.size A (l.take k ++ [b] ++ l.drop k) := by
  refine ⟨Recs.of_own2 (by simp; omega) h, fun y hy => ?_⟩
  rcases List.mem_append.1 hy with hy | hy
  · rcases List.mem_append.1 hy with hy | hy
    · exact ho y (List.mem_of_mem_take hy)
    · obtain rfl := List.mem_singleton.1 hy
      exact hb
  · exact ho y (List.mem_of_mem_drop hy)
theorem cells2_below {w w' : World} {B g : Nat} {u v : Value} (hg : g < B) (h : w.cell? ⟨g, 0, none⟩ = some u ∧ w.cell? ⟨g, 1, none⟩ = some v) (hb : Below B w w') : w'.cell? ⟨g, 0, none⟩ = some u ∧ w'.cell? ⟨g, 1, none⟩ = some v :=
  ⟨(hb.cell (p := ⟨g, 0, none⟩) hg).trans h.1, (hb.cell (p := ⟨g, 1, none⟩) hg).trans h.2⟩
set_option maxRecDepth 100000 in
set_option maxHeartbeats 3000000 in
theorem bankRefuses_walk (A0 : Option Addr) (la : List Nat) (c0 : Nat) (A1 : Option Addr) (l0 : List Blk) (c1 : Nat) (b : Blk) (cut : Nat) (w : World)
    (h0 : Sq u16w w w.heap.size A0 la) (hu0 : ∀ x ∈ la, x < 65536) (hc0 : la.length ≤ 9223372036854775807) (hn0 : A0 = none → c0 = 0) (h1 : Blks w w.heap.size A1 l0) (hl1 : l0.length ≤ c1) (hc1 : c1 ≤ 9223372036854775807) (hb : b.Ok w w.heap.size) (hcut : cut < 256) :
    Calls Try.prog 7 #[.slice A0 la.length c0, .slice A1 l0.length c1, b.val, .int .u8 (cut : Int)] w fun e w' => e = .returned (.bool true) ∧ Below w.heap.size w w' := by
  obtain ⟨iB, hifB, hb0, hb1, hb2⟩ := info_parts info_block
  have hfr : Below w.heap.size w (w.alloc (.cells #[.int .i64 b.a, .slice b.A b.ws.length b.c] 34)) := bel_alloc (Below.refl _ _) _
  have H0 := Lib.hid (h0.to hfr)
  have H1 := Lib.hid (h1.to hfr)
  have HX := Lib.hid (hb.to hfr)
  have HB := Lib.hid hfr
  have HR : Hid (RowAt (w.alloc (.cells #[.int .i64 b.a, .slice b.A b.ws.length b.c] 34)) w.heap.size 34 [.int .i64 b.a, .slice b.A b.ws.length b.c]) := Lib.hid (RowAt.new _ _ _)
  clear hfr h0 h1 hb
  obtain ⟨na, hna⟩ : ∃ na, la.length = na := ⟨_, rfl⟩
  have HNA := Lib.hid hna
  rw [hna] at hc0 ⊢
  clear hna
  by_cases hp1 : 80 < na
  · have g1 : decide ((80 : Int) < (na : Int)) = true := decide_eq_true (by omega)
    go_enter Try.func7, Try.ntmps7
    go_wp2_with fail
    refine (awake_any _).mono ?_
    rintro e w7 ⟨rfl, b7⟩
    have B7 := Lib.hid (HB.out.trans (b7.mono HB.out.size))
    clear b7
    go_wp2
    go_ret
    exact ⟨rfl, B7.out⟩
  have g1 : decide ((80 : Int) < (na : Int)) = false := decide_eq_false (by omega)
  by_cases hq1 : 100 < b.ws.length
  · have g2 : decide ((100 : Int) < (b.ws.length : Int)) = true := decide_eq_true (by omega)
    go_enter Try.func7, Try.ntmps7
    go_wp2_with fail
    refine (awake_any _).mono ?_
    rintro e w7 ⟨rfl, b7⟩
    have B7 := Lib.hid (HB.out.trans (b7.mono HB.out.size))
    clear b7
    go_wp2
    go_ret
    exact ⟨rfl, B7.out⟩
  have g2 : decide ((100 : Int) < (b.ws.length : Int)) = false := decide_eq_false (by omega)
  go_enter Try.func7, Try.ntmps7
  go_wp2_with fail
  generalize w.alloc (.cells #[.int .i64 b.a, .slice b.A b.ws.length b.c] 34) = w0 at *
  refine (fit_new _ l0 c1 20 _ H1.out hl1 hc1 (by decide)).mono ?_
  rintro e w2 ⟨A7, c7, bl, rfl, hpr, hbl, hcl, hc63, hnil, hown, _, b2⟩
  have hf : ∀ z ∈ prs bl, Bk.fits z.1 z.2.length = true := fun z hz => by
    rw [hpr] at hz
    obtain ⟨z0, _, rfl⟩ := List.mem_map.1 hz
    exact Bk.fitP_fits z0
  have hn20 : bl.length ≤ 20 := by
    have := congrArg List.length hpr
    simp only [List.length_map, List.length_take] at this
    omega
  have L2 := Lib.hid hbl
  have S2 := Lib.hid (H0.out.to b2)
  have X2 := Lib.hid (HX.out.to b2)
  have R2 := Lib.hid (HR.out.to b2)
  have B2 := Lib.hid (HB.out.trans (b2.mono HB.out.size))
  have HF := Lib.hid hf
  obtain ⟨n, hn⟩ : ∃ n, bl.length = n := ⟨_, rfl⟩
  rw [hn] at hn20 hcl ⊢
  have HN := Lib.hid hn
  obtain ⟨k, hk⟩ : ∃ k : Nat, k = cut % (n + 1) := ⟨_, rfl⟩
  have hkn : k ≤ n := by rw [hk]; exact Nat.lt_succ_iff.1 (Nat.mod_lt _ (Nat.succ_pos _))
  have hkE : (cut : Int) % ((n : Int) + 1) = (k : Int) := by rw [hk, Int.natCast_emod]; rfl
  have hkT : Int.tmod (cut : Int) ((n : Int) + 1) = (k : Int) := by rw [Int.tmod_eq_emod_of_nonneg (by omega), hkE]
  have hn0I : ((n : Int) + 1 == 0) = false := beq_eq_false_iff_ne.2 (by omega)
  have hknI : (k : Int) ≤ (n : Int) := by omega
  have hkcI : (k : Int) ≤ (c7 : Int) := by omega
  have hg6 := R2.out.lt
  clear hk hpr hbl hown hn hf H0 H1 HX HR HB b2
  have hw2 := B2.out.size
  obtain ⟨A5, hA5, hbl5⟩ := blks_from L2.out HN.out hkn hcl
  have HA5 := Lib.hid hA5
  have L5 := Lib.hid hbl5
  clear hA5 hbl5
  have e0 : w2.cell? ⟨w.heap.size, 0, none⟩ = some (.int .i64 b.a) := R2.out.cell rfl
  have e1 : w2.cell? ⟨w.heap.size, 1, none⟩ = some (.slice b.A b.ws.length b.c) := R2.out.cell rfl
  go_wp2
  have LT : Hid ((bl.take k).length = k) := Lib.hid (by rw [List.length_take, HN.out]; omega)
  have LD : Hid ((bl.drop k).length = n - k) := Lib.hid (by rw [List.length_drop, HN.out])
  have LM : Hid ((bl.take k ++ [b]).length = k + 1) := Lib.hid (by rw [List.length_append, LT.out]; rfl)
  have LM2 : Hid ((bl.take k ++ [b] ++ bl.drop k).length = n + 1) := Lib.hid (by rw [List.length_append, LM.out, LD.out]; omega)
  have N7 := Lib.hid hnil
  have N5 : Hid (A5 = none → c7 - k = 0) := Lib.hid (fun h => by
    have h2 := HA5.out
    unfold slcd sliced at h2
    rcases A7 with _ | p
    · have := hnil rfl; omega
    · split at h2
      · subst h; simp at h2
      · subst h; simp at h2)
  clear hnil
  refine wp_region_held_drew (S := (fun w' => w'.cell? ⟨w.heap.size, 0, none⟩ = some (.int .i64 b.a) ∧ w'.cell? ⟨w.heap.size, 1, none⟩ = some (.slice b.A b.ws.length b.c))) (by kernel_rfl) ?_ (fun hHeld => ?_)
  · exact ⟨e0, e1⟩
  refine takeD (i := 1) (oi := _) (v := ?vv1) (d := some 39) rfl (by kernel_rfl) (by kernel_rfl) (by kernel_rfl) (by kernel_rfl) (fun _ _ _ h => h) (Or.inl ⟨by kernel_rfl, ?_⟩) (by assumption) ?_
  rotate_left 1
  · intro W_ hSw; (try dsimp only at hSw); go_simp; (first | done | with_reducible rfl)
  try simp only [Act.put, List.setIfInBounds_toArray, List.set_cons_zero, List.set_cons_succ]
  refine takeD (i := 2) (oi := _) (v := ?vv2) (d := some 40) rfl (by kernel_rfl) (by kernel_rfl) (by kernel_rfl) (by kernel_rfl) (fun _ _ _ h => h) (Or.inl ⟨by kernel_rfl, ?_⟩) (by assumption) ?_
  rotate_left 1
  · intro W_ hSw; (try dsimp only at hSw); go_simp; (first | done | with_reducible rfl)
  try simp only [Act.put, List.setIfInBounds_toArray, List.set_cons_zero, List.set_cons_succ]
  refine takeD (i := 3) (oi := _) (v := ?vv3) (d := some 41) rfl (by kernel_rfl) (by kernel_rfl) (by kernel_rfl) (by kernel_rfl) (fun _ _ _ h => h) (Or.inl ⟨by kernel_rfl, ?_⟩) (by assumption) ?_
  rotate_left 1
  · intro W_ hSw; (try dsimp only at hSw); go_simp; (first | done | with_reducible rfl)
  try simp only [Act.put, List.setIfInBounds_toArray, List.set_cons_zero, List.set_cons_succ]
  refine takeD (i := 5) (oi := _) (v := _) (d := some 43) rfl (by kernel_rfl) (by kernel_rfl) (by kernel_rfl) (by kernel_rfl) (fun _ _ _ h => h) (yieldsIf_load_mid (by kernel_rfl) 34 (.tmp 6) (by kernel_rfl) w.heap.size 0 (by kernel_rfl) [.int .i64 b.a, .slice b.A b.ws.length b.c] _ (fun W h => range_two h) Try.underlying34 rfl size_blk) (by assumption) ?_
  try simp only [Act.put, List.setIfInBounds_toArray, List.set_cons_zero, List.set_cons_succ]
  refine takeD (i := 8) (oi := _) (v := ?vv4) (d := some 46) rfl (by kernel_rfl) (by kernel_rfl) (by kernel_rfl) (by kernel_rfl) (fun _ _ _ h => h) (Or.inl ⟨by kernel_rfl, ?_⟩) (by assumption) ?_
  rotate_left 1
  · intro W_ hSw; (try dsimp only at hSw); go_simp; (first | done | with_reducible rfl)
  try simp only [Act.put, List.setIfInBounds_toArray, List.set_cons_zero, List.set_cons_succ]
  refine takeD (i := 9) (oi := _) (v := ?vv5) (d := some 47) rfl (by kernel_rfl) (by kernel_rfl) (by kernel_rfl) (by kernel_rfl) (fun _ _ _ h => h) (Or.inl ⟨by kernel_rfl, ?_⟩) (by assumption) ?_
  rotate_left 1
  · intro W_ hSw; (try dsimp only at hSw); go_simp; (first | done | with_reducible rfl)
  try simp only [Act.put, List.setIfInBounds_toArray, List.set_cons_zero, List.set_cons_succ]
  refine takeD (i := 10) (oi := _) (v := ?vv6) (d := some 48) rfl (by kernel_rfl) (by kernel_rfl) (by kernel_rfl) (by kernel_rfl) (fun _ _ _ h => h) (Or.inl ⟨by kernel_rfl, ?_⟩) (by assumption) ?_
  rotate_left 1
  · intro W_ hSw; (try dsimp only at hSw); go_simp; (first | done | with_reducible rfl)
  try simp only [Act.put, List.setIfInBounds_toArray, List.set_cons_zero, List.set_cons_succ]
  rw [HA5.out]
  have LLT := Lib.hid (L2.out.take k)
  have bd : Below w2.heap.size w2 w2.drew := (Below.refl _ _).drew
  have E0 := own_recs_empty Blk.cells w2 w2.heap.size 34 2 _ rfl (Nat.le_refl _)
  have hbok : ∀ (W W' : World) (g : Nat), W.heap.size = g → Below (W.alloc (.cells #[.int .i64 b.a, .slice b.A b.ws.length b.c] 34)).heap.size (W.alloc (.cells #[.int .i64 b.a, .slice b.A b.ws.length b.c] 34)) W' → Recs Blk.cells 2 W' W'.heap.size (some ⟨g, 0, none⟩) [b] := fun W W' g hg hb => by
    subst hg
    have h1 : Recs Blk.cells 2 (W.alloc (.cells #[.int .i64 b.a, .slice b.A b.ws.length b.c] 34)) (W.alloc (.cells #[.int .i64 b.a, .slice b.A b.ws.length b.c] 34)).heap.size (some ⟨W.heap.size, 0, none⟩) [b] := Recs.lits (f := Blk.cells) (s := 2) (fun _ => rfl) (by decide) W [b] _ _ _ _ rfl rfl (by simp)
    exact (h1.below hb).more hb.size
  have HL := Lib.hid hbok
  have HE0 := Lib.hid E0
  clear hbok E0 bd
  refine wpAnyH_ready (rs := [0, 6]) (by kernel_rfl) (by simp) ?_
  refine AllReadyH.cons (o := _) rfl (fun K hK => ?_) (AllReadyH.cons (o := _) rfl (fun K hK => ?_) AllReadyH.nil)
  · go_simp
    refine hK.out _ _ ?_ (fun hHeld => ?_)
    · exact ⟨keep_alloc e0, keep_alloc e1⟩
    clear hK K
    try simp only [Act.put]
    try simp only [List.setIfInBounds_toArray]
    try simp only [List.set_cons_succ]
    try simp only [List.set_cons_zero]
    refine wpAnyH_ready (rs := [4, 6]) (by kernel_rfl) (by simp) ?_
    refine AllReadyH.cons (o := _) rfl (fun K hK => ?_) (AllReadyH.cons (o := _) rfl (fun K hK => ?_) AllReadyH.nil)
    · obtain ⟨g0, hg0⟩ : ∃ g0, w2.heap.size = g0 := ⟨_, rfl⟩
      obtain ⟨Wc, hWc⟩ : ∃ Wc, (w2.alloc (.cells #[] 34)).drew = Wc := ⟨_, rfl⟩
      have OE := Lib.hid (show Wc.ownsRow w2.heap.size 34 2 (.slice (some ⟨g0, 0, none⟩) 0 0) 0 [] by rw [← hWc, ← hg0]; exact HE0.out)
      have BC : Hid (Below w2.heap.size w2 Wc) := Lib.hid (by rw [← hWc]; exact (bel_alloc (Below.refl _ _) _).drew)
      have LW := Lib.hid (LLT.out.to BC.out)
      have SC := Lib.hid (cells2_below hg6 ⟨e0, e1⟩ BC.out)
      rw [hWc]
      subst hg0
      clear hWc
      (refine step_append_recs (f := Blk.cells) (s := 2) _ rfl (.tmp 38) (.tmp 41) 26 rfl (fun _ => rfl) (by decide) blk_one w2.heap.size 34 iB _ 32 Try.underlying26 hifB hb0 hb1 hb2 (by decide) rfl _ [] rfl OE.out Wc.heap.size A7 (bl.take k) c7 k LT.out rfl LW.out.rc N7.out (by simp; omega) BC.out.size ?_)
      intro A4 c4 w4 o4 g4 b4
      rw [List.nil_append, LT.out] at o4
      rw [List.nil_append, LT.out]
      have hS4 := cells2_below hg6 SC.out b4
      refine hK.out _ _ ?_ (fun hHeld => ?_)
      · exact hS4
      clear hK K
      try simp only [Act.put, List.setIfInBounds_toArray, List.set_cons_zero, List.set_cons_succ]
      have BC4 := Lib.hid (BC.out.trans b4)
      refine wpAnyH_ready (rs := [6]) (by kernel_rfl) (by simp) ?_
      refine AllReadyH.cons (o := _) rfl (fun K hK => ?_) AllReadyH.nil
      go_simp
      refine hK.out _ _ ?_ (fun hHeld => ?_)
      · exact ⟨keep_alloc hS4.1, keep_alloc hS4.2⟩
      clear hK K
      try simp only [Act.put]
      try simp only [List.setIfInBounds_toArray]
      try simp only [List.set_cons_succ]
      try simp only [List.set_cons_zero]
      obtain ⟨g44, hg44⟩ : ∃ g44, w4.heap.size = g44 := ⟨_, rfl⟩
      obtain ⟨V, hV⟩ : ∃ V, w4.alloc (.cells #[.int .i64 b.a, .slice b.A b.ws.length b.c] 34) = V := ⟨_, rfl⟩
      have OV := Lib.hid (show V.ownsRow w2.heap.size 34 2 (.slice A4 k c4) (bl.take k).length ((bl.take k).flatMap Blk.cells) by rw [← hV, LT.out]; exact own_below o4 (bel_alloc (Below.refl _ _) _))
      have BV : Hid (Below w2.heap.size w2 V) := Lib.hid (by rw [← hV]; exact bel_alloc BC4.out _)
      have LV : Hid (Recs Blk.cells 2 V V.heap.size (some ⟨g44, 0, none⟩) [b]) := Lib.hid (by rw [← hV]; exact HL.out w4 _ _ hg44 (Below.refl _ _))
      have SV : Hid (V.cell? ⟨w.heap.size, 0, none⟩ = some (.int .i64 b.a) ∧ V.cell? ⟨w.heap.size, 1, none⟩ = some (.slice b.A b.ws.length b.c)) := Lib.hid (by rw [← hV]; exact ⟨keep_alloc hS4.1, keep_alloc hS4.2⟩)
      rw [hV]
      subst hg44
      clear hV o4 g4 b4 BC4 hS4 OE BC LW SC
      refine wpAnyH_ready (rs := [7]) (by kernel_rfl) (by simp) ?_
      refine AllReadyH.cons (o := _) rfl (fun K hK => ?_) AllReadyH.nil
      (refine step_append_recs (f := Blk.cells) (s := 2) _ rfl (.tmp 42) (.tmp 44) 26 rfl (fun _ => rfl) (by decide) blk_one w2.heap.size 34 iB _ 32 Try.underlying26 hifB hb0 hb1 hb2 (by decide) rfl (.slice A4 k c4) (bl.take k) rfl OV.out V.heap.size _ [b] 1 1 rfl rfl LV.out (by simp) (by rw [LT.out]; omega) BV.out.size ?_)
      intro A6 c6 w6 o6 g6 b6
      rw [LM.out] at o6 ⊢
      have hS6 := cells2_below hg6 SV.out b6
      refine hK.out _ _ ?_ (fun hHeld => ?_)
      · exact hS6
      clear hK K
      try simp only [Act.put, List.setIfInBounds_toArray, List.set_cons_zero, List.set_cons_succ]
      have BW := Lib.hid (BV.out.trans b6)
      have LDW := Lib.hid (L5.out.to BW.out)
      have O6 := Lib.hid o6
      clear o6 g6 b6
      refine wpAnyH_ready (rs := [11]) (by kernel_rfl) (by simp) ?_
      refine AllReadyH.cons (o := _) rfl (fun K hK => ?_) AllReadyH.nil
      (refine step_append_recs (f := Blk.cells) (s := 2) _ rfl (.tmp 45) (.tmp 48) 26 rfl (fun _ => rfl) (by decide) blk_one w2.heap.size 34 iB _ 32 Try.underlying26 hifB hb0 hb1 hb2 (by decide) rfl (.slice A6 (k + 1) c6) (bl.take k ++ [b]) rfl (by rw [LM.out]; exact O6.out) w6.heap.size A5 (bl.drop k) (c7 - k) (n - k) LD.out rfl LDW.out.rc N5.out (by rw [LM.out]; omega) BW.out.size ?_)
      intro A8 c8 w8 o8 g8 b8
      rw [LM2.out] at o8 ⊢
      have hS8 := cells2_below hg6 hS6 b8
      refine hK.out _ _ ?_ (fun hHeld => ?_)
      · exact hS8
      clear hK K
      try simp only [Act.put, List.setIfInBounds_toArray, List.set_cons_zero, List.set_cons_succ]
      have B28 := Lib.hid (BW.out.trans b8)
      have O8 := Lib.hid o8
      clear o8 g8 b8 BW LDW O6
      refine takeD (i := 12) (oi := _) (v := ?vv7) (d := some 10) rfl (by kernel_rfl) (by kernel_rfl) (by kernel_rfl) (by kernel_rfl) (fun _ _ _ h => h) (Or.inl ⟨by kernel_rfl, ?_⟩) (by assumption) ?_
      rotate_left 1
      · intro W_ hSw; (try dsimp only at hSw); go_simp; (first | done | with_reducible rfl)
      try simp only [Act.put, List.setIfInBounds_toArray, List.set_cons_zero, List.set_cons_succ]
      refine wpAnyH_done (by kernel_rfl) ?_ _
      have R8 := Lib.hid (R2.out.to B28.out)
      have L8 := Lib.hid (L2.out.to B28.out)
      have S8 := Lib.hid (S2.out.to B28.out)
      have X8 := Lib.hid (X2.out.to B28.out)
      have M8 := Lib.hid (blks_mid k HN.out O8.out hkn (fun y hy => L8.out.ok y hy) X8.out)
      have B8 := Lib.hid (B2.out.trans (B28.out.mono B2.out.size))
      have HMN := LM2
      have HNS : Hid (decide (prs bl = prs (bl.take k ++ [b] ++ bl.drop k)) = false) := Lib.hid (decide_eq_false (fun h => by have h2 := congrArg List.length h; simp only [prs, List.length_map] at h2; rw [LM2.out, HN.out] at h2; omega))
      have HFM : Hid (Bk.fit (prs (bl.take k ++ [b] ++ bl.drop k)) = Bk.fits b.a b.ws.length) := Lib.hid (by
        rw [show prs (bl.take k ++ [b] ++ bl.drop k) = (prs bl).take k ++ [b.pr] ++ (prs bl).drop k by simp [prs, List.map_take, List.map_drop]]
        exact Bk.fit_mid HF.out k b.pr)
      have HFB : Hid (Bk.fit (prs bl) = true) := Lib.hid (Bk.fit_iff.2 HF.out)
      have HWL : Hid (∀ y ∈ bl, y.ws.length ≤ 140737488355328) := Lib.hid (fun y hy => by
        have := (Bk.fits_iff.1 (HF.out y.pr (List.mem_map_of_mem hy))).1
        have h2 : y.ws.length ≤ 14 := this
        omega)
      generalize bl.take k ++ [b] ++ bl.drop k = mo at *
      obtain ⟨r, hr⟩ : ∃ r, Bk.fits b.a b.ws.length = r := ⟨_, rfl⟩
      have HRR := Lib.hid hr
      rw [hr] at HFM
      obtain ⟨s0, s1⟩ := hS8
      have hg8 : w.heap.size < w8.heap.size := Nat.lt_of_lt_of_le hg6 B28.out.size
      clear hr HE0 HL LM LT LD N5 N7 HA5 O8 B28 L5 R2 L2 S2 X2 B2 LLT
      go_wp2_with fail
      refine (fits_any b.a b.ws.length b.c b.A r w8 X8.out.lo X8.out.hi (by omega) HRR.out).mono ?_
      rintro e w9 ⟨rfl, b9⟩
      have R9 := Lib.hid (R8.out.to b9)
      have L9 := Lib.hid (L8.out.to b9)
      have S9 := Lib.hid (S8.out.to b9)
      have M9 := Lib.hid (M8.out.to b9)
      have B9 := Lib.hid (B8.out.trans (b9.mono B8.out.size))
      clear b9 R8 L8 S8 X8 M8 B8 s0 s1 hg8
      go_wp2_with fail
      refine (bank_any A0 la na c0 w9 HNA.out S9.out).mono ?_
      rintro e w10 ⟨ga, rfl, o10, b10⟩
      have SA := Lib.hid (show Sq u16w w10 w10.heap.size (some ⟨ga, 0, none⟩) (bank64 la) from Sq.of_own o10)
      have R10 := Lib.hid (R9.out.to b10)
      have L10 := Lib.hid (L9.out.to b10)
      have S10 := Lib.hid (S9.out.to b10)
      have M10 := Lib.hid (M9.out.to b10)
      have B10 := Lib.hid (B9.out.trans (b10.mono B9.out.size))
      clear b10 o10 R9 L9 S9 M9 B9
      go_wp2_with fail
      refine (over_any (some ⟨ga, 0, none⟩) (bank64 la) 64 64 A8 mo c8 (n + 1) w10 SA.out (bank64_length la) (by simp) HMN.out M10.out (by omega)).mono ?_
      rintro e w11 h11
      obtain ⟨Ae, ne, ce, z1, rfl, hz1, b11⟩ := h11.some
      rw [if_pos (bank64_length la), HFM.out] at hz1
      have HZ1 := Lib.hid hz1
      have R11 := Lib.hid (R10.out.to b11)
      have L11 := Lib.hid (L10.out.to b11)
      have S11 := Lib.hid (S10.out.to b11)
      have M11 := Lib.hid (M10.out.to b11)
      have B11 := Lib.hid (B10.out.trans (b11.mono B10.out.size))
      clear b11 h11 hz1 SA R10 L10 S10 M10 B10
      go_wp2_with fail
      refine (cells_any A8 mo c8 (n + 1) w11 HMN.out M11.out (by omega)).mono ?_
      rintro e w12 h12
      obtain ⟨Af, nf, cf, z2, rfl, hz2, b12⟩ := h12.some
      rw [HFM.out] at hz2
      have HZ2 := Lib.hid hz2
      have R12 := Lib.hid (R11.out.to b12)
      have L12 := Lib.hid (L11.out.to b12)
      have S12 := Lib.hid (S11.out.to b12)
      have M12 := Lib.hid (M11.out.to b12)
      have B12 := Lib.hid (B11.out.trans (b12.mono B11.out.size))
      clear b12 h12 hz2 R11 L11 S11 M11 B11
      go_wp2_with fail
      refine (over_any A0 la c0 na A7 bl c7 n w12 S12.out HNA.out hn0 HN.out L12.out (by omega)).mono ?_
      rintro e w13 h13
      obtain ⟨Ag, ng, cg, z3, rfl, hz3, b13⟩ := h13.some
      rw [HNA.out, HFB.out] at hz3
      have HZ3 := Lib.hid hz3
      have R13 := Lib.hid (R12.out.to b13)
      have L13 := Lib.hid (L12.out.to b13)
      have S13 := Lib.hid (S12.out.to b13)
      have M13 := Lib.hid (M12.out.to b13)
      have B13 := Lib.hid (B12.out.trans (b13.mono B12.out.size))
      clear b13 h13 hz3 R12 L12 S12 M12 B12
      go_wp2_with fail
      refine (bank_any none [] 0 0 w13 rfl (fun h => absurd h (Nat.lt_irrefl 0))).mono ?_
      rintro e wd ⟨gb, rfl, od, bd⟩
      have SB := Lib.hid (show Sq u16w wd wd.heap.size (some ⟨gb, 0, none⟩) (bank64 []) from Sq.of_own od)
      have Rd := Lib.hid (R13.out.to bd)
      have Ld := Lib.hid (L13.out.to bd)
      have Sd := Lib.hid (S13.out.to bd)
      have Md := Lib.hid (M13.out.to bd)
      have Bd := Lib.hid (B13.out.trans (bd.mono B13.out.size))
      clear bd od R13 L13 S13 M13 B13
      go_wp2_with fail
      refine (diff_all A0 (some ⟨gb, 0, none⟩) la (bank64 []) c0 64 na 64 wd Sd.out SB.out HNA.out (bank64_length []) (Nat.le_refl _)).mono ?_
      rintro e w14 h14
      obtain ⟨Ah, nh, ch, z4, rfl, hz4, b14⟩ := h14.some (bank64_length [])
      rw [HNA.out] at hz4
      have HZ4 := Lib.hid hz4
      have L14 := Lib.hid (Ld.out.to b14)
      have M14 := Lib.hid (Md.out.to b14)
      have B14 := Lib.hid (Bd.out.trans (b14.mono Bd.out.size))
      have hg14 := (Rd.out.to b14).lt
      have hS14 : w14.cell? ⟨w.heap.size, 0, none⟩ = some (.int .i64 b.a) ∧ w14.cell? ⟨w.heap.size, 1, none⟩ = some (.slice b.A b.ws.length b.c) := ⟨(Rd.out.to b14).cell rfl, (Rd.out.to b14).cell rfl⟩
      clear b14 h14 hz4 Rd Ld Sd Md Bd SB
      by_cases h64 : na = 64
      · have hz3 : z3 = 0 := by rw [HZ3.out, if_pos h64]; simp
        have hz4 : z4 = 0 := by rw [HZ4.out, if_pos h64]
        subst hz3 hz4 h64
        cases r
        · have hz1 : z1 = 20 := HZ1.out
          have hz2 : z2 = 20 := HZ2.out
          subst hz1 hz2
          go_wp2_with fail
          refine (sameBlocks_any A7 A7 bl bl c7 c7 n n true w14 HN.out HN.out L14.out L14.out (by rw [HN.out]; omega) HWL.out (decide_eq_true rfl)).mono ?_
          rintro e w15 ⟨rfl, b15⟩
          have M15 := Lib.hid (M14.out.to b15)
          have L15 := Lib.hid (L14.out.to b15)
          have B15 := Lib.hid (B14.out.trans (b15.mono B14.out.size))
          have T15 := cells2_below hg14 hS14 b15
          have hg15 : w.heap.size < w15.heap.size := Nat.lt_of_lt_of_le hg14 b15.size
          clear b15 M14 L14 B14 hS14 hg14
          go_wp2_with fail
          refine (sameBlocks_any A7 A8 bl mo c7 c8 n (n + 1) false w15 HN.out HMN.out L15.out M15.out (by rw [HN.out]; omega) HWL.out HNS.out).mono ?_
          rintro e w16 ⟨rfl, b16⟩
          have B16 := Lib.hid (B15.out.trans (b16.mono B15.out.size))
          obtain ⟨s0, s1⟩ := cells2_below hg15 T15 b16
          have hg16 : w.heap.size < w16.heap.size := Nat.lt_of_lt_of_le hg15 b16.size
          clear b16 M15 L15 B15 T15 hg15
          have hno := Bk.fits_no.1 HRR.out
          by_cases q1 : 0 ≤ b.a
          · by_cases q2 : b.a < 64
            · by_cases q3 : b.ws.length ≤ 14
              · have q4 : decide ((b.ws.length : Int) ≤ 64 - b.a) = false := decide_eq_false (by omega)
                have q3I : (b.ws.length : Int) ≤ 14 := by omega
                clear hno
                go_wp2_with fail
                refine (awake_any w16).mono ?_
                rintro e w17 ⟨rfl, b17⟩
                have B17 := Lib.hid (B16.out.trans (b17.mono B16.out.size))
                clear b17
                go_wp2
                go_ret
                exact ⟨rfl, B17.out⟩
              · have q3I : ¬ (b.ws.length : Int) ≤ 14 := by omega
                clear hno
                go_wp2_with fail
                refine (awake_any w16).mono ?_
                rintro e w17 ⟨rfl, b17⟩
                have B17 := Lib.hid (B16.out.trans (b17.mono B16.out.size))
                clear b17
                go_wp2
                go_ret
                exact ⟨rfl, B17.out⟩
            · clear hno
              go_wp2_with fail
              refine (awake_any w16).mono ?_
              rintro e w17 ⟨rfl, b17⟩
              have B17 := Lib.hid (B16.out.trans (b17.mono B16.out.size))
              clear b17
              go_wp2
              go_ret
              exact ⟨rfl, B17.out⟩
          · clear hno
            go_wp2_with fail
            refine (awake_any w16).mono ?_
            rintro e w17 ⟨rfl, b17⟩
            have B17 := Lib.hid (B16.out.trans (b17.mono B16.out.size))
            clear b17
            go_wp2
            go_ret
            exact ⟨rfl, B17.out⟩
        · have hz1 : z1 = 0 := HZ1.out
          have hz2 : z2 = 0 := HZ2.out
          subst hz1 hz2
          go_wp2_with fail
          refine (sameBlocks_any A7 A7 bl bl c7 c7 n n true w14 HN.out HN.out L14.out L14.out (by rw [HN.out]; omega) HWL.out (decide_eq_true rfl)).mono ?_
          rintro e w15 ⟨rfl, b15⟩
          have M15 := Lib.hid (M14.out.to b15)
          have L15 := Lib.hid (L14.out.to b15)
          have B15 := Lib.hid (B14.out.trans (b15.mono B14.out.size))
          have T15 := cells2_below hg14 hS14 b15
          have hg15 : w.heap.size < w15.heap.size := Nat.lt_of_lt_of_le hg14 b15.size
          clear b15 M14 L14 B14 hS14 hg14
          go_wp2_with fail
          refine (sameBlocks_any A7 A8 bl mo c7 c8 n (n + 1) false w15 HN.out HMN.out L15.out M15.out (by rw [HN.out]; omega) HWL.out HNS.out).mono ?_
          rintro e w16 ⟨rfl, b16⟩
          have B16 := Lib.hid (B15.out.trans (b16.mono B15.out.size))
          obtain ⟨s0, s1⟩ := cells2_below hg15 T15 b16
          have hg16 : w.heap.size < w16.heap.size := Nat.lt_of_lt_of_le hg15 b16.size
          clear b16 M15 L15 B15 T15 hg15
          obtain ⟨q3, q1, q2, q4⟩ := Bk.fits_iff.1 HRR.out
          have q3I : (b.ws.length : Int) ≤ 14 := by omega
          have q5 : (b.ws.length : Int) ≤ 64 - b.a := by omega
          clear q4
          go_wp2_with fail
          refine (awake_any w16).mono ?_
          rintro e w17 ⟨rfl, b17⟩
          have B17 := Lib.hid (B16.out.trans (b17.mono B16.out.size))
          clear b17
          go_wp2
          go_ret
          exact ⟨rfl, B17.out⟩
      · have hz3 : z3 = 21 := by rw [HZ3.out, if_neg h64]
        have hz4 : z4 = 21 := by rw [HZ4.out, if_neg h64]
        subst hz3 hz4
        have h6 : ((na : Int) == 64) = false := beq_eq_false_iff_ne.2 (by omega)
        have h7 : ((na : Int) != 64) = true := by simp; omega
        cases r
        · have hz1 : z1 = 20 := HZ1.out
          have hz2 : z2 = 20 := HZ2.out
          subst hz1 hz2
          go_wp2_with fail
          refine (sameBlocks_any A7 A7 bl bl c7 c7 n n true w14 HN.out HN.out L14.out L14.out (by rw [HN.out]; omega) HWL.out (decide_eq_true rfl)).mono ?_
          rintro e w15 ⟨rfl, b15⟩
          have M15 := Lib.hid (M14.out.to b15)
          have L15 := Lib.hid (L14.out.to b15)
          have B15 := Lib.hid (B14.out.trans (b15.mono B14.out.size))
          have T15 := cells2_below hg14 hS14 b15
          have hg15 : w.heap.size < w15.heap.size := Nat.lt_of_lt_of_le hg14 b15.size
          clear b15 M14 L14 B14 hS14 hg14
          go_wp2_with fail
          refine (sameBlocks_any A7 A8 bl mo c7 c8 n (n + 1) false w15 HN.out HMN.out L15.out M15.out (by rw [HN.out]; omega) HWL.out HNS.out).mono ?_
          rintro e w16 ⟨rfl, b16⟩
          have B16 := Lib.hid (B15.out.trans (b16.mono B15.out.size))
          obtain ⟨s0, s1⟩ := cells2_below hg15 T15 b16
          have hg16 : w.heap.size < w16.heap.size := Nat.lt_of_lt_of_le hg15 b16.size
          clear b16 M15 L15 B15 T15 hg15
          have hno := Bk.fits_no.1 HRR.out
          by_cases q1 : 0 ≤ b.a
          · by_cases q2 : b.a < 64
            · by_cases q3 : b.ws.length ≤ 14
              · have q4 : decide ((b.ws.length : Int) ≤ 64 - b.a) = false := decide_eq_false (by omega)
                have q3I : (b.ws.length : Int) ≤ 14 := by omega
                clear hno
                go_wp2_with fail
                refine (awake_any w16).mono ?_
                rintro e w17 ⟨rfl, b17⟩
                have B17 := Lib.hid (B16.out.trans (b17.mono B16.out.size))
                clear b17
                go_wp2
                go_ret
                exact ⟨rfl, B17.out⟩
              · have q3I : ¬ (b.ws.length : Int) ≤ 14 := by omega
                clear hno
                go_wp2_with fail
                refine (awake_any w16).mono ?_
                rintro e w17 ⟨rfl, b17⟩
                have B17 := Lib.hid (B16.out.trans (b17.mono B16.out.size))
                clear b17
                go_wp2
                go_ret
                exact ⟨rfl, B17.out⟩
            · clear hno
              go_wp2_with fail
              refine (awake_any w16).mono ?_
              rintro e w17 ⟨rfl, b17⟩
              have B17 := Lib.hid (B16.out.trans (b17.mono B16.out.size))
              clear b17
              go_wp2
              go_ret
              exact ⟨rfl, B17.out⟩
          · clear hno
            go_wp2_with fail
            refine (awake_any w16).mono ?_
            rintro e w17 ⟨rfl, b17⟩
            have B17 := Lib.hid (B16.out.trans (b17.mono B16.out.size))
            clear b17
            go_wp2
            go_ret
            exact ⟨rfl, B17.out⟩
        · have hz1 : z1 = 0 := HZ1.out
          have hz2 : z2 = 0 := HZ2.out
          subst hz1 hz2
          go_wp2_with fail
          refine (sameBlocks_any A7 A7 bl bl c7 c7 n n true w14 HN.out HN.out L14.out L14.out (by rw [HN.out]; omega) HWL.out (decide_eq_true rfl)).mono ?_
          rintro e w15 ⟨rfl, b15⟩
          have M15 := Lib.hid (M14.out.to b15)
          have L15 := Lib.hid (L14.out.to b15)
          have B15 := Lib.hid (B14.out.trans (b15.mono B14.out.size))
          have T15 := cells2_below hg14 hS14 b15
          have hg15 : w.heap.size < w15.heap.size := Nat.lt_of_lt_of_le hg14 b15.size
          clear b15 M14 L14 B14 hS14 hg14
          go_wp2_with fail
          refine (sameBlocks_any A7 A8 bl mo c7 c8 n (n + 1) false w15 HN.out HMN.out L15.out M15.out (by rw [HN.out]; omega) HWL.out HNS.out).mono ?_
          rintro e w16 ⟨rfl, b16⟩
          have B16 := Lib.hid (B15.out.trans (b16.mono B15.out.size))
          obtain ⟨s0, s1⟩ := cells2_below hg15 T15 b16
          have hg16 : w.heap.size < w16.heap.size := Nat.lt_of_lt_of_le hg15 b16.size
          clear b16 M15 L15 B15 T15 hg15
          obtain ⟨q3, q1, q2, q4⟩ := Bk.fits_iff.1 HRR.out
          have q3I : (b.ws.length : Int) ≤ 14 := by omega
          have q5 : (b.ws.length : Int) ≤ 64 - b.a := by omega
          clear q4
          go_wp2_with fail
          refine (awake_any w16).mono ?_
          rintro e w17 ⟨rfl, b17⟩
          have B17 := Lib.hid (B16.out.trans (b17.mono B16.out.size))
          clear b17
          go_wp2
          go_ret
          exact ⟨rfl, B17.out⟩
    · go_simp
      refine hK.out _ _ ?_ (fun hHeld => ?_)
      · exact ⟨keep_alloc (keep_alloc e0), keep_alloc (keep_alloc e1)⟩
      clear hK K
      try simp only [Act.put]
      try simp only [List.setIfInBounds_toArray]
      try simp only [List.set_cons_succ]
      try simp only [List.set_cons_zero]
      refine wpAnyH_ready (rs := [4]) (by kernel_rfl) (by simp) ?_
      refine AllReadyH.cons (o := _) rfl (fun K hK => ?_) AllReadyH.nil
      obtain ⟨g0, hg0⟩ : ∃ g0, w2.heap.size = g0 := ⟨_, rfl⟩
      obtain ⟨g44, hg44⟩ : ∃ g44, w2.heap.size + 1 = g44 := ⟨_, rfl⟩
      obtain ⟨Wc, hWc⟩ : ∃ Wc, ((w2.alloc (.cells #[] 34)).alloc (.cells #[.int .i64 b.a, .slice b.A b.ws.length b.c] 34)).drew = Wc := ⟨_, rfl⟩
      have OE := Lib.hid (show Wc.ownsRow w2.heap.size 34 2 (.slice (some ⟨g0, 0, none⟩) 0 0) 0 [] by rw [← hWc, ← hg0]; exact own_below HE0.out (bel_alloc (Below.refl _ _) _).drew)
      have BC : Hid (Below w2.heap.size w2 Wc) := Lib.hid (by rw [← hWc]; exact (bel_alloc (bel_alloc (Below.refl _ _) _) _).drew)
      have LW := Lib.hid (LLT.out.to BC.out)
      have SC := Lib.hid (cells2_below hg6 ⟨e0, e1⟩ BC.out)
      have LC : Hid (Recs Blk.cells 2 Wc Wc.heap.size (some ⟨g44, 0, none⟩) [b]) := Lib.hid (by rw [← hWc]; exact HL.out (w2.alloc (.cells #[] 34)) _ _ (by simpa using hg44) (Below.refl _ _).drew)
      have HNE : Hid (some g44 ≠ (Value.slice (some ⟨g0, 0, none⟩) 0 0).ownBlock) := Lib.hid (by simp [Value.ownBlock]; omega)
      rw [hWc]
      clear hWc
      subst hg0 hg44
      (refine step_append_recs (f := Blk.cells) (s := 2) _ rfl (.tmp 38) (.tmp 41) 26 rfl (fun _ => rfl) (by decide) blk_one w2.heap.size 34 iB _ 32 Try.underlying26 hifB hb0 hb1 hb2 (by decide) rfl _ [] rfl OE.out Wc.heap.size A7 (bl.take k) c7 k LT.out rfl LW.out.rc N7.out (by simp; omega) BC.out.size ?_)
      intro A4 c4 w4 o4 g4 b4
      rw [List.nil_append, LT.out] at o4
      rw [List.nil_append, LT.out]
      have hS4 := cells2_below hg6 SC.out b4
      refine hK.out _ _ ?_ (fun hHeld => ?_)
      · exact hS4
      clear hK K
      try simp only [Act.put, List.setIfInBounds_toArray, List.set_cons_zero, List.set_cons_succ]
      have BC4 := Lib.hid (BC.out.trans b4)
      have LV0 := LC.out.grown g4 HNE.out g4.size
      obtain ⟨V, hV⟩ : ∃ V, w4 = V := ⟨_, rfl⟩
      have OV := Lib.hid (show V.ownsRow w2.heap.size 34 2 (.slice A4 k c4) (bl.take k).length ((bl.take k).flatMap Blk.cells) by rw [← hV, LT.out]; exact o4)
      have BV : Hid (Below w2.heap.size w2 V) := Lib.hid (by rw [← hV]; exact BC4.out)
      have LV := Lib.hid (show Recs Blk.cells 2 V V.heap.size _ [b] by rw [← hV]; exact LV0)
      have SV : Hid (V.cell? ⟨w.heap.size, 0, none⟩ = some (.int .i64 b.a) ∧ V.cell? ⟨w.heap.size, 1, none⟩ = some (.slice b.A b.ws.length b.c)) := Lib.hid (by rw [← hV]; exact hS4)
      rw [hV]
      clear hV o4 g4 b4 BC4 hS4 OE BC LW SC LC LV0 HNE
      refine wpAnyH_ready (rs := [7]) (by kernel_rfl) (by simp) ?_
      refine AllReadyH.cons (o := _) rfl (fun K hK => ?_) AllReadyH.nil
      (refine step_append_recs (f := Blk.cells) (s := 2) _ rfl (.tmp 42) (.tmp 44) 26 rfl (fun _ => rfl) (by decide) blk_one w2.heap.size 34 iB _ 32 Try.underlying26 hifB hb0 hb1 hb2 (by decide) rfl (.slice A4 k c4) (bl.take k) rfl OV.out V.heap.size _ [b] 1 1 rfl rfl LV.out (by simp) (by rw [LT.out]; omega) BV.out.size ?_)
      intro A6 c6 w6 o6 g6 b6
      rw [LM.out] at o6 ⊢
      have hS6 := cells2_below hg6 SV.out b6
      refine hK.out _ _ ?_ (fun hHeld => ?_)
      · exact hS6
      clear hK K
      try simp only [Act.put, List.setIfInBounds_toArray, List.set_cons_zero, List.set_cons_succ]
      have BW := Lib.hid (BV.out.trans b6)
      have LDW := Lib.hid (L5.out.to BW.out)
      have O6 := Lib.hid o6
      clear o6 g6 b6
      refine wpAnyH_ready (rs := [11]) (by kernel_rfl) (by simp) ?_
      refine AllReadyH.cons (o := _) rfl (fun K hK => ?_) AllReadyH.nil
      (refine step_append_recs (f := Blk.cells) (s := 2) _ rfl (.tmp 45) (.tmp 48) 26 rfl (fun _ => rfl) (by decide) blk_one w2.heap.size 34 iB _ 32 Try.underlying26 hifB hb0 hb1 hb2 (by decide) rfl (.slice A6 (k + 1) c6) (bl.take k ++ [b]) rfl (by rw [LM.out]; exact O6.out) w6.heap.size A5 (bl.drop k) (c7 - k) (n - k) LD.out rfl LDW.out.rc N5.out (by rw [LM.out]; omega) BW.out.size ?_)
      intro A8 c8 w8 o8 g8 b8
      rw [LM2.out] at o8 ⊢
      have hS8 := cells2_below hg6 hS6 b8
      refine hK.out _ _ ?_ (fun hHeld => ?_)
      · exact hS8
      clear hK K
      try simp only [Act.put, List.setIfInBounds_toArray, List.set_cons_zero, List.set_cons_succ]
      have B28 := Lib.hid (BW.out.trans b8)
      have O8 := Lib.hid o8
      clear o8 g8 b8 BW LDW O6
      refine takeD (i := 12) (oi := _) (v := ?vv8) (d := some 10) rfl (by kernel_rfl) (by kernel_rfl) (by kernel_rfl) (by kernel_rfl) (fun _ _ _ h => h) (Or.inl ⟨by kernel_rfl, ?_⟩) (by assumption) ?_
      rotate_left 1
      · intro W_ hSw; (try dsimp only at hSw); go_simp; (first | done | with_reducible rfl)
      try simp only [Act.put, List.setIfInBounds_toArray, List.set_cons_zero, List.set_cons_succ]
      refine wpAnyH_done (by kernel_rfl) ?_ _
      have R8 := Lib.hid (R2.out.to B28.out)
      have L8 := Lib.hid (L2.out.to B28.out)
      have S8 := Lib.hid (S2.out.to B28.out)
      have X8 := Lib.hid (X2.out.to B28.out)
      have M8 := Lib.hid (blks_mid k HN.out O8.out hkn (fun y hy => L8.out.ok y hy) X8.out)
      have B8 := Lib.hid (B2.out.trans (B28.out.mono B2.out.size))
      have HMN := LM2
      have HNS : Hid (decide (prs bl = prs (bl.take k ++ [b] ++ bl.drop k)) = false) := Lib.hid (decide_eq_false (fun h => by have h2 := congrArg List.length h; simp only [prs, List.length_map] at h2; rw [LM2.out, HN.out] at h2; omega))
      have HFM : Hid (Bk.fit (prs (bl.take k ++ [b] ++ bl.drop k)) = Bk.fits b.a b.ws.length) := Lib.hid (by
        rw [show prs (bl.take k ++ [b] ++ bl.drop k) = (prs bl).take k ++ [b.pr] ++ (prs bl).drop k by simp [prs, List.map_take, List.map_drop]]
        exact Bk.fit_mid HF.out k b.pr)
      have HFB : Hid (Bk.fit (prs bl) = true) := Lib.hid (Bk.fit_iff.2 HF.out)
      have HWL : Hid (∀ y ∈ bl, y.ws.length ≤ 140737488355328) := Lib.hid (fun y hy => by
        have := (Bk.fits_iff.1 (HF.out y.pr (List.mem_map_of_mem hy))).1
        have h2 : y.ws.length ≤ 14 := this
        omega)
      generalize bl.take k ++ [b] ++ bl.drop k = mo at *
      obtain ⟨r, hr⟩ : ∃ r, Bk.fits b.a b.ws.length = r := ⟨_, rfl⟩
      have HRR := Lib.hid hr
      rw [hr] at HFM
      obtain ⟨s0, s1⟩ := hS8
      have hg8 : w.heap.size < w8.heap.size := Nat.lt_of_lt_of_le hg6 B28.out.size
      clear hr HE0 HL LM LT LD N5 N7 HA5 O8 B28 L5 R2 L2 S2 X2 B2 LLT
      go_wp2_with fail
      refine (fits_any b.a b.ws.length b.c b.A r w8 X8.out.lo X8.out.hi (by omega) HRR.out).mono ?_
      rintro e w9 ⟨rfl, b9⟩
      have R9 := Lib.hid (R8.out.to b9)
      have L9 := Lib.hid (L8.out.to b9)
      have S9 := Lib.hid (S8.out.to b9)
      have M9 := Lib.hid (M8.out.to b9)
      have B9 := Lib.hid (B8.out.trans (b9.mono B8.out.size))
      clear b9 R8 L8 S8 X8 M8 B8 s0 s1 hg8
      go_wp2_with fail
      refine (bank_any A0 la na c0 w9 HNA.out S9.out).mono ?_
      rintro e w10 ⟨ga, rfl, o10, b10⟩
      have SA := Lib.hid (show Sq u16w w10 w10.heap.size (some ⟨ga, 0, none⟩) (bank64 la) from Sq.of_own o10)
      have R10 := Lib.hid (R9.out.to b10)
      have L10 := Lib.hid (L9.out.to b10)
      have S10 := Lib.hid (S9.out.to b10)
      have M10 := Lib.hid (M9.out.to b10)
      have B10 := Lib.hid (B9.out.trans (b10.mono B9.out.size))
      clear b10 o10 R9 L9 S9 M9 B9
      go_wp2_with fail
      refine (over_any (some ⟨ga, 0, none⟩) (bank64 la) 64 64 A8 mo c8 (n + 1) w10 SA.out (bank64_length la) (by simp) HMN.out M10.out (by omega)).mono ?_
      rintro e w11 h11
      obtain ⟨Ae, ne, ce, z1, rfl, hz1, b11⟩ := h11.some
      rw [if_pos (bank64_length la), HFM.out] at hz1
      have HZ1 := Lib.hid hz1
      have R11 := Lib.hid (R10.out.to b11)
      have L11 := Lib.hid (L10.out.to b11)
      have S11 := Lib.hid (S10.out.to b11)
      have M11 := Lib.hid (M10.out.to b11)
      have B11 := Lib.hid (B10.out.trans (b11.mono B10.out.size))
      clear b11 h11 hz1 SA R10 L10 S10 M10 B10
      go_wp2_with fail
      refine (cells_any A8 mo c8 (n + 1) w11 HMN.out M11.out (by omega)).mono ?_
      rintro e w12 h12
      obtain ⟨Af, nf, cf, z2, rfl, hz2, b12⟩ := h12.some
      rw [HFM.out] at hz2
      have HZ2 := Lib.hid hz2
      have R12 := Lib.hid (R11.out.to b12)
      have L12 := Lib.hid (L11.out.to b12)
      have S12 := Lib.hid (S11.out.to b12)
      have M12 := Lib.hid (M11.out.to b12)
      have B12 := Lib.hid (B11.out.trans (b12.mono B11.out.size))
      clear b12 h12 hz2 R11 L11 S11 M11 B11
      go_wp2_with fail
      refine (over_any A0 la c0 na A7 bl c7 n w12 S12.out HNA.out hn0 HN.out L12.out (by omega)).mono ?_
      rintro e w13 h13
      obtain ⟨Ag, ng, cg, z3, rfl, hz3, b13⟩ := h13.some
      rw [HNA.out, HFB.out] at hz3
      have HZ3 := Lib.hid hz3
      have R13 := Lib.hid (R12.out.to b13)
      have L13 := Lib.hid (L12.out.to b13)
      have S13 := Lib.hid (S12.out.to b13)
      have M13 := Lib.hid (M12.out.to b13)
      have B13 := Lib.hid (B12.out.trans (b13.mono B12.out.size))
      clear b13 h13 hz3 R12 L12 S12 M12 B12
      go_wp2_with fail
      refine (bank_any none [] 0 0 w13 rfl (fun h => absurd h (Nat.lt_irrefl 0))).mono ?_
      rintro e wd ⟨gb, rfl, od, bd⟩
      have SB := Lib.hid (show Sq u16w wd wd.heap.size (some ⟨gb, 0, none⟩) (bank64 []) from Sq.of_own od)
      have Rd := Lib.hid (R13.out.to bd)
      have Ld := Lib.hid (L13.out.to bd)
      have Sd := Lib.hid (S13.out.to bd)
      have Md := Lib.hid (M13.out.to bd)
      have Bd := Lib.hid (B13.out.trans (bd.mono B13.out.size))
      clear bd od R13 L13 S13 M13 B13
      go_wp2_with fail
      refine (diff_all A0 (some ⟨gb, 0, none⟩) la (bank64 []) c0 64 na 64 wd Sd.out SB.out HNA.out (bank64_length []) (Nat.le_refl _)).mono ?_
      rintro e w14 h14
      obtain ⟨Ah, nh, ch, z4, rfl, hz4, b14⟩ := h14.some (bank64_length [])
      rw [HNA.out] at hz4
      have HZ4 := Lib.hid hz4
      have L14 := Lib.hid (Ld.out.to b14)
      have M14 := Lib.hid (Md.out.to b14)
      have B14 := Lib.hid (Bd.out.trans (b14.mono Bd.out.size))
      have hg14 := (Rd.out.to b14).lt
      have hS14 : w14.cell? ⟨w.heap.size, 0, none⟩ = some (.int .i64 b.a) ∧ w14.cell? ⟨w.heap.size, 1, none⟩ = some (.slice b.A b.ws.length b.c) := ⟨(Rd.out.to b14).cell rfl, (Rd.out.to b14).cell rfl⟩
      clear b14 h14 hz4 Rd Ld Sd Md Bd SB
      by_cases h64 : na = 64
      · have hz3 : z3 = 0 := by rw [HZ3.out, if_pos h64]; simp
        have hz4 : z4 = 0 := by rw [HZ4.out, if_pos h64]
        subst hz3 hz4 h64
        cases r
        · have hz1 : z1 = 20 := HZ1.out
          have hz2 : z2 = 20 := HZ2.out
          subst hz1 hz2
          go_wp2_with fail
          refine (sameBlocks_any A7 A7 bl bl c7 c7 n n true w14 HN.out HN.out L14.out L14.out (by rw [HN.out]; omega) HWL.out (decide_eq_true rfl)).mono ?_
          rintro e w15 ⟨rfl, b15⟩
          have M15 := Lib.hid (M14.out.to b15)
          have L15 := Lib.hid (L14.out.to b15)
          have B15 := Lib.hid (B14.out.trans (b15.mono B14.out.size))
          have T15 := cells2_below hg14 hS14 b15
          have hg15 : w.heap.size < w15.heap.size := Nat.lt_of_lt_of_le hg14 b15.size
          clear b15 M14 L14 B14 hS14 hg14
          go_wp2_with fail
          refine (sameBlocks_any A7 A8 bl mo c7 c8 n (n + 1) false w15 HN.out HMN.out L15.out M15.out (by rw [HN.out]; omega) HWL.out HNS.out).mono ?_
          rintro e w16 ⟨rfl, b16⟩
          have B16 := Lib.hid (B15.out.trans (b16.mono B15.out.size))
          obtain ⟨s0, s1⟩ := cells2_below hg15 T15 b16
          have hg16 : w.heap.size < w16.heap.size := Nat.lt_of_lt_of_le hg15 b16.size
          clear b16 M15 L15 B15 T15 hg15
          have hno := Bk.fits_no.1 HRR.out
          by_cases q1 : 0 ≤ b.a
          · by_cases q2 : b.a < 64
            · by_cases q3 : b.ws.length ≤ 14
              · have q4 : decide ((b.ws.length : Int) ≤ 64 - b.a) = false := decide_eq_false (by omega)
                have q3I : (b.ws.length : Int) ≤ 14 := by omega
                clear hno
                go_wp2_with fail
                refine (awake_any w16).mono ?_
                rintro e w17 ⟨rfl, b17⟩
                have B17 := Lib.hid (B16.out.trans (b17.mono B16.out.size))
                clear b17
                go_wp2
                go_ret
                exact ⟨rfl, B17.out⟩
              · have q3I : ¬ (b.ws.length : Int) ≤ 14 := by omega
                clear hno
                go_wp2_with fail
                refine (awake_any w16).mono ?_
                rintro e w17 ⟨rfl, b17⟩
                have B17 := Lib.hid (B16.out.trans (b17.mono B16.out.size))
                clear b17
                go_wp2
                go_ret
                exact ⟨rfl, B17.out⟩
            · clear hno
              go_wp2_with fail
              refine (awake_any w16).mono ?_
              rintro e w17 ⟨rfl, b17⟩
              have B17 := Lib.hid (B16.out.trans (b17.mono B16.out.size))
              clear b17
              go_wp2
              go_ret
              exact ⟨rfl, B17.out⟩
          · clear hno
            go_wp2_with fail
            refine (awake_any w16).mono ?_
            rintro e w17 ⟨rfl, b17⟩
            have B17 := Lib.hid (B16.out.trans (b17.mono B16.out.size))
            clear b17
            go_wp2
            go_ret
            exact ⟨rfl, B17.out⟩
        · have hz1 : z1 = 0 := HZ1.out
          have hz2 : z2 = 0 := HZ2.out
          subst hz1 hz2
          go_wp2_with fail
          refine (sameBlocks_any A7 A7 bl bl c7 c7 n n true w14 HN.out HN.out L14.out L14.out (by rw [HN.out]; omega) HWL.out (decide_eq_true rfl)).mono ?_
          rintro e w15 ⟨rfl, b15⟩
          have M15 := Lib.hid (M14.out.to b15)
          have L15 := Lib.hid (L14.out.to b15)
          have B15 := Lib.hid (B14.out.trans (b15.mono B14.out.size))
          have T15 := cells2_below hg14 hS14 b15
          have hg15 : w.heap.size < w15.heap.size := Nat.lt_of_lt_of_le hg14 b15.size
          clear b15 M14 L14 B14 hS14 hg14
          go_wp2_with fail
          refine (sameBlocks_any A7 A8 bl mo c7 c8 n (n + 1) false w15 HN.out HMN.out L15.out M15.out (by rw [HN.out]; omega) HWL.out HNS.out).mono ?_
          rintro e w16 ⟨rfl, b16⟩
          have B16 := Lib.hid (B15.out.trans (b16.mono B15.out.size))
          obtain ⟨s0, s1⟩ := cells2_below hg15 T15 b16
          have hg16 : w.heap.size < w16.heap.size := Nat.lt_of_lt_of_le hg15 b16.size
          clear b16 M15 L15 B15 T15 hg15
          obtain ⟨q3, q1, q2, q4⟩ := Bk.fits_iff.1 HRR.out
          have q3I : (b.ws.length : Int) ≤ 14 := by omega
          have q5 : (b.ws.length : Int) ≤ 64 - b.a := by omega
          clear q4
          go_wp2_with fail
          refine (awake_any w16).mono ?_
          rintro e w17 ⟨rfl, b17⟩
          have B17 := Lib.hid (B16.out.trans (b17.mono B16.out.size))
          clear b17
          go_wp2
          go_ret
          exact ⟨rfl, B17.out⟩
      · have hz3 : z3 = 21 := by rw [HZ3.out, if_neg h64]
        have hz4 : z4 = 21 := by rw [HZ4.out, if_neg h64]
        subst hz3 hz4
        have h6 : ((na : Int) == 64) = false := beq_eq_false_iff_ne.2 (by omega)
        have h7 : ((na : Int) != 64) = true := by simp; omega
        cases r
        · have hz1 : z1 = 20 := HZ1.out
          have hz2 : z2 = 20 := HZ2.out
          subst hz1 hz2
          go_wp2_with fail
          refine (sameBlocks_any A7 A7 bl bl c7 c7 n n true w14 HN.out HN.out L14.out L14.out (by rw [HN.out]; omega) HWL.out (decide_eq_true rfl)).mono ?_
          rintro e w15 ⟨rfl, b15⟩
          have M15 := Lib.hid (M14.out.to b15)
          have L15 := Lib.hid (L14.out.to b15)
          have B15 := Lib.hid (B14.out.trans (b15.mono B14.out.size))
          have T15 := cells2_below hg14 hS14 b15
          have hg15 : w.heap.size < w15.heap.size := Nat.lt_of_lt_of_le hg14 b15.size
          clear b15 M14 L14 B14 hS14 hg14
          go_wp2_with fail
          refine (sameBlocks_any A7 A8 bl mo c7 c8 n (n + 1) false w15 HN.out HMN.out L15.out M15.out (by rw [HN.out]; omega) HWL.out HNS.out).mono ?_
          rintro e w16 ⟨rfl, b16⟩
          have B16 := Lib.hid (B15.out.trans (b16.mono B15.out.size))
          obtain ⟨s0, s1⟩ := cells2_below hg15 T15 b16
          have hg16 : w.heap.size < w16.heap.size := Nat.lt_of_lt_of_le hg15 b16.size
          clear b16 M15 L15 B15 T15 hg15
          have hno := Bk.fits_no.1 HRR.out
          by_cases q1 : 0 ≤ b.a
          · by_cases q2 : b.a < 64
            · by_cases q3 : b.ws.length ≤ 14
              · have q4 : decide ((b.ws.length : Int) ≤ 64 - b.a) = false := decide_eq_false (by omega)
                have q3I : (b.ws.length : Int) ≤ 14 := by omega
                clear hno
                go_wp2_with fail
                refine (awake_any w16).mono ?_
                rintro e w17 ⟨rfl, b17⟩
                have B17 := Lib.hid (B16.out.trans (b17.mono B16.out.size))
                clear b17
                go_wp2
                go_ret
                exact ⟨rfl, B17.out⟩
              · have q3I : ¬ (b.ws.length : Int) ≤ 14 := by omega
                clear hno
                go_wp2_with fail
                refine (awake_any w16).mono ?_
                rintro e w17 ⟨rfl, b17⟩
                have B17 := Lib.hid (B16.out.trans (b17.mono B16.out.size))
                clear b17
                go_wp2
                go_ret
                exact ⟨rfl, B17.out⟩
            · clear hno
              go_wp2_with fail
              refine (awake_any w16).mono ?_
              rintro e w17 ⟨rfl, b17⟩
              have B17 := Lib.hid (B16.out.trans (b17.mono B16.out.size))
              clear b17
              go_wp2
              go_ret
              exact ⟨rfl, B17.out⟩
          · clear hno
            go_wp2_with fail
            refine (awake_any w16).mono ?_
            rintro e w17 ⟨rfl, b17⟩
            have B17 := Lib.hid (B16.out.trans (b17.mono B16.out.size))
            clear b17
            go_wp2
            go_ret
            exact ⟨rfl, B17.out⟩
        · have hz1 : z1 = 0 := HZ1.out
          have hz2 : z2 = 0 := HZ2.out
          subst hz1 hz2
          go_wp2_with fail
          refine (sameBlocks_any A7 A7 bl bl c7 c7 n n true w14 HN.out HN.out L14.out L14.out (by rw [HN.out]; omega) HWL.out (decide_eq_true rfl)).mono ?_
          rintro e w15 ⟨rfl, b15⟩
          have M15 := Lib.hid (M14.out.to b15)
          have L15 := Lib.hid (L14.out.to b15)
          have B15 := Lib.hid (B14.out.trans (b15.mono B14.out.size))
          have T15 := cells2_below hg14 hS14 b15
          have hg15 : w.heap.size < w15.heap.size := Nat.lt_of_lt_of_le hg14 b15.size
          clear b15 M14 L14 B14 hS14 hg14
          go_wp2_with fail
          refine (sameBlocks_any A7 A8 bl mo c7 c8 n (n + 1) false w15 HN.out HMN.out L15.out M15.out (by rw [HN.out]; omega) HWL.out HNS.out).mono ?_
          rintro e w16 ⟨rfl, b16⟩
          have B16 := Lib.hid (B15.out.trans (b16.mono B15.out.size))
          obtain ⟨s0, s1⟩ := cells2_below hg15 T15 b16
          have hg16 : w.heap.size < w16.heap.size := Nat.lt_of_lt_of_le hg15 b16.size
          clear b16 M15 L15 B15 T15 hg15
          obtain ⟨q3, q1, q2, q4⟩ := Bk.fits_iff.1 HRR.out
          have q3I : (b.ws.length : Int) ≤ 14 := by omega
          have q5 : (b.ws.length : Int) ≤ 64 - b.a := by omega
          clear q4
          go_wp2_with fail
          refine (awake_any w16).mono ?_
          rintro e w17 ⟨rfl, b17⟩
          have B17 := Lib.hid (B16.out.trans (b17.mono B16.out.size))
          clear b17
          go_wp2
          go_ret
          exact ⟨rfl, B17.out⟩
  · go_simp
    refine hK.out _ _ ?_ (fun hHeld => ?_)
    · exact ⟨keep_alloc e0, keep_alloc e1⟩
    clear hK K
    try simp only [Act.put]
    try simp only [List.setIfInBounds_toArray]
    try simp only [List.set_cons_succ]
    try simp only [List.set_cons_zero]
    refine wpAnyH_ready (rs := [0]) (by kernel_rfl) (by simp) ?_
    refine AllReadyH.cons (o := _) rfl (fun K hK => ?_) AllReadyH.nil
    go_simp
    refine hK.out _ _ ?_ (fun hHeld => ?_)
    · exact ⟨keep_alloc (keep_alloc e0), keep_alloc (keep_alloc e1)⟩
    clear hK K
    try simp only [Act.put]
    try simp only [List.setIfInBounds_toArray]
    try simp only [List.set_cons_succ]
    try simp only [List.set_cons_zero]
    refine wpAnyH_ready (rs := [4]) (by kernel_rfl) (by simp) ?_
    refine AllReadyH.cons (o := _) rfl (fun K hK => ?_) AllReadyH.nil
    obtain ⟨g0, hg0⟩ : ∃ g0, w2.heap.size + 1 = g0 := ⟨_, rfl⟩
    obtain ⟨g44, hg44⟩ : ∃ g44, w2.heap.size = g44 := ⟨_, rfl⟩
    obtain ⟨Wc, hWc⟩ : ∃ Wc, ((w2.alloc (.cells #[.int .i64 b.a, .slice b.A b.ws.length b.c] 34)).alloc (.cells #[] 34)).drew = Wc := ⟨_, rfl⟩
    have OE := Lib.hid (show Wc.ownsRow w2.heap.size 34 2 (.slice (some ⟨g0, 0, none⟩) 0 0) 0 [] by rw [← hWc, ← hg0]; exact own_below (own_recs_empty Blk.cells (w2.alloc (.cells #[.int .i64 b.a, .slice b.A b.ws.length b.c] 34)) w2.heap.size 34 2 _ (by simp) (by omega)) (Below.refl _ _).drew)
    have BC : Hid (Below w2.heap.size w2 Wc) := Lib.hid (by rw [← hWc]; exact (bel_alloc (bel_alloc (Below.refl _ _) _) _).drew)
    have LW := Lib.hid (LLT.out.to BC.out)
    have SC := Lib.hid (cells2_below hg6 ⟨e0, e1⟩ BC.out)
    have LC : Hid (Recs Blk.cells 2 Wc Wc.heap.size (some ⟨g44, 0, none⟩) [b]) := Lib.hid (by rw [← hWc]; exact HL.out w2 _ _ hg44 (bel_alloc (Below.refl _ _) _).drew)
    have HNE : Hid (some g44 ≠ (Value.slice (some ⟨g0, 0, none⟩) 0 0).ownBlock) := Lib.hid (by simp [Value.ownBlock]; omega)
    rw [hWc]
    clear hWc
    subst hg0 hg44
    (refine step_append_recs (f := Blk.cells) (s := 2) _ rfl (.tmp 38) (.tmp 41) 26 rfl (fun _ => rfl) (by decide) blk_one w2.heap.size 34 iB _ 32 Try.underlying26 hifB hb0 hb1 hb2 (by decide) rfl _ [] rfl OE.out Wc.heap.size A7 (bl.take k) c7 k LT.out rfl LW.out.rc N7.out (by simp; omega) BC.out.size ?_)
    intro A4 c4 w4 o4 g4 b4
    rw [List.nil_append, LT.out] at o4
    rw [List.nil_append, LT.out]
    have hS4 := cells2_below hg6 SC.out b4
    refine hK.out _ _ ?_ (fun hHeld => ?_)
    · exact hS4
    clear hK K
    try simp only [Act.put, List.setIfInBounds_toArray, List.set_cons_zero, List.set_cons_succ]
    have BC4 := Lib.hid (BC.out.trans b4)
    have LV0 := LC.out.grown g4 HNE.out g4.size
    obtain ⟨V, hV⟩ : ∃ V, w4 = V := ⟨_, rfl⟩
    have OV := Lib.hid (show V.ownsRow w2.heap.size 34 2 (.slice A4 k c4) (bl.take k).length ((bl.take k).flatMap Blk.cells) by rw [← hV, LT.out]; exact o4)
    have BV : Hid (Below w2.heap.size w2 V) := Lib.hid (by rw [← hV]; exact BC4.out)
    have LV := Lib.hid (show Recs Blk.cells 2 V V.heap.size _ [b] by rw [← hV]; exact LV0)
    have SV : Hid (V.cell? ⟨w.heap.size, 0, none⟩ = some (.int .i64 b.a) ∧ V.cell? ⟨w.heap.size, 1, none⟩ = some (.slice b.A b.ws.length b.c)) := Lib.hid (by rw [← hV]; exact hS4)
    rw [hV]
    clear hV o4 g4 b4 BC4 hS4 OE BC LW SC LC LV0 HNE
    refine wpAnyH_ready (rs := [7]) (by kernel_rfl) (by simp) ?_
    refine AllReadyH.cons (o := _) rfl (fun K hK => ?_) AllReadyH.nil
    (refine step_append_recs (f := Blk.cells) (s := 2) _ rfl (.tmp 42) (.tmp 44) 26 rfl (fun _ => rfl) (by decide) blk_one w2.heap.size 34 iB _ 32 Try.underlying26 hifB hb0 hb1 hb2 (by decide) rfl (.slice A4 k c4) (bl.take k) rfl OV.out V.heap.size _ [b] 1 1 rfl rfl LV.out (by simp) (by rw [LT.out]; omega) BV.out.size ?_)
    intro A6 c6 w6 o6 g6 b6
    rw [LM.out] at o6 ⊢
    have hS6 := cells2_below hg6 SV.out b6
    refine hK.out _ _ ?_ (fun hHeld => ?_)
    · exact hS6
    clear hK K
    try simp only [Act.put, List.setIfInBounds_toArray, List.set_cons_zero, List.set_cons_succ]
    have BW := Lib.hid (BV.out.trans b6)
    have LDW := Lib.hid (L5.out.to BW.out)
    have O6 := Lib.hid o6
    clear o6 g6 b6
    refine wpAnyH_ready (rs := [11]) (by kernel_rfl) (by simp) ?_
    refine AllReadyH.cons (o := _) rfl (fun K hK => ?_) AllReadyH.nil
    (refine step_append_recs (f := Blk.cells) (s := 2) _ rfl (.tmp 45) (.tmp 48) 26 rfl (fun _ => rfl) (by decide) blk_one w2.heap.size 34 iB _ 32 Try.underlying26 hifB hb0 hb1 hb2 (by decide) rfl (.slice A6 (k + 1) c6) (bl.take k ++ [b]) rfl (by rw [LM.out]; exact O6.out) w6.heap.size A5 (bl.drop k) (c7 - k) (n - k) LD.out rfl LDW.out.rc N5.out (by rw [LM.out]; omega) BW.out.size ?_)
    intro A8 c8 w8 o8 g8 b8
    rw [LM2.out] at o8 ⊢
    have hS8 := cells2_below hg6 hS6 b8
    refine hK.out _ _ ?_ (fun hHeld => ?_)
    · exact hS8
    clear hK K
    try simp only [Act.put, List.setIfInBounds_toArray, List.set_cons_zero, List.set_cons_succ]
    have B28 := Lib.hid (BW.out.trans b8)
    have O8 := Lib.hid o8
    clear o8 g8 b8 BW LDW O6
    refine takeD (i := 12) (oi := _) (v := ?vv9) (d := some 10) rfl (by kernel_rfl) (by kernel_rfl) (by kernel_rfl) (by kernel_rfl) (fun _ _ _ h => h) (Or.inl ⟨by kernel_rfl, ?_⟩) (by assumption) ?_
    rotate_left 1
    · intro W_ hSw; (try dsimp only at hSw); go_simp; (first | done | with_reducible rfl)
    try simp only [Act.put, List.setIfInBounds_toArray, List.set_cons_zero, List.set_cons_succ]
    refine wpAnyH_done (by kernel_rfl) ?_ _
    have R8 := Lib.hid (R2.out.to B28.out)
    have L8 := Lib.hid (L2.out.to B28.out)
    have S8 := Lib.hid (S2.out.to B28.out)
    have X8 := Lib.hid (X2.out.to B28.out)
    have M8 := Lib.hid (blks_mid k HN.out O8.out hkn (fun y hy => L8.out.ok y hy) X8.out)
    have B8 := Lib.hid (B2.out.trans (B28.out.mono B2.out.size))
    have HMN := LM2
    have HNS : Hid (decide (prs bl = prs (bl.take k ++ [b] ++ bl.drop k)) = false) := Lib.hid (decide_eq_false (fun h => by have h2 := congrArg List.length h; simp only [prs, List.length_map] at h2; rw [LM2.out, HN.out] at h2; omega))
    have HFM : Hid (Bk.fit (prs (bl.take k ++ [b] ++ bl.drop k)) = Bk.fits b.a b.ws.length) := Lib.hid (by
      rw [show prs (bl.take k ++ [b] ++ bl.drop k) = (prs bl).take k ++ [b.pr] ++ (prs bl).drop k by simp [prs, List.map_take, List.map_drop]]
      exact Bk.fit_mid HF.out k b.pr)
    have HFB : Hid (Bk.fit (prs bl) = true) := Lib.hid (Bk.fit_iff.2 HF.out)
    have HWL : Hid (∀ y ∈ bl, y.ws.length ≤ 140737488355328) := Lib.hid (fun y hy => by
      have := (Bk.fits_iff.1 (HF.out y.pr (List.mem_map_of_mem hy))).1
      have h2 : y.ws.length ≤ 14 := this
      omega)
    generalize bl.take k ++ [b] ++ bl.drop k = mo at *
    obtain ⟨r, hr⟩ : ∃ r, Bk.fits b.a b.ws.length = r := ⟨_, rfl⟩
    have HRR := Lib.hid hr
    rw [hr] at HFM
    obtain ⟨s0, s1⟩ := hS8
    have hg8 : w.heap.size < w8.heap.size := Nat.lt_of_lt_of_le hg6 B28.out.size
    clear hr HE0 HL LM LT LD N5 N7 HA5 O8 B28 L5 R2 L2 S2 X2 B2 LLT
    go_wp2_with fail
    refine (fits_any b.a b.ws.length b.c b.A r w8 X8.out.lo X8.out.hi (by omega) HRR.out).mono ?_
    rintro e w9 ⟨rfl, b9⟩
    have R9 := Lib.hid (R8.out.to b9)
    have L9 := Lib.hid (L8.out.to b9)
    have S9 := Lib.hid (S8.out.to b9)
    have M9 := Lib.hid (M8.out.to b9)
    have B9 := Lib.hid (B8.out.trans (b9.mono B8.out.size))
    clear b9 R8 L8 S8 X8 M8 B8 s0 s1 hg8
    go_wp2_with fail
    refine (bank_any A0 la na c0 w9 HNA.out S9.out).mono ?_
    rintro e w10 ⟨ga, rfl, o10, b10⟩
    have SA := Lib.hid (show Sq u16w w10 w10.heap.size (some ⟨ga, 0, none⟩) (bank64 la) from Sq.of_own o10)
    have R10 := Lib.hid (R9.out.to b10)
    have L10 := Lib.hid (L9.out.to b10)
    have S10 := Lib.hid (S9.out.to b10)
    have M10 := Lib.hid (M9.out.to b10)
    have B10 := Lib.hid (B9.out.trans (b10.mono B9.out.size))
    clear b10 o10 R9 L9 S9 M9 B9
    go_wp2_with fail
    refine (over_any (some ⟨ga, 0, none⟩) (bank64 la) 64 64 A8 mo c8 (n + 1) w10 SA.out (bank64_length la) (by simp) HMN.out M10.out (by omega)).mono ?_
    rintro e w11 h11
    obtain ⟨Ae, ne, ce, z1, rfl, hz1, b11⟩ := h11.some
    rw [if_pos (bank64_length la), HFM.out] at hz1
    have HZ1 := Lib.hid hz1
    have R11 := Lib.hid (R10.out.to b11)
    have L11 := Lib.hid (L10.out.to b11)
    have S11 := Lib.hid (S10.out.to b11)
    have M11 := Lib.hid (M10.out.to b11)
    have B11 := Lib.hid (B10.out.trans (b11.mono B10.out.size))
    clear b11 h11 hz1 SA R10 L10 S10 M10 B10
    go_wp2_with fail
    refine (cells_any A8 mo c8 (n + 1) w11 HMN.out M11.out (by omega)).mono ?_
    rintro e w12 h12
    obtain ⟨Af, nf, cf, z2, rfl, hz2, b12⟩ := h12.some
    rw [HFM.out] at hz2
    have HZ2 := Lib.hid hz2
    have R12 := Lib.hid (R11.out.to b12)
    have L12 := Lib.hid (L11.out.to b12)
    have S12 := Lib.hid (S11.out.to b12)
    have M12 := Lib.hid (M11.out.to b12)
    have B12 := Lib.hid (B11.out.trans (b12.mono B11.out.size))
    clear b12 h12 hz2 R11 L11 S11 M11 B11
    go_wp2_with fail
    refine (over_any A0 la c0 na A7 bl c7 n w12 S12.out HNA.out hn0 HN.out L12.out (by omega)).mono ?_
    rintro e w13 h13
    obtain ⟨Ag, ng, cg, z3, rfl, hz3, b13⟩ := h13.some
    rw [HNA.out, HFB.out] at hz3
    have HZ3 := Lib.hid hz3
    have R13 := Lib.hid (R12.out.to b13)
    have L13 := Lib.hid (L12.out.to b13)
    have S13 := Lib.hid (S12.out.to b13)
    have M13 := Lib.hid (M12.out.to b13)
    have B13 := Lib.hid (B12.out.trans (b13.mono B12.out.size))
    clear b13 h13 hz3 R12 L12 S12 M12 B12
    go_wp2_with fail
    refine (bank_any none [] 0 0 w13 rfl (fun h => absurd h (Nat.lt_irrefl 0))).mono ?_
    rintro e wd ⟨gb, rfl, od, bd⟩
    have SB := Lib.hid (show Sq u16w wd wd.heap.size (some ⟨gb, 0, none⟩) (bank64 []) from Sq.of_own od)
    have Rd := Lib.hid (R13.out.to bd)
    have Ld := Lib.hid (L13.out.to bd)
    have Sd := Lib.hid (S13.out.to bd)
    have Md := Lib.hid (M13.out.to bd)
    have Bd := Lib.hid (B13.out.trans (bd.mono B13.out.size))
    clear bd od R13 L13 S13 M13 B13
    go_wp2_with fail
    refine (diff_all A0 (some ⟨gb, 0, none⟩) la (bank64 []) c0 64 na 64 wd Sd.out SB.out HNA.out (bank64_length []) (Nat.le_refl _)).mono ?_
    rintro e w14 h14
    obtain ⟨Ah, nh, ch, z4, rfl, hz4, b14⟩ := h14.some (bank64_length [])
    rw [HNA.out] at hz4
    have HZ4 := Lib.hid hz4
    have L14 := Lib.hid (Ld.out.to b14)
    have M14 := Lib.hid (Md.out.to b14)
    have B14 := Lib.hid (Bd.out.trans (b14.mono Bd.out.size))
    have hg14 := (Rd.out.to b14).lt
    have hS14 : w14.cell? ⟨w.heap.size, 0, none⟩ = some (.int .i64 b.a) ∧ w14.cell? ⟨w.heap.size, 1, none⟩ = some (.slice b.A b.ws.length b.c) := ⟨(Rd.out.to b14).cell rfl, (Rd.out.to b14).cell rfl⟩
    clear b14 h14 hz4 Rd Ld Sd Md Bd SB
    by_cases h64 : na = 64
    · have hz3 : z3 = 0 := by rw [HZ3.out, if_pos h64]; simp
      have hz4 : z4 = 0 := by rw [HZ4.out, if_pos h64]
      subst hz3 hz4 h64
      cases r
      · have hz1 : z1 = 20 := HZ1.out
        have hz2 : z2 = 20 := HZ2.out
        subst hz1 hz2
        go_wp2_with fail
        refine (sameBlocks_any A7 A7 bl bl c7 c7 n n true w14 HN.out HN.out L14.out L14.out (by rw [HN.out]; omega) HWL.out (decide_eq_true rfl)).mono ?_
        rintro e w15 ⟨rfl, b15⟩
        have M15 := Lib.hid (M14.out.to b15)
        have L15 := Lib.hid (L14.out.to b15)
        have B15 := Lib.hid (B14.out.trans (b15.mono B14.out.size))
        have T15 := cells2_below hg14 hS14 b15
        have hg15 : w.heap.size < w15.heap.size := Nat.lt_of_lt_of_le hg14 b15.size
        clear b15 M14 L14 B14 hS14 hg14
        go_wp2_with fail
        refine (sameBlocks_any A7 A8 bl mo c7 c8 n (n + 1) false w15 HN.out HMN.out L15.out M15.out (by rw [HN.out]; omega) HWL.out HNS.out).mono ?_
        rintro e w16 ⟨rfl, b16⟩
        have B16 := Lib.hid (B15.out.trans (b16.mono B15.out.size))
        obtain ⟨s0, s1⟩ := cells2_below hg15 T15 b16
        have hg16 : w.heap.size < w16.heap.size := Nat.lt_of_lt_of_le hg15 b16.size
        clear b16 M15 L15 B15 T15 hg15
        have hno := Bk.fits_no.1 HRR.out
        by_cases q1 : 0 ≤ b.a
        · by_cases q2 : b.a < 64
          · by_cases q3 : b.ws.length ≤ 14
            · have q4 : decide ((b.ws.length : Int) ≤ 64 - b.a) = false := decide_eq_false (by omega)
              have q3I : (b.ws.length : Int) ≤ 14 := by omega
              clear hno
              go_wp2_with fail
              refine (awake_any w16).mono ?_
              rintro e w17 ⟨rfl, b17⟩
              have B17 := Lib.hid (B16.out.trans (b17.mono B16.out.size))
              clear b17
              go_wp2
              go_ret
              exact ⟨rfl, B17.out⟩
            · have q3I : ¬ (b.ws.length : Int) ≤ 14 := by omega
              clear hno
              go_wp2_with fail
              refine (awake_any w16).mono ?_
              rintro e w17 ⟨rfl, b17⟩
              have B17 := Lib.hid (B16.out.trans (b17.mono B16.out.size))
              clear b17
              go_wp2
              go_ret
              exact ⟨rfl, B17.out⟩
          · clear hno
            go_wp2_with fail
            refine (awake_any w16).mono ?_
            rintro e w17 ⟨rfl, b17⟩
            have B17 := Lib.hid (B16.out.trans (b17.mono B16.out.size))
            clear b17
            go_wp2
            go_ret
            exact ⟨rfl, B17.out⟩
        · clear hno
          go_wp2_with fail
          refine (awake_any w16).mono ?_
          rintro e w17 ⟨rfl, b17⟩
          have B17 := Lib.hid (B16.out.trans (b17.mono B16.out.size))
          clear b17
          go_wp2
          go_ret
          exact ⟨rfl, B17.out⟩
      · have hz1 : z1 = 0 := HZ1.out
        have hz2 : z2 = 0 := HZ2.out
        subst hz1 hz2
        go_wp2_with fail
        refine (sameBlocks_any A7 A7 bl bl c7 c7 n n true w14 HN.out HN.out L14.out L14.out (by rw [HN.out]; omega) HWL.out (decide_eq_true rfl)).mono ?_
        rintro e w15 ⟨rfl, b15⟩
        have M15 := Lib.hid (M14.out.to b15)
        have L15 := Lib.hid (L14.out.to b15)
        have B15 := Lib.hid (B14.out.trans (b15.mono B14.out.size))
        have T15 := cells2_below hg14 hS14 b15
        have hg15 : w.heap.size < w15.heap.size := Nat.lt_of_lt_of_le hg14 b15.size
        clear b15 M14 L14 B14 hS14 hg14
        go_wp2_with fail
        refine (sameBlocks_any A7 A8 bl mo c7 c8 n (n + 1) false w15 HN.out HMN.out L15.out M15.out (by rw [HN.out]; omega) HWL.out HNS.out).mono ?_
        rintro e w16 ⟨rfl, b16⟩
        have B16 := Lib.hid (B15.out.trans (b16.mono B15.out.size))
        obtain ⟨s0, s1⟩ := cells2_below hg15 T15 b16
        have hg16 : w.heap.size < w16.heap.size := Nat.lt_of_lt_of_le hg15 b16.size
        clear b16 M15 L15 B15 T15 hg15
        obtain ⟨q3, q1, q2, q4⟩ := Bk.fits_iff.1 HRR.out
        have q3I : (b.ws.length : Int) ≤ 14 := by omega
        have q5 : (b.ws.length : Int) ≤ 64 - b.a := by omega
        clear q4
        go_wp2_with fail
        refine (awake_any w16).mono ?_
        rintro e w17 ⟨rfl, b17⟩
        have B17 := Lib.hid (B16.out.trans (b17.mono B16.out.size))
        clear b17
        go_wp2
        go_ret
        exact ⟨rfl, B17.out⟩
    · have hz3 : z3 = 21 := by rw [HZ3.out, if_neg h64]
      have hz4 : z4 = 21 := by rw [HZ4.out, if_neg h64]
      subst hz3 hz4
      have h6 : ((na : Int) == 64) = false := beq_eq_false_iff_ne.2 (by omega)
      have h7 : ((na : Int) != 64) = true := by simp; omega
      cases r
      · have hz1 : z1 = 20 := HZ1.out
        have hz2 : z2 = 20 := HZ2.out
        subst hz1 hz2
        go_wp2_with fail
        refine (sameBlocks_any A7 A7 bl bl c7 c7 n n true w14 HN.out HN.out L14.out L14.out (by rw [HN.out]; omega) HWL.out (decide_eq_true rfl)).mono ?_
        rintro e w15 ⟨rfl, b15⟩
        have M15 := Lib.hid (M14.out.to b15)
        have L15 := Lib.hid (L14.out.to b15)
        have B15 := Lib.hid (B14.out.trans (b15.mono B14.out.size))
        have T15 := cells2_below hg14 hS14 b15
        have hg15 : w.heap.size < w15.heap.size := Nat.lt_of_lt_of_le hg14 b15.size
        clear b15 M14 L14 B14 hS14 hg14
        go_wp2_with fail
        refine (sameBlocks_any A7 A8 bl mo c7 c8 n (n + 1) false w15 HN.out HMN.out L15.out M15.out (by rw [HN.out]; omega) HWL.out HNS.out).mono ?_
        rintro e w16 ⟨rfl, b16⟩
        have B16 := Lib.hid (B15.out.trans (b16.mono B15.out.size))
        obtain ⟨s0, s1⟩ := cells2_below hg15 T15 b16
        have hg16 : w.heap.size < w16.heap.size := Nat.lt_of_lt_of_le hg15 b16.size
        clear b16 M15 L15 B15 T15 hg15
        have hno := Bk.fits_no.1 HRR.out
        by_cases q1 : 0 ≤ b.a
        · by_cases q2 : b.a < 64
          · by_cases q3 : b.ws.length ≤ 14
            · have q4 : decide ((b.ws.length : Int) ≤ 64 - b.a) = false := decide_eq_false (by omega)
              have q3I : (b.ws.length : Int) ≤ 14 := by omega
              clear hno
              go_wp2_with fail
              refine (awake_any w16).mono ?_
              rintro e w17 ⟨rfl, b17⟩
              have B17 := Lib.hid (B16.out.trans (b17.mono B16.out.size))
              clear b17
              go_wp2
              go_ret
              exact ⟨rfl, B17.out⟩
            · have q3I : ¬ (b.ws.length : Int) ≤ 14 := by omega
              clear hno
              go_wp2_with fail
              refine (awake_any w16).mono ?_
              rintro e w17 ⟨rfl, b17⟩
              have B17 := Lib.hid (B16.out.trans (b17.mono B16.out.size))
              clear b17
              go_wp2
              go_ret
              exact ⟨rfl, B17.out⟩
          · clear hno
            go_wp2_with fail
            refine (awake_any w16).mono ?_
            rintro e w17 ⟨rfl, b17⟩
            have B17 := Lib.hid (B16.out.trans (b17.mono B16.out.size))
            clear b17
            go_wp2
            go_ret
            exact ⟨rfl, B17.out⟩
        · clear hno
          go_wp2_with fail
          refine (awake_any w16).mono ?_
          rintro e w17 ⟨rfl, b17⟩
          have B17 := Lib.hid (B16.out.trans (b17.mono B16.out.size))
          clear b17
          go_wp2
          go_ret
          exact ⟨rfl, B17.out⟩
      · have hz1 : z1 = 0 := HZ1.out
        have hz2 : z2 = 0 := HZ2.out
        subst hz1 hz2
        go_wp2_with fail
        refine (sameBlocks_any A7 A7 bl bl c7 c7 n n true w14 HN.out HN.out L14.out L14.out (by rw [HN.out]; omega) HWL.out (decide_eq_true rfl)).mono ?_
        rintro e w15 ⟨rfl, b15⟩
        have M15 := Lib.hid (M14.out.to b15)
        have L15 := Lib.hid (L14.out.to b15)
        have B15 := Lib.hid (B14.out.trans (b15.mono B14.out.size))
        have T15 := cells2_below hg14 hS14 b15
        have hg15 : w.heap.size < w15.heap.size := Nat.lt_of_lt_of_le hg14 b15.size
        clear b15 M14 L14 B14 hS14 hg14
        go_wp2_with fail
        refine (sameBlocks_any A7 A8 bl mo c7 c8 n (n + 1) false w15 HN.out HMN.out L15.out M15.out (by rw [HN.out]; omega) HWL.out HNS.out).mono ?_
        rintro e w16 ⟨rfl, b16⟩
        have B16 := Lib.hid (B15.out.trans (b16.mono B15.out.size))
        obtain ⟨s0, s1⟩ := cells2_below hg15 T15 b16
        have hg16 : w.heap.size < w16.heap.size := Nat.lt_of_lt_of_le hg15 b16.size
        clear b16 M15 L15 B15 T15 hg15
        obtain ⟨q3, q1, q2, q4⟩ := Bk.fits_iff.1 HRR.out
        have q3I : (b.ws.length : Int) ≤ 14 := by omega
        have q5 : (b.ws.length : Int) ≤ 64 - b.a := by omega
        clear q4
        go_wp2_with fail
        refine (awake_any w16).mono ?_
        rintro e w17 ⟨rfl, b17⟩
        have B17 := Lib.hid (B16.out.trans (b17.mono B16.out.size))
        clear b17
        go_wp2
        go_ret
        exact ⟨rfl, B17.out⟩
end Go.Proofs.Ytkilpiiljpeamaa
