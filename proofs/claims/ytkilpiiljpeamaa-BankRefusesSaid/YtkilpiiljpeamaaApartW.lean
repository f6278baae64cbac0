/- The walk of saucierlaw17.BankApart. -/
import Derived.Test.YtkilpiiljpeamaaAwk17
import Derived.Test.YtkilpiiljpeamaaApartLaw
import Derived.Test.YtkilpiiljpeamaaFitB
import Derived.StillTailTactics
namespace Go.Proofs.Ytkilpiiljpeamaa
open Go.RowKit
set_option linter.unusedVariables false
attribute [local go_sem] Later.cell Later.frozen setCell_twice
theorem sliced_zero' (a : Option Addr) (h m s : Nat) : sliced a 0 h m s = .slice a h m := by
  unfold sliced
  rw [Nat.zero_mul, Nat.sub_zero, Nat.sub_zero]
  cases a with
  | none => simp
  | some p => split <;> rfl
attribute [local go_sem high] sliced_zero'
/-- two blocks, one behind the other -/
theorem size_blk : (Try.prog.info? 34).map (·.size) = some 2 := by kernel_rfl
theorem range_two {w : World} {g o : Nat} {u v : Value} (h : w.cell? ⟨g, o, none⟩ = some u ∧ w.cell? ⟨g, o + 1, none⟩ = some v) : w.rangeAt g o [u, v] := fun j z hz => by
  match j, hz with
  | 0, hz => rw [Nat.add_zero, h.1]; simpa using hz
  | 1, hz => rw [h.2]; simpa using hz
theorem cells_below {w w' : World} {g : Nat} {u v x y : Value} (hg : g < w.heap.size) (h : (w.cell? ⟨g, 0, none⟩ = some u ∧ w.cell? ⟨g, 1, none⟩ = some v) ∧ w.cell? ⟨g, 2, none⟩ = some x ∧ w.cell? ⟨g, 3, none⟩ = some y) (hb : Below w.heap.size w w') : (w'.cell? ⟨g, 0, none⟩ = some u ∧ w'.cell? ⟨g, 1, none⟩ = some v) ∧ w'.cell? ⟨g, 2, none⟩ = some x ∧ w'.cell? ⟨g, 3, none⟩ = some y :=
  ⟨⟨(hb.cell (p := ⟨g, 0, none⟩) hg).trans h.1.1, (hb.cell (p := ⟨g, 1, none⟩) hg).trans h.1.2⟩, (hb.cell (p := ⟨g, 2, none⟩) hg).trans h.2.1, (hb.cell (p := ⟨g, 3, none⟩) hg).trans h.2.2⟩
theorem two_blks {w : World} {B g o : Nat} {x y : Blk} (h : Blks w B (some ⟨g, o, none⟩) [x, y]) : g < B ∧ x.Ok w B ∧ y.Ok w B ∧ w.cell? ⟨g, o, none⟩ = some (.int .i64 x.a) ∧ w.cell? ⟨g, o + 1, none⟩ = some (.slice x.A x.ws.length x.c) ∧ w.cell? ⟨g, o + 2, none⟩ = some (.int .i64 y.a) ∧ w.cell? ⟨g, o + 3, none⟩ = some (.slice y.A y.ws.length y.c) := by
  obtain ⟨g1, o1, x1, hA, hg, hx, hxo, h0, h1⟩ := h.at_ (k := 0) (by simp)
  obtain ⟨rfl, rfl⟩ : g = g1 ∧ o = o1 := by simpa using hA
  obtain rfl : x = x1 := by simpa using hx
  obtain ⟨g2, o2, y1, hA2, _, hy, hyo, h2, h3⟩ := h.at_ (k := 1) (by simp)
  obtain ⟨rfl, rfl⟩ : g = g2 ∧ o = o2 := by simpa using hA2
  obtain rfl : y = y1 := by simpa using hy
  simp only [Nat.zero_mul, Nat.add_zero, Nat.one_mul] at h0 h1 h2 h3
  exact ⟨hg, hxo, hyo, h0, h1, h2, h3⟩
theorem lit_blks {w : World} {l : List Blk} (hl : ∀ b ∈ l, b.Ok w w.heap.size) (cs : Array Value) (hcs : cs.toList = l.flatMap Blk.cells) : Blks (w.alloc (.cells cs 34)) (w.heap.size + 1) (some ⟨w.heap.size, 0, none⟩) l :=
  ⟨Recs.lits (f := Blk.cells) (s := 2) (fun _ => rfl) (by decide) w l cs 34 w.heap.size (w.heap.size + 1) hcs rfl (by omega), fun b hb => ((hl b hb).below (bel_alloc (Below.refl _ _) _)).more (by omega)⟩
theorem Blks.tail {w : World} {B g o : Nat} {x : Blk} {l : List Blk} (h : Blks w B (some ⟨g, o, none⟩) (x :: l)) : Blks w B (some ⟨g, o + 2, none⟩) l := by
  have h1 := Recs.drop (n := 1) h.rc
  exact ⟨by simpa using h1, fun b hb => h.ok b (by simp [hb])⟩
theorem Blks.head {w : World} {B : Nat} {A : Option Addr} {x : Blk} {l : List Blk} (h : Blks w B A (x :: l)) : Blks w B A [x] := by simpa using h.take 1
set_option maxRecDepth 100000 in
set_option maxHeartbeats 2000000 in
theorem bankApart_walk (A0 : Option Addr) (la : List Nat) (c0 : Nat) (p q : Blk) (w : World)
    (h0 : Sq u16w w w.heap.size A0 la) (hu0 : ∀ x ∈ la, x < 65536) (hp : p.Ok w w.heap.size) (hq : q.Ok w w.heap.size) :
    Calls Try.prog 5 #[.slice A0 la.length c0, p.val, q.val] w fun e w' => e = .returned (.bool true) ∧ Below w.heap.size w w' := by
  have hfr : Below w.heap.size w ((w.alloc (.cells #[.int .i64 p.a, .slice p.A p.ws.length p.c] 34)).alloc (.cells #[.int .i64 q.a, .slice q.A q.ws.length q.c] 34)) := bel_alloc (bel_alloc (Below.refl _ _) _) _
  have H0 := Lib.hid (h0.to hfr)
  have HP := Lib.hid (hp.to hfr)
  have HQ := Lib.hid (hq.to hfr)
  have HB := Lib.hid hfr
  clear hfr h0 hp hq
  by_cases hp1 : 100 < p.ws.length
  · have g1 : decide ((100 : Int) < (p.ws.length : Int)) = true := decide_eq_true (by omega)
    go_enter Try.func5, Try.ntmps5
    go_wp2_with fail
    refine (awake_any _).mono ?_
    rintro e w7 ⟨rfl, b7⟩
    have B7 := Lib.hid (HB.out.trans (b7.mono HB.out.size))
    clear b7
    go_wp2
    go_ret
    exact ⟨rfl, B7.out⟩
  have g1 : decide ((100 : Int) < (p.ws.length : Int)) = false := decide_eq_false (by omega)
  by_cases hq1 : 100 < q.ws.length
  · have g2 : decide ((100 : Int) < (q.ws.length : Int)) = true := decide_eq_true (by omega)
    go_enter Try.func5, Try.ntmps5
    go_wp2_with fail
    refine (awake_any _).mono ?_
    rintro e w7 ⟨rfl, b7⟩
    have B7 := Lib.hid (HB.out.trans (b7.mono HB.out.size))
    clear b7
    go_wp2
    go_ret
    exact ⟨rfl, B7.out⟩
  have g2 : decide ((100 : Int) < (q.ws.length : Int)) = false := decide_eq_false (by omega)
  go_enter Try.func5, Try.ntmps5
  go_wp2_with fail
  have d0 : ((w.alloc (.cells #[.int .i64 p.a, .slice p.A p.ws.length p.c] 34)).alloc (.cells #[.int .i64 q.a, .slice q.A q.ws.length q.c] 34)).cell? ⟨w.heap.size, 0, none⟩ = some (.int .i64 p.a) := by simp [go_sem]
  have d1 : ((w.alloc (.cells #[.int .i64 p.a, .slice p.A p.ws.length p.c] 34)).alloc (.cells #[.int .i64 q.a, .slice q.A q.ws.length q.c] 34)).cell? ⟨w.heap.size, 1, none⟩ = some (.slice p.A p.ws.length p.c) := by simp [go_sem]
  have d2 : ((w.alloc (.cells #[.int .i64 p.a, .slice p.A p.ws.length p.c] 34)).alloc (.cells #[.int .i64 q.a, .slice q.A q.ws.length q.c] 34)).cell? ⟨w.heap.size + 1, 0, none⟩ = some (.int .i64 q.a) := by simp [go_sem]
  have d3 : ((w.alloc (.cells #[.int .i64 p.a, .slice p.A p.ws.length p.c] 34)).alloc (.cells #[.int .i64 q.a, .slice q.A q.ws.length q.c] 34)).cell? ⟨w.heap.size + 1, 1, none⟩ = some (.slice q.A q.ws.length q.c) := by simp [go_sem]
  have hsz : w.heap.size + 1 + 1 = ((w.alloc (.cells #[.int .i64 p.a, .slice p.A p.ws.length p.c] 34)).alloc (.cells #[.int .i64 q.a, .slice q.A q.ws.length q.c] 34)).heap.size := by simp
  generalize (w.alloc (.cells #[.int .i64 p.a, .slice p.A p.ws.length p.c] 34)).alloc (.cells #[.int .i64 q.a, .slice q.A q.ws.length q.c] 34) = w0 at *
  refine (bank_any A0 la _ c0 w0 rfl H0.out).mono ?_
  rintro e w1 ⟨ga, rfl, o1, b1⟩
  replace d0 := (b1.cell (p := ⟨w.heap.size, 0, none⟩) (by show w.heap.size < w0.heap.size; omega)).trans d0
  replace d1 := (b1.cell (p := ⟨w.heap.size, 1, none⟩) (by show w.heap.size < w0.heap.size; omega)).trans d1
  replace d2 := (b1.cell (p := ⟨w.heap.size + 1, 0, none⟩) (by show w.heap.size + 1 < w0.heap.size; omega)).trans d2
  replace d3 := (b1.cell (p := ⟨w.heap.size + 1, 1, none⟩) (by show w.heap.size + 1 < w0.heap.size; omega)).trans d3
  have SA1 := Lib.hid (show Sq u16w w1 w1.heap.size (some ⟨ga, 0, none⟩) (bank64 la) from Sq.of_own o1)
  have B1 := Lib.hid (HB.out.trans (b1.mono HB.out.size))
  have P1 := Lib.hid (HP.out.to b1)
  have Q1 := Lib.hid (HQ.out.to b1)
  have hw1 : w.heap.size < w1.heap.size := by have := b1.size; omega
  have hw2 : w.heap.size + 1 < w1.heap.size := by have := b1.size; omega
  clear hsz o1 b1 H0 HP HQ HB
  have HUA := Lib.hid (bank64_u16 hu0)
  have HLA := Lib.hid (bank64_length la)
  generalize bank64 la = a at *
  have LL := Lib.hid (lit_blks (w := w1) (l := [p, q]) (fun b hb => by
    rcases List.mem_cons.1 hb with rfl | hb
    · exact P1.out
    · obtain rfl := List.mem_singleton.1 hb
      exact Q1.out) #[.int .i64 p.a, .slice p.A p.ws.length p.c, .int .i64 q.a, .slice q.A q.ws.length q.c] rfl)
  go_wp2_with fail
  refine (fit_new _ [p, q] 2 2 _ (LL.out.more (by simp)) (by simp) (by decide) (by decide)).mono ?_
  rintro e w2 ⟨A7, c7, bl, rfl, hpr, hbl, hcl, hc63, hnil, hown, _, b2⟩
  have hf : ∀ z ∈ prs bl, Bk.fits z.1 z.2.length = true := fun z hz => by
    rw [hpr] at hz
    obtain ⟨z0, _, rfl⟩ := List.mem_map.1 hz
    exact Bk.fitP_fits z0
  obtain ⟨x, y, rfl⟩ : ∃ x y, bl = [x, y] := by
    have hl : bl.length = 2 := by have := congrArg List.length hpr; simpa using this
    match bl, hl with
    | [x, y], _ => exact ⟨x, y, rfl⟩
  obtain ⟨g7, rfl⟩ : ∃ g7, A7 = some ⟨g7, 0, none⟩ := by
    rcases hown.2 with ⟨h1, h2⟩ | ⟨g, cap, cur, hv, _⟩
    · cases h2
    · exact ⟨g, by simpa using (show A7 = some ⟨g, 0, none⟩ ∧ _ by simpa using hv).1⟩
  have hc7 : 2 ≤ c7 := hcl
  have bw2 : Below w1.heap.size w1 w2 := (bel_alloc (Below.refl _ _) _).trans (b2.mono (by simp))
  have L2 := Lib.hid hbl
  have SA2 := Lib.hid (SA1.out.to bw2)
  have B2 := Lib.hid (B1.out.trans (bw2.mono B1.out.size))
  have FX : Hid (Bk.fits x.a x.ws.length = true) := Lib.hid (hf x.pr (by simp))
  have FY : Hid (Bk.fits y.a y.ws.length = true) := Lib.hid (hf y.pr (by simp))
  have FA : Hid (Bk.fit [x.pr, y.pr] = true) := Lib.hid (by rw [Bk.fit_iff]; intro z hz; exact hf z (by simpa using hz))
  have FB : Hid (Bk.fit [y.pr, x.pr] = true) := Lib.hid (by rw [Bk.fit_iff]; intro z hz; exact hf z (by simp at hz ⊢; exact hz.symm))
  have F1 : Hid (Bk.fit [x.pr] = true) := Lib.hid (by rw [Bk.fit_iff]; intro z hz; exact hf z (by simp at hz ⊢; exact .inl hz))
  have F2 : Hid (Bk.fit [y.pr] = true) := Lib.hid (by rw [Bk.fit_iff]; intro z hz; exact hf z (by simp at hz ⊢; exact .inr hz))
  clear hpr hbl hcl hnil hown b2 bw2 hf LL P1 Q1 SA1 B1 d0 d1 d2 d3 hw1 hw2
  simp only [List.length_cons, List.length_nil, Nat.reduceAdd]
  go_wp2_with fail
  refine (over_any (some ⟨ga, 0, none⟩) a 64 64 (some ⟨g7, 0, none⟩) [x, y] c7 2 w2 SA2.out HLA.out (by simp) rfl L2.out (by decide)).mono ?_
  rintro e w3 ⟨b3, h3⟩
  rw [if_pos HLA.out, show prs [x, y] = [x.pr, y.pr] from rfl, if_pos FA.out] at h3
  obtain ⟨A3, c3, rfl, o3⟩ := h3
  have X3 := Lib.hid (show Sq u16w w3 w3.heap.size A3 (Bk.over a [x.pr, y.pr]) from Sq.of_own o3)
  have SA3 := Lib.hid (SA2.out.to b3)
  have L3 := Lib.hid (L2.out.to b3)
  have B3 := Lib.hid (B2.out.trans (b3.mono B2.out.size))
  have N3 := Lib.hid (own_nil_c o3).1
  clear b3 o3 SA2 L2 B2
  obtain ⟨hg7, hxo, hyo, e0, e1, e2, e3⟩ := two_blks L3.out
  have HX := Lib.hid hxo
  have HY := Lib.hid hyo
  clear hxo hyo
  have hcc : ¬ c7 = 1 := by omega
  have hcI : (1 : Int) < (c7 : Int) := by omega
  go_wp2
  refine wp_region_held_drew (S := (fun w' => (w'.cell? ⟨g7, 0, none⟩ = some (.int .i64 x.a) ∧ w'.cell? ⟨g7, 1, none⟩ = some (.slice x.A x.ws.length x.c)) ∧ w'.cell? ⟨g7, 2, none⟩ = some (.int .i64 y.a) ∧ w'.cell? ⟨g7, 3, none⟩ = some (.slice y.A y.ws.length y.c))) (by kernel_rfl) ?_ (fun hHeld => ?_)
  · exact ⟨⟨e0, e1⟩, e2, e3⟩
  refine takeD (i := 0) (oi := _) (v := ?vv48) (d := some 44) rfl (by kernel_rfl) (by kernel_rfl) (by kernel_rfl) (by kernel_rfl) (fun _ _ _ h => h) (Or.inl ⟨by kernel_rfl, ?_⟩) (by assumption) ?_
  rotate_left 1
  · intro W_ hSw; (try dsimp only at hSw); go_simp; (first | done | with_reducible rfl)
  try simp only [Act.put, List.setIfInBounds_toArray, List.set_cons_zero, List.set_cons_succ]
  refine takeD (i := 1) (oi := _) (v := ?vv49) (d := some 45) rfl (by kernel_rfl) (by kernel_rfl) (by kernel_rfl) (by kernel_rfl) (fun _ _ _ h => h) (Or.inl ⟨by kernel_rfl, ?_⟩) (by assumption) ?_
  rotate_left 1
  · intro W_ hSw; (try dsimp only at hSw); go_simp; (first | done | with_reducible rfl)
  try simp only [Act.put, List.setIfInBounds_toArray, List.set_cons_zero, List.set_cons_succ]
  refine takeD (i := 2) (oi := _) (v := ?vv50) (d := some 46) rfl (by kernel_rfl) (by kernel_rfl) (by kernel_rfl) (by kernel_rfl) (fun _ _ _ h => h) (Or.inl ⟨by kernel_rfl, ?_⟩) (by assumption) ?_
  rotate_left 1
  · intro W_ hSw; (try dsimp only at hSw); go_simp; (first | done | with_reducible rfl)
  try simp only [Act.put, List.setIfInBounds_toArray, List.set_cons_zero, List.set_cons_succ]
  refine takeD (i := 3) (oi := _) (v := _) (d := some 47) rfl (by kernel_rfl) (by kernel_rfl) (by kernel_rfl) (by kernel_rfl) (fun _ _ _ h => h) (yieldsIf_load_mid (by kernel_rfl) 34 (.tmp 46) (by kernel_rfl) g7 2 (by kernel_rfl) [.int .i64 y.a, .slice y.A y.ws.length y.c] _ (fun W h => range_two h.2) Try.underlying34 rfl size_blk) (by assumption) ?_
  try simp only [Act.put, List.setIfInBounds_toArray, List.set_cons_zero, List.set_cons_succ]
  refine takeD (i := 4) (oi := _) (v := ?vv51) (d := some 48) rfl (by kernel_rfl) (by kernel_rfl) (by kernel_rfl) (by kernel_rfl) (fun _ _ _ h => h) (Or.inl ⟨by kernel_rfl, ?_⟩) (by assumption) ?_
  rotate_left 1
  · intro W_ hSw; (try dsimp only at hSw); go_simp; (first | done | with_reducible rfl)
  try simp only [Act.put, List.setIfInBounds_toArray, List.set_cons_zero, List.set_cons_succ]
  refine takeD (i := 5) (oi := _) (v := ?vv52) (d := some 49) rfl (by kernel_rfl) (by kernel_rfl) (by kernel_rfl) (by kernel_rfl) (fun _ _ _ h => h) (Or.inl ⟨by kernel_rfl, ?_⟩) (by assumption) ?_
  rotate_left 1
  · intro W_ hSw; (try dsimp only at hSw); go_simp; (first | done | with_reducible rfl)
  try simp only [Act.put, List.setIfInBounds_toArray, List.set_cons_zero, List.set_cons_succ]
  refine takeD (i := 6) (oi := _) (v := _) (d := some 50) rfl (by kernel_rfl) (by kernel_rfl) (by kernel_rfl) (by kernel_rfl) (fun _ _ _ h => h) (yieldsIf_load_mid (by kernel_rfl) 34 (.tmp 49) (by kernel_rfl) g7 0 (by kernel_rfl) [.int .i64 x.a, .slice x.A x.ws.length x.c] _ (fun W h => range_two h.1) Try.underlying34 rfl size_blk) (by assumption) ?_
  try simp only [Act.put, List.setIfInBounds_toArray, List.set_cons_zero, List.set_cons_succ]
  have LL := Lib.hid (lit_blks (w := w3.drew) (l := [y, x]) (fun b hb => by
    rcases List.mem_cons.1 hb with rfl | hb
    · exact HY.out.to (Below.refl _ _).drew
    · obtain rfl := List.mem_singleton.1 hb
      exact HX.out.to (Below.refl _ _).drew) #[.int .i64 y.a, .slice y.A y.ws.length y.c, .int .i64 x.a, .slice x.A x.ws.length x.c] rfl)
  refine wpAnyH_ready (rs := [7]) (by kernel_rfl) (by simp) ?_
  refine AllReadyH.cons (o := _) rfl (fun K hK => ?_) AllReadyH.nil
  go_simp
  refine hK.out _ _ ?_ (fun hHeld => ?_)
  · exact ⟨⟨keep_alloc e0, keep_alloc e1⟩, keep_alloc e2, keep_alloc e3⟩
  clear hK K
  try simp only [Act.put]
  try simp only [List.setIfInBounds_toArray]
  try simp only [List.set_cons_succ]
  try simp only [List.set_cons_zero]
  have hb34 : Below w3.heap.size w3 (w3.drew.alloc (.cells #[.int .i64 y.a, .slice y.A y.ws.length y.c, .int .i64 x.a, .slice x.A x.ws.length x.c] 34)) := bel_alloc (Below.refl _ _).drew _
  refine wpAnyH_ready (rs := [8]) (by kernel_rfl) (by simp) ?_
  refine AllReadyH.cons (o := _) rfl (fun K hK => ?_) AllReadyH.nil
  go_simp
  (go_at_call 10; refine (over_any (some ⟨ga, 0, none⟩) a 64 64 (some ⟨w3.heap.size, 0, none⟩) [y, x] 2 2 _ (SA3.out.to hb34) HLA.out (by simp) rfl (LL.out.more (by simp)) (by decide)).mono ?_; rintro e w5 ⟨b5, h5⟩; rw [if_pos HLA.out, show prs [y, x] = [y.pr, x.pr] from rfl, if_pos FB.out] at h5; obtain ⟨A5, c5, rfl, o5⟩ := h5; have hb5 : Hid (Below w3.heap.size w3 w5) := Lib.hid (hb34.trans (b5.mono (by simp))); have O5 := Lib.hid o5; clear b5 o5; have k5 := cells_below hg7 ⟨⟨e0, e1⟩, e2, e3⟩ hb5.out)
  go_wp2_with fail
  refine hK.out _ _ ?_ (fun hHeld => ?_)
  · exact k5
  clear hK K
  try simp only [Act.put, List.setIfInBounds_toArray, List.set_cons_zero, List.set_cons_succ]
  refine takeD (i := 9) (oi := _) (v := ?vv53) (d := some 43) rfl (by kernel_rfl) (by kernel_rfl) (by kernel_rfl) (by kernel_rfl) (fun _ _ _ h => h) (Or.inl ⟨by kernel_rfl, ?_⟩) (by assumption) ?_
  rotate_left 1
  · intro W_ hSw; (try dsimp only at hSw); go_simp; (first | done | with_reducible rfl)
  try simp only [Act.put, List.setIfInBounds_toArray, List.set_cons_zero, List.set_cons_succ]
  refine takeD (i := 10) (oi := _) (v := ?vv54) (d := some 53) rfl (by kernel_rfl) (by kernel_rfl) (by kernel_rfl) (by kernel_rfl) (fun _ _ _ h => h) (Or.inl ⟨by kernel_rfl, ?_⟩) (by assumption) ?_
  rotate_left 1
  · intro W_ hSw; (try dsimp only at hSw); go_simp; (first | done | with_reducible rfl)
  try simp only [Act.put, List.setIfInBounds_toArray, List.set_cons_zero, List.set_cons_succ]
  refine takeD (i := 11) (oi := _) (v := ?vv55) (d := some 54) rfl (by kernel_rfl) (by kernel_rfl) (by kernel_rfl) (by kernel_rfl) (fun _ _ _ h => h) (Or.inl ⟨by kernel_rfl, ?_⟩) (by assumption) ?_
  rotate_left 1
  · intro W_ hSw; (try dsimp only at hSw); go_simp; (first | done | with_reducible rfl)
  try simp only [Act.put, List.setIfInBounds_toArray, List.set_cons_zero, List.set_cons_succ]
  refine takeD (i := 12) (oi := _) (v := ?vv56) (d := some 10) rfl (by kernel_rfl) (by kernel_rfl) (by kernel_rfl) (by kernel_rfl) (fun _ _ _ h => h) (Or.inl ⟨by kernel_rfl, ?_⟩) (by assumption) ?_
  rotate_left 1
  · intro W_ hSw; (try dsimp only at hSw); go_simp; (first | done | with_reducible rfl)
  try simp only [Act.put, List.setIfInBounds_toArray, List.set_cons_zero, List.set_cons_succ]
  refine takeD (i := 13) (oi := _) (v := ?vv57) (d := some 11) rfl (by kernel_rfl) (by kernel_rfl) (by kernel_rfl) (by kernel_rfl) (fun _ _ _ h => h) (Or.inl ⟨by kernel_rfl, ?_⟩) (by assumption) ?_
  rotate_left 1
  · intro W_ hSw; (try dsimp only at hSw); go_simp; (first | done | with_reducible rfl)
  try simp only [Act.put, List.setIfInBounds_toArray, List.set_cons_zero, List.set_cons_succ]
  refine wpAnyH_done (by kernel_rfl) ?_ _
  have Y5 := Lib.hid (show Sq u16w w5 w5.heap.size A5 (Bk.over a [y.pr, x.pr]) from Sq.of_own O5.out)
  have X5 := Lib.hid (X3.out.to hb5.out)
  have L5 := Lib.hid (L3.out.to hb5.out)
  have B5 := Lib.hid (B3.out.trans (hb5.out.mono B3.out.size))
  clear LL hb34 hHeld O5 hb5 k5 e0 e1 e2 e3 X3 SA3 L3 B3 HX HY hg7
  go_wp2_with fail
  refine (cells_any (some ⟨g7, 0, none⟩) [x] c7 1 w5 rfl L5.out.head (by decide)).mono ?_
  rintro e w6 ⟨b6, h6⟩
  rw [show prs [x] = [x.pr] from rfl, if_pos F1.out] at h6
  obtain ⟨A6, c6, rfl, o6⟩ := h6
  have Y6 := Lib.hid (Y5.out.to b6)
  have X6 := Lib.hid (X5.out.to b6)
  have L6 := Lib.hid (L5.out.to b6)
  have B6 := Lib.hid (B5.out.trans (b6.mono B5.out.size))
  clear b6 o6 Y5 X5 L5 B5
  go_wp2_with fail
  have LT6 : Blks w6 w6.heap.size (some ⟨g7, 2, none⟩) [y] := by have := L6.out.tail; rwa [Nat.zero_add] at this
  refine (cells_any (some ⟨g7, 2, none⟩) [y] (c7 - 1) 1 w6 rfl LT6 (by decide)).mono ?_
  rintro e w8 ⟨b8, h8⟩
  rw [show prs [y] = [y.pr] from rfl, if_pos F2.out] at h8
  obtain ⟨A8, c8, rfl, o8⟩ := h8
  have Y8 := Lib.hid (Y6.out.to b8)
  have X8 := Lib.hid (X6.out.to b8)
  have L8 := Lib.hid (L6.out.to b8)
  have B8 := Lib.hid (B6.out.trans (b8.mono B6.out.size))
  clear b8 o8 Y6 X6 L6 B6 LT6
  go_wp2_with fail
  refine (cells_any (some ⟨g7, 0, none⟩) [x, y] c7 2 w8 rfl L8.out (by decide)).mono ?_
  rintro e w9 ⟨b9, h9⟩
  rw [show prs [x, y] = [x.pr, y.pr] from rfl, if_pos FA.out] at h9
  obtain ⟨A9, c9, rfl, o9⟩ := h9
  have Y9 := Lib.hid (Y8.out.to b9)
  have X9 := Lib.hid (X8.out.to b9)
  have L9 := Lib.hid (L8.out.to b9)
  have B9 := Lib.hid (B8.out.trans (b9.mono B8.out.size))
  clear b9 o9 Y8 X8 L8 B8
  have hle := Bk.cells_le x.pr y.pr
  have h64 := Bk.cells_length [x.pr]
  have h65 := Bk.cells_length [y.pr]
  have HOL : ∀ l : List Bk.Pr, (Bk.over a l).length = 64 := fun l => by rw [Bk.over_length, HLA.out]
  have HO := Lib.hid HOL
  have HSW := Lib.hid (fun h => Bk.over_swap (bank := a) HLA.out (p := x.pr) (q := y.pr) h)
  obtain ⟨n6, hn6⟩ : ∃ n, (Bk.cells [x.pr]).length = n := ⟨_, rfl⟩
  obtain ⟨n8, hn8⟩ : ∃ n, (Bk.cells [y.pr]).length = n := ⟨_, rfl⟩
  obtain ⟨n9, hn9⟩ : ∃ n, (Bk.cells [x.pr, y.pr]).length = n := ⟨_, rfl⟩
  rw [hn6, hn8, hn9] at hle HSW
  rw [hn6] at h64
  rw [hn8] at h65
  rw [hn6, hn8, hn9]
  clear hn6 hn8 hn9 HOL
  by_cases hd : n9 = n6 + n8
  · have hdI : ((n9 : Int) == (n6 : Int) + (n8 : Int)) = true := by rw [beq_iff_eq]; omega
    have hE := HSW.out hd
    rw [hE] at X9
    clear HSW hE hd hle
    go_wp2_with fail
    refine (lowWords_any A3 A5 _ _ c3 c5 64 64 true w9 (HO.out _) (HO.out _) X9.out Y9.out (by rw [HO.out]; decide) (decide_eq_true rfl)).mono ?_
    rintro e wa ⟨rfl, ba⟩
    have BA := Lib.hid (B9.out.trans (ba.mono B9.out.size))
    clear ba
    go_wp2_with fail
    refine (awake_any _).mono ?_
    rintro e wb ⟨rfl, bb⟩
    have BB := Lib.hid (BA.out.trans (bb.mono BA.out.size))
    clear bb
    go_wp2
    go_ret
    exact ⟨rfl, BB.out⟩
  · have hdI : ((n9 : Int) == (n6 : Int) + (n8 : Int)) = false := by rw [beq_eq_false_iff_ne]; omega
    have hltI : decide ((n9 : Int) < (n6 : Int) + (n8 : Int)) = true := decide_eq_true (by omega)
    clear HSW hd hle
    go_wp2_with fail
    have LT9 : Blks w9 w9.heap.size (some ⟨g7, 2, none⟩) [y] := by have := L9.out.tail; rwa [Nat.zero_add] at this
    refine (over_any A3 (Bk.over a [x.pr, y.pr]) c3 64 (some ⟨g7, 2, none⟩) [y] (c7 - 1) 1 w9 X9.out (HO.out _) N3.out rfl LT9 (by decide)).mono ?_
    rintro e wa ⟨ba, ha⟩
    rw [if_pos (HO.out _), show prs [y] = [y.pr] from rfl, if_pos F2.out, Bk.over_last] at ha
    obtain ⟨Aa, ca, rfl, oa⟩ := ha
    have Ya := Lib.hid (show Sq u16w wa wa.heap.size Aa (Bk.over a [x.pr, y.pr]) from Sq.of_own oa)
    have Xa := Lib.hid (X9.out.to ba)
    have BA := Lib.hid (B9.out.trans (ba.mono B9.out.size))
    clear ba oa Y9 X9 L9 B9 LT9
    go_wp2_with fail
    refine (lowWords_any A3 Aa _ _ c3 ca 64 64 true wa (HO.out _) (HO.out _) Xa.out Ya.out (by rw [HO.out]; decide) (decide_eq_true rfl)).mono ?_
    rintro e wb ⟨rfl, bb⟩
    have BB := Lib.hid (BA.out.trans (bb.mono BA.out.size))
    clear bb
    go_wp2_with fail
    refine (awake_any _).mono ?_
    rintro e wc ⟨rfl, bc⟩
    have BC := Lib.hid (BB.out.trans (bc.mono BB.out.size))
    clear bc
    go_wp2
    go_ret
    exact ⟨rfl, BC.out⟩
end Go.Proofs.Ytkilpiiljpeamaa
