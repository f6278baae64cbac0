/- bank.Diff: what makes one bank another. (under way) -/
import Derived.Test.YtkilpiiljpeamaaBkDif
import Derived.Test.YtkilpiiljpeamaaDifMem
import Derived.Test.YtkilpiiljpeamaaStvB
namespace Go.Proofs.Ytkilpiiljpeamaa
open Go.RowKit Go.Shelf
set_option linter.unusedVariables false
set_option linter.unusedSimpArgs false
attribute [local go_sem] Oper.semAt_some
theorem takeD {P : Program} {md : Region.Mode} {ops : Array Oper} {Q : Exit → Act → World → Prop} {S : World → Prop} {i : Nat} {oi : Oper} {v : Value} {d : Option Tmp} {fuel : Nat} {listed : Array Bool} {a : Act} {w : World} (hi : ops[i]? = some oi)
    (hs : Region.noSelect ops = true) (hf : Region.free md ops listed i = true) (hr : (Region.ready md ops listed).contains i = true) (hd : oi.dst = d)
    (hQ : ∀ c a w, Q (.panic c) (a.put d v) w → Q (.panic c) a w) (hy : YieldsIf P ops S oi v a) (hS : S w)
    (h : wpAnyH P md ops Q S fuel (listed.setIfInBounds i true) (a.put d v) w) : wpAnyH P md ops Q S (fuel + 1) listed a w := by
  subst hd
  exact wpAnyH_take hi hs hf hr hQ hy hS h
theorem info_w16' : (Try.prog.info? 25).map (fun i => (i.zero, i.size, i.bytes)) = some (some (.int .u16 0), 1, 2) := by kernel_rfl
/-- what a round of Diff keeps for the iterator -/
def KeepJ (p q r t : Nat) (A B : World) : Prop := ∀ j, j = p ∨ j = q ∨ j = r ∨ j = t → B.heap[j]? = A.heap[j]?
def DInv (w : World) (N1 bb ob cb_ : Nat) (b pre : List Nat) (W : World) : Prop := ∃ bl Al cl, DM W N1 (w.heap.size + 1) bl Al cl ∧ prs bl = dif b pre ∧ Boxed W w.heap.size 22 (.slice (some ⟨bb, ob, none⟩) 64 cb_) ∧ Below w.heap.size w W ∧ N1 ≤ W.heap.size
theorem own_frozen {w : World} {B e s n c g : Nat} {xs : List Value} (h : w.ownsRow B e s (.slice (some ⟨g, 0, none⟩) n c) n xs) (i : Nat) : w.frozen? ⟨g, i, none⟩ = false := by
  rcases h.2 with ⟨h1, _⟩ | ⟨g', cap, cur, hv, _, hh, _⟩
  · cases h1
  · obtain ⟨rfl, _⟩ : g = g' ∧ c = cap := by simpa using hv
    simp [World.frozen?, hh]
theorem own_isCells {w : World} {B e s n c g : Nat} {xs : List Value} (h : w.ownsRow B e s (.slice (some ⟨g, 0, none⟩) n c) n xs) (o : Obj) (ho : w.heap[g]? = some o) : o.isCells = true := by
  rcases h.2 with ⟨h1, _⟩ | ⟨g', cap, cur, hv, _, hh, _⟩
  · cases h1
  · obtain ⟨rfl, _⟩ : g = g' ∧ c = cap := by simpa using hv
    rw [hh] at ho
    obtain rfl := Option.some.inj ho
    rfl
theorem cell_al {W : World} {p : Addr} {v : Value} (o : Obj) (h : W.cell? p = some v) : (W.alloc o).cell? p = some v := ((bel_alloc (Below.refl W.heap.size W) o).cell (block_lt_of_cell h)).trans h
theorem blk_one (b : Blk) : ∀ u ∈ Blk.cells b, u.oneCell' = true := by
  intro u hu
  simp only [Blk.cells, List.mem_cons, List.not_mem_nil, or_false] at hu
  rcases hu with rfl | rfl <;> rfl
def DiffP (T : List Bk.Pr) (w : World) (e : Ending) (w' : World) : Prop := Below w.heap.size w w' ∧ ∃ bl Al cl, e = .returned (.tuple #[.slice Al bl.length cl, .int .i64 0]) ∧ prs bl = T ∧ w'.ownsRow w.heap.size 34 2 (.slice Al bl.length cl) bl.length (bl.flatMap Blk.cells) ∧ ∀ y ∈ bl, w'.ownsRow w.heap.size 25 1 (.slice y.A y.ws.length y.c) y.ws.length (y.ws.map u16w)
theorem differ_any (A B : Option Addr) (n m c d : Nat) (W : World) : Calls Try.prog 25 #[.slice A n c, .slice B m d] W fun e w' => e = .returned (.func (.func 33) #[] #[.pointer (some ⟨W.heap.size, 0, none⟩), .pointer (some ⟨W.heap.size + 1, 0, none⟩)]) ∧ w' = (W.alloc (.cells #[.slice A n c] 22)).alloc (.cells #[.slice B m d] 22) := by
  go_enter Try.func25, Try.ntmps25
  go_wp2
  go_ret
  exact ⟨rfl, rfl⟩
set_option maxRecDepth 100000 in
set_option maxHeartbeats 2000000 in
theorem diff_any (ba oa bb ob ca cb_ : Nat) (a b : List Nat) (w : World) (hba : ba < w.heap.size) (hbb : bb < w.heap.size) (hb64 : b.length = 64) (hcb : 64 ≤ cb_)
    (ha : ∀ j, j < 64 → w.cell? ⟨ba, oa + j, none⟩ = some (.int .u16 ((a[j]?.getD 0 : Nat) : Int))) (hb : ∀ j, j < 64 → w.cell? ⟨bb, ob + j, none⟩ = some (.int .u16 ((b[j]?.getD 0 : Nat) : Int))) :
    Calls Try.prog 9 #[.slice (some ⟨ba, oa, none⟩) 64 ca, .slice (some ⟨bb, ob, none⟩) 64 cb_] w (DiffP (dif b (difs a b 64)) w) := by
  refine (callsIn_wide (n := 5)).1 ?_
  refine callsIn_of_wp_marks Try.func9 rfl trivial ?_ rfl
  simp only [Try.ntmps9, List.size_toArray, List.length_cons, List.length_nil, Nat.reduceAdd, Nat.reduceSub, Array.replicate_succ, Array.replicate_zero, List.push_toArray, List.append_toArray, List.nil_append, List.cons_append]
  have hmix : Try.prog.follows .mixedOrders = true := by kernel_rfl
  gi_wp2_with (refine ⟨trivial, ?_⟩; gi_at_call 25; refine (callsIn_wide.2 (differ_any _ _ _ _ _ _ _)).mono ?_; rintro e w' ⟨rfl, rfl⟩)
  obtain ⟨w0, hw0⟩ : ∃ w0, ((((w.alloc (.cells #[.slice (some ⟨bb, ob, none⟩) 64 cb_] 22)).alloc (.cells #[.slice none 0 0] 26)).alloc (.cells #[.slice (some ⟨ba, oa, none⟩) 64 ca] 22)).alloc (.cells #[.slice (some ⟨bb, ob, none⟩) 64 cb_] 22)) = w0 := ⟨_, rfl⟩
  rw [hw0]
  have hsz : w0.heap.size = w.heap.size + 4 := by rw [← hw0]; simp
  have hbw : Below w.heap.size w w0 := by rw [← hw0]; exact ((((Below.refl _ w).alloc (Nat.le_refl _) _).alloc (by simp) _).alloc (by simp; omega) _).alloc (by simp; omega) _
  have x3 : Boxed w0 w.heap.size 22 (.slice (some ⟨bb, ob, none⟩) 64 cb_) := by rw [← hw0]; exact (((Boxed.new w _ _).alloc _).alloc _).alloc _
  have x6 : Boxed w0 (w.heap.size + 1) 26 (.slice none 0 0) := by
    rw [← hw0]
    have := Boxed.new (w.alloc (.cells #[.slice (some ⟨bb, ob, none⟩) 64 cb_] 22)) 26 (.slice none 0 0)
    rw [World.size_alloc] at this
    exact (this.alloc _).alloc _
  have xa : Boxed w0 (w.heap.size + 2) 22 (.slice (some ⟨ba, oa, none⟩) 64 ca) := by
    rw [← hw0]
    have := Boxed.new ((w.alloc (.cells #[.slice (some ⟨bb, ob, none⟩) 64 cb_] 22)).alloc (.cells #[.slice none 0 0] 26)) 22 (.slice (some ⟨ba, oa, none⟩) 64 ca)
    rw [World.size_alloc, World.size_alloc] at this
    exact this.alloc _
  have xb : Boxed w0 (w.heap.size + 3) 22 (.slice (some ⟨bb, ob, none⟩) 64 cb_) := by
    rw [← hw0]
    have := Boxed.new (((w.alloc (.cells #[.slice (some ⟨bb, ob, none⟩) 64 cb_] 22)).alloc (.cells #[.slice none 0 0] 26)).alloc (.cells #[.slice (some ⟨ba, oa, none⟩) 64 ca] 22)) 22 (.slice (some ⟨bb, ob, none⟩) 64 cb_)
    rw [World.size_alloc, World.size_alloc, World.size_alloc] at this
    exact this
  refine wpIn_range_up (n := 5) (by omega) (gf := 33) (lb := #[.pointer (some ⟨w.heap.size + 2, 0, none⟩), .pointer (some ⟨w.heap.size + 3, 0, none⟩)]) rfl (enters_of Try.func33 (by kernel_rfl) rfl)
    (encs := fun x : Nat => #[.int .i64 (x : Int)]) (Kp := KeepJ (w.heap.size + 2) (w.heap.size + 3) ba bb) (R := fun pre x => x < 64 ∧ pre = difs a b x ∧ a[x]?.getD 0 ≠ b[x]?.getD 0) (S := fun ys => ys = difs a b 64)
    (fun l J W hW hJ hY h0 => differ1_in 4 (by omega) l (w.heap.size + 2) (w.heap.size + 3) ba oa bb ob ca cb_ a b _ (fun A B h => h) J hY hJ W
      ((hW.cell (p := ⟨w.heap.size + 2, 0, none⟩) (by show w.heap.size + 2 < w0.heap.size; omega)).trans xa.cell) ((hW.cell (p := ⟨w.heap.size + 3, 0, none⟩) (by show w.heap.size + 3 < w0.heap.size; omega)).trans xb.cell)
      (fun j hj => (hW.cell (p := ⟨ba, oa + j, none⟩) (by show ba < w0.heap.size; omega)).trans ((hbw.cell (p := ⟨ba, oa + j, none⟩) hba).trans (ha j hj)))
      (fun j hj => (hW.cell (p := ⟨bb, ob + j, none⟩) (by show bb < w0.heap.size; omega)).trans ((hbw.cell (p := ⟨bb, ob + j, none⟩) hbb).trans (hb j hj))) h0)
    (fun {X Y Z} (h : KeepJ _ _ _ _ X Y) (k : KeepJ _ _ _ _ Y Z) j hj => (k j hj).trans (h j hj)) (fun W l o o' hl h _ j hj => World.putObj_heap_other (by omega)) (fun _ => rfl)
    (DInv w w0.heap.size bb ob cb_ b)
    (fun pre W W' row hs hg hr => by
      obtain ⟨bl, Al, cl, h1, h2, h3, h4, h5⟩ := hs
      refine ⟨bl, Al, cl, h1.turned hg (fun r e => (hr r e).2), h2, h3.kept hg (fun e => ?_), h4.grown hg h4.size (fun k e => by have := (hr k e).1; omega), Nat.le_trans h5 hg.size⟩
      obtain ⟨o, h6, h7⟩ := (hr _ e.symm).2
      rw [show W.heap[w.heap.size]? = _ from h3] at h6
      obtain rfl := Option.some.inj h6
      cases h7)
    ⟨[], none, 0, ⟨x6, World.ownsRow_nil _ _ _ _, (fun y hy => by cases hy), (fun init x h => by simp at h)⟩, rfl, x3, hbw, Nat.le_refl _⟩
    (fun x => { tmps := #[.slice (some ⟨ba, oa, none⟩) 64 ca, .slice (some ⟨bb, ob, none⟩) 64 cb_, undef, .pointer (some ⟨w.heap.size, 0, none⟩), .slice none 0 0, .int .i64 0, .pointer (some ⟨w.heap.size + 1, 0, none⟩), .int .i64 (x : Int), undef, undef, .slice (some ⟨ba, oa, none⟩) 64 ca, .int .i64 64, .bool false, .bool false, .slice (some ⟨bb, ob, none⟩) 64 cb_, .int .i64 64, .bool false, .bool false, .slice (some ⟨ba, oa, none⟩) 64 ca, .slice (some ⟨bb, ob, none⟩) 64 cb_, .func (.func 33) #[] #[.pointer (some ⟨w.heap.size + 2, 0, none⟩), .pointer (some ⟨w.heap.size + 3, 0, none⟩)], .int .i64 (x : Int), undef, undef, undef, undef, undef, undef, undef, undef, undef, undef, undef, undef, undef, undef, undef, undef, undef, undef, undef, undef, undef, undef, undef, undef, undef, undef, undef, undef, undef, undef, undef, undef, undef, undef, undef, undef, undef, undef, undef, undef, undef, undef, undef, undef, undef, undef, undef, undef, undef, undef, undef, undef, undef, undef, undef, undef, undef, undef, undef, undef, undef], defers := [] }) ?assign ?body ?done
  case assign =>
    intro l x W K hK
    gi_wp2
    exact hK
  case body =>
    rintro l pre x Wo hI ⟨hx, hpre, hne⟩
    obtain ⟨bl, Al, cl, hD, hbl, h3, hB, hN⟩ := hI
    have hfine : Fine x (prs bl) := by rw [hbl, hpre]; exact dif_fine a b hb64 x (by omega)
    clear hpre
    have c6 := hD.box.cell
    have c3 := h3.cell
    have cb := (hB.cell (p := ⟨bb, ob + x, none⟩) hbb).trans (hb x hx)
    obtain ⟨nb, hnb⟩ : ∃ nb, bl.length = nb := ⟨_, rfl⟩
    rw [hnb] at c6
    have HNB := Lib.hid hnb
    have hnb64 : nb ≤ 64 := by have := hfine.len; rw [List.length_map, hnb] at this; omega
    clear hnb
    have hz6 : w.heap.size + 1 < w0.heap.size := by omega
    have hz6' : w.heap.size + 3 < w0.heap.size := by omega
    obtain ⟨iB, hifB, hb0, hb1, hb2⟩ := info_parts info_block
    obtain ⟨bx, hbxe⟩ : ∃ bx, b[x]?.getD 0 = bx := ⟨_, rfl⟩
    rw [hbxe] at cb hne
    have hx0 : (0 : Int) ≤ (x : Int) := by omega
    have hxI : (x : Int) < 64 := by omega
    clear hsz
    have hlist := List.eq_nil_or_concat bl
    by_cases h0 : nb = 0
    · obtain ⟨W, hWo⟩ : ∃ W, W = Wo := ⟨_, rfl⟩
      subst hWo
      have HK0 : Hid (∀ X, KeepsFrom w0.heap.size W X → KeepsFrom w0.heap.size W X) := Lib.hid (fun _ h => h)
      have HJ0 : Hid (∀ X, KeepJ (w.heap.size + 2) (w.heap.size + 3) ba bb W X → KeepJ (w.heap.size + 2) (w.heap.size + 3) ba bb W X) := Lib.hid (fun _ h => h)
      have hw : (nb : Int) - 1 = -1 := by omega
      have hPR : prs (bl ++ [Blk.mk (x : Int) [bx] (some ⟨W.heap.size, 0, none⟩) 1]) = dif b (pre ++ [x]) := by
        have : bl = [] := List.eq_nil_of_length_eq_zero (by rw [HNB.out, h0])
        subst this
        rw [dif_snoc, ← hbl, dstep]
        simp [prs, hbxe]
      clear hlist h0
      gi_wp2
      have hDV := ((hD.kept (World.grownBy_alloc W (.cells #[.int .u16 (bx : Int)] 25) none) (fun r e => by cases e)).kept (World.grownBy_alloc (W.alloc (.cells #[.int .u16 (bx : Int)] 25)) (.cells #[.int .i64 (x : Int), .slice (some ⟨W.heap.size, 0, none⟩) 1 1] 34) none) (fun r e => by cases e)).kept (row := none) (W' := ((W.alloc (.cells #[.int .u16 (bx : Int)] 25)).alloc (.cells #[.int .i64 (x : Int), .slice (some ⟨W.heap.size, 0, none⟩) 1 1] 34)).drew) ⟨rfl, rfl, rfl, Nat.le_refl _, fun _ _ _ => rfl⟩ (fun r e => by cases e)
      have hV : Below W.heap.size W ((W.alloc (.cells #[.int .u16 (bx : Int)] 25)).alloc (.cells #[.int .i64 (x : Int), .slice (some ⟨W.heap.size, 0, none⟩) 1 1] 34)).drew := (bel_alloc (bel_alloc (Below.refl W.heap.size W) _) _).drew
      have ow1 : (W.alloc (.cells #[.int .u16 (bx : Int)] 25)).ownsRow w0.heap.size 25 1 (.slice (some ⟨W.heap.size, 0, none⟩) 1 1) 1 [u16w bx] := ⟨by simp, .inr ⟨W.heap.size, 1, #[u16w bx], rfl, hN, World.alloc_heap_new W _, Nat.le_refl _, by decide, by simp, by simp⟩⟩
      have owV1 := ow1.kept (World.grownBy_alloc (W.alloc (.cells #[.int .u16 (bx : Int)] 25)) (.cells #[.int .i64 (x : Int), .slice (some ⟨W.heap.size, 0, none⟩) 1 1] 34) none) (.inr (by simp [Value.ownBlock]))
      have owV := owV1.kept (w' := ((W.alloc (.cells #[.int .u16 (bx : Int)] 25)).alloc (.cells #[.int .i64 (x : Int), .slice (some ⟨W.heap.size, 0, none⟩) 1 1] 34)).drew) (row := none) ⟨rfl, rfl, rfl, Nat.le_refl _, fun _ _ _ => rfl⟩ (.inr (by simp [Value.ownBlock]))
      have c6a := cell_al (.cells #[.int .u16 (bx : Int)] 25) c6
      have c6b := cell_al (.cells #[.int .i64 (x : Int), .slice (some ⟨W.heap.size, 0, none⟩) 1 1] 34) c6a
      have hsl : Value.slice Al bl.length cl = .slice Al nb cl := by rw [HNB.out]
      have hrowV := hDV.row
      have hrowW : ((W.alloc (.cells #[.int .u16 (bx : Int)] 25)).alloc (.cells #[.int .i64 (x : Int), .slice (some ⟨W.heap.size, 0, none⟩) 1 1] 34)).drew.ownsRow w0.heap.size 34 2 (.slice Al nb cl) bl.length (bl.flatMap Blk.cells) := by rw [← hsl]; exact hrowV
      have hfr : ∀ y ∈ bl, ∀ q, y.A = some q → q.block ≠ W.heap.size := fun y hy q hq => by have := (own_ge (hD.own y hy) q hq).2.1; omega
      refine wpIn_region_round (S := fun w' => w'.cell? ⟨w.heap.size, 0, none⟩ = some (.slice (some ⟨bb, ob, none⟩) 64 cb_) ∧ w'.cell? ⟨bb, ob + x, none⟩ = some (.int .u16 (bx : Int))) hmix (by kernel_rfl) ⟨c3, cb⟩ (fun hHeld => ?_)
      refine takeD (i := 1) (oi := _) (v := ?vv1) (d := some 58) rfl (by kernel_rfl) (by kernel_rfl) (by kernel_rfl) (by kernel_rfl) (fun _ _ _ h => h) (Or.inl ⟨by kernel_rfl, ?_⟩) (by assumption) ?_
      rotate_left 1
      · intro W_ hSw; (try dsimp only at hSw); go_simp; (first | done | with_reducible rfl)
      try simp only [Act.put, List.setIfInBounds_toArray, List.set_cons_zero, List.set_cons_succ]
      refine takeD (i := 2) (oi := _) (v := ?vv2) (d := some 59) rfl (by kernel_rfl) (by kernel_rfl) (by kernel_rfl) (by kernel_rfl) (fun _ _ _ h => h) (Or.inl ⟨by kernel_rfl, ?_⟩) (by assumption) ?_
      rotate_left 1
      · intro W_ hSw; (try dsimp only at hSw); go_simp; (first | done | with_reducible rfl)
      try simp only [Act.put, List.setIfInBounds_toArray, List.set_cons_zero, List.set_cons_succ]
      refine takeD (i := 3) (oi := _) (v := ?vv3) (d := some 60) rfl (by kernel_rfl) (by kernel_rfl) (by kernel_rfl) (by kernel_rfl) (fun _ _ _ h => h) (Or.inl ⟨by kernel_rfl, ?_⟩) (by assumption) ?_
      rotate_left 1
      · intro W_ hSw; (try dsimp only at hSw); go_simp; (first | done | with_reducible rfl)
      try simp only [Act.put, List.setIfInBounds_toArray, List.set_cons_zero, List.set_cons_succ]
      refine takeD (i := 4) (oi := _) (v := ?vv4) (d := some 61) rfl (by kernel_rfl) (by kernel_rfl) (by kernel_rfl) (by kernel_rfl) (fun _ _ _ h => h) (Or.inl ⟨by kernel_rfl, ?_⟩) (by assumption) ?_
      rotate_left 1
      · intro W_ hSw; (try dsimp only at hSw); go_simp; (first | done | with_reducible rfl)
      try simp only [Act.put, List.setIfInBounds_toArray, List.set_cons_zero, List.set_cons_succ]
      refine takeD (i := 5) (oi := _) (v := ?vv5) (d := some 62) rfl (by kernel_rfl) (by kernel_rfl) (by kernel_rfl) (by kernel_rfl) (fun _ _ _ h => h) (Or.inl ⟨by kernel_rfl, ?_⟩) (by assumption) ?_
      rotate_left 1
      · intro W_ hSw; (try dsimp only at hSw); go_simp; (first | done | with_reducible rfl)
      try simp only [Act.put, List.setIfInBounds_toArray, List.set_cons_zero, List.set_cons_succ]
      refine wpAnyH_ready (rs := [0, 6]) (by kernel_rfl) (by simp) ?_
      refine AllReadyH.cons (o := _) rfl (fun K hK => ?_) (AllReadyH.cons (o := _) rfl (fun K hK => ?_) AllReadyH.nil)
      · go_simp
        refine hK.out _ _ ?_ (fun hHeld => ?_)
        · exact hHeld
        clear hK K
        try simp only [Act.put]
        try simp only [List.setIfInBounds_toArray]
        try simp only [List.set_cons_succ]
        try simp only [List.set_cons_zero]
        refine wpAnyH_ready (rs := [6]) (by kernel_rfl) (by simp) ?_
        refine AllReadyH.cons (o := _) rfl (fun K hK => ?_) AllReadyH.nil
        go_simp
        refine hK.out _ _ ?_ (fun hHeld => ?_)
        · exact ⟨cell_al _ hHeld.1, cell_al _ hHeld.2⟩
        clear hK K
        try simp only [Act.put]
        try simp only [List.setIfInBounds_toArray]
        try simp only [List.set_cons_succ]
        try simp only [List.set_cons_zero]
        refine takeD (i := 7) (oi := _) (v := ?vv6) (d := some 64) rfl (by kernel_rfl) (by kernel_rfl) (by kernel_rfl) (by kernel_rfl) (fun _ _ _ h => h) (Or.inl ⟨by kernel_rfl, ?_⟩) (by assumption) ?_
        rotate_left 1
        · intro W_ hSw; (try dsimp only at hSw); go_simp; (first | done | with_reducible rfl)
        try simp only [Act.put, List.setIfInBounds_toArray, List.set_cons_zero, List.set_cons_succ]
        refine wpAnyH_ready (rs := [8]) (by kernel_rfl) (by simp) ?_
        refine AllReadyH.cons (o := _) rfl (fun K hK => ?_) AllReadyH.nil
        go_simp
        refine hK.out _ _ ?_ (fun hHeld => ?_)
        · exact ⟨cell_al _ hHeld.1, cell_al _ hHeld.2⟩
        clear hK K
        try simp only [Act.put]
        try simp only [List.setIfInBounds_toArray]
        try simp only [List.set_cons_succ]
        try simp only [List.set_cons_zero]
        refine wpAnyH_ready (rs := [9]) (by kernel_rfl) (by simp) ?_
        refine AllReadyH.cons (o := _) rfl (fun K hK => ?_) AllReadyH.nil
        (refine step_append_recs (f := Blk.cells) (s := 2) _ rfl (.tmp 57) (.tmp 65) 26 rfl (fun _ => rfl) (by decide) blk_one w0.heap.size 34 iB _ 32 Try.underlying26 hifB hb0 hb1 hb2 (by decide) rfl (.slice Al nb cl) bl rfl hrowW _ _ [Blk.mk (x : Int) [bx] (some ⟨W.heap.size, 0, none⟩) 1] 1 1 rfl rfl ((Recs.lits (f := Blk.cells) (s := 2) (fun _ => rfl) (by decide) _ _ _ _ _ _ rfl (by simp) (Nat.lt_succ_self _)).below (Below.refl _ _).drew) (by simp) (by have := hfine.len; rw [List.length_map] at this; omega) (by have := hV.size; omega) ?_)
        intro A' c' w1 o1 g1 b1
        rw [← hsl] at g1
        have hln : (bl ++ [Blk.mk (x : Int) [bx] (some ⟨W.heap.size, 0, none⟩) 1]).length = bl.length + 1 := by simp
        rw [hln] at o1 ⊢
        refine hK.out _ _ ?_ (fun hHeld => ?_)
        · exact ⟨(b1.cell (p := ⟨w.heap.size, 0, none⟩) (by show w.heap.size < w0.heap.size; omega)).trans hHeld.1, (b1.cell (p := ⟨bb, ob + x, none⟩) (by show bb < w0.heap.size; omega)).trans hHeld.2⟩
        clear hK K
        have d6 := (b1.cell (p := ⟨w.heap.size + 1, 0, none⟩) hz6).trans hDV.box.cell
        have e6 := (b1.frozen (p := ⟨w.heap.size + 1, 0, none⟩) hz6).trans hDV.box.frozen
        try simp only [Act.put, List.setIfInBounds_toArray, List.set_cons_zero, List.set_cons_succ]
        refine wpAnyH_ready (rs := [10]) (by kernel_rfl) (by simp) ?_
        refine AllReadyH.cons (o := _) rfl (fun K hK => ?_) AllReadyH.nil
        have hq3 : bb ≠ w.heap.size + 1 := by omega
        go_simp
        refine hK.out _ _ ?_ (fun hHeld => ?_)
        · exact ⟨by simp [go_sem, hHeld.1], by simp [go_sem, hq3, hHeld.2]⟩
        clear hK K
        try simp only [Act.put]
        try simp only [List.setIfInBounds_toArray]
        try simp only [List.set_cons_succ]
        try simp only [List.set_cons_zero]
        refine wpAnyH_done (by kernel_rfl) ?_ _
        have hrk := round_keeps (gs := w.heap.size + 1) (i := 0) hV hDV.row g1 b1 hN (fun o ho => by rw [show W.heap[w.heap.size + 1]? = _ from hD.box] at ho; obtain rfl := Option.some.inj ho; rfl) (.slice A' (bl.length + 1) c')
        have hDP := hDV.push hz6 owV hfr (A' := A') (c' := c') g1 (by rw [hln]; exact o1)
        rw [hln] at hDP
        have hBW := bel_set (hB.trans ((hV.mono (by omega)).trans (b1.mono (by omega)))) (p := ⟨w.heap.size + 1, 0, none⟩) (by show w.heap.size ≤ w.heap.size + 1; omega) (.slice A' (bl.length + 1) c')
        have hNW : w0.heap.size ≤ (w1.setCell ⟨w.heap.size + 1, 0, none⟩ (.slice A' (bl.length + 1) c')).heap.size := by have h1 := hV.size; have h2 := g1.size; rw [show (w1.setCell ⟨w.heap.size + 1, 0, none⟩ (.slice A' (bl.length + 1) c')).heap.size = w1.heap.size by simp]; omega
        have hbx := (show _ = _ from hrk.2 w.heap.size (by omega) (by omega)).trans h3
        have hkj : KeepJ (w.heap.size + 2) (w.heap.size + 3) ba bb W (w1.setCell ⟨w.heap.size + 1, 0, none⟩ (.slice A' (bl.length + 1) c')) := fun j hj => hrk.2 j (by omega) (by omega)
        have HFIN := Lib.hid (And.intro hrk.1 (And.intro hkj (And.intro hDP (And.intro hPR (And.intro hbx (And.intro hBW hNW))))))
        clear hrk hkj hDP hbx hBW hNW
        unfold onward
        gi_wp2
        have hfin := HFIN.out
        exact ⟨HK0.out _ hfin.1, HJ0.out _ hfin.2.1, ⟨_, _, _, hfin.2.2.1, hfin.2.2.2.1, hfin.2.2.2.2.1, hfin.2.2.2.2.2.1, hfin.2.2.2.2.2.2⟩⟩
      · go_simp
        refine hK.out _ _ ?_ (fun hHeld => ?_)
        · exact ⟨cell_al _ hHeld.1, cell_al _ hHeld.2⟩
        clear hK K
        try simp only [Act.put]
        try simp only [List.setIfInBounds_toArray]
        try simp only [List.set_cons_succ]
        try simp only [List.set_cons_zero]
        refine takeD (i := 7) (oi := _) (v := ?vv7) (d := some 64) rfl (by kernel_rfl) (by kernel_rfl) (by kernel_rfl) (by kernel_rfl) (fun _ _ _ h => h) (Or.inl ⟨by kernel_rfl, ?_⟩) (by assumption) ?_
        rotate_left 1
        · intro W_ hSw; (try dsimp only at hSw); go_simp; (first | done | with_reducible rfl)
        try simp only [Act.put, List.setIfInBounds_toArray, List.set_cons_zero, List.set_cons_succ]
        refine wpAnyH_ready (rs := [0, 8]) (by kernel_rfl) (by simp) ?_
        refine AllReadyH.cons (o := _) rfl (fun K hK => ?_) (AllReadyH.cons (o := _) rfl (fun K hK => ?_) AllReadyH.nil)
        · go_simp
          refine hK.out _ _ ?_ (fun hHeld => ?_)
          · exact hHeld
          clear hK K
          try simp only [Act.put]
          try simp only [List.setIfInBounds_toArray]
          try simp only [List.set_cons_succ]
          try simp only [List.set_cons_zero]
          refine wpAnyH_ready (rs := [8]) (by kernel_rfl) (by simp) ?_
          refine AllReadyH.cons (o := _) rfl (fun K hK => ?_) AllReadyH.nil
          go_simp
          refine hK.out _ _ ?_ (fun hHeld => ?_)
          · exact ⟨cell_al _ hHeld.1, cell_al _ hHeld.2⟩
          clear hK K
          try simp only [Act.put]
          try simp only [List.setIfInBounds_toArray]
          try simp only [List.set_cons_succ]
          try simp only [List.set_cons_zero]
          refine wpAnyH_ready (rs := [9]) (by kernel_rfl) (by simp) ?_
          refine AllReadyH.cons (o := _) rfl (fun K hK => ?_) AllReadyH.nil
          (refine step_append_recs (f := Blk.cells) (s := 2) _ rfl (.tmp 57) (.tmp 65) 26 rfl (fun _ => rfl) (by decide) blk_one w0.heap.size 34 iB _ 32 Try.underlying26 hifB hb0 hb1 hb2 (by decide) rfl (.slice Al nb cl) bl rfl hrowW _ _ [Blk.mk (x : Int) [bx] (some ⟨W.heap.size, 0, none⟩) 1] 1 1 rfl rfl ((Recs.lits (f := Blk.cells) (s := 2) (fun _ => rfl) (by decide) _ _ _ _ _ _ rfl (by simp) (Nat.lt_succ_self _)).below (Below.refl _ _).drew) (by simp) (by have := hfine.len; rw [List.length_map] at this; omega) (by have := hV.size; omega) ?_)
          intro A' c' w1 o1 g1 b1
          rw [← hsl] at g1
          have hln : (bl ++ [Blk.mk (x : Int) [bx] (some ⟨W.heap.size, 0, none⟩) 1]).length = bl.length + 1 := by simp
          rw [hln] at o1 ⊢
          refine hK.out _ _ ?_ (fun hHeld => ?_)
          · exact ⟨(b1.cell (p := ⟨w.heap.size, 0, none⟩) (by show w.heap.size < w0.heap.size; omega)).trans hHeld.1, (b1.cell (p := ⟨bb, ob + x, none⟩) (by show bb < w0.heap.size; omega)).trans hHeld.2⟩
          clear hK K
          have d6 := (b1.cell (p := ⟨w.heap.size + 1, 0, none⟩) hz6).trans hDV.box.cell
          have e6 := (b1.frozen (p := ⟨w.heap.size + 1, 0, none⟩) hz6).trans hDV.box.frozen
          try simp only [Act.put, List.setIfInBounds_toArray, List.set_cons_zero, List.set_cons_succ]
          refine wpAnyH_ready (rs := [10]) (by kernel_rfl) (by simp) ?_
          refine AllReadyH.cons (o := _) rfl (fun K hK => ?_) AllReadyH.nil
          have hq3 : bb ≠ w.heap.size + 1 := by omega
          go_simp
          refine hK.out _ _ ?_ (fun hHeld => ?_)
          · exact ⟨by simp [go_sem, hHeld.1], by simp [go_sem, hq3, hHeld.2]⟩
          clear hK K
          try simp only [Act.put]
          try simp only [List.setIfInBounds_toArray]
          try simp only [List.set_cons_succ]
          try simp only [List.set_cons_zero]
          refine wpAnyH_done (by kernel_rfl) ?_ _
          have hrk := round_keeps (gs := w.heap.size + 1) (i := 0) hV hDV.row g1 b1 hN (fun o ho => by rw [show W.heap[w.heap.size + 1]? = _ from hD.box] at ho; obtain rfl := Option.some.inj ho; rfl) (.slice A' (bl.length + 1) c')
          have hDP := hDV.push hz6 owV hfr (A' := A') (c' := c') g1 (by rw [hln]; exact o1)
          rw [hln] at hDP
          have hBW := bel_set (hB.trans ((hV.mono (by omega)).trans (b1.mono (by omega)))) (p := ⟨w.heap.size + 1, 0, none⟩) (by show w.heap.size ≤ w.heap.size + 1; omega) (.slice A' (bl.length + 1) c')
          have hNW : w0.heap.size ≤ (w1.setCell ⟨w.heap.size + 1, 0, none⟩ (.slice A' (bl.length + 1) c')).heap.size := by have h1 := hV.size; have h2 := g1.size; rw [show (w1.setCell ⟨w.heap.size + 1, 0, none⟩ (.slice A' (bl.length + 1) c')).heap.size = w1.heap.size by simp]; omega
          have hbx := (show _ = _ from hrk.2 w.heap.size (by omega) (by omega)).trans h3
          have hkj : KeepJ (w.heap.size + 2) (w.heap.size + 3) ba bb W (w1.setCell ⟨w.heap.size + 1, 0, none⟩ (.slice A' (bl.length + 1) c')) := fun j hj => hrk.2 j (by omega) (by omega)
          have HFIN := Lib.hid (And.intro hrk.1 (And.intro hkj (And.intro hDP (And.intro hPR (And.intro hbx (And.intro hBW hNW))))))
          clear hrk hkj hDP hbx hBW hNW
          unfold onward
          gi_wp2
          have hfin := HFIN.out
          exact ⟨HK0.out _ hfin.1, HJ0.out _ hfin.2.1, ⟨_, _, _, hfin.2.2.1, hfin.2.2.2.1, hfin.2.2.2.2.1, hfin.2.2.2.2.2.1, hfin.2.2.2.2.2.2⟩⟩
        · go_simp
          refine hK.out _ _ ?_ (fun hHeld => ?_)
          · exact ⟨cell_al _ hHeld.1, cell_al _ hHeld.2⟩
          clear hK K
          try simp only [Act.put]
          try simp only [List.setIfInBounds_toArray]
          try simp only [List.set_cons_succ]
          try simp only [List.set_cons_zero]
          refine wpAnyH_ready (rs := [0]) (by kernel_rfl) (by simp) ?_
          refine AllReadyH.cons (o := _) rfl (fun K hK => ?_) AllReadyH.nil
          go_simp
          refine hK.out _ _ ?_ (fun hHeld => ?_)
          · exact hHeld
          clear hK K
          try simp only [Act.put]
          try simp only [List.setIfInBounds_toArray]
          try simp only [List.set_cons_succ]
          try simp only [List.set_cons_zero]
          refine wpAnyH_ready (rs := [9]) (by kernel_rfl) (by simp) ?_
          refine AllReadyH.cons (o := _) rfl (fun K hK => ?_) AllReadyH.nil
          (refine step_append_recs (f := Blk.cells) (s := 2) _ rfl (.tmp 57) (.tmp 65) 26 rfl (fun _ => rfl) (by decide) blk_one w0.heap.size 34 iB _ 32 Try.underlying26 hifB hb0 hb1 hb2 (by decide) rfl (.slice Al nb cl) bl rfl hrowW _ _ [Blk.mk (x : Int) [bx] (some ⟨W.heap.size, 0, none⟩) 1] 1 1 rfl rfl ((Recs.lits (f := Blk.cells) (s := 2) (fun _ => rfl) (by decide) _ _ _ _ _ _ rfl (by simp) (Nat.lt_succ_self _)).below (Below.refl _ _).drew) (by simp) (by have := hfine.len; rw [List.length_map] at this; omega) (by have := hV.size; omega) ?_)
          intro A' c' w1 o1 g1 b1
          rw [← hsl] at g1
          have hln : (bl ++ [Blk.mk (x : Int) [bx] (some ⟨W.heap.size, 0, none⟩) 1]).length = bl.length + 1 := by simp
          rw [hln] at o1 ⊢
          refine hK.out _ _ ?_ (fun hHeld => ?_)
          · exact ⟨(b1.cell (p := ⟨w.heap.size, 0, none⟩) (by show w.heap.size < w0.heap.size; omega)).trans hHeld.1, (b1.cell (p := ⟨bb, ob + x, none⟩) (by show bb < w0.heap.size; omega)).trans hHeld.2⟩
          clear hK K
          have d6 := (b1.cell (p := ⟨w.heap.size + 1, 0, none⟩) hz6).trans hDV.box.cell
          have e6 := (b1.frozen (p := ⟨w.heap.size + 1, 0, none⟩) hz6).trans hDV.box.frozen
          try simp only [Act.put, List.setIfInBounds_toArray, List.set_cons_zero, List.set_cons_succ]
          refine wpAnyH_ready (rs := [10]) (by kernel_rfl) (by simp) ?_
          refine AllReadyH.cons (o := _) rfl (fun K hK => ?_) AllReadyH.nil
          have hq3 : bb ≠ w.heap.size + 1 := by omega
          go_simp
          refine hK.out _ _ ?_ (fun hHeld => ?_)
          · exact ⟨by simp [go_sem, hHeld.1], by simp [go_sem, hq3, hHeld.2]⟩
          clear hK K
          try simp only [Act.put]
          try simp only [List.setIfInBounds_toArray]
          try simp only [List.set_cons_succ]
          try simp only [List.set_cons_zero]
          refine wpAnyH_done (by kernel_rfl) ?_ _
          have hrk := round_keeps (gs := w.heap.size + 1) (i := 0) hV hDV.row g1 b1 hN (fun o ho => by rw [show W.heap[w.heap.size + 1]? = _ from hD.box] at ho; obtain rfl := Option.some.inj ho; rfl) (.slice A' (bl.length + 1) c')
          have hDP := hDV.push hz6 owV hfr (A' := A') (c' := c') g1 (by rw [hln]; exact o1)
          rw [hln] at hDP
          have hBW := bel_set (hB.trans ((hV.mono (by omega)).trans (b1.mono (by omega)))) (p := ⟨w.heap.size + 1, 0, none⟩) (by show w.heap.size ≤ w.heap.size + 1; omega) (.slice A' (bl.length + 1) c')
          have hNW : w0.heap.size ≤ (w1.setCell ⟨w.heap.size + 1, 0, none⟩ (.slice A' (bl.length + 1) c')).heap.size := by have h1 := hV.size; have h2 := g1.size; rw [show (w1.setCell ⟨w.heap.size + 1, 0, none⟩ (.slice A' (bl.length + 1) c')).heap.size = w1.heap.size by simp]; omega
          have hbx := (show _ = _ from hrk.2 w.heap.size (by omega) (by omega)).trans h3
          have hkj : KeepJ (w.heap.size + 2) (w.heap.size + 3) ba bb W (w1.setCell ⟨w.heap.size + 1, 0, none⟩ (.slice A' (bl.length + 1) c')) := fun j hj => hrk.2 j (by omega) (by omega)
          have HFIN := Lib.hid (And.intro hrk.1 (And.intro hkj (And.intro hDP (And.intro hPR (And.intro hbx (And.intro hBW hNW))))))
          clear hrk hkj hDP hbx hBW hNW
          unfold onward
          gi_wp2
          have hfin := HFIN.out
          exact ⟨HK0.out _ hfin.1, HJ0.out _ hfin.2.1, ⟨_, _, _, hfin.2.2.1, hfin.2.2.2.1, hfin.2.2.2.2.1, hfin.2.2.2.2.2.1, hfin.2.2.2.2.2.2⟩⟩
    · obtain ⟨init, y, hbly⟩ := hlist.resolve_left (fun h => h0 (by rw [← HNB.out, h]; rfl))
      rw [List.concat_eq_append] at hbly
      clear hlist
      obtain ⟨m, hm⟩ : ∃ m, init.length = m := ⟨_, rfl⟩
      have hnbm : nb = m + 1 := by rw [← HNB.out, hbly, List.length_append, hm]; rfl
      have hw : (nb : Int) - 1 = (m : Int) := by omega
      have hm0 : (0 : Int) ≤ (m : Int) := by omega
      have hmn : (m : Int) < (nb : Int) := by omega
      have hmnN : m < nb := by omega
      have HNBM := Lib.hid hnbm
      clear hnbm
      obtain ⟨gl, o, yy, hAl, hgl, hyy, hyc⟩ := (Recs.of_own (f := Blk.cells) (s := 2) (fun _ => rfl) (by decide) hD.row).at_ (j := m) (by rw [HNB.out]; exact hmnN)
      subst hAl
      obtain rfl : o = 0 := by have := (own_ge hD.row _ rfl).2.2; simpa using this
      obtain rfl : yy = y := by
        rw [hbly, List.getElem?_append_right (by omega), hm, Nat.sub_self] at hyy
        simpa using hyy.symm
      have ya := hyc 0 _ rfl
      have yw := hyc 1 _ rfl
      have hfy := hfine.last yy.pr (by rw [hbly]; simp [prs])
      obtain ⟨a0, ha0⟩ : ∃ a0 : Nat, yy.a = (a0 : Int) := ⟨yy.a.toNat, by have h9 : 0 ≤ yy.a := hfy.1; omega⟩
      obtain ⟨q, hq⟩ : ∃ q, yy.ws.length = q := ⟨_, rfl⟩
      have hfy2 : 0 < q ∧ a0 + q ≤ x := by have h1 := hfy.2.1; have h2 := hfy.2.2; rw [show yy.pr.2.length = q from hq] at h1 h2; rw [show yy.pr.1 = (a0 : Int) from ha0] at h2; omega
      rw [ha0] at ya
      rw [hq] at yw
      simp only [Nat.zero_add, Nat.add_zero] at ya yw
      clear hyc hyy hfy h0
      obtain ⟨e, he⟩ : ∃ e, a0 + q = e := ⟨_, rfl⟩
      have hae : (a0 : Int) + (q : Int) = (e : Int) := by omega
      have hex : e ≤ x := by omega
      gi_wp2
      refine wpIn_region_round (S := fun w' => w'.cell? ⟨w.heap.size + 1, 0, none⟩ = some (.slice (some ⟨gl, 0, none⟩) nb cl) ∧ w'.cell? ⟨gl, m * 2, none⟩ = some (.int .i64 (a0 : Int)) ∧ w'.cell? ⟨gl, m * 2 + 1, none⟩ = some (.slice yy.A q yy.c)) hmix (by kernel_rfl) ⟨c6, ya, yw⟩ (fun hHeld => ?_)
      refine takeD (i := 0) (oi := _) (v := ?vv8) (d := some 27) rfl (by kernel_rfl) (by kernel_rfl) (by kernel_rfl) (by kernel_rfl) (fun _ _ _ h => h) (Or.inl ⟨by kernel_rfl, ?_⟩) (by assumption) ?_
      rotate_left 1
      · intro W_ hSw; (try dsimp only at hSw); go_simp; (first | done | with_reducible rfl)
      try simp only [Act.put, List.setIfInBounds_toArray, List.set_cons_zero, List.set_cons_succ]
      refine takeD (i := 1) (oi := _) (v := ?vv9) (d := some 28) rfl (by kernel_rfl) (by kernel_rfl) (by kernel_rfl) (by kernel_rfl) (fun _ _ _ h => h) (Or.inl ⟨by kernel_rfl, ?_⟩) (by assumption) ?_
      rotate_left 1
      · intro W_ hSw; (try dsimp only at hSw); go_simp; (first | done | with_reducible rfl)
      try simp only [Act.put, List.setIfInBounds_toArray, List.set_cons_zero, List.set_cons_succ]
      refine takeD (i := 2) (oi := _) (v := ?vv10) (d := some 29) rfl (by kernel_rfl) (by kernel_rfl) (by kernel_rfl) (by kernel_rfl) (fun _ _ _ h => h) (Or.inl ⟨by kernel_rfl, ?_⟩) (by assumption) ?_
      rotate_left 1
      · intro W_ hSw; (try dsimp only at hSw); go_simp; (first | done | with_reducible rfl)
      try simp only [Act.put, List.setIfInBounds_toArray, List.set_cons_zero, List.set_cons_succ]
      refine takeD (i := 3) (oi := _) (v := ?vv11) (d := some 30) rfl (by kernel_rfl) (by kernel_rfl) (by kernel_rfl) (by kernel_rfl) (fun _ _ _ h => h) (Or.inl ⟨by kernel_rfl, ?_⟩) (by assumption) ?_
      rotate_left 1
      · intro W_ hSw; (try dsimp only at hSw); go_simp; (first | done | with_reducible rfl)
      try simp only [Act.put, List.setIfInBounds_toArray, List.set_cons_zero, List.set_cons_succ]
      refine takeD (i := 4) (oi := _) (v := ?vv12) (d := some 31) rfl (by kernel_rfl) (by kernel_rfl) (by kernel_rfl) (by kernel_rfl) (fun _ _ _ h => h) (Or.inl ⟨by kernel_rfl, ?_⟩) (by assumption) ?_
      rotate_left 1
      · intro W_ hSw; (try dsimp only at hSw); go_simp; (first | done | with_reducible rfl)
      try simp only [Act.put, List.setIfInBounds_toArray, List.set_cons_zero, List.set_cons_succ]
      refine takeD (i := 5) (oi := _) (v := ?vv13) (d := some 32) rfl (by kernel_rfl) (by kernel_rfl) (by kernel_rfl) (by kernel_rfl) (fun _ _ _ h => h) (Or.inl ⟨by kernel_rfl, ?_⟩) (by assumption) ?_
      rotate_left 1
      · intro W_ hSw; (try dsimp only at hSw); go_simp; (first | done | with_reducible rfl)
      try simp only [Act.put, List.setIfInBounds_toArray, List.set_cons_zero, List.set_cons_succ]
      refine takeD (i := 6) (oi := _) (v := ?vv14) (d := some 33) rfl (by kernel_rfl) (by kernel_rfl) (by kernel_rfl) (by kernel_rfl) (fun _ _ _ h => h) (Or.inl ⟨by kernel_rfl, ?_⟩) (by assumption) ?_
      rotate_left 1
      · intro W_ hSw; (try dsimp only at hSw); go_simp; (first | done | with_reducible rfl)
      try simp only [Act.put, List.setIfInBounds_toArray, List.set_cons_zero, List.set_cons_succ]
      refine takeD (i := 7) (oi := _) (v := ?vv15) (d := some 34) rfl (by kernel_rfl) (by kernel_rfl) (by kernel_rfl) (by kernel_rfl) (fun _ _ _ h => h) (Or.inl ⟨by kernel_rfl, ?_⟩) (by assumption) ?_
      rotate_left 1
      · intro W_ hSw; (try dsimp only at hSw); go_simp; (first | done | with_reducible rfl)
      try simp only [Act.put, List.setIfInBounds_toArray, List.set_cons_zero, List.set_cons_succ]
      refine takeD (i := 8) (oi := _) (v := ?vv16) (d := some 35) rfl (by kernel_rfl) (by kernel_rfl) (by kernel_rfl) (by kernel_rfl) (fun _ _ _ h => h) (Or.inl ⟨by kernel_rfl, ?_⟩) (by assumption) ?_
      rotate_left 1
      · intro W_ hSw; (try dsimp only at hSw); go_simp; (first | done | with_reducible rfl)
      try simp only [Act.put, List.setIfInBounds_toArray, List.set_cons_zero, List.set_cons_succ]
      refine takeD (i := 9) (oi := _) (v := ?vv17) (d := some 36) rfl (by kernel_rfl) (by kernel_rfl) (by kernel_rfl) (by kernel_rfl) (fun _ _ _ h => h) (Or.inl ⟨by kernel_rfl, ?_⟩) (by assumption) ?_
      rotate_left 1
      · intro W_ hSw; (try dsimp only at hSw); go_simp; (first | done | with_reducible rfl)
      try simp only [Act.put, List.setIfInBounds_toArray, List.set_cons_zero, List.set_cons_succ]
      refine takeD (i := 10) (oi := _) (v := ?vv18) (d := some 37) rfl (by kernel_rfl) (by kernel_rfl) (by kernel_rfl) (by kernel_rfl) (fun _ _ _ h => h) (Or.inl ⟨by kernel_rfl, ?_⟩) (by assumption) ?_
      rotate_left 1
      · intro W_ hSw; (try dsimp only at hSw); go_simp; (first | done | with_reducible rfl)
      try simp only [Act.put, List.setIfInBounds_toArray, List.set_cons_zero, List.set_cons_succ]
      refine takeD (i := 11) (oi := _) (v := ?vv19) (d := some 38) rfl (by kernel_rfl) (by kernel_rfl) (by kernel_rfl) (by kernel_rfl) (fun _ _ _ h => h) (Or.inl ⟨by kernel_rfl, ?_⟩) (by assumption) ?_
      rotate_left 1
      · intro W_ hSw; (try dsimp only at hSw); go_simp; (first | done | with_reducible rfl)
      try simp only [Act.put, List.setIfInBounds_toArray, List.set_cons_zero, List.set_cons_succ]
      refine takeD (i := 12) (oi := _) (v := ?vv20) (d := some 9) rfl (by kernel_rfl) (by kernel_rfl) (by kernel_rfl) (by kernel_rfl) (fun _ _ _ h => h) (Or.inl ⟨by kernel_rfl, ?_⟩) (by assumption) ?_
      rotate_left 1
      · intro W_ hSw; (try dsimp only at hSw); go_simp; (first | done | with_reducible rfl)
      try simp only [Act.put, List.setIfInBounds_toArray, List.set_cons_zero, List.set_cons_succ]
      refine wpAnyH_done (by kernel_rfl) ?_ _
      clear hHeld
      obtain ⟨W, hWe⟩ : ∃ W, Wo.drew = W := ⟨_, rfl⟩
      rw [hWe]
      have HK0 : Hid (∀ X, KeepsFrom w0.heap.size W X → KeepsFrom w0.heap.size Wo X) := Lib.hid (by rw [← hWe]; exact fun _ h => ⟨h.size, h.same⟩)
      have HJ0 : Hid (∀ X, KeepJ (w.heap.size + 2) (w.heap.size + 3) ba bb W X → KeepJ (w.heap.size + 2) (w.heap.size + 3) ba bb Wo X) := Lib.hid (by rw [← hWe]; exact fun _ h => h)
      replace hD : DM W w0.heap.size (w.heap.size + 1) bl (some ⟨gl, 0, none⟩) cl := by rw [← hWe]; exact hD.kept (row := none) ⟨rfl, rfl, rfl, Nat.le_refl _, fun _ _ _ => rfl⟩ (fun r e => by cases e)
      replace h3 : Boxed W w.heap.size 22 (.slice (some ⟨bb, ob, none⟩) 64 cb_) := by rw [← hWe]; exact h3
      replace hB : Below w.heap.size w W := by rw [← hWe]; exact hB.drew
      replace hN : w0.heap.size ≤ W.heap.size := by rw [← hWe]; exact hN
      replace c6 : W.cell? ⟨w.heap.size + 1, 0, none⟩ = some (.slice (some ⟨gl, 0, none⟩) nb cl) := by rw [← hWe]; exact c6
      replace c3 : W.cell? ⟨w.heap.size, 0, none⟩ = some (.slice (some ⟨bb, ob, none⟩) 64 cb_) := by rw [← hWe]; exact c3
      replace cb : W.cell? ⟨bb, ob + x, none⟩ = some (.int .u16 (bx : Int)) := by rw [← hWe]; exact cb
      replace ya : W.cell? ⟨gl, m * 2, none⟩ = some (.int .i64 (a0 : Int)) := by rw [← hWe]; exact ya
      replace yw : W.cell? ⟨gl, m * 2 + 1, none⟩ = some (.slice yy.A q yy.c) := by rw [← hWe]; exact yw
      clear hWe
      have hlastp : (prs bl).getLast? = some yy.pr := by rw [hbly]; simp [prs]
      unfold onward
      by_cases hgap : e + 1 < x ∨ a0 + 14 ≤ x
      · have hPR : prs (bl ++ [Blk.mk (x : Int) [bx] (some ⟨W.heap.size, 0, none⟩) 1]) = dif b (pre ++ [x]) := by
          rw [dif_snoc, ← hbl, dstep, hlastp]
          dsimp only
          rw [if_pos (by show yy.a + (yy.ws.length : Int) + 1 < _ ∨ 14 ≤ _ - yy.a; rw [ha0, hq]; omega)]
          simp [prs, hbxe]
        have HPR := Lib.hid hPR
        clear hPR hlastp hbly
        by_cases hA : e + 1 < x
        · have g1 : decide ((e : Int) + 1 < (x : Int)) = true := decide_eq_true (by omega)
          clear hA hgap
          gi_wp2
          have hPR := HPR.out
          have hDV := ((hD.kept (World.grownBy_alloc W (.cells #[.int .u16 (bx : Int)] 25) none) (fun r e => by cases e)).kept (World.grownBy_alloc (W.alloc (.cells #[.int .u16 (bx : Int)] 25)) (.cells #[.int .i64 (x : Int), .slice (some ⟨W.heap.size, 0, none⟩) 1 1] 34) none) (fun r e => by cases e)).kept (row := none) (W' := ((W.alloc (.cells #[.int .u16 (bx : Int)] 25)).alloc (.cells #[.int .i64 (x : Int), .slice (some ⟨W.heap.size, 0, none⟩) 1 1] 34)).drew) ⟨rfl, rfl, rfl, Nat.le_refl _, fun _ _ _ => rfl⟩ (fun r e => by cases e)
          have hV : Below W.heap.size W ((W.alloc (.cells #[.int .u16 (bx : Int)] 25)).alloc (.cells #[.int .i64 (x : Int), .slice (some ⟨W.heap.size, 0, none⟩) 1 1] 34)).drew := (bel_alloc (bel_alloc (Below.refl W.heap.size W) _) _).drew
          have ow1 : (W.alloc (.cells #[.int .u16 (bx : Int)] 25)).ownsRow w0.heap.size 25 1 (.slice (some ⟨W.heap.size, 0, none⟩) 1 1) 1 [u16w bx] := ⟨by simp, .inr ⟨W.heap.size, 1, #[u16w bx], rfl, hN, World.alloc_heap_new W _, Nat.le_refl _, by decide, by simp, by simp⟩⟩
          have owV1 := ow1.kept (World.grownBy_alloc (W.alloc (.cells #[.int .u16 (bx : Int)] 25)) (.cells #[.int .i64 (x : Int), .slice (some ⟨W.heap.size, 0, none⟩) 1 1] 34) none) (.inr (by simp [Value.ownBlock]))
          have owV := owV1.kept (w' := ((W.alloc (.cells #[.int .u16 (bx : Int)] 25)).alloc (.cells #[.int .i64 (x : Int), .slice (some ⟨W.heap.size, 0, none⟩) 1 1] 34)).drew) (row := none) ⟨rfl, rfl, rfl, Nat.le_refl _, fun _ _ _ => rfl⟩ (.inr (by simp [Value.ownBlock]))
          have c6a := cell_al (.cells #[.int .u16 (bx : Int)] 25) c6
          have c6b := cell_al (.cells #[.int .i64 (x : Int), .slice (some ⟨W.heap.size, 0, none⟩) 1 1] 34) c6a
          have hsl : Value.slice (some ⟨gl, 0, none⟩) bl.length cl = .slice (some ⟨gl, 0, none⟩) nb cl := by rw [HNB.out]
          have hrowV := hDV.row
          have hrowW : ((W.alloc (.cells #[.int .u16 (bx : Int)] 25)).alloc (.cells #[.int .i64 (x : Int), .slice (some ⟨W.heap.size, 0, none⟩) 1 1] 34)).drew.ownsRow w0.heap.size 34 2 (.slice (some ⟨gl, 0, none⟩) nb cl) bl.length (bl.flatMap Blk.cells) := by rw [← hsl]; exact hrowV
          have hfr : ∀ y ∈ bl, ∀ q, y.A = some q → q.block ≠ W.heap.size := fun y hy q hq => by have := (own_ge (hD.own y hy) q hq).2.1; omega
          refine wpIn_region_round (S := fun w' => w'.cell? ⟨w.heap.size, 0, none⟩ = some (.slice (some ⟨bb, ob, none⟩) 64 cb_) ∧ w'.cell? ⟨bb, ob + x, none⟩ = some (.int .u16 (bx : Int))) hmix (by kernel_rfl) ⟨c3, cb⟩ (fun hHeld => ?_)
          refine takeD (i := 1) (oi := _) (v := ?vv21) (d := some 58) rfl (by kernel_rfl) (by kernel_rfl) (by kernel_rfl) (by kernel_rfl) (fun _ _ _ h => h) (Or.inl ⟨by kernel_rfl, ?_⟩) (by assumption) ?_
          rotate_left 1
          · intro W_ hSw; (try dsimp only at hSw); go_simp; (first | done | with_reducible rfl)
          try simp only [Act.put, List.setIfInBounds_toArray, List.set_cons_zero, List.set_cons_succ]
          refine takeD (i := 2) (oi := _) (v := ?vv22) (d := some 59) rfl (by kernel_rfl) (by kernel_rfl) (by kernel_rfl) (by kernel_rfl) (fun _ _ _ h => h) (Or.inl ⟨by kernel_rfl, ?_⟩) (by assumption) ?_
          rotate_left 1
          · intro W_ hSw; (try dsimp only at hSw); go_simp; (first | done | with_reducible rfl)
          try simp only [Act.put, List.setIfInBounds_toArray, List.set_cons_zero, List.set_cons_succ]
          refine takeD (i := 3) (oi := _) (v := ?vv23) (d := some 60) rfl (by kernel_rfl) (by kernel_rfl) (by kernel_rfl) (by kernel_rfl) (fun _ _ _ h => h) (Or.inl ⟨by kernel_rfl, ?_⟩) (by assumption) ?_
          rotate_left 1
          · intro W_ hSw; (try dsimp only at hSw); go_simp; (first | done | with_reducible rfl)
          try simp only [Act.put, List.setIfInBounds_toArray, List.set_cons_zero, List.set_cons_succ]
          refine takeD (i := 4) (oi := _) (v := ?vv24) (d := some 61) rfl (by kernel_rfl) (by kernel_rfl) (by kernel_rfl) (by kernel_rfl) (fun _ _ _ h => h) (Or.inl ⟨by kernel_rfl, ?_⟩) (by assumption) ?_
          rotate_left 1
          · intro W_ hSw; (try dsimp only at hSw); go_simp; (first | done | with_reducible rfl)
          try simp only [Act.put, List.setIfInBounds_toArray, List.set_cons_zero, List.set_cons_succ]
          refine takeD (i := 5) (oi := _) (v := ?vv25) (d := some 62) rfl (by kernel_rfl) (by kernel_rfl) (by kernel_rfl) (by kernel_rfl) (fun _ _ _ h => h) (Or.inl ⟨by kernel_rfl, ?_⟩) (by assumption) ?_
          rotate_left 1
          · intro W_ hSw; (try dsimp only at hSw); go_simp; (first | done | with_reducible rfl)
          try simp only [Act.put, List.setIfInBounds_toArray, List.set_cons_zero, List.set_cons_succ]
          refine wpAnyH_ready (rs := [0, 6]) (by kernel_rfl) (by simp) ?_
          refine AllReadyH.cons (o := _) rfl (fun K hK => ?_) (AllReadyH.cons (o := _) rfl (fun K hK => ?_) AllReadyH.nil)
          · go_simp
            refine hK.out _ _ ?_ (fun hHeld => ?_)
            · exact hHeld
            clear hK K
            try simp only [Act.put]
            try simp only [List.setIfInBounds_toArray]
            try simp only [List.set_cons_succ]
            try simp only [List.set_cons_zero]
            refine wpAnyH_ready (rs := [6]) (by kernel_rfl) (by simp) ?_
            refine AllReadyH.cons (o := _) rfl (fun K hK => ?_) AllReadyH.nil
            go_simp
            refine hK.out _ _ ?_ (fun hHeld => ?_)
            · exact ⟨cell_al _ hHeld.1, cell_al _ hHeld.2⟩
            clear hK K
            try simp only [Act.put]
            try simp only [List.setIfInBounds_toArray]
            try simp only [List.set_cons_succ]
            try simp only [List.set_cons_zero]
            refine takeD (i := 7) (oi := _) (v := ?vv26) (d := some 64) rfl (by kernel_rfl) (by kernel_rfl) (by kernel_rfl) (by kernel_rfl) (fun _ _ _ h => h) (Or.inl ⟨by kernel_rfl, ?_⟩) (by assumption) ?_
            rotate_left 1
            · intro W_ hSw; (try dsimp only at hSw); go_simp; (first | done | with_reducible rfl)
            try simp only [Act.put, List.setIfInBounds_toArray, List.set_cons_zero, List.set_cons_succ]
            refine wpAnyH_ready (rs := [8]) (by kernel_rfl) (by simp) ?_
            refine AllReadyH.cons (o := _) rfl (fun K hK => ?_) AllReadyH.nil
            go_simp
            refine hK.out _ _ ?_ (fun hHeld => ?_)
            · exact ⟨cell_al _ hHeld.1, cell_al _ hHeld.2⟩
            clear hK K
            try simp only [Act.put]
            try simp only [List.setIfInBounds_toArray]
            try simp only [List.set_cons_succ]
            try simp only [List.set_cons_zero]
            refine wpAnyH_ready (rs := [9]) (by kernel_rfl) (by simp) ?_
            refine AllReadyH.cons (o := _) rfl (fun K hK => ?_) AllReadyH.nil
            (refine step_append_recs (f := Blk.cells) (s := 2) _ rfl (.tmp 57) (.tmp 65) 26 rfl (fun _ => rfl) (by decide) blk_one w0.heap.size 34 iB _ 32 Try.underlying26 hifB hb0 hb1 hb2 (by decide) rfl (.slice (some ⟨gl, 0, none⟩) nb cl) bl rfl hrowW _ _ [Blk.mk (x : Int) [bx] (some ⟨W.heap.size, 0, none⟩) 1] 1 1 rfl rfl ((Recs.lits (f := Blk.cells) (s := 2) (fun _ => rfl) (by decide) _ _ _ _ _ _ rfl (by simp) (Nat.lt_succ_self _)).below (Below.refl _ _).drew) (by simp) (by have := hfine.len; rw [List.length_map] at this; omega) (by have := hV.size; omega) ?_)
            intro A' c' w1 o1 g1 b1
            rw [← hsl] at g1
            have hln : (bl ++ [Blk.mk (x : Int) [bx] (some ⟨W.heap.size, 0, none⟩) 1]).length = bl.length + 1 := by simp
            rw [hln] at o1 ⊢
            refine hK.out _ _ ?_ (fun hHeld => ?_)
            · exact ⟨(b1.cell (p := ⟨w.heap.size, 0, none⟩) (by show w.heap.size < w0.heap.size; omega)).trans hHeld.1, (b1.cell (p := ⟨bb, ob + x, none⟩) (by show bb < w0.heap.size; omega)).trans hHeld.2⟩
            clear hK K
            have d6 := (b1.cell (p := ⟨w.heap.size + 1, 0, none⟩) hz6).trans hDV.box.cell
            have e6 := (b1.frozen (p := ⟨w.heap.size + 1, 0, none⟩) hz6).trans hDV.box.frozen
            try simp only [Act.put, List.setIfInBounds_toArray, List.set_cons_zero, List.set_cons_succ]
            refine wpAnyH_ready (rs := [10]) (by kernel_rfl) (by simp) ?_
            refine AllReadyH.cons (o := _) rfl (fun K hK => ?_) AllReadyH.nil
            have hq3 : bb ≠ w.heap.size + 1 := by omega
            go_simp
            refine hK.out _ _ ?_ (fun hHeld => ?_)
            · exact ⟨by simp [go_sem, hHeld.1], by simp [go_sem, hq3, hHeld.2]⟩
            clear hK K
            try simp only [Act.put]
            try simp only [List.setIfInBounds_toArray]
            try simp only [List.set_cons_succ]
            try simp only [List.set_cons_zero]
            refine wpAnyH_done (by kernel_rfl) ?_ _
            have hrk := round_keeps (gs := w.heap.size + 1) (i := 0) hV hDV.row g1 b1 hN (fun o ho => by rw [show W.heap[w.heap.size + 1]? = _ from hD.box] at ho; obtain rfl := Option.some.inj ho; rfl) (.slice A' (bl.length + 1) c')
            have hDP := hDV.push hz6 owV hfr (A' := A') (c' := c') g1 (by rw [hln]; exact o1)
            rw [hln] at hDP
            have hBW := bel_set (hB.trans ((hV.mono (by omega)).trans (b1.mono (by omega)))) (p := ⟨w.heap.size + 1, 0, none⟩) (by show w.heap.size ≤ w.heap.size + 1; omega) (.slice A' (bl.length + 1) c')
            have hNW : w0.heap.size ≤ (w1.setCell ⟨w.heap.size + 1, 0, none⟩ (.slice A' (bl.length + 1) c')).heap.size := by have h1 := hV.size; have h2 := g1.size; rw [show (w1.setCell ⟨w.heap.size + 1, 0, none⟩ (.slice A' (bl.length + 1) c')).heap.size = w1.heap.size by simp]; omega
            have hbx := (show _ = _ from hrk.2 w.heap.size (by omega) (by omega)).trans h3
            have hkj : KeepJ (w.heap.size + 2) (w.heap.size + 3) ba bb W (w1.setCell ⟨w.heap.size + 1, 0, none⟩ (.slice A' (bl.length + 1) c')) := fun j hj => hrk.2 j (by omega) (by omega)
            have HFIN := Lib.hid (And.intro hrk.1 (And.intro hkj (And.intro hDP (And.intro hPR (And.intro hbx (And.intro hBW hNW))))))
            clear hrk hkj hDP hbx hBW hNW
            unfold onward
            gi_wp2
            have hfin := HFIN.out
            exact ⟨HK0.out _ hfin.1, HJ0.out _ hfin.2.1, ⟨_, _, _, hfin.2.2.1, hfin.2.2.2.1, hfin.2.2.2.2.1, hfin.2.2.2.2.2.1, hfin.2.2.2.2.2.2⟩⟩
          · go_simp
            refine hK.out _ _ ?_ (fun hHeld => ?_)
            · exact ⟨cell_al _ hHeld.1, cell_al _ hHeld.2⟩
            clear hK K
            try simp only [Act.put]
            try simp only [List.setIfInBounds_toArray]
            try simp only [List.set_cons_succ]
            try simp only [List.set_cons_zero]
            refine takeD (i := 7) (oi := _) (v := ?vv27) (d := some 64) rfl (by kernel_rfl) (by kernel_rfl) (by kernel_rfl) (by kernel_rfl) (fun _ _ _ h => h) (Or.inl ⟨by kernel_rfl, ?_⟩) (by assumption) ?_
            rotate_left 1
            · intro W_ hSw; (try dsimp only at hSw); go_simp; (first | done | with_reducible rfl)
            try simp only [Act.put, List.setIfInBounds_toArray, List.set_cons_zero, List.set_cons_succ]
            refine wpAnyH_ready (rs := [0, 8]) (by kernel_rfl) (by simp) ?_
            refine AllReadyH.cons (o := _) rfl (fun K hK => ?_) (AllReadyH.cons (o := _) rfl (fun K hK => ?_) AllReadyH.nil)
            · go_simp
              refine hK.out _ _ ?_ (fun hHeld => ?_)
              · exact hHeld
              clear hK K
              try simp only [Act.put]
              try simp only [List.setIfInBounds_toArray]
              try simp only [List.set_cons_succ]
              try simp only [List.set_cons_zero]
              refine wpAnyH_ready (rs := [8]) (by kernel_rfl) (by simp) ?_
              refine AllReadyH.cons (o := _) rfl (fun K hK => ?_) AllReadyH.nil
              go_simp
              refine hK.out _ _ ?_ (fun hHeld => ?_)
              · exact ⟨cell_al _ hHeld.1, cell_al _ hHeld.2⟩
              clear hK K
              try simp only [Act.put]
              try simp only [List.setIfInBounds_toArray]
              try simp only [List.set_cons_succ]
              try simp only [List.set_cons_zero]
              refine wpAnyH_ready (rs := [9]) (by kernel_rfl) (by simp) ?_
              refine AllReadyH.cons (o := _) rfl (fun K hK => ?_) AllReadyH.nil
              (refine step_append_recs (f := Blk.cells) (s := 2) _ rfl (.tmp 57) (.tmp 65) 26 rfl (fun _ => rfl) (by decide) blk_one w0.heap.size 34 iB _ 32 Try.underlying26 hifB hb0 hb1 hb2 (by decide) rfl (.slice (some ⟨gl, 0, none⟩) nb cl) bl rfl hrowW _ _ [Blk.mk (x : Int) [bx] (some ⟨W.heap.size, 0, none⟩) 1] 1 1 rfl rfl ((Recs.lits (f := Blk.cells) (s := 2) (fun _ => rfl) (by decide) _ _ _ _ _ _ rfl (by simp) (Nat.lt_succ_self _)).below (Below.refl _ _).drew) (by simp) (by have := hfine.len; rw [List.length_map] at this; omega) (by have := hV.size; omega) ?_)
              intro A' c' w1 o1 g1 b1
              rw [← hsl] at g1
              have hln : (bl ++ [Blk.mk (x : Int) [bx] (some ⟨W.heap.size, 0, none⟩) 1]).length = bl.length + 1 := by simp
              rw [hln] at o1 ⊢
              refine hK.out _ _ ?_ (fun hHeld => ?_)
              · exact ⟨(b1.cell (p := ⟨w.heap.size, 0, none⟩) (by show w.heap.size < w0.heap.size; omega)).trans hHeld.1, (b1.cell (p := ⟨bb, ob + x, none⟩) (by show bb < w0.heap.size; omega)).trans hHeld.2⟩
              clear hK K
              have d6 := (b1.cell (p := ⟨w.heap.size + 1, 0, none⟩) hz6).trans hDV.box.cell
              have e6 := (b1.frozen (p := ⟨w.heap.size + 1, 0, none⟩) hz6).trans hDV.box.frozen
              try simp only [Act.put, List.setIfInBounds_toArray, List.set_cons_zero, List.set_cons_succ]
              refine wpAnyH_ready (rs := [10]) (by kernel_rfl) (by simp) ?_
              refine AllReadyH.cons (o := _) rfl (fun K hK => ?_) AllReadyH.nil
              have hq3 : bb ≠ w.heap.size + 1 := by omega
              go_simp
              refine hK.out _ _ ?_ (fun hHeld => ?_)
              · exact ⟨by simp [go_sem, hHeld.1], by simp [go_sem, hq3, hHeld.2]⟩
              clear hK K
              try simp only [Act.put]
              try simp only [List.setIfInBounds_toArray]
              try simp only [List.set_cons_succ]
              try simp only [List.set_cons_zero]
              refine wpAnyH_done (by kernel_rfl) ?_ _
              have hrk := round_keeps (gs := w.heap.size + 1) (i := 0) hV hDV.row g1 b1 hN (fun o ho => by rw [show W.heap[w.heap.size + 1]? = _ from hD.box] at ho; obtain rfl := Option.some.inj ho; rfl) (.slice A' (bl.length + 1) c')
              have hDP := hDV.push hz6 owV hfr (A' := A') (c' := c') g1 (by rw [hln]; exact o1)
              rw [hln] at hDP
              have hBW := bel_set (hB.trans ((hV.mono (by omega)).trans (b1.mono (by omega)))) (p := ⟨w.heap.size + 1, 0, none⟩) (by show w.heap.size ≤ w.heap.size + 1; omega) (.slice A' (bl.length + 1) c')
              have hNW : w0.heap.size ≤ (w1.setCell ⟨w.heap.size + 1, 0, none⟩ (.slice A' (bl.length + 1) c')).heap.size := by have h1 := hV.size; have h2 := g1.size; rw [show (w1.setCell ⟨w.heap.size + 1, 0, none⟩ (.slice A' (bl.length + 1) c')).heap.size = w1.heap.size by simp]; omega
              have hbx := (show _ = _ from hrk.2 w.heap.size (by omega) (by omega)).trans h3
              have hkj : KeepJ (w.heap.size + 2) (w.heap.size + 3) ba bb W (w1.setCell ⟨w.heap.size + 1, 0, none⟩ (.slice A' (bl.length + 1) c')) := fun j hj => hrk.2 j (by omega) (by omega)
              have HFIN := Lib.hid (And.intro hrk.1 (And.intro hkj (And.intro hDP (And.intro hPR (And.intro hbx (And.intro hBW hNW))))))
              clear hrk hkj hDP hbx hBW hNW
              unfold onward
              gi_wp2
              have hfin := HFIN.out
              exact ⟨HK0.out _ hfin.1, HJ0.out _ hfin.2.1, ⟨_, _, _, hfin.2.2.1, hfin.2.2.2.1, hfin.2.2.2.2.1, hfin.2.2.2.2.2.1, hfin.2.2.2.2.2.2⟩⟩
            · go_simp
              refine hK.out _ _ ?_ (fun hHeld => ?_)
              · exact ⟨cell_al _ hHeld.1, cell_al _ hHeld.2⟩
              clear hK K
              try simp only [Act.put]
              try simp only [List.setIfInBounds_toArray]
              try simp only [List.set_cons_succ]
              try simp only [List.set_cons_zero]
              refine wpAnyH_ready (rs := [0]) (by kernel_rfl) (by simp) ?_
              refine AllReadyH.cons (o := _) rfl (fun K hK => ?_) AllReadyH.nil
              go_simp
              refine hK.out _ _ ?_ (fun hHeld => ?_)
              · exact hHeld
              clear hK K
              try simp only [Act.put]
              try simp only [List.setIfInBounds_toArray]
              try simp only [List.set_cons_succ]
              try simp only [List.set_cons_zero]
              refine wpAnyH_ready (rs := [9]) (by kernel_rfl) (by simp) ?_
              refine AllReadyH.cons (o := _) rfl (fun K hK => ?_) AllReadyH.nil
              (refine step_append_recs (f := Blk.cells) (s := 2) _ rfl (.tmp 57) (.tmp 65) 26 rfl (fun _ => rfl) (by decide) blk_one w0.heap.size 34 iB _ 32 Try.underlying26 hifB hb0 hb1 hb2 (by decide) rfl (.slice (some ⟨gl, 0, none⟩) nb cl) bl rfl hrowW _ _ [Blk.mk (x : Int) [bx] (some ⟨W.heap.size, 0, none⟩) 1] 1 1 rfl rfl ((Recs.lits (f := Blk.cells) (s := 2) (fun _ => rfl) (by decide) _ _ _ _ _ _ rfl (by simp) (Nat.lt_succ_self _)).below (Below.refl _ _).drew) (by simp) (by have := hfine.len; rw [List.length_map] at this; omega) (by have := hV.size; omega) ?_)
              intro A' c' w1 o1 g1 b1
              rw [← hsl] at g1
              have hln : (bl ++ [Blk.mk (x : Int) [bx] (some ⟨W.heap.size, 0, none⟩) 1]).length = bl.length + 1 := by simp
              rw [hln] at o1 ⊢
              refine hK.out _ _ ?_ (fun hHeld => ?_)
              · exact ⟨(b1.cell (p := ⟨w.heap.size, 0, none⟩) (by show w.heap.size < w0.heap.size; omega)).trans hHeld.1, (b1.cell (p := ⟨bb, ob + x, none⟩) (by show bb < w0.heap.size; omega)).trans hHeld.2⟩
              clear hK K
              have d6 := (b1.cell (p := ⟨w.heap.size + 1, 0, none⟩) hz6).trans hDV.box.cell
              have e6 := (b1.frozen (p := ⟨w.heap.size + 1, 0, none⟩) hz6).trans hDV.box.frozen
              try simp only [Act.put, List.setIfInBounds_toArray, List.set_cons_zero, List.set_cons_succ]
              refine wpAnyH_ready (rs := [10]) (by kernel_rfl) (by simp) ?_
              refine AllReadyH.cons (o := _) rfl (fun K hK => ?_) AllReadyH.nil
              have hq3 : bb ≠ w.heap.size + 1 := by omega
              go_simp
              refine hK.out _ _ ?_ (fun hHeld => ?_)
              · exact ⟨by simp [go_sem, hHeld.1], by simp [go_sem, hq3, hHeld.2]⟩
              clear hK K
              try simp only [Act.put]
              try simp only [List.setIfInBounds_toArray]
              try simp only [List.set_cons_succ]
              try simp only [List.set_cons_zero]
              refine wpAnyH_done (by kernel_rfl) ?_ _
              have hrk := round_keeps (gs := w.heap.size + 1) (i := 0) hV hDV.row g1 b1 hN (fun o ho => by rw [show W.heap[w.heap.size + 1]? = _ from hD.box] at ho; obtain rfl := Option.some.inj ho; rfl) (.slice A' (bl.length + 1) c')
              have hDP := hDV.push hz6 owV hfr (A' := A') (c' := c') g1 (by rw [hln]; exact o1)
              rw [hln] at hDP
              have hBW := bel_set (hB.trans ((hV.mono (by omega)).trans (b1.mono (by omega)))) (p := ⟨w.heap.size + 1, 0, none⟩) (by show w.heap.size ≤ w.heap.size + 1; omega) (.slice A' (bl.length + 1) c')
              have hNW : w0.heap.size ≤ (w1.setCell ⟨w.heap.size + 1, 0, none⟩ (.slice A' (bl.length + 1) c')).heap.size := by have h1 := hV.size; have h2 := g1.size; rw [show (w1.setCell ⟨w.heap.size + 1, 0, none⟩ (.slice A' (bl.length + 1) c')).heap.size = w1.heap.size by simp]; omega
              have hbx := (show _ = _ from hrk.2 w.heap.size (by omega) (by omega)).trans h3
              have hkj : KeepJ (w.heap.size + 2) (w.heap.size + 3) ba bb W (w1.setCell ⟨w.heap.size + 1, 0, none⟩ (.slice A' (bl.length + 1) c')) := fun j hj => hrk.2 j (by omega) (by omega)
              have HFIN := Lib.hid (And.intro hrk.1 (And.intro hkj (And.intro hDP (And.intro hPR (And.intro hbx (And.intro hBW hNW))))))
              clear hrk hkj hDP hbx hBW hNW
              unfold onward
              gi_wp2
              have hfin := HFIN.out
              exact ⟨HK0.out _ hfin.1, HJ0.out _ hfin.2.1, ⟨_, _, _, hfin.2.2.1, hfin.2.2.2.1, hfin.2.2.2.2.1, hfin.2.2.2.2.2.1, hfin.2.2.2.2.2.2⟩⟩
        · have g1 : decide ((e : Int) + 1 < (x : Int)) = false := decide_eq_false (by omega)
          have g2 : decide (14 ≤ (x : Int) - (a0 : Int)) = true := decide_eq_true (by omega)
          clear hA hgap
          gi_wp2
          have hPR := HPR.out
          have hDV := ((hD.kept (World.grownBy_alloc W (.cells #[.int .u16 (bx : Int)] 25) none) (fun r e => by cases e)).kept (World.grownBy_alloc (W.alloc (.cells #[.int .u16 (bx : Int)] 25)) (.cells #[.int .i64 (x : Int), .slice (some ⟨W.heap.size, 0, none⟩) 1 1] 34) none) (fun r e => by cases e)).kept (row := none) (W' := ((W.alloc (.cells #[.int .u16 (bx : Int)] 25)).alloc (.cells #[.int .i64 (x : Int), .slice (some ⟨W.heap.size, 0, none⟩) 1 1] 34)).drew) ⟨rfl, rfl, rfl, Nat.le_refl _, fun _ _ _ => rfl⟩ (fun r e => by cases e)
          have hV : Below W.heap.size W ((W.alloc (.cells #[.int .u16 (bx : Int)] 25)).alloc (.cells #[.int .i64 (x : Int), .slice (some ⟨W.heap.size, 0, none⟩) 1 1] 34)).drew := (bel_alloc (bel_alloc (Below.refl W.heap.size W) _) _).drew
          have ow1 : (W.alloc (.cells #[.int .u16 (bx : Int)] 25)).ownsRow w0.heap.size 25 1 (.slice (some ⟨W.heap.size, 0, none⟩) 1 1) 1 [u16w bx] := ⟨by simp, .inr ⟨W.heap.size, 1, #[u16w bx], rfl, hN, World.alloc_heap_new W _, Nat.le_refl _, by decide, by simp, by simp⟩⟩
          have owV1 := ow1.kept (World.grownBy_alloc (W.alloc (.cells #[.int .u16 (bx : Int)] 25)) (.cells #[.int .i64 (x : Int), .slice (some ⟨W.heap.size, 0, none⟩) 1 1] 34) none) (.inr (by simp [Value.ownBlock]))
          have owV := owV1.kept (w' := ((W.alloc (.cells #[.int .u16 (bx : Int)] 25)).alloc (.cells #[.int .i64 (x : Int), .slice (some ⟨W.heap.size, 0, none⟩) 1 1] 34)).drew) (row := none) ⟨rfl, rfl, rfl, Nat.le_refl _, fun _ _ _ => rfl⟩ (.inr (by simp [Value.ownBlock]))
          have c6a := cell_al (.cells #[.int .u16 (bx : Int)] 25) c6
          have c6b := cell_al (.cells #[.int .i64 (x : Int), .slice (some ⟨W.heap.size, 0, none⟩) 1 1] 34) c6a
          have hsl : Value.slice (some ⟨gl, 0, none⟩) bl.length cl = .slice (some ⟨gl, 0, none⟩) nb cl := by rw [HNB.out]
          have hrowV := hDV.row
          have hrowW : ((W.alloc (.cells #[.int .u16 (bx : Int)] 25)).alloc (.cells #[.int .i64 (x : Int), .slice (some ⟨W.heap.size, 0, none⟩) 1 1] 34)).drew.ownsRow w0.heap.size 34 2 (.slice (some ⟨gl, 0, none⟩) nb cl) bl.length (bl.flatMap Blk.cells) := by rw [← hsl]; exact hrowV
          have hfr : ∀ y ∈ bl, ∀ q, y.A = some q → q.block ≠ W.heap.size := fun y hy q hq => by have := (own_ge (hD.own y hy) q hq).2.1; omega
          refine wpIn_region_round (S := fun w' => w'.cell? ⟨w.heap.size, 0, none⟩ = some (.slice (some ⟨bb, ob, none⟩) 64 cb_) ∧ w'.cell? ⟨bb, ob + x, none⟩ = some (.int .u16 (bx : Int))) hmix (by kernel_rfl) ⟨c3, cb⟩ (fun hHeld => ?_)
          refine takeD (i := 1) (oi := _) (v := ?vv28) (d := some 58) rfl (by kernel_rfl) (by kernel_rfl) (by kernel_rfl) (by kernel_rfl) (fun _ _ _ h => h) (Or.inl ⟨by kernel_rfl, ?_⟩) (by assumption) ?_
          rotate_left 1
          · intro W_ hSw; (try dsimp only at hSw); go_simp; (first | done | with_reducible rfl)
          try simp only [Act.put, List.setIfInBounds_toArray, List.set_cons_zero, List.set_cons_succ]
          refine takeD (i := 2) (oi := _) (v := ?vv29) (d := some 59) rfl (by kernel_rfl) (by kernel_rfl) (by kernel_rfl) (by kernel_rfl) (fun _ _ _ h => h) (Or.inl ⟨by kernel_rfl, ?_⟩) (by assumption) ?_
          rotate_left 1
          · intro W_ hSw; (try dsimp only at hSw); go_simp; (first | done | with_reducible rfl)
          try simp only [Act.put, List.setIfInBounds_toArray, List.set_cons_zero, List.set_cons_succ]
          refine takeD (i := 3) (oi := _) (v := ?vv30) (d := some 60) rfl (by kernel_rfl) (by kernel_rfl) (by kernel_rfl) (by kernel_rfl) (fun _ _ _ h => h) (Or.inl ⟨by kernel_rfl, ?_⟩) (by assumption) ?_
          rotate_left 1
          · intro W_ hSw; (try dsimp only at hSw); go_simp; (first | done | with_reducible rfl)
          try simp only [Act.put, List.setIfInBounds_toArray, List.set_cons_zero, List.set_cons_succ]
          refine takeD (i := 4) (oi := _) (v := ?vv31) (d := some 61) rfl (by kernel_rfl) (by kernel_rfl) (by kernel_rfl) (by kernel_rfl) (fun _ _ _ h => h) (Or.inl ⟨by kernel_rfl, ?_⟩) (by assumption) ?_
          rotate_left 1
          · intro W_ hSw; (try dsimp only at hSw); go_simp; (first | done | with_reducible rfl)
          try simp only [Act.put, List.setIfInBounds_toArray, List.set_cons_zero, List.set_cons_succ]
          refine takeD (i := 5) (oi := _) (v := ?vv32) (d := some 62) rfl (by kernel_rfl) (by kernel_rfl) (by kernel_rfl) (by kernel_rfl) (fun _ _ _ h => h) (Or.inl ⟨by kernel_rfl, ?_⟩) (by assumption) ?_
          rotate_left 1
          · intro W_ hSw; (try dsimp only at hSw); go_simp; (first | done | with_reducible rfl)
          try simp only [Act.put, List.setIfInBounds_toArray, List.set_cons_zero, List.set_cons_succ]
          refine wpAnyH_ready (rs := [0, 6]) (by kernel_rfl) (by simp) ?_
          refine AllReadyH.cons (o := _) rfl (fun K hK => ?_) (AllReadyH.cons (o := _) rfl (fun K hK => ?_) AllReadyH.nil)
          · go_simp
            refine hK.out _ _ ?_ (fun hHeld => ?_)
            · exact hHeld
            clear hK K
            try simp only [Act.put]
            try simp only [List.setIfInBounds_toArray]
            try simp only [List.set_cons_succ]
            try simp only [List.set_cons_zero]
            refine wpAnyH_ready (rs := [6]) (by kernel_rfl) (by simp) ?_
            refine AllReadyH.cons (o := _) rfl (fun K hK => ?_) AllReadyH.nil
            go_simp
            refine hK.out _ _ ?_ (fun hHeld => ?_)
            · exact ⟨cell_al _ hHeld.1, cell_al _ hHeld.2⟩
            clear hK K
            try simp only [Act.put]
            try simp only [List.setIfInBounds_toArray]
            try simp only [List.set_cons_succ]
            try simp only [List.set_cons_zero]
            refine takeD (i := 7) (oi := _) (v := ?vv33) (d := some 64) rfl (by kernel_rfl) (by kernel_rfl) (by kernel_rfl) (by kernel_rfl) (fun _ _ _ h => h) (Or.inl ⟨by kernel_rfl, ?_⟩) (by assumption) ?_
            rotate_left 1
            · intro W_ hSw; (try dsimp only at hSw); go_simp; (first | done | with_reducible rfl)
            try simp only [Act.put, List.setIfInBounds_toArray, List.set_cons_zero, List.set_cons_succ]
            refine wpAnyH_ready (rs := [8]) (by kernel_rfl) (by simp) ?_
            refine AllReadyH.cons (o := _) rfl (fun K hK => ?_) AllReadyH.nil
            go_simp
            refine hK.out _ _ ?_ (fun hHeld => ?_)
            · exact ⟨cell_al _ hHeld.1, cell_al _ hHeld.2⟩
            clear hK K
            try simp only [Act.put]
            try simp only [List.setIfInBounds_toArray]
            try simp only [List.set_cons_succ]
            try simp only [List.set_cons_zero]
            refine wpAnyH_ready (rs := [9]) (by kernel_rfl) (by simp) ?_
            refine AllReadyH.cons (o := _) rfl (fun K hK => ?_) AllReadyH.nil
            (refine step_append_recs (f := Blk.cells) (s := 2) _ rfl (.tmp 57) (.tmp 65) 26 rfl (fun _ => rfl) (by decide) blk_one w0.heap.size 34 iB _ 32 Try.underlying26 hifB hb0 hb1 hb2 (by decide) rfl (.slice (some ⟨gl, 0, none⟩) nb cl) bl rfl hrowW _ _ [Blk.mk (x : Int) [bx] (some ⟨W.heap.size, 0, none⟩) 1] 1 1 rfl rfl ((Recs.lits (f := Blk.cells) (s := 2) (fun _ => rfl) (by decide) _ _ _ _ _ _ rfl (by simp) (Nat.lt_succ_self _)).below (Below.refl _ _).drew) (by simp) (by have := hfine.len; rw [List.length_map] at this; omega) (by have := hV.size; omega) ?_)
            intro A' c' w1 o1 g1 b1
            rw [← hsl] at g1
            have hln : (bl ++ [Blk.mk (x : Int) [bx] (some ⟨W.heap.size, 0, none⟩) 1]).length = bl.length + 1 := by simp
            rw [hln] at o1 ⊢
            refine hK.out _ _ ?_ (fun hHeld => ?_)
            · exact ⟨(b1.cell (p := ⟨w.heap.size, 0, none⟩) (by show w.heap.size < w0.heap.size; omega)).trans hHeld.1, (b1.cell (p := ⟨bb, ob + x, none⟩) (by show bb < w0.heap.size; omega)).trans hHeld.2⟩
            clear hK K
            have d6 := (b1.cell (p := ⟨w.heap.size + 1, 0, none⟩) hz6).trans hDV.box.cell
            have e6 := (b1.frozen (p := ⟨w.heap.size + 1, 0, none⟩) hz6).trans hDV.box.frozen
            try simp only [Act.put, List.setIfInBounds_toArray, List.set_cons_zero, List.set_cons_succ]
            refine wpAnyH_ready (rs := [10]) (by kernel_rfl) (by simp) ?_
            refine AllReadyH.cons (o := _) rfl (fun K hK => ?_) AllReadyH.nil
            have hq3 : bb ≠ w.heap.size + 1 := by omega
            go_simp
            refine hK.out _ _ ?_ (fun hHeld => ?_)
            · exact ⟨by simp [go_sem, hHeld.1], by simp [go_sem, hq3, hHeld.2]⟩
            clear hK K
            try simp only [Act.put]
            try simp only [List.setIfInBounds_toArray]
            try simp only [List.set_cons_succ]
            try simp only [List.set_cons_zero]
            refine wpAnyH_done (by kernel_rfl) ?_ _
            have hrk := round_keeps (gs := w.heap.size + 1) (i := 0) hV hDV.row g1 b1 hN (fun o ho => by rw [show W.heap[w.heap.size + 1]? = _ from hD.box] at ho; obtain rfl := Option.some.inj ho; rfl) (.slice A' (bl.length + 1) c')
            have hDP := hDV.push hz6 owV hfr (A' := A') (c' := c') g1 (by rw [hln]; exact o1)
            rw [hln] at hDP
            have hBW := bel_set (hB.trans ((hV.mono (by omega)).trans (b1.mono (by omega)))) (p := ⟨w.heap.size + 1, 0, none⟩) (by show w.heap.size ≤ w.heap.size + 1; omega) (.slice A' (bl.length + 1) c')
            have hNW : w0.heap.size ≤ (w1.setCell ⟨w.heap.size + 1, 0, none⟩ (.slice A' (bl.length + 1) c')).heap.size := by have h1 := hV.size; have h2 := g1.size; rw [show (w1.setCell ⟨w.heap.size + 1, 0, none⟩ (.slice A' (bl.length + 1) c')).heap.size = w1.heap.size by simp]; omega
            have hbx := (show _ = _ from hrk.2 w.heap.size (by omega) (by omega)).trans h3
            have hkj : KeepJ (w.heap.size + 2) (w.heap.size + 3) ba bb W (w1.setCell ⟨w.heap.size + 1, 0, none⟩ (.slice A' (bl.length + 1) c')) := fun j hj => hrk.2 j (by omega) (by omega)
            have HFIN := Lib.hid (And.intro hrk.1 (And.intro hkj (And.intro hDP (And.intro hPR (And.intro hbx (And.intro hBW hNW))))))
            clear hrk hkj hDP hbx hBW hNW
            unfold onward
            gi_wp2
            have hfin := HFIN.out
            exact ⟨HK0.out _ hfin.1, HJ0.out _ hfin.2.1, ⟨_, _, _, hfin.2.2.1, hfin.2.2.2.1, hfin.2.2.2.2.1, hfin.2.2.2.2.2.1, hfin.2.2.2.2.2.2⟩⟩
          · go_simp
            refine hK.out _ _ ?_ (fun hHeld => ?_)
            · exact ⟨cell_al _ hHeld.1, cell_al _ hHeld.2⟩
            clear hK K
            try simp only [Act.put]
            try simp only [List.setIfInBounds_toArray]
            try simp only [List.set_cons_succ]
            try simp only [List.set_cons_zero]
            refine takeD (i := 7) (oi := _) (v := ?vv34) (d := some 64) rfl (by kernel_rfl) (by kernel_rfl) (by kernel_rfl) (by kernel_rfl) (fun _ _ _ h => h) (Or.inl ⟨by kernel_rfl, ?_⟩) (by assumption) ?_
            rotate_left 1
            · intro W_ hSw; (try dsimp only at hSw); go_simp; (first | done | with_reducible rfl)
            try simp only [Act.put, List.setIfInBounds_toArray, List.set_cons_zero, List.set_cons_succ]
            refine wpAnyH_ready (rs := [0, 8]) (by kernel_rfl) (by simp) ?_
            refine AllReadyH.cons (o := _) rfl (fun K hK => ?_) (AllReadyH.cons (o := _) rfl (fun K hK => ?_) AllReadyH.nil)
            · go_simp
              refine hK.out _ _ ?_ (fun hHeld => ?_)
              · exact hHeld
              clear hK K
              try simp only [Act.put]
              try simp only [List.setIfInBounds_toArray]
              try simp only [List.set_cons_succ]
              try simp only [List.set_cons_zero]
              refine wpAnyH_ready (rs := [8]) (by kernel_rfl) (by simp) ?_
              refine AllReadyH.cons (o := _) rfl (fun K hK => ?_) AllReadyH.nil
              go_simp
              refine hK.out _ _ ?_ (fun hHeld => ?_)
              · exact ⟨cell_al _ hHeld.1, cell_al _ hHeld.2⟩
              clear hK K
              try simp only [Act.put]
              try simp only [List.setIfInBounds_toArray]
              try simp only [List.set_cons_succ]
              try simp only [List.set_cons_zero]
              refine wpAnyH_ready (rs := [9]) (by kernel_rfl) (by simp) ?_
              refine AllReadyH.cons (o := _) rfl (fun K hK => ?_) AllReadyH.nil
              (refine step_append_recs (f := Blk.cells) (s := 2) _ rfl (.tmp 57) (.tmp 65) 26 rfl (fun _ => rfl) (by decide) blk_one w0.heap.size 34 iB _ 32 Try.underlying26 hifB hb0 hb1 hb2 (by decide) rfl (.slice (some ⟨gl, 0, none⟩) nb cl) bl rfl hrowW _ _ [Blk.mk (x : Int) [bx] (some ⟨W.heap.size, 0, none⟩) 1] 1 1 rfl rfl ((Recs.lits (f := Blk.cells) (s := 2) (fun _ => rfl) (by decide) _ _ _ _ _ _ rfl (by simp) (Nat.lt_succ_self _)).below (Below.refl _ _).drew) (by simp) (by have := hfine.len; rw [List.length_map] at this; omega) (by have := hV.size; omega) ?_)
              intro A' c' w1 o1 g1 b1
              rw [← hsl] at g1
              have hln : (bl ++ [Blk.mk (x : Int) [bx] (some ⟨W.heap.size, 0, none⟩) 1]).length = bl.length + 1 := by simp
              rw [hln] at o1 ⊢
              refine hK.out _ _ ?_ (fun hHeld => ?_)
              · exact ⟨(b1.cell (p := ⟨w.heap.size, 0, none⟩) (by show w.heap.size < w0.heap.size; omega)).trans hHeld.1, (b1.cell (p := ⟨bb, ob + x, none⟩) (by show bb < w0.heap.size; omega)).trans hHeld.2⟩
              clear hK K
              have d6 := (b1.cell (p := ⟨w.heap.size + 1, 0, none⟩) hz6).trans hDV.box.cell
              have e6 := (b1.frozen (p := ⟨w.heap.size + 1, 0, none⟩) hz6).trans hDV.box.frozen
              try simp only [Act.put, List.setIfInBounds_toArray, List.set_cons_zero, List.set_cons_succ]
              refine wpAnyH_ready (rs := [10]) (by kernel_rfl) (by simp) ?_
              refine AllReadyH.cons (o := _) rfl (fun K hK => ?_) AllReadyH.nil
              have hq3 : bb ≠ w.heap.size + 1 := by omega
              go_simp
              refine hK.out _ _ ?_ (fun hHeld => ?_)
              · exact ⟨by simp [go_sem, hHeld.1], by simp [go_sem, hq3, hHeld.2]⟩
              clear hK K
              try simp only [Act.put]
              try simp only [List.setIfInBounds_toArray]
              try simp only [List.set_cons_succ]
              try simp only [List.set_cons_zero]
              refine wpAnyH_done (by kernel_rfl) ?_ _
              have hrk := round_keeps (gs := w.heap.size + 1) (i := 0) hV hDV.row g1 b1 hN (fun o ho => by rw [show W.heap[w.heap.size + 1]? = _ from hD.box] at ho; obtain rfl := Option.some.inj ho; rfl) (.slice A' (bl.length + 1) c')
              have hDP := hDV.push hz6 owV hfr (A' := A') (c' := c') g1 (by rw [hln]; exact o1)
              rw [hln] at hDP
              have hBW := bel_set (hB.trans ((hV.mono (by omega)).trans (b1.mono (by omega)))) (p := ⟨w.heap.size + 1, 0, none⟩) (by show w.heap.size ≤ w.heap.size + 1; omega) (.slice A' (bl.length + 1) c')
              have hNW : w0.heap.size ≤ (w1.setCell ⟨w.heap.size + 1, 0, none⟩ (.slice A' (bl.length + 1) c')).heap.size := by have h1 := hV.size; have h2 := g1.size; rw [show (w1.setCell ⟨w.heap.size + 1, 0, none⟩ (.slice A' (bl.length + 1) c')).heap.size = w1.heap.size by simp]; omega
              have hbx := (show _ = _ from hrk.2 w.heap.size (by omega) (by omega)).trans h3
              have hkj : KeepJ (w.heap.size + 2) (w.heap.size + 3) ba bb W (w1.setCell ⟨w.heap.size + 1, 0, none⟩ (.slice A' (bl.length + 1) c')) := fun j hj => hrk.2 j (by omega) (by omega)
              have HFIN := Lib.hid (And.intro hrk.1 (And.intro hkj (And.intro hDP (And.intro hPR (And.intro hbx (And.intro hBW hNW))))))
              clear hrk hkj hDP hbx hBW hNW
              unfold onward
              gi_wp2
              have hfin := HFIN.out
              exact ⟨HK0.out _ hfin.1, HJ0.out _ hfin.2.1, ⟨_, _, _, hfin.2.2.1, hfin.2.2.2.1, hfin.2.2.2.2.1, hfin.2.2.2.2.2.1, hfin.2.2.2.2.2.2⟩⟩
            · go_simp
              refine hK.out _ _ ?_ (fun hHeld => ?_)
              · exact ⟨cell_al _ hHeld.1, cell_al _ hHeld.2⟩
              clear hK K
              try simp only [Act.put]
              try simp only [List.setIfInBounds_toArray]
              try simp only [List.set_cons_succ]
              try simp only [List.set_cons_zero]
              refine wpAnyH_ready (rs := [0]) (by kernel_rfl) (by simp) ?_
              refine AllReadyH.cons (o := _) rfl (fun K hK => ?_) AllReadyH.nil
              go_simp
              refine hK.out _ _ ?_ (fun hHeld => ?_)
              · exact hHeld
              clear hK K
              try simp only [Act.put]
              try simp only [List.setIfInBounds_toArray]
              try simp only [List.set_cons_succ]
              try simp only [List.set_cons_zero]
              refine wpAnyH_ready (rs := [9]) (by kernel_rfl) (by simp) ?_
              refine AllReadyH.cons (o := _) rfl (fun K hK => ?_) AllReadyH.nil
              (refine step_append_recs (f := Blk.cells) (s := 2) _ rfl (.tmp 57) (.tmp 65) 26 rfl (fun _ => rfl) (by decide) blk_one w0.heap.size 34 iB _ 32 Try.underlying26 hifB hb0 hb1 hb2 (by decide) rfl (.slice (some ⟨gl, 0, none⟩) nb cl) bl rfl hrowW _ _ [Blk.mk (x : Int) [bx] (some ⟨W.heap.size, 0, none⟩) 1] 1 1 rfl rfl ((Recs.lits (f := Blk.cells) (s := 2) (fun _ => rfl) (by decide) _ _ _ _ _ _ rfl (by simp) (Nat.lt_succ_self _)).below (Below.refl _ _).drew) (by simp) (by have := hfine.len; rw [List.length_map] at this; omega) (by have := hV.size; omega) ?_)
              intro A' c' w1 o1 g1 b1
              rw [← hsl] at g1
              have hln : (bl ++ [Blk.mk (x : Int) [bx] (some ⟨W.heap.size, 0, none⟩) 1]).length = bl.length + 1 := by simp
              rw [hln] at o1 ⊢
              refine hK.out _ _ ?_ (fun hHeld => ?_)
              · exact ⟨(b1.cell (p := ⟨w.heap.size, 0, none⟩) (by show w.heap.size < w0.heap.size; omega)).trans hHeld.1, (b1.cell (p := ⟨bb, ob + x, none⟩) (by show bb < w0.heap.size; omega)).trans hHeld.2⟩
              clear hK K
              have d6 := (b1.cell (p := ⟨w.heap.size + 1, 0, none⟩) hz6).trans hDV.box.cell
              have e6 := (b1.frozen (p := ⟨w.heap.size + 1, 0, none⟩) hz6).trans hDV.box.frozen
              try simp only [Act.put, List.setIfInBounds_toArray, List.set_cons_zero, List.set_cons_succ]
              refine wpAnyH_ready (rs := [10]) (by kernel_rfl) (by simp) ?_
              refine AllReadyH.cons (o := _) rfl (fun K hK => ?_) AllReadyH.nil
              have hq3 : bb ≠ w.heap.size + 1 := by omega
              go_simp
              refine hK.out _ _ ?_ (fun hHeld => ?_)
              · exact ⟨by simp [go_sem, hHeld.1], by simp [go_sem, hq3, hHeld.2]⟩
              clear hK K
              try simp only [Act.put]
              try simp only [List.setIfInBounds_toArray]
              try simp only [List.set_cons_succ]
              try simp only [List.set_cons_zero]
              refine wpAnyH_done (by kernel_rfl) ?_ _
              have hrk := round_keeps (gs := w.heap.size + 1) (i := 0) hV hDV.row g1 b1 hN (fun o ho => by rw [show W.heap[w.heap.size + 1]? = _ from hD.box] at ho; obtain rfl := Option.some.inj ho; rfl) (.slice A' (bl.length + 1) c')
              have hDP := hDV.push hz6 owV hfr (A' := A') (c' := c') g1 (by rw [hln]; exact o1)
              rw [hln] at hDP
              have hBW := bel_set (hB.trans ((hV.mono (by omega)).trans (b1.mono (by omega)))) (p := ⟨w.heap.size + 1, 0, none⟩) (by show w.heap.size ≤ w.heap.size + 1; omega) (.slice A' (bl.length + 1) c')
              have hNW : w0.heap.size ≤ (w1.setCell ⟨w.heap.size + 1, 0, none⟩ (.slice A' (bl.length + 1) c')).heap.size := by have h1 := hV.size; have h2 := g1.size; rw [show (w1.setCell ⟨w.heap.size + 1, 0, none⟩ (.slice A' (bl.length + 1) c')).heap.size = w1.heap.size by simp]; omega
              have hbx := (show _ = _ from hrk.2 w.heap.size (by omega) (by omega)).trans h3
              have hkj : KeepJ (w.heap.size + 2) (w.heap.size + 3) ba bb W (w1.setCell ⟨w.heap.size + 1, 0, none⟩ (.slice A' (bl.length + 1) c')) := fun j hj => hrk.2 j (by omega) (by omega)
              have HFIN := Lib.hid (And.intro hrk.1 (And.intro hkj (And.intro hDP (And.intro hPR (And.intro hbx (And.intro hBW hNW))))))
              clear hrk hkj hDP hbx hBW hNW
              unfold onward
              gi_wp2
              have hfin := HFIN.out
              exact ⟨HK0.out _ hfin.1, HJ0.out _ hfin.2.1, ⟨_, _, _, hfin.2.2.1, hfin.2.2.2.1, hfin.2.2.2.2.1, hfin.2.2.2.2.2.1, hfin.2.2.2.2.2.2⟩⟩
      · have g1 : decide ((e : Int) + 1 < (x : Int)) = false := decide_eq_false (by omega)
        have g2 : decide (14 ≤ (x : Int) - (a0 : Int)) = false := decide_eq_false (by omega)
        have hyb : yy ∈ bl := by rw [hbly]; simp
        have how0 := hD.own yy hyb
        rw [hq] at how0
        have how : W.drew.ownsRow w0.heap.size 25 1 (.slice yy.A q yy.c) q (yy.ws.map u16w) := how0.kept (w' := W.drew) (row := none) ⟨rfl, rfl, rfl, Nat.le_refl _, fun _ _ _ => rfl⟩ (by cases yy.A <;> simp [Value.ownBlock])
        have hDd := hD.kept (W' := W.drew) (row := none) ⟨rfl, rfl, rfl, Nat.le_refl _, fun _ _ _ => rfl⟩ (fun r e => by cases e)
        obtain ⟨k, hk⟩ : ∃ k, x + 1 - e = k := ⟨_, rfl⟩
        obtain ⟨ds, hds⟩ : ∃ ds, (b.drop e).take k = ds := ⟨_, rfl⟩
        have hdl : ds.length = k := by rw [← hds, List.length_take, List.length_drop, hb64]; omega
        have hnews : ∀ (j : Nat) (u : Value), (ds.map u16w)[j]? = some u → W.drew.cell? ((⟨bb, ob + e, none⟩ : Addr).add j) = some u := by
          intro j u hu
          have hj : j < k := by have := (List.getElem?_eq_some_iff.1 hu).1; rwa [List.length_map, hdl] at this
          have hadd : (⟨bb, ob + e, none⟩ : Addr).add j = ⟨bb, ob + (e + j), none⟩ := by unfold Addr.add; split <;> simp_all [Nat.add_assoc]
          rw [hadd]
          have h1 := (hB.cell (p := ⟨bb, ob + (e + j), none⟩) hbb).trans (hb (e + j) (by omega))
          rw [List.getElem?_map, ← hds, List.getElem?_take_of_lt hj, List.getElem?_drop] at hu
          cases hbj : b[e + j]? with
          | none => rw [hbj] at hu; cases hu
          | some v =>
            rw [hbj] at hu h1
            have : u16w v = u := by simpa using hu
            rw [← this]
            exact h1
        have hglN := (own_ge hD.row _ rfl).1
        have hq1 : w.heap.size + 1 ≠ gl := by have : w0.heap.size ≤ gl := hglN; omega
        have hq2 : w.heap.size ≠ gl := by have : w0.heap.size ≤ gl := hglN; omega
        obtain ⟨x1, hx1e⟩ : ∃ x1, x + 1 = x1 := ⟨_, rfl⟩
        have hwr : IntKind.i64.wrap ((x : Int) + 1) = (x1 : Int) := by rw [IntKind.wrap_i64]; omega
        have hx2 : x1 ≤ cb_ := by omega
        have hx2I : (x1 : Int) ≤ (cb_ : Int) := by omega
        have hx3 : e ≤ x1 := by omega
        have hx4 : (0 : Int) ≤ (x1 : Int) := by omega
        rw [hx1e] at hk
        have hqk : q + k ≤ 64 := by omega
        have HX1E := Lib.hid hx1e
        clear hx1e
        have hce : ¬ cb_ = e := by omega
        obtain ⟨iw, hifw, hw0', hw1', hw2'⟩ := info_parts info_w16'
        gi_wp2
        refine wpIn_region_round (S := fun w' => w'.cell? ⟨w.heap.size + 1, 0, none⟩ = some (.slice (some ⟨gl, 0, none⟩) nb cl) ∧ w'.cell? ⟨w.heap.size, 0, none⟩ = some (.slice (some ⟨bb, ob, none⟩) 64 cb_)) hmix (by kernel_rfl) ⟨c6, c3⟩ (fun hHeld => ?_)
        refine takeD (i := 0) (oi := _) (v := ?vv35) (d := some 67) rfl (by kernel_rfl) (by kernel_rfl) (by kernel_rfl) (by kernel_rfl) (fun _ _ _ h => h) (Or.inl ⟨by kernel_rfl, ?_⟩) (by assumption) ?_
        rotate_left 1
        · intro W_ hSw; (try dsimp only at hSw); go_simp; (first | done | with_reducible rfl)
        try simp only [Act.put, List.setIfInBounds_toArray, List.set_cons_zero, List.set_cons_succ]
        refine takeD (i := 1) (oi := _) (v := ?vv36) (d := some 68) rfl (by kernel_rfl) (by kernel_rfl) (by kernel_rfl) (by kernel_rfl) (fun _ _ _ h => h) (Or.inl ⟨by kernel_rfl, ?_⟩) (by assumption) ?_
        rotate_left 1
        · intro W_ hSw; (try dsimp only at hSw); go_simp; (first | done | with_reducible rfl)
        try simp only [Act.put, List.setIfInBounds_toArray, List.set_cons_zero, List.set_cons_succ]
        refine takeD (i := 2) (oi := _) (v := ?vv37) (d := some 69) rfl (by kernel_rfl) (by kernel_rfl) (by kernel_rfl) (by kernel_rfl) (fun _ _ _ h => h) (Or.inl ⟨by kernel_rfl, ?_⟩) (by assumption) ?_
        rotate_left 1
        · intro W_ hSw; (try dsimp only at hSw); go_simp; (first | done | with_reducible rfl)
        try simp only [Act.put, List.setIfInBounds_toArray, List.set_cons_zero, List.set_cons_succ]
        refine takeD (i := 3) (oi := _) (v := ?vv38) (d := some 70) rfl (by kernel_rfl) (by kernel_rfl) (by kernel_rfl) (by kernel_rfl) (fun _ _ _ h => h) (Or.inl ⟨by kernel_rfl, ?_⟩) (by assumption) ?_
        rotate_left 1
        · intro W_ hSw; (try dsimp only at hSw); go_simp; (first | done | with_reducible rfl)
        try simp only [Act.put, List.setIfInBounds_toArray, List.set_cons_zero, List.set_cons_succ]
        refine takeD (i := 4) (oi := _) (v := ?vv39) (d := some 71) rfl (by kernel_rfl) (by kernel_rfl) (by kernel_rfl) (by kernel_rfl) (fun _ _ _ h => h) (Or.inl ⟨by kernel_rfl, ?_⟩) (by assumption) ?_
        rotate_left 1
        · intro W_ hSw; (try dsimp only at hSw); go_simp; (first | done | with_reducible rfl)
        try simp only [Act.put, List.setIfInBounds_toArray, List.set_cons_zero, List.set_cons_succ]
        refine takeD (i := 5) (oi := _) (v := ?vv40) (d := some 72) rfl (by kernel_rfl) (by kernel_rfl) (by kernel_rfl) (by kernel_rfl) (fun _ _ _ h => h) (Or.inl ⟨by kernel_rfl, ?_⟩) (by assumption) ?_
        rotate_left 1
        · intro W_ hSw; (try dsimp only at hSw); go_simp; (first | done | with_reducible rfl)
        try simp only [Act.put, List.setIfInBounds_toArray, List.set_cons_zero, List.set_cons_succ]
        refine takeD (i := 7) (oi := _) (v := ?vv41) (d := some 74) rfl (by kernel_rfl) (by kernel_rfl) (by kernel_rfl) (by kernel_rfl) (fun _ _ _ h => h) (Or.inl ⟨by kernel_rfl, ?_⟩) (by assumption) ?_
        rotate_left 1
        · intro W_ hSw; (try dsimp only at hSw); go_simp; (first | done | with_reducible rfl)
        try simp only [Act.put, List.setIfInBounds_toArray, List.set_cons_zero, List.set_cons_succ]
        refine takeD (i := 8) (oi := _) (v := ?vv42) (d := some 75) rfl (by kernel_rfl) (by kernel_rfl) (by kernel_rfl) (by kernel_rfl) (fun _ _ _ h => h) (Or.inl ⟨by kernel_rfl, ?_⟩) (by assumption) ?_
        rotate_left 1
        · intro W_ hSw; (try dsimp only at hSw); go_simp; (first | done | with_reducible rfl)
        try simp only [Act.put, List.setIfInBounds_toArray, List.set_cons_zero, List.set_cons_succ]
        refine takeD (i := 9) (oi := _) (v := ?vv43) (d := some 76) rfl (by kernel_rfl) (by kernel_rfl) (by kernel_rfl) (by kernel_rfl) (fun _ _ _ h => h) (Or.inl ⟨by kernel_rfl, ?_⟩) (by assumption) ?_
        rotate_left 1
        · intro W_ hSw; (try dsimp only at hSw); go_simp; (first | done | with_reducible rfl)
        try simp only [Act.put, List.setIfInBounds_toArray, List.set_cons_zero, List.set_cons_succ]
        refine takeD (i := 10) (oi := _) (v := ?vv44) (d := some 77) rfl (by kernel_rfl) (by kernel_rfl) (by kernel_rfl) (by kernel_rfl) (fun _ _ _ h => h) (Or.inl ⟨by kernel_rfl, ?_⟩) (by assumption) ?_
        rotate_left 1
        · intro W_ hSw; (try dsimp only at hSw); go_simp; (first | done | with_reducible rfl)
        try simp only [Act.put, List.setIfInBounds_toArray, List.set_cons_zero, List.set_cons_succ]
        refine takeD (i := 11) (oi := _) (v := ?vv45) (d := some 78) rfl (by kernel_rfl) (by kernel_rfl) (by kernel_rfl) (by kernel_rfl) (fun _ _ _ h => h) (Or.inl ⟨by kernel_rfl, ?_⟩) (by assumption) ?_
        rotate_left 1
        · intro W_ hSw; (try dsimp only at hSw); go_simp; (first | done | with_reducible rfl)
        try simp only [Act.put, List.setIfInBounds_toArray, List.set_cons_zero, List.set_cons_succ]
        refine wpAnyH_ready (rs := [6]) (by kernel_rfl) (by simp) ?_
        refine AllReadyH.cons (o := _) rfl (fun K hK => ?_) AllReadyH.nil
        go_simp
        refine hK.out _ _ ?_ (fun hHeld => ?_)
        · exact hHeld
        clear hK K
        try simp only [Act.put]
        try simp only [List.setIfInBounds_toArray]
        try simp only [List.set_cons_succ]
        try simp only [List.set_cons_zero]
        refine wpAnyH_ready (rs := [12]) (by kernel_rfl) (by simp) ?_
        refine AllReadyH.cons (o := _) rfl (fun K hK => ?_) AllReadyH.nil
        (refine step_append_own_at rfl (.tmp 73) (.tmp 78) 22 rfl w0.heap.size 25 iw _ 1 2 Try.underlying22 hifw hw0' hw1' hw2' rfl (by decide) (.slice yy.A q yy.c) q (yy.ws.map u16w) rfl how ⟨bb, ob + e, none⟩ k (cb_ - e) (ds.map u16w) ?xval (by rw [List.length_map, hdl, Nat.mul_one]) hnews (by intro u hu; obtain ⟨z, _, rfl⟩ := List.mem_map.1 hu; rfl) (by unfold maxLen; omega) (by omega) hN ?_)
        · rfl
        intro A' c' w1 o1 g1 at1
        have hte : 25 ≠ 34 := by decide
        have b1 : Below w0.heap.size W.drew w1 := (Below.refl _ _).grown g1 hN (fun r hr => by obtain ⟨p, hp, hb⟩ := ownBlk_slice _ _ _ r hr; have := (own_ge how p hp).1; omega)
        refine hK.out _ _ ?_ (fun hHeld => ?_)
        · exact ⟨(b1.cell (p := ⟨w.heap.size + 1, 0, none⟩) hz6).trans hHeld.1, (b1.cell (p := ⟨w.heap.size, 0, none⟩) (by show w.heap.size < w0.heap.size; omega)).trans hHeld.2⟩
        clear hK K
        try simp only [Act.put, List.setIfInBounds_toArray, List.set_cons_zero, List.set_cons_succ]
        refine takeD (i := 13) (oi := _) (v := ?vv46) (d := some 80) rfl (by kernel_rfl) (by kernel_rfl) (by kernel_rfl) (by kernel_rfl) (fun _ _ _ h => h) (Or.inl ⟨by kernel_rfl, ?_⟩) (by assumption) ?_
        rotate_left 1
        · intro W_ hSw; (try dsimp only at hSw); go_simp; (first | done | with_reducible rfl)
        try simp only [Act.put, List.setIfInBounds_toArray, List.set_cons_zero, List.set_cons_succ]
        refine takeD (i := 14) (oi := _) (v := ?vv47) (d := some 81) rfl (by kernel_rfl) (by kernel_rfl) (by kernel_rfl) (by kernel_rfl) (fun _ _ _ h => h) (Or.inl ⟨by kernel_rfl, ?_⟩) (by assumption) ?_
        rotate_left 1
        · intro W_ hSw; (try dsimp only at hSw); go_simp; (first | done | with_reducible rfl)
        try simp only [Act.put, List.setIfInBounds_toArray, List.set_cons_zero, List.set_cons_succ]
        have hrow1 := hDd.row.kept g1 (own_apart hDd.row how hte.symm)
        have hgw1 : w1.heap[gl]? = W.drew.heap[gl]? := g1.block gl (own_ge hDd.row _ rfl).2.1 (fun e1 => by rcases own_apart hDd.row how hte.symm with h | h; cases h; exact h e1)
        have d7 : w1.cell? ⟨gl, m * 2 + 1, none⟩ = some (.slice yy.A q yy.c) := (World.cell?_of_block (a := ⟨gl, m * 2 + 1, none⟩) hgw1).trans yw
        have e7 : w1.frozen? ⟨gl, m * 2 + 1, none⟩ = false := own_frozen hrow1 _
        refine wpAnyH_ready (rs := [15]) (by kernel_rfl) (by simp) ?_
        refine AllReadyH.cons (o := _) rfl (fun K hK => ?_) AllReadyH.nil
        go_simp
        refine hK.out _ _ ?_ (fun hHeld => ?_)
        · exact ⟨by simp [go_sem, hq1, hHeld.1], by simp [go_sem, hq2, hHeld.2]⟩
        clear hK K
        try simp only [Act.put]
        try simp only [List.setIfInBounds_toArray]
        try simp only [List.set_cons_succ]
        try simp only [List.set_cons_zero]
        refine wpAnyH_done (by kernel_rfl) ?_ _
        have hln : (yy.ws ++ ds).length = q + k := by rw [List.length_append, hq, hdl]
        have hD2 : DM W.drew w0.heap.size (w.heap.size + 1) (init ++ [yy]) (some ⟨gl, 0, none⟩) cl := by rw [← hbly]; exact hDd
        have hDE := hD2.extend hz6 (by obtain ⟨g, h, _⟩ := own_some how hfy2.1; exact ⟨_, h⟩) (ds := ds) (A' := A') (c' := c') (by rw [hq]; exact g1) (by rw [hln, List.map_append]; exact o1) (by rw [hln, hq]; exact at1)
        rw [hln, hm] at hDE
        have hrk := round_keeps (W := W) (gs := gl) (i := m * 2 + 1) ((Below.refl _ _).drew) how g1 b1 hN (own_isCells hD.row) (.slice A' (q + k) c')
        have hPR : prs (init ++ [Blk.mk yy.a (yy.ws ++ ds) A' c']) = dif b (pre ++ [x]) := by
          rw [dif_snoc, ← hbl, dstep, hlastp]
          dsimp only
          rw [if_neg (by show ¬ (yy.a + (yy.ws.length : Int) + 1 < _ ∨ 14 ≤ _ - yy.a); rw [ha0, hq]; omega)]
          have h9 : (yy.pr.1 + (yy.pr.2.length : Int)).toNat = e := by show (yy.a + (yy.ws.length : Int)).toNat = e; rw [ha0, hq]; omega
          rw [h9, HX1E.out, hk, hds, hbly]
          simp [prs]
        have hBW := bel_set (hB.drew.trans (b1.mono (by omega))) (p := ⟨gl, m * 2 + 1, none⟩) (by show w.heap.size ≤ gl; have : w0.heap.size ≤ gl := hglN; omega) (.slice A' (q + k) c')
        have hNW : w0.heap.size ≤ (w1.setCell ⟨gl, m * 2 + 1, none⟩ (.slice A' (q + k) c')).heap.size := by have h2 := b1.size; rw [show (w1.setCell ⟨gl, m * 2 + 1, none⟩ (.slice A' (q + k) c')).heap.size = w1.heap.size by simp]; have h3 : W.drew.heap.size = W.heap.size := rfl; omega
        have hglN' : w0.heap.size ≤ gl := hglN
        have hbx := (show _ = _ from hrk.2 w.heap.size (by omega) (by omega)).trans h3
        have hkj : KeepJ (w.heap.size + 2) (w.heap.size + 3) ba bb W (w1.setCell ⟨gl, m * 2 + 1, none⟩ (.slice A' (q + k) c')) := fun j hj => hrk.2 j (by omega) (by omega)
        have HFIN := Lib.hid (And.intro hrk.1 (And.intro hkj (And.intro hDE (And.intro hPR (And.intro hbx (And.intro hBW hNW))))))
        clear hrk hkj hDE hbx hBW hNW hPR
        unfold onward
        gi_wp2
        have hfin := HFIN.out
        exact ⟨HK0.out _ hfin.1, HJ0.out _ hfin.2.1, ⟨_, _, _, hfin.2.2.1, hfin.2.2.2.1, hfin.2.2.2.2.1, hfin.2.2.2.2.2.1, hfin.2.2.2.2.2.2⟩⟩
  case done =>
    rintro D ys W hDs hys hI hK
    obtain ⟨bl, Al, cl, hD, hbl, h3, hB, hN⟩ := hI
    rw [hys] at hbl
    have c6 := hD.box.cell
    have HD := Lib.hid hD
    have HB := Lib.hid hB
    have HBL := Lib.hid hbl
    clear hD hB hbl h3
    gi_wp2
    refine ⟨by simp, .inl ⟨_, _, rfl, run_takeDeferred hK, ?_⟩⟩
    have hT := HD.out.turned (grownBy_putObj' W D (.deferred none)) (fun r e => by cases e; exact ⟨_, hK, rfl⟩)
    have hlow : w.heap.size ≤ w0.heap.size := by omega
    exact ⟨_, results_tmp2 rfl _ _ _, HB.out.trans (belowK_b (w := w) (Nat.le_refl _) W D _ _ (by omega) hK rfl rfl), bl, Al, cl, rfl, HBL.out, own_more hT.row hlow, fun y hy => own_more (hT.own y hy) hlow⟩
end Go.Proofs.Ytkilpiiljpeamaa
