/- The chapter's examples: awake. -/
import Derived.Test.YtkilpiiljpeamaaDiffAll
import Derived.Test.YtkilpiiljpeamaaLow17b
namespace Go.Proofs.Ytkilpiiljpeamaa
open Go.RowKit
set_option linter.unusedVariables false
attribute [local go_sem] Later.cell Later.frozen setCell_twice
abbrev aw1 (w : World) : Blk := ⟨3, [1, 2], some ⟨w.heap.size, 0, none⟩, 2⟩
abbrev aw2 (w : World) : Blk := ⟨4, [9], some ⟨w.heap.size + 1, 0, none⟩, 1⟩
abbrev awW (w : World) : World := ((w.alloc (.cells #[.int .u16 1, .int .u16 2] 25)).alloc (.cells #[.int .u16 9] 25)).alloc (.cells #[.int .i64 3, .slice (some ⟨w.heap.size, 0, none⟩) 2 2, .int .i64 4, .slice (some ⟨w.heap.size + 1, 0, none⟩) 1 1] 34)
theorem aw_blks (w : World) : Blks (awW w) (w.heap.size + 3) (some ⟨w.heap.size + 2, 0, none⟩) [aw1 w, aw2 w] := by
  have b1 : Below (w.heap.size + 1) (w.alloc (.cells #[.int .u16 1, .int .u16 2] 25)) (awW w) := ((Below.refl _ _).alloc (by simp) _).alloc (by simp) _
  have b2 : Below (w.heap.size + 2) ((w.alloc (.cells #[.int .u16 1, .int .u16 2] 25)).alloc (.cells #[.int .u16 9] 25)) (awW w) := (Below.refl _ _).alloc (by simp) _
  refine ⟨Recs.lits (f := Blk.cells) (s := 2) (fun _ => rfl) (by decide) ((w.alloc (.cells #[.int .u16 1, .int .u16 2] 25)).alloc (.cells #[.int .u16 9] 25)) [aw1 w, aw2 w] _ 34 (w.heap.size + 2) (w.heap.size + 3) rfl (by simp) (by omega), fun b hb => ?_⟩
  rcases List.mem_cons.1 hb with rfl | hb
  · exact ⟨((Sq.lits (f := u16w) w [1, 2] #[.int .u16 1, .int .u16 2] 25 (0, 0) w.heap.size (w.heap.size + 1) rfl rfl (by omega)).below b1).more (by omega), by simp, by simp, by simp, by simp, by simp, by simp⟩
  · obtain rfl := List.mem_singleton.1 hb
    exact ⟨((Sq.lits (f := u16w) (w.alloc (.cells #[.int .u16 1, .int .u16 2] 25)) [9] #[.int .u16 9] 25 (0, 0) (w.heap.size + 1) (w.heap.size + 2) rfl (by simp) (by omega)).below b2).more (by omega), by simp, by simp, by simp, by simp, by simp, by simp⟩
abbrev awl : List Bk.Pr := [(3, [1, 2]), (4, [9])]
abbrev aw0 : List Nat := List.replicate 64 0
abbrev awa : List Nat := Bk.over aw0 awl
abbrev awb : List Nat := (awa.set 10 7).set 12 7
theorem aw_cells {w : World} {B g c : Nat} (h : w.ownsRow B 25 1 (.slice (some ⟨g, 0, none⟩) 64 c) 64 (awa.map u16w)) : w.cell? ⟨g, 10, none⟩ = some (.int .u16 0) ∧ w.cell? ⟨g, 12, none⟩ = some (.int .u16 0) := by
  have hs : Sq u16w w w.heap.size (some ⟨g, 0, none⟩) awa := Sq.of_own (f := u16w) (l := awa) h
  obtain ⟨b, o, hA, _, hc⟩ := hs (by decide)
  obtain ⟨rfl, rfl⟩ : g = b ∧ 0 = o := by simpa using hA
  exact ⟨hc 10 0 (by decide), hc 12 0 (by decide)⟩
theorem aw_set {w : World} {B g c : Nat} (h : w.ownsRow B 25 1 (.slice (some ⟨g, 0, none⟩) 64 c) 64 (awa.map u16w)) : Sq u16w ((w.setCell ⟨g, 10, none⟩ (.int .u16 7)).setCell ⟨g, 12, none⟩ (.int .u16 7)) w.heap.size (some ⟨g, 0, none⟩) awb := by
  have h1 := own_setS (own_setS h (i := 10) (by decide) (.int .u16 7)) (i := 12) (by decide) (.int .u16 7)
  have h2 : Sq u16w ((w.setCell ⟨g, 10, none⟩ (.int .u16 7)).setCell ⟨g, 12, none⟩ (.int .u16 7)) _ (some ⟨g, 0, none⟩) awb := Sq.of_own (f := u16w) (l := awb) (n := 64) (c := c) (by rw [List.map_set, List.map_set]; exact h1)
  simpa using h2
set_option maxRecDepth 100000 in
set_option maxHeartbeats 1000000 in
theorem awake_any (w : World) : Calls Try.prog 13 #[] w fun e w' => e = .returned (.bool true) ∧ Below w.heap.size w w' := by
  obtain ⟨i0, hif, hz0, hz1, hz2⟩ := info_parts info_w16
  have HBL := Lib.hid (aw_blks w)
  go_enter Try.func13, Try.ntmps13
  go_wp2_with (at_make; go_loud (refine wpList_make_full _ rfl _ _ 22 rfl (w.heap.size + 3) 25 i0 (.int .u16 0) 1 Try.underlying22 hif hz0 hz1 _ _ _ _ 64 rfl rfl rfl rfl (by rw [hz2]; omega) (by unfold Go.maxLen; omega) (by simp) ?_; intro w4 o4 hg4; simp only [World.size_alloc] at o4; have o4' : w4.ownsRow (w.heap.size + 3) 25 1 (.slice (some ⟨w.heap.size + 1 + 1 + 1, 0, none⟩) 64 64) 64 (aw0.map u16w) := (by rw [show aw0 = List.replicate 64 0 from rfl, ← made_w]; exact o4); have S4 := Lib.hid (Sq.of_own (f := u16w) (l := aw0) o4'); have B3 : Below (w.heap.size + 3) (awW w) w4 := (Below.refl _ _).grown hg4 (by simp) (by simp); have L4 := Lib.hid ((HBL.out.below B3).more (by have := B3.size; simp at this; omega)); have B4 : Hid (Below w.heap.size w w4) := Lib.hid ((bel_alloc (bel_alloc (bel_alloc (Below.refl _ w) _) _) _).trans (B3.mono (by omega))); clear hg4 o4 o4' B3))
  refine (over_any _ aw0 64 64 _ [aw1 w, aw2 w] 2 2 w4 S4.out rfl (by simp) rfl L4.out (by decide)).mono ?_
  rintro e w5 ⟨b5, h5⟩
  rw [if_pos (by decide), show prs [aw1 w, aw2 w] = awl from rfl, if_pos (show Bk.fit awl = true by decide)] at h5
  obtain ⟨A5, c5, rfl, o5⟩ := h5
  have B5 := Lib.hid (B4.out.trans (b5.mono B4.out.size))
  have L5 := Lib.hid (L4.out.to b5)
  have O5 := Lib.hid o5
  clear b5 o5 S4 L4 B4
  go_wp2_with fail
  refine (cells_any _ [aw1 w, aw2 w] 2 2 w5 rfl L5.out (by decide)).mono ?_
  rintro e w6 ⟨b6, h6⟩
  rw [show prs [aw1 w, aw2 w] = awl from rfl, if_pos (show Bk.fit awl = true by decide), show Bk.cells awl = [3, 4] by decide] at h6
  obtain ⟨A6, c6, rfl, o6⟩ := h6
  have B6 := Lib.hid (B5.out.trans (b6.mono B5.out.size))
  obtain ⟨g5, o5, rfl, hg5, hc5⟩ := (Sq.of_own (f := u16w) (l := awa) O5.out) (by decide)
  have S5 : Sq u16w w5 w5.heap.size (some ⟨g5, o5, none⟩) awa := Sq.of_own (f := u16w) (l := awa) O5.out
  have S6 := Lib.hid ((S5.below b6).more b6.size)
  have hnc5 : 64 ≤ c5 := (own_nil_c O5.out).2
  have d3 : w6.cell? ⟨g5, o5 + 3, none⟩ = some (.int .u16 1) := (b6.cell (p := ⟨g5, o5 + 3, none⟩) hg5).trans (hc5 3 1 (by decide))
  have d4 : w6.cell? ⟨g5, o5 + 4, none⟩ = some (.int .u16 9) := (b6.cell (p := ⟨g5, o5 + 4, none⟩) hg5).trans (hc5 4 9 (by decide))
  have hg6 : g5 < w6.heap.size := Nat.lt_of_lt_of_le hg5 b6.size
  have Q6 := Lib.hid (show Sq intv w6 w6.heap.size A6 [(3 : Int), 4] from Sq.of_own (f := intv) (l := [3, 4]) o6)
  clear b6 o6 O5 L5 B5 S5 hc5 hg5
  simp only [List.length_cons, List.length_nil, Nat.reduceAdd]
  go_wp2_with fail
  refine (lowInts_any _ _ [(3 : Int), 4] [(3 : Int), 4] c6 2 2 2 true _ rfl rfl ((Q6.out.alloc (Nat.le_refl _) _).more (by simp)) (Sq.lits (f := intv) w6 [3, 4] #[.int .i64 3, .int .i64 4] 3 (0, 0) w6.heap.size _ rfl rfl (by simp)) (by decide) (by decide)).mono ?_
  rintro e w7 ⟨rfl, b7⟩
  have b67 : Below w6.heap.size w6 w7 := (bel_alloc (Below.refl _ _) _).trans (b7.mono (by simp))
  have B7 := Lib.hid (B6.out.trans (b67.mono B6.out.size))
  have S7 := Lib.hid (S6.out.to b67)
  have hg7 : g5 < w7.heap.size := Nat.lt_of_lt_of_le hg6 b67.size
  clear b7 b67 Q6 S6 B6 d3 d4 hg6
  have HE := Lib.hid (own_empty w7 25 .u16)
  go_wp2_with (at_builtin; go_loud (refine wpList_append_sq (f := u16w) _ rfl _ _ 22 rfl (fun _ => rfl) w7.heap.size 25 i0 _ _ Try.underlying22 hif hz0 rfl hz1 hz2 (by decide) _ [] rfl HE.out w7.heap.size (some ⟨g5, o5, none⟩) awa c5 _ rfl rfl (S7.out.alloc (Nat.le_refl _) _) (by simp) (by decide) (by simp) ?_; intro A8 c8 w8 o8 hg8 hb8; have b8 : Below w7.heap.size w7 w8 := (bel_alloc (Below.refl _ _) _).trans hb8; have O8 := Lib.hid (show w8.ownsRow w7.heap.size 25 1 (.slice A8 64 c8) 64 (awa.map u16w) from o8); have S8 := Lib.hid (S7.out.to b8); have B8 := Lib.hid (B7.out.trans (b8.mono B7.out.size)); clear hg8 hb8 o8; rw [show (([] : List Nat) ++ awa).length = 64 from by decide]; obtain ⟨g8, rfl, hgl8, hgh8⟩ := own_some O8.out (by decide); obtain ⟨e10, e12⟩ := aw_cells O8.out; have z10 := own_frozen O8.out 10; have z12 := own_frozen O8.out 12; have hS9 := aw_set O8.out; have N8 := Lib.hid ((own_nil_c O8.out).2); have G8 := Lib.hid (⟨B8.out.size, B7.out.size, hgl8⟩ : w.heap.size ≤ w8.heap.size ∧ w.heap.size ≤ w7.heap.size ∧ w7.heap.size ≤ g8); have S9 := Lib.hid hS9; have B79 : Hid (Below w7.heap.size w7 ((w8.setCell ⟨g8, 10, none⟩ (.int .u16 7)).setCell ⟨g8, 12, none⟩ (.int .u16 7))) := Lib.hid (bel_set (bel_set b8 hgl8 _) hgl8 _); clear hgl8 hS9 b8))
  obtain ⟨W9, hW9⟩ : ∃ W9, (w8.setCell ⟨g8, 10, none⟩ (.int .u16 7)).setCell ⟨g8, 12, none⟩ (.int .u16 7) = W9 := ⟨_, rfl⟩
  have hsz9 : W9.heap.size = w8.heap.size := by rw [← hW9]; simp
  rw [hW9] at S9 B79 ⊢
  have T9 : Sq u16w W9 W9.heap.size (some ⟨g8, 0, none⟩) awb := by rw [hsz9]; exact S9.out
  refine (diff_all (some ⟨g5, o5, none⟩) (some ⟨g8, 0, none⟩) awa awb c5 c8 64 64 W9 (S7.out.to B79.out) T9 (by decide) (by decide) N8.out).mono ?_
  rintro e wa ⟨ba, ha⟩
  rw [if_pos (by decide)] at ha
  obtain ⟨bl, Al, cl, rfl, hpr, howA, hyA⟩ := ha
  have BA := Lib.hid ((B7.out.trans (B79.out.mono B7.out.size)).trans (ba.mono (by rw [hsz9]; exact G8.out.1)))
  have LA := Lib.hid (diff_blks (by decide) (by decide) hpr howA hyA (by decide))
  have hcl := (own_form2 howA)
  obtain ⟨_, _, hcl1, hcl2, hcl3, hcl4⟩ := hcl
  obtain ⟨rfl, rfl⟩ := (show Al = _ ∧ cl = _ by simpa using hcl1)
  have HPR := Lib.hid (show prs bl = [(10, [7, 0, 7])] from hpr.trans (by decide))
  have hbl1 : bl.length = 1 := by have := congrArg List.length HPR.out; simpa using this
  rw [hbl1] at hcl3
  rw [hbl1]
  have HL1 := Lib.hid hbl1
  clear hW9 hsz9 T9 S9 B79 ba hpr howA hyA hcl1 hcl2 hbl1 z10 z12 e10 e12
  go_wp2_with fail
  have hA1 : Sq u16w (wa.alloc (.cells #[.int .u16 7, .int .u16 0, .int .u16 7] 25)) (wa.heap.size + 1) (some ⟨wa.heap.size, 0, none⟩) [7, 0, 7] := Sq.lits (f := u16w) wa [7, 0, 7] #[.int .u16 7, .int .u16 0, .int .u16 7] 25 (0, 0) wa.heap.size (wa.heap.size + 1) rfl rfl (by omega)
  have hB1 : Blks ((wa.alloc (.cells #[.int .u16 7, .int .u16 0, .int .u16 7] 25)).alloc (.cells #[.int .i64 10, .slice (some ⟨wa.heap.size, 0, none⟩) 3 3] 34)) (wa.heap.size + 2) (some ⟨wa.heap.size + 1, 0, none⟩) [⟨10, [7, 0, 7], some ⟨wa.heap.size, 0, none⟩, 3⟩] := by
    refine ⟨Recs.lits (f := Blk.cells) (s := 2) (fun _ => rfl) (by decide) (wa.alloc (.cells #[.int .u16 7, .int .u16 0, .int .u16 7] 25)) [⟨10, [7, 0, 7], some ⟨wa.heap.size, 0, none⟩, 3⟩] _ 34 (wa.heap.size + 1) (wa.heap.size + 2) rfl (by simp) (by omega), fun b hb => ?_⟩
    obtain rfl := List.mem_singleton.1 hb
    exact ⟨(hA1.alloc (by simp) _).more (by omega), by simp, by simp, by simp, by simp, by simp, by simp⟩
  refine (lowBlocks_any _ _ bl [⟨10, [7, 0, 7], some ⟨wa.heap.size, 0, none⟩, 3⟩] _ 1 1 1 true _ HL1.out rfl (LA.out.to (bel_alloc (bel_alloc (Below.refl _ _) _) _)) (hB1.more (by simp)) (by rw [HL1.out]; decide) hcl3 (by decide) (fun b hb => ?_) (by rw [HPR.out]; exact decide_eq_true rfl)).mono ?_
  · have h1 : b.pr ∈ prs bl := List.mem_map_of_mem hb
    rw [HPR.out] at h1
    have h2 := congrArg (fun q : Bk.Pr => q.2.length) (List.mem_singleton.1 h1)
    have h3 : b.ws.length = 3 := h2
    omega
  rintro e wb ⟨rfl, bb⟩
  have BB := Lib.hid (BA.out.trans (((bel_alloc (bel_alloc (Below.refl wa.heap.size wa) _) _).trans (bb.mono (by simp; omega))).mono BA.out.size))
  clear bb hA1 hB1 BA LA
  go_wp2_with fail
  refine (fits_any 63 2 2 _ false _ (by decide) (by decide) (by decide) (by decide)).mono ?_
  rintro e wc ⟨rfl, bc⟩
  have BC := Lib.hid (BB.out.trans (((bel_alloc (Below.refl wb.heap.size wb) _).trans (bc.mono (by simp))).mono BB.out.size))
  clear bc BB
  go_wp2
  go_ret
  exact ⟨rfl, BC.out⟩
end Go.Proofs.Ytkilpiiljpeamaa
