/- TxidOpens: the walk of a row that is not empty. -/
import Derived.Test.YtkoelbcebfimiaaTxOpensE
import Derived.Lib.SmallJoins
namespace Go.Proofs.Ytkoelbcebfimiaa
open Go.RowKit
set_option linter.unusedVariables false
attribute [local go_sem] Later.cell Later.frozen setCell_twice
attribute [local go_sem ↓] Go.wp_at_zero Go.wp_at_succ
set_option maxRecDepth 100000 in
set_option maxHeartbeats 4000000 in
theorem opens_nonempty (A : Option Addr) (l : List Rec) (c tu tx : Nat) (w : World) (hR : Recs Rec.cells 5 w w.heap.size A l) (hl : ∀ r ∈ l, r.fit) (hlc : l.length ≤ c) (hc : c ≤ 9223372036854775807) (hA : A = none → c = 0) (htu : tu < 256) (htx : tx < 4294967296) (h2 : l.length ≤ 200) (h0 : 0 < l.length) :
    Calls Try.prog 4 #[.slice A l.length c, .int .u8 (tu : Int), .int .u32 (tx : Int)] w fun e w' => e = .returned (.bool true) ∧ Below w.heap.size w w' := by
  obtain ⟨i0, hi, hz0, hz1, hz2⟩ := info_parts info_rec
  have h2' : decide ((200 : Int) < (l.length : Int)) = false := by simp; omega
  have h0' : decide ((0 : Int) < (l.length : Int)) = true := by simp; omega
  have h00 : (0 : Int) < (l.length : Int) := by omega
  obtain ⟨n, hn⟩ : ∃ n, n = max (Tx.gr (l.map Rec.nums)) 1 := ⟨_, rfl⟩
  have ko := Lib.hid (open_any A l c n w hR hl (by omega) hn)
  obtain ⟨b, o, rfl, hbw, hcl⟩ := hR h0
  obtain ⟨k, hk⟩ : ∃ k : Nat, (k : Int) = (tu : Int) % (l.length : Int) := ⟨tu % l.length, by simp⟩
  have hkl : k < l.length := by have := Int.emod_lt_of_pos (tu : Int) h00; omega
  have HK := Lib.hid hk
  have HN := Lib.hid hn
  clear hk hn hcl
  go_enter Try.func4, Try.ntmps4
  go_wp2_with fail
  refine (ko.out).mono ?_
  rintro e_x1 w_x1 ⟨rfl, hb_x1⟩
  obtain ⟨x1, rfl⟩ := later_is hb_x1
  clear hb_x1
  have hz_x1 := x1.bel.size
  try simp at hz_x1
  clear ko
  go_wp2_with fail
  rw [← HK.out]
  obtain ⟨W1, hW1⟩ : ∃ W1, W1 = x1.val.alloc (.cells #[.int .u32 (n : Int), .int .u32 (n : Int)] 24) := ⟨_, rfl⟩
  have hbel1 : Below w.heap.size w W1 := by rw [hW1]; exact (by repeat (first | exact Below.refl _ _ | refine bel_later _ ?_ | refine bel_alloc ?_ _ | refine bel_set ?_ (by first | omega | (simp; done) | (simp; omega)) _ | refine Below.drew ?_ | assumption))
  have hbox : Box2 W1 x1.val.heap.size (.int .u32 (n : Int)) (.int .u32 (n : Int)) := by rw [hW1]; exact Box2.new _ _ _ _
  rw [← hW1]
  clear hW1
  generalize x1.val.heap.size = p at *
  clear hz_x1 x1
  have hRW := (hR.below hbel1).more hbel1.size
  have hD : Recs Rec.cells 5 W1.drew W1.heap.size (some ⟨b, o + k * 5, none⟩) (l.drop k) := hRW.drop
  have hT : Recs Rec.cells 5 W1.drew W1.heap.size (some ⟨b, o, none⟩) (l.take k) := hRW.take k
  have q1 : (0 : Int) ≤ (k : Int) := by omega
  have q2 : (k : Int) ≤ (l.length : Int) := by omega
  have q3 : (l.length : Int) ≤ (c : Int) := by omega
  have q4 : (k : Int) ≤ (c : Int) := by omega
  have q5 : ¬ c = k := by omega
  go_region_law (first
    | (refine step_append_recs _ (by rfl) (.tmp 28) (.tmp 31) 29 (by rfl) Rec.cells_length (by decide) Rec.cells_one W1.heap.size 28 i0 _ _ Try.underlying29 hi hz0 hz1 hz2 (by decide) rfl (.slice none 0 0) [] (by rfl) (own_recs_nil Rec.cells W1.drew _ _ _) W1.heap.size (some ⟨b, o + k * 5, none⟩) (l.drop k) (c - k) (l.length - k) (by simp) (by rfl) hD (by simp) (by simp; omega) (by simp) ?_; intro A1 c1 w1 hown1 hg1 hb1; rw [List.nil_append] at hown1; have hown1' : w1.ownsRow W1.heap.size 28 5 (.slice A1 (l.length - k) c1) (l.drop k).length ((l.drop k).flatMap Rec.cells) := (by rw [List.length_drop] at hown1 ⊢; exact hown1))
    | (refine step_append_recs _ (by rfl) (.tmp 32) (.tmp 35) 29 (by rfl) Rec.cells_length (by decide) Rec.cells_one W1.heap.size 28 i0 _ _ Try.underlying29 hi hz0 hz1 hz2 (by decide) rfl (.slice A1 (l.length - k) c1) (l.drop k) (by rfl) hown1' W1.heap.size (some ⟨b, o, none⟩) (l.take k) c k (by simp; omega) (by rfl) (hT.below hb1) (by simp) (by simp; omega) hb1.size ?_; intro A2 c2 w2 hown2 hg2 hb2))
  go_wp2
  rw [show l.length - k + min k l.length = l.length by omega]
  have hll : (l.drop k ++ l.take k).length = l.length := by simp; omega
  have hgb : n = max (Tx.gr ((l.drop k ++ l.take k).map Rec.nums)) 1 := by rw [turn_gr]; exact HN.out
  have hlb : ∀ r ∈ l.drop k ++ l.take k, r.fit := by
    intro r hr
    rcases List.mem_append.1 hr with h | h
    · exact hl r (List.mem_of_mem_drop h)
    · exact hl r (List.mem_of_mem_take h)
  rw [hll] at hown2
  have hbel2 : Below W1.heap.size W1 w2 := ((Below.refl _ _).drew.trans hb1).trans hb2
  generalize l.drop k ++ l.take k = lb at *
  have hbox2 := hbox.below hbel2 hbox.lt
  have hbelW := hbel1.trans (hbel2.mono hbel1.size)
  obtain ⟨Ab, hAb⟩ : ∃ Ab, Ab = A2 := ⟨_, rfl⟩
  obtain ⟨cb, hcb⟩ : ∃ cb, cb = c2 := ⟨_, rfl⟩
  obtain ⟨W2, hW2⟩ : ∃ W2, W2 = w2 := ⟨_, rfl⟩
  subst hAb hcb hW2
  have hownb := hown2
  clear hown2
  clear hown1 hown1' hg1 hg2 hb1 hb2 hbel2 hbox hD hT hRW
  have HGB := Lib.hid hgb
  have HLL := Lib.hid hll
  have HM := Lib.hid hll
  clear hgb hll
  clear hbel1
  obtain ⟨A, hAA⟩ : ∃ A : Option Addr, A = some ⟨b, o, none⟩ := ⟨_, rfl⟩
  rw [← hAA] at hR hA ⊢
  clear hAA

  have hBk : Recs Rec.cells 5 W2 W2.heap.size Ab lb := Recs.of_own Rec.cells_length (by decide) hownb
  have hbW := hbelW
  have hRW : Recs Rec.cells 5 W2 W2.heap.size A l := (hR.below hbelW).more hbelW.size
  go_loopw [9, 39] (fun v i wr => ∃ k : Nat, ∃ A' c', k ≤ l.length ∧ i = .int .i64 k ∧ v = .slice A' (ot tx (l.take k)).length c' ∧ wr.ownsRow W2.heap.size 28 5 (.slice A' (ot tx (l.take k)).length c') (ot tx (l.take k)).length ((ot tx (l.take k)).flatMap Rec.cells) ∧ Below W2.heap.size W2 wr)
    (fun _ i _ => l.length - (intOf i).toNat)
  case atStart => exact ⟨0, none, 0, by omega, rfl, rfl, own_recs_nil Rec.cells W2 _ _ _, Below.refl _ _⟩
  case round =>
    obtain ⟨k, A', c', hk, rfl, rfl, hown, hbel⟩ := hrel
    by_cases hlt : k < l.length
    · obtain ⟨bo, oo, r, hAe, hbo, hop, hcell⟩ := hRW.at_ hlt
      subst hAe
      have hfit := hl r (List.mem_of_getElem? hop)
      have a0 : wr.cell? ⟨bo, oo + k * 5, none⟩ = some (.int .u8 (r.what : Int)) := (hbel.cell (p := ⟨bo, oo + k * 5, none⟩) hbo).trans (hcell 0 _ rfl)
      have a1 : wr.cell? ⟨bo, oo + k * 5 + 1, none⟩ = some (.int .u32 (r.tx : Int)) := (hbel.cell (p := ⟨bo, oo + k * 5 + 1, none⟩) hbo).trans (hcell 1 _ rfl)
      have a2 : wr.cell? ⟨bo, oo + k * 5 + 2, none⟩ = some (.int .u8 (r.who : Int)) := (hbel.cell (p := ⟨bo, oo + k * 5 + 2, none⟩) hbo).trans (hcell 2 _ rfl)
      have a3 : wr.cell? ⟨bo, oo + k * 5 + 3, none⟩ = some (.bool r.yes) := (hbel.cell (p := ⟨bo, oo + k * 5 + 3, none⟩) hbo).trans (hcell 3 _ rfl)
      have a4 : wr.cell? ⟨bo, oo + k * 5 + 4, none⟩ = some (.slice r.ta r.tn r.tc) := (hbel.cell (p := ⟨bo, oo + k * 5 + 4, none⟩) hbo).trans (hcell 4 _ rfl)
      have HS := Lib.hid (show ot tx (l.take (k + 1)) = ot tx (l.take k) ++ [r, ⟨4, tx, 0, false, none, 0, 0⟩, ⟨2, tx, 1, false, none, 0, 0⟩] by rw [List.take_add_one, hop, Option.toList, ot_snoc])
      have hol : (ot tx (l.take k)).length ≤ 600 := by rw [ot_length, List.length_take]; omega
      have e4 : (k : Int) < (l.length : Int) := by omega
      generalize ot tx (l.take k) = lo at *
      clear hcell hop hfit
      obtain ⟨wh, rtx, who, yes, ta, tn, tc⟩ := r
      simp only at a0 a1 a2 a3 a4 HS
      have hsz := hbel.size
      go_wp2_with (at_builtin; refine wpList_append_recs _ rfl (.tmp 43) (.tmp 49) 29 rfl Rec.cells_length (by decide) Rec.cells_one W2.heap.size 28 i0 _ _ Try.underlying29 hi hz0 hz1 hz2 (by decide) rfl _ lo rfl ((hown.alloc _).alloc _) (wr.heap.size + 1 + 1) _ [⟨wh, rtx, who, yes, ta, tn, tc⟩, ⟨4, tx, 0, false, none, 0, 0⟩, ⟨2, tx, 1, false, none, 0, 0⟩] _ 3 rfl rfl (Recs.lits Rec.cells_length (by decide) _ _ _ _ _ _ rfl (by simp) (by simp)) (by simp) ?c1 ?c2 ?_)
      case c1 => omega
      case c2 => simp; omega
      intro A1 c1 w1 hown1 hg1 hb1
      clear hg1
      have hbel1 : Below W2.heap.size W2 w1 := (((hbel.alloc hsz _).alloc (by simp; omega) _).trans hb1)
      go_wp2
      go_roundw
      case rel => exact ⟨k + 1, A1, c1, by omega, by go_num, by rw [HS.out]; simp, by rw [HS.out]; simpa using hown1, hbel1⟩
      case measure => simp [intOf]; omega
    · obtain rfl : k = l.length := by omega
      rw [List.take_length] at hown ⊢
      have hOt := Recs.of_own Rec.cells_length (by decide) hown
      have hBk' : Recs Rec.cells 5 wr wr.heap.size Ab lb := (hBk.below hbel).more hbel.size
      have hRr : Recs Rec.cells 5 wr wr.heap.size A l := (hRW.below hbel).more hbel.size
      have hbox3 : Box2 wr p (.int .u32 (n : Int)) (.int .u32 (n : Int)) := hbox2.below hbel hbox2.lt
      have hbelr : Below w.heap.size w wr := hbelW.trans (hbel.mono hbelW.size)
      have hol : (ot tx l).length ≤ 600 := by rw [ot_length]; omega
      clear hown hbel hBk hRW hbelW hbox2 hR hbW hownb
      go_wp2_with (at_builtin; refine wpList_append_recs _ rfl (.tmp 52) (.tmp 53) 29 rfl Rec.cells_length (by decide) Rec.cells_one wr.heap.size 28 i0 _ _ Try.underlying29 hi hz0 hz1 hz2 (by decide) rfl _ [] rfl (own_recs_empty Rec.cells wr _ _ _ _ (by simp) (by simp)) (wr.heap.size) A l c l.length rfl rfl (hRr.alloc (Nat.le_refl _) _) hA ?c1 ?c2 ?_)
      case c1 => simp; omega
      case c2 => simp
      intro A3 c3 w3 hown3 hg3 hb3
      have hbel3 : Below wr.heap.size wr w3 := (((Below.refl _ _).alloc (Nat.le_refl _) _).trans hb3)
      clear hg3 hb3
      have hsz3 := hbel3.size
      go_wp2_with (at_builtin; refine wpList_append_recs _ rfl (.tmp 54) (.tmp 57) 29 rfl Rec.cells_length (by decide) Rec.cells_one wr.heap.size 28 i0 _ _ Try.underlying29 hi hz0 hz1 hz2 (by decide) rfl _ l rfl (hown3.alloc _) (w3.heap.size + 1) _ [⟨1, tx, 0, false, none, 0, 0⟩] _ 1 rfl rfl (Recs.lits Rec.cells_length (by decide) _ _ _ _ _ _ rfl (by simp) (by simp)) (by simp) ?c3 ?c4 ?_)
      case c3 => omega
      case c4 => simp; omega
      intro A4 c4 w4 hown4x hg4 hb4
      have hown4 : w4.ownsRow wr.heap.size 28 5 (.slice A4 (l ++ [(⟨1, tx, 0, false, none, 0, 0⟩ : Rec)]).length c4) (l ++ [(⟨1, tx, 0, false, none, 0, 0⟩ : Rec)]).length ((l ++ [(⟨1, tx, 0, false, none, 0, 0⟩ : Rec)]).flatMap Rec.cells) := by simpa using hown4x
      clear hown4x
      have hbel4 : Below wr.heap.size wr w4 := (hbel3.alloc hsz3 _).trans hb4
      have hY := Recs.of_own Rec.cells_length (by decide) hown4
      have hfy : ∀ r ∈ l ++ [(⟨1, tx, 0, false, none, 0, 0⟩ : Rec)], r.fit := by
        intro r hr
        rcases List.mem_append.1 hr with h | h
        · exact hl r h
        · simp only [List.mem_cons, List.not_mem_nil, or_false] at h; subst h; exact ⟨by simp, htx, by simp⟩
      obtain ⟨ny, hny⟩ : ∃ ny, ny = max n tx := ⟨_, rfl⟩
      have hgy : ny = max (Tx.gr ((l ++ [(⟨1, tx, 0, false, none, 0, 0⟩ : Rec)]).map Rec.nums)) 1 := by
        have h1 := HN.out
        rw [List.map_append, Tx.gr_append]
        have e : Tx.gr (List.map Rec.nums [(⟨1, tx, 0, false, none, 0, 0⟩ : Rec)]) = tx := by
          simp only [List.map_cons, List.map_nil, Tx.gr, List.foldl_cons, List.foldl_nil, Rec.nums, Tx.most]
          by_cases h : 0 < tx
          · rw [if_pos ⟨trivial, h⟩]
          · rw [if_neg (fun c => h c.2)]; omega
        rw [e]; omega
      have hmax : ∀ w, (Builtin.max_ #[22, 22] 22 #[.int .u32 (n : Int), .int .u32 (tx : Int)]).run Try.prog w = .ok (.int .u32 (ny : Int)) w := fun w => run_max2 w _ _ n tx ny hny
      have ky := Lib.hid (open_n A4 _ c4 ny (l.length + 1) w4 (by simp) hY hfy (by simp; omega) hgy)
      have hn1 : decide ((1 : Int) ≤ (n : Int)) = true := by have := HN.out; simp; omega
      have hbox4 : Box2 w4 p (.int .u32 (n : Int)) (.int .u32 (n : Int)) := hbox3.below hbel4 hbox3.lt
      have kb := Lib.hid (fun (x : World) (hx : Below wr.heap.size wr x) => open_n Ab lb cb n l.length x HM.out ((hBk'.below hx).more hx.size) hlb (by rw [HLL.out]; omega) HGB.out)
      have kt := Lib.hid (fun (x : World) (hx : Below wr.heap.size wr x) => open_any A' (ot tx l) c' n x ((hOt.below hx).more hx.size) (ot_fit htx hl) (by omega) (by rw [ot_gr]; exact HN.out))
      have hbelw4 : Below w.heap.size w w4 := hbelr.trans (hbel4.mono hbelr.size)
      clear hown3 hown4 hY hfy hgy hny hg4 hb4 hbel3 hsz3 hbox3 hBk' hOt hRr hlb
      go_wp2_with fail
      refine (ky.out).mono ?_
      rintro e5 w5 ⟨rfl, hb5⟩
      obtain ⟨x5, rfl⟩ := later_is hb5
      have hbx5 : Below wr.heap.size wr x5.val := hbel4.trans (x5.bel.mono hbel4.size)
      obtain ⟨g0, g1, _, _⟩ := hbox4.later x5
      have lp : p < x5.val.heap.size := block_lt_of_cell g0
      have lp1 : p < x5.val.heap.size + 1 := by omega
      clear hb5 ky hbox4
      go_wp2_with fail
      refine wp_region_lat (by kernel_rfl) (by kernel_rfl) ?_
      repeat (go_big_quiet_step (fail))
      go_big_quiet_step (exact later_new (kb.out _ (hbx5.trans (((Below.refl _ _).alloc (Nat.le_refl _) _).trans (Later.bel _ |>.mono (by simp))|>.mono hbx5.size))))
      repeat (go_big_quiet_step (fail))
      go_big_quiet_step (exact later_new (kt.out _ (hbx5.trans (((Below.refl _ _).alloc (Nat.le_refl _) _).trans (Later.bel _ |>.mono (by simp))|>.mono hbx5.size))))
      repeat (go_big_quiet_step (fail))
      go_big_quiet_step (exact later_new (awake_any _))
      repeat (go_big_quiet_step (fail))
      refine wpQuiet_nil ?_
      rintro _ ⟨x6, rfl⟩
      go_wp2
      go_ret
      exact ⟨rfl, bel_later x6 (bel_alloc (hbelw4.trans (x5.bel.mono hbelw4.size)) _)⟩

theorem txidOpens_walk (A : Option Addr) (l : List Rec) (c tu tx : Nat) (w : World) (hR : Recs Rec.cells 5 w w.heap.size A l) (hl : ∀ r ∈ l, r.fit) (hlc : l.length ≤ c) (hc : c ≤ 9223372036854775807) (hA : A = none → c = 0) (htu : tu < 256) (htx : tx < 4294967296) :
    Calls Try.prog 4 #[.slice A l.length c, .int .u8 (tu : Int), .int .u32 (tx : Int)] w fun e w' => e = .returned (.bool true) ∧ Below w.heap.size w w' := by
  by_cases h2 : 200 < l.length
  · go_enter Try.func4, Try.ntmps4
    go_wp2_with fail
    refine (awake_any _).mono ?_
    rintro e_x1 w_x1 ⟨rfl, hb_x1⟩
    obtain ⟨x1, rfl⟩ := later_is hb_x1
    clear hb_x1
    have hz_x1 := x1.bel.size
    try simp at hz_x1
    go_wp2
    go_ret
    exact ⟨rfl, (by repeat (first | exact Below.refl _ _ | refine bel_later _ ?_ | refine bel_alloc ?_ _ | refine bel_set ?_ (by first | omega | (simp; done) | (simp; omega)) _ | refine Below.drew ?_ | assumption))⟩
  · by_cases h0 : l.length = 0
    · exact opens_empty A l c tu tx w hR hl hlc hc hA htu htx h0
    · exact opens_nonempty A l c tu tx w hR hl hlc hc hA htu htx (by omega) (by omega)
theorem rec_trod {H : Type} {enc : TypeId × Value → H} {w : World} {base : Nat} {spare : Nat → Bool} {held : Bool} (n : Nat) (cs : List Value) (y : DataW H × List MemPlace) (h : DataW.trod enc Try.prog w base spare held n 28 cs = some y) : ∃ r : Rec, cs = r.cells ∧ r.fit := by
  obtain ⟨hl, n, hf⟩ := trod_field Try.underlying28 h
  have hC : Try.prog.cellsOf 28 = 5 := by kernel_rfl
  rw [hC] at hl
  match cs, hl with
  | [v0, v1, v2, v3, v4], _ =>
    obtain ⟨y0, h0⟩ := hf 0 _ rfl
    obtain ⟨y1, h1⟩ := hf 1 _ rfl
    obtain ⟨y2, h2⟩ := hf 2 _ rfl
    obtain ⟨y3, h3⟩ := hf 3 _ rfl
    obtain ⟨y4, h4⟩ := hf 4 _ rfl
    obtain ⟨a0, rfl, b0⟩ := trod_nat (k := .u8) (v := v0) rfl Try.underlying5 h0
    obtain ⟨a1, rfl, b1⟩ := trod_nat (k := .u32) (v := v1) rfl Try.underlying22 h1
    obtain ⟨a2, rfl, b2⟩ := trod_nat (k := .u8) (v := v2) rfl Try.underlying5 h2
    obtain ⟨a3, rfl⟩ := trod_truth (v := v3) Try.underlying4 h3
    obtain ⟨ta, tn, tc, ht⟩ := Joins.slice_form (cs := [v4]) Try.underlying26 h4
    simp only [List.cons.injEq, and_true] at ht
    subst ht
    exact ⟨⟨a0, a1, a2, a3, ta, tn, tc⟩, rfl, b0, b1, b2⟩
end Go.Proofs.Ytkoelbcebfimiaa
