/- TxidOpens: the law and the walk. -/
import Derived.Test.YtkoelbcebfimiaaTxAwake
import Derived.Test.YtkoelbcebfimiaaAppR
import Derived.Test.YtkoelbcebfimiaaBox2
import Derived.Deep.DrawnRows
namespace Go.Proofs.Ytkoelbcebfimiaa
open Go.RowKit
set_option linter.unusedVariables false
attribute [local go_sem] Later.cell Later.frozen setCell_twice
attribute [local go_sem ↓] Go.wp_at_zero Go.wp_at_succ
theorem Rec.cells_length (r : Rec) : r.cells.length = 5 := rfl
theorem Rec.cells_one (r : Rec) : ∀ u ∈ r.cells, u.oneCell' = true := by
  intro u hu
  simp only [Rec.cells, List.mem_cons, List.not_mem_nil, or_false] at hu
  rcases hu with rfl | rfl | rfl | rfl | rfl <;> rfl
namespace Tx
theorem most_max (m what tx : Nat) : most m what tx = max m (most 0 what tx) := by
  unfold most
  by_cases h : what = 1
  · by_cases h1 : m < tx
    · rw [if_pos ⟨h, h1⟩, if_pos ⟨h, by omega⟩]; omega
    · rw [if_neg (fun c => h1 c.2)]
      split <;> omega
  · rw [if_neg (fun c => h c.1), if_neg (fun c => h c.1)]; omega
theorem fold_max : ∀ (l : List (Nat × Nat)) (m : Nat), l.foldl (fun m r => most m r.1 r.2) m = max m (gr l)
  | [], m => by simp [gr]
  | r :: l, m => by
    show l.foldl _ (most m r.1 r.2) = max m (l.foldl _ (most 0 r.1 r.2))
    rw [fold_max l, fold_max l, most_max]
    omega
theorem gr_append (a b : List (Nat × Nat)) : gr (a ++ b) = max (gr a) (gr b) := by
  show (a ++ b).foldl _ 0 = _
  rw [List.foldl_append, fold_max b]
  rfl
theorem gr_cons (r : Nat × Nat) (l : List (Nat × Nat)) : gr (r :: l) = max (most 0 r.1 r.2) (gr l) := by
  show l.foldl _ (most 0 r.1 r.2) = _
  rw [fold_max]
end Tx
/-- what else is written between -/
def ot (tx : Nat) (l : List Rec) : List Rec := l.flatMap fun r => [r, ⟨4, tx, 0, false, none, 0, 0⟩, ⟨2, tx, 1, false, none, 0, 0⟩]
theorem ot_snoc (tx : Nat) (l : List Rec) (r : Rec) : ot tx (l ++ [r]) = ot tx l ++ [r, ⟨4, tx, 0, false, none, 0, 0⟩, ⟨2, tx, 1, false, none, 0, 0⟩] := by simp [ot, List.flatMap_append]
theorem ot_length (tx : Nat) : ∀ l : List Rec, (ot tx l).length = 3 * l.length
  | [] => rfl
  | r :: l => by
    have := ot_length tx l
    unfold ot at *
    rw [List.flatMap_cons, List.length_append, this]
    simp
    omega
theorem ot_gr (tx : Nat) : ∀ l : List Rec, Tx.gr ((ot tx l).map Rec.nums) = Tx.gr (l.map Rec.nums)
  | [] => rfl
  | r :: l => by
    have h := ot_gr tx l
    unfold ot at *
    rw [List.flatMap_cons, List.map_append, Tx.gr_append, h]
    have e : Tx.gr (List.map Rec.nums [r, ⟨4, tx, 0, false, none, 0, 0⟩, ⟨2, tx, 1, false, none, 0, 0⟩]) = Tx.most 0 r.what r.tx := by simp [Tx.gr, Tx.most, Rec.nums]
    rw [e]
    exact (Tx.gr_cons r.nums (l.map Rec.nums)).symm
theorem ot_fit {tx : Nat} (h : tx < 4294967296) {l : List Rec} (hl : ∀ r ∈ l, r.fit) : ∀ r ∈ ot tx l, r.fit := by
  intro r hr
  obtain ⟨q, hq, hm⟩ := List.mem_flatMap.1 hr
  simp only [List.mem_cons, List.not_mem_nil, or_false] at hm
  rcases hm with rfl | rfl | rfl
  · exact hl _ hq
  · exact ⟨by simp, h, by simp⟩
  · exact ⟨by simp, h, by simp⟩
theorem turn_gr (l : List Rec) (k : Nat) : Tx.gr ((l.drop k ++ l.take k).map Rec.nums) = Tx.gr (l.map Rec.nums) := by
  conv => rhs; rw [← List.take_append_drop k l]
  rw [List.map_append, List.map_append, Tx.gr_append, Tx.gr_append]
  omega
theorem open_n (A : Option Addr) (l : List Rec) (c n m : Nat) (w : World) (hm : l.length = m) (hR : Recs Rec.cells 5 w w.heap.size A l) (hl : ∀ r ∈ l, r.fit) (hlc : l.length ≤ 140737488355328) (hn : n = max (Tx.gr (l.map Rec.nums)) 1) :
    Calls Try.prog 5 #[.slice A m c] w fun e w' => e = .returned (.agg #[.int .u32 (n : Int), .int .u32 (n : Int)]) ∧ Below w.heap.size w w' := by
  subst hm
  exact open_any A l c n w hR hl hlc hn
theorem info_rec : (Try.prog.info? 28).map (fun i => (i.zero, i.size, i.bytes)) = some (some (.agg #[.int .u8 0, .int .u32 0, .int .u8 0, .bool false, .slice none 0 0]), 5, 40) := by kernel_rfl

set_option maxRecDepth 100000 in
set_option maxHeartbeats 4000000 in
theorem opens_empty (A : Option Addr) (l : List Rec) (c tu tx : Nat) (w : World) (hR : Recs Rec.cells 5 w w.heap.size A l) (hl : ∀ r ∈ l, r.fit) (hlc : l.length ≤ c) (hc : c ≤ 9223372036854775807) (hA : A = none → c = 0) (htu : tu < 256) (htx : tx < 4294967296) (h0 : l.length = 0) :
    Calls Try.prog 4 #[.slice A l.length c, .int .u8 (tu : Int), .int .u32 (tx : Int)] w fun e w' => e = .returned (.bool true) ∧ Below w.heap.size w w' := by
  obtain ⟨i0, hi, hz0, hz1, hz2⟩ := info_parts info_rec
  have h2 : l.length ≤ 200 := by omega
  have h2' : decide ((200 : Int) < (l.length : Int)) = false := by simp; omega
  have h0' : decide (0 < l.length) = false := decide_eq_false (by omega)
  obtain ⟨n, hn⟩ : ∃ n, n = max (Tx.gr (l.map Rec.nums)) 1 := ⟨_, rfl⟩
  have ko := Lib.hid (open_any A l c n w hR hl (by omega) hn)
  obtain ⟨lb, hlb0⟩ : ∃ lb : List Rec, lb = [] := ⟨_, rfl⟩
  have hle : l = [] := List.eq_nil_of_length_eq_zero h0
  have hgb : n = max (Tx.gr (lb.map Rec.nums)) 1 := by rw [hlb0, hn, hle]
  have hlb : ∀ r ∈ lb, r.fit := by rw [hlb0]; simp
  have hll : lb.length = l.length := by rw [hlb0, hle]
  have HN := Lib.hid hn
  have H0 := Lib.hid h0
  have HGB := Lib.hid hgb
  have HLL := Lib.hid hll
  have HL0 := Lib.hid hlb0
  clear hn h0 hle hgb hll hlb0
  go_enter Try.func4, Try.ntmps4
  go_wp2_with fail
  refine (ko.out).mono ?_
  rintro e_x1 w_x1 ⟨rfl, hb_x1⟩
  obtain ⟨x1, rfl⟩ := later_is hb_x1
  clear hb_x1
  have hz_x1 := x1.bel.size
  try simp at hz_x1
  clear ko
  go_wp2
  obtain ⟨W2, hW2⟩ : ∃ W2, W2 = x1.val.alloc (.cells #[.int .u32 (n : Int), .int .u32 (n : Int)] 24) := ⟨_, rfl⟩
  have hbelW : Below w.heap.size w W2 := by rw [hW2]; exact (by repeat (first | exact Below.refl _ _ | refine bel_later _ ?_ | refine bel_alloc ?_ _ | refine bel_set ?_ (by first | omega | (simp; done) | (simp; omega)) _ | refine Below.drew ?_ | assumption))
  have hbox2 : Box2 W2 x1.val.heap.size (.int .u32 (n : Int)) (.int .u32 (n : Int)) := by rw [hW2]; exact Box2.new _ _ _ _
  rw [← hW2]
  clear hW2
  generalize x1.val.heap.size = p at *
  clear hz_x1 x1
  have hownb : W2.ownsRow w.heap.size 28 5 (.slice none 0 0) 0 (lb.flatMap Rec.cells) := by
    rw [HL0.out]
    exact own_recs_nil Rec.cells W2 _ _ _
  have HM : Hid (lb.length = 0) := Lib.hid (by rw [HL0.out]; rfl)
  clear HL0
  have hBk : Recs Rec.cells 5 W2 W2.heap.size none lb := Recs.of_own Rec.cells_length (by decide) hownb
  have hbW := hbelW
  have hRW : Recs Rec.cells 5 W2 W2.heap.size A l := (hR.below hbelW).more hbelW.size
  go_loopw [9, 39] (fun v i wr => ∃ k : Nat, ∃ A' c', k ≤ l.length ∧ i = .int .i64 k ∧ v = .slice A' (ot tx (l.take k)).length c' ∧ wr.ownsRow W2.heap.size 28 5 (.slice A' (ot tx (l.take k)).length c') (ot tx (l.take k)).length ((ot tx (l.take k)).flatMap Rec.cells) ∧ Below W2.heap.size W2 wr)
    (fun _ i _ => l.length - (intOf i).toNat)
  case atStart => exact ⟨0, none, 0, by omega, rfl, rfl, own_recs_nil Rec.cells W2 _ _ _, Below.refl _ _⟩
  case round =>
    obtain ⟨k, A', c', hk, rfl, rfl, hown, hbel⟩ := hrel
    by_cases hlt : k < l.length
    · obtain ⟨bo, oo, r, hAe, hbo, hop, hcell⟩ := hRW.at_ hlt
      subst hAe
      have hfit := hl r (List.mem_of_getElem? hop)
      have a0 : wr.cell? ⟨bo, oo + k * 5, none⟩ = some (.int .u8 (r.what : Int)) := (hbel.cell (p := ⟨bo, oo + k * 5, none⟩) hbo).trans (hcell 0 _ rfl)
      have a1 : wr.cell? ⟨bo, oo + k * 5 + 1, none⟩ = some (.int .u32 (r.tx : Int)) := (hbel.cell (p := ⟨bo, oo + k * 5 + 1, none⟩) hbo).trans (hcell 1 _ rfl)
      have a2 : wr.cell? ⟨bo, oo + k * 5 + 2, none⟩ = some (.int .u8 (r.who : Int)) := (hbel.cell (p := ⟨bo, oo + k * 5 + 2, none⟩) hbo).trans (hcell 2 _ rfl)
      have a3 : wr.cell? ⟨bo, oo + k * 5 + 3, none⟩ = some (.bool r.yes) := (hbel.cell (p := ⟨bo, oo + k * 5 + 3, none⟩) hbo).trans (hcell 3 _ rfl)
      have a4 : wr.cell? ⟨bo, oo + k * 5 + 4, none⟩ = some (.slice r.ta r.tn r.tc) := (hbel.cell (p := ⟨bo, oo + k * 5 + 4, none⟩) hbo).trans (hcell 4 _ rfl)
      have HS := Lib.hid (show ot tx (l.take (k + 1)) = ot tx (l.take k) ++ [r, ⟨4, tx, 0, false, none, 0, 0⟩, ⟨2, tx, 1, false, none, 0, 0⟩] by rw [List.take_add_one, hop, Option.toList, ot_snoc])
      have hol : (ot tx (l.take k)).length ≤ 600 := by rw [ot_length, List.length_take]; omega
      have e4 : (k : Int) < (l.length : Int) := by omega
      generalize ot tx (l.take k) = lo at *
      clear hcell hop hfit
      obtain ⟨wh, rtx, who, yes, ta, tn, tc⟩ := r
      simp only at a0 a1 a2 a3 a4 HS
      have hsz := hbel.size
      go_wp2_with (at_builtin; refine wpList_append_recs _ rfl (.tmp 43) (.tmp 49) 29 rfl Rec.cells_length (by decide) Rec.cells_one W2.heap.size 28 i0 _ _ Try.underlying29 hi hz0 hz1 hz2 (by decide) rfl _ lo rfl ((hown.alloc _).alloc _) (wr.heap.size + 1 + 1) _ [⟨wh, rtx, who, yes, ta, tn, tc⟩, ⟨4, tx, 0, false, none, 0, 0⟩, ⟨2, tx, 1, false, none, 0, 0⟩] _ 3 rfl rfl (Recs.lits Rec.cells_length (by decide) _ _ _ _ _ _ rfl (by simp) (by simp)) (by simp) ?c1 ?c2 ?_)
      case c1 => omega
      case c2 => simp; omega
      intro A1 c1 w1 hown1 hg1 hb1
      clear hg1
      have hbel1 : Below W2.heap.size W2 w1 := (((hbel.alloc hsz _).alloc (by simp; omega) _).trans hb1)
      go_wp2
      go_roundw
      case rel => exact ⟨k + 1, A1, c1, by omega, by go_num, by rw [HS.out]; simp, by rw [HS.out]; simpa using hown1, hbel1⟩
      case measure => simp [intOf]; omega
    · obtain rfl : k = l.length := by omega
      rw [List.take_length] at hown ⊢
      have hOt := Recs.of_own Rec.cells_length (by decide) hown
      have hBk' : Recs Rec.cells 5 wr wr.heap.size none lb := (hBk.below hbel).more hbel.size
      have hRr : Recs Rec.cells 5 wr wr.heap.size A l := (hRW.below hbel).more hbel.size
      have hbox3 : Box2 wr p (.int .u32 (n : Int)) (.int .u32 (n : Int)) := hbox2.below hbel hbox2.lt
      have hbelr : Below w.heap.size w wr := hbelW.trans (hbel.mono hbelW.size)
      have hol : (ot tx l).length ≤ 600 := by rw [ot_length]; omega
      clear hown hbel hBk hRW hbelW hbox2 hR hbW hownb
      go_wp2_with (at_builtin; refine wpList_append_recs _ rfl (.tmp 52) (.tmp 53) 29 rfl Rec.cells_length (by decide) Rec.cells_one wr.heap.size 28 i0 _ _ Try.underlying29 hi hz0 hz1 hz2 (by decide) rfl _ [] rfl (own_recs_empty Rec.cells wr _ _ _ _ (by simp) (by simp)) (wr.heap.size) A l c l.length rfl rfl (hRr.alloc (Nat.le_refl _) _) hA ?c1 ?c2 ?_)
      case c1 => simp; omega
      case c2 => simp
      intro A3 c3 w3 hown3 hg3 hb3
      have hbel3 : Below wr.heap.size wr w3 := (((Below.refl _ _).alloc (Nat.le_refl _) _).trans hb3)
      clear hg3 hb3
      have hsz3 := hbel3.size
      go_wp2_with (at_builtin; refine wpList_append_recs _ rfl (.tmp 54) (.tmp 57) 29 rfl Rec.cells_length (by decide) Rec.cells_one wr.heap.size 28 i0 _ _ Try.underlying29 hi hz0 hz1 hz2 (by decide) rfl _ l rfl (hown3.alloc _) (w3.heap.size + 1) _ [⟨1, tx, 0, false, none, 0, 0⟩] _ 1 rfl rfl (Recs.lits Rec.cells_length (by decide) _ _ _ _ _ _ rfl (by simp) (by simp)) (by simp) ?c3 ?c4 ?_)
      case c3 => omega
      case c4 => simp; omega
      intro A4 c4 w4 hown4x hg4 hb4
      have hown4 : w4.ownsRow wr.heap.size 28 5 (.slice A4 (l ++ [(⟨1, tx, 0, false, none, 0, 0⟩ : Rec)]).length c4) (l ++ [(⟨1, tx, 0, false, none, 0, 0⟩ : Rec)]).length ((l ++ [(⟨1, tx, 0, false, none, 0, 0⟩ : Rec)]).flatMap Rec.cells) := by simpa using hown4x
      clear hown4x
      have hbel4 : Below wr.heap.size wr w4 := (hbel3.alloc hsz3 _).trans hb4
      have hY := Recs.of_own Rec.cells_length (by decide) hown4
      have hfy : ∀ r ∈ l ++ [(⟨1, tx, 0, false, none, 0, 0⟩ : Rec)], r.fit := by
        intro r hr
        rcases List.mem_append.1 hr with h | h
        · exact hl r h
        · simp only [List.mem_cons, List.not_mem_nil, or_false] at h; subst h; exact ⟨by simp, htx, by simp⟩
      obtain ⟨ny, hny⟩ : ∃ ny, ny = max n tx := ⟨_, rfl⟩
      have hgy : ny = max (Tx.gr ((l ++ [(⟨1, tx, 0, false, none, 0, 0⟩ : Rec)]).map Rec.nums)) 1 := by
        have h1 := HN.out
        rw [List.map_append, Tx.gr_append]
        have e : Tx.gr (List.map Rec.nums [(⟨1, tx, 0, false, none, 0, 0⟩ : Rec)]) = tx := by
          simp only [List.map_cons, List.map_nil, Tx.gr, List.foldl_cons, List.foldl_nil, Rec.nums, Tx.most]
          by_cases h : 0 < tx
          · rw [if_pos ⟨trivial, h⟩]
          · rw [if_neg (fun c => h c.2)]; omega
        rw [e]; omega
      have hmax : ∀ w, (Builtin.max_ #[22, 22] 22 #[.int .u32 (n : Int), .int .u32 (tx : Int)]).run Try.prog w = .ok (.int .u32 (ny : Int)) w := fun w => run_max2 w _ _ n tx ny hny
      have ky := Lib.hid (open_n A4 _ c4 ny (l.length + 1) w4 (by simp) hY hfy (by simp; omega) hgy)
      have hn1 : decide ((1 : Int) ≤ (n : Int)) = true := by have := HN.out; simp; omega
      have hbox4 : Box2 w4 p (.int .u32 (n : Int)) (.int .u32 (n : Int)) := hbox3.below hbel4 hbox3.lt
      have kb := Lib.hid (fun (x : World) (hx : Below wr.heap.size wr x) => open_n none lb 0 n 0 x HM.out ((hBk'.below hx).more hx.size) hlb (by rw [HLL.out]; omega) HGB.out)
      have kt := Lib.hid (fun (x : World) (hx : Below wr.heap.size wr x) => open_any A' (ot tx l) c' n x ((hOt.below hx).more hx.size) (ot_fit htx hl) (by omega) (by rw [ot_gr]; exact HN.out))
      have hbelw4 : Below w.heap.size w w4 := hbelr.trans (hbel4.mono hbelr.size)
      clear hown3 hown4 hY hfy hgy hny hg4 hb4 hbel3 hsz3 hbox3 hBk' hOt hRr hlb
      go_wp2_with fail
      refine (ky.out).mono ?_
      rintro e5 w5 ⟨rfl, hb5⟩
      obtain ⟨x5, rfl⟩ := later_is hb5
      have hbx5 : Below wr.heap.size wr x5.val := hbel4.trans (x5.bel.mono hbel4.size)
      obtain ⟨g0, g1, _, _⟩ := hbox4.later x5
      have lp : p < x5.val.heap.size := block_lt_of_cell g0
      have lp1 : p < x5.val.heap.size + 1 := by omega
      clear hb5 ky hbox4
      go_wp2_with fail
      refine wp_region_lat (by kernel_rfl) (by kernel_rfl) ?_
      repeat (go_big_quiet_step (fail))
      go_big_quiet_step (exact later_new (kb.out _ (hbx5.trans (((Below.refl _ _).alloc (Nat.le_refl _) _).trans (Later.bel _ |>.mono (by simp))|>.mono hbx5.size))))
      repeat (go_big_quiet_step (fail))
      go_big_quiet_step (exact later_new (kt.out _ (hbx5.trans (((Below.refl _ _).alloc (Nat.le_refl _) _).trans (Later.bel _ |>.mono (by simp))|>.mono hbx5.size))))
      repeat (go_big_quiet_step (fail))
      go_big_quiet_step (exact later_new (awake_any _))
      repeat (go_big_quiet_step (fail))
      refine wpQuiet_nil ?_
      rintro _ ⟨x6, rfl⟩
      go_wp2
      go_ret
      exact ⟨rfl, bel_later x6 (bel_alloc (hbelw4.trans (x5.bel.mono hbelw4.size)) _)⟩
end Go.Proofs.Ytkoelbcebfimiaa
