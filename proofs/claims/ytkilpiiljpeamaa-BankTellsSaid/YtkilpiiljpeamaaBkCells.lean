/- The walk of bank.Cells. -/
import Derived.Test.YtkilpiiljpeamaaBkOver
import Derived.Test.YtkilpiiljpeamaaOnly
namespace Go.Proofs.Ytkilpiiljpeamaa
open Go.RowKit
set_option linter.unusedVariables false
attribute [local go_sem] Later.cell Later.frozen setCell_twice
namespace Bk
def mark (l : List Pr) : List Bool := (List.range 64).map fun i => (last l i).isSome
theorem mark_length (l : List Pr) : (mark l).length = 64 := by simp [mark]
theorem mark_get (l : List Pr) {i : Nat} (h : i < 64) : (mark l)[i]? = some (last l i).isSome := by simp [mark, h]
theorem mark_nil : mark [] = List.replicate 64 false := by decide
/-- one word more of the last block -/
theorem mark_more {l : List Pr} {a : Nat} {ws : List Nat} {j : Nat} (hj : j < ws.length) (h : a + ws.length ≤ 64) : (mark (l ++ [((a : Int), ws.take j)])).set (a + j) true = mark (l ++ [((a : Int), ws.take (j + 1))]) := by
  apply List.ext_getElem?
  intro i
  rw [List.getElem?_set, mark_length]
  by_cases hi : i < 64
  · rw [mark_get _ hi, mark_get _ hi, last_snoc, last_snoc]
    have h1 : hits ((a : Int), ws.take j) i = decide (a ≤ i ∧ i < a + j) := by simp only [hits, List.length_take]; rw [decide_eq_decide]; omega
    have h2 : hits ((a : Int), ws.take (j + 1)) i = decide (a ≤ i ∧ i < a + (j + 1)) := by simp only [hits, List.length_take]; rw [decide_eq_decide]; omega
    rw [h1, h2]
    by_cases he : a + j = i
    · rw [if_pos he, if_pos (by omega), if_pos (by simp; omega)]; rfl
    · rw [if_neg he]
      by_cases hd : a ≤ i ∧ i < a + j
      · rw [if_pos (by simpa using hd), if_pos (by simp; omega)]; rfl
      · rw [if_neg (by simpa using hd), if_neg (by simp; omega)]
  · rw [if_neg (by omega), List.getElem?_eq_none (by rw [mark_length]; omega), List.getElem?_eq_none (by rw [mark_length]; omega)]
theorem mark_none (l : List Pr) (a : Int) (ws : List Nat) : mark (l ++ [(a, ws.take 0)]) = mark l := by
  unfold mark
  apply List.map_congr_left
  intro i _
  rw [last_snoc, if_neg (by simp [hits])]
end Bk
abbrev mks (l : List Bk.Pr) : List Value := (Bk.mark l).map Value.bool
def CellsP (l : List Bk.Pr) (w : World) (e : Ending) (w' : World) : Prop :=
  Below w.heap.size w w' ∧ if Bk.fit l = true then ∃ A c, e = .returned (.tuple #[.slice A (Bk.cells l).length c, .int .i64 0]) ∧ w'.ownsRow w.heap.size 3 1 (.slice A (Bk.cells l).length c) (Bk.cells l).length ((Bk.cells l).map fun x : Nat => .int .i64 x) else e = .returned (.tuple #[.slice none 0 0, .int .i64 20])
theorem info_int : (Try.prog.info? 3).map (fun i => (i.zero, i.size, i.bytes)) = some (some (.int .i64 0), 1, 8) := by kernel_rfl
theorem info_bool : (Try.prog.info? 4).map (fun i => (i.zero, i.size, i.bytes)) = some (some (.bool false), 1, 1) := by kernel_rfl
theorem run_index_mark (w : World) (l : List Bk.Pr) (q : Nat) (bb : Bool) (hq : q < 64) (h : (Bk.last l q).isSome = bb) : (Instr.index 53 (.agg (mks l).toArray) (.int .i64 (q : Int))).run Try.prog w = .ok (.bool bb) w := by
  obtain ⟨i0, hi, hz0, hz1, hz2⟩ := info_parts info_bool
  have hidx : (mks l).toArray[q]? = some (.bool bb) := by simp [Bk.mark_get _ hq, h]
  have hagg : (isAgg 4).run Try.prog w = .ok false w := by
    unfold isAgg
    rw [Sem.run_bind, run_underlying Try.underlying4 w]
    simp
  have hq2 : (0 : Int) ≤ (q : Int) ∧ (q : Int) < ((64 : Nat) : Int) := by omega
  have hmul : (q : Int).toNat * 1 = q := by omega
  have hs : (sizeOf 4).run Try.prog w = .ok 1 w := by simp [sizeOf, typeInfo, hi, hz1]
  have hp : (part 4 (mks l).toArray q).run Try.prog w = .ok (.bool bb) w := by
    unfold part
    rw [Sem.run_bind, hagg]
    simp only [Result.andThen_ok, Bool.false_eq_true, if_false, hidx, Sem.run_pure]
  simp only [Instr.index, asIntOf, Sem.run_bind, Sem.run_pure, Result.andThen_ok, run_underlying Try.underlying53 w, if_pos hq2, hs, hmul, hp]
theorem one1 (w : World) (x : Value) (t : TypeId) : ∀ (j : Nat) (u : Value), [x][j]? = some u → (w.alloc (.cells #[x] t)).cell? ((⟨w.heap.size, 0, none⟩ : Addr).add j) = some u := by
  intro j u hu
  cases j with
  | zero => simp at hu; subst hu; simp [go_sem]
  | succ j => simp at hu
theorem one_i64 (a : Int) : ∀ u ∈ [Value.int .i64 a], u.oneCell' = true := by simp [Value.oneCell']
set_option maxRecDepth 100000 in
set_option maxHeartbeats 400000 in
theorem cells_any (A : Option Addr) (l : List Blk) (c n : Nat) (w : World) (hn : l.length = n) (h : Blks w w.heap.size A l) (hn63 : n ≤ 9223372036854775807) :
    Calls Try.prog 15 #[.slice A n c] w (CellsP (prs l) w) := by
  have kf := Lib.hid (fun W (hW : Below w.heap.size w W) => bkfit_any A l c n W hn (h.to hW) hn63)
  obtain ⟨r, hr⟩ : ∃ r, Bk.fit (prs l) = r := ⟨_, rfl⟩
  rw [hr] at kf
  have HR := Lib.hid hr
  have HN := Lib.hid hn
  clear hr hn
  cases r
  · go_enter Try.func15, Try.ntmps15
    go_wp2_with fail
    refine (kf.out _ (Below.refl _ _)).mono ?_
    rintro e w1 ⟨rfl, b1⟩
    go_wp2
    go_ret2
    exact ⟨b1, by rw [if_neg (by rw [HR.out]; decide)]; rfl⟩
  · go_enter Try.func15, Try.ntmps15
    go_wp2_with fail
    refine (kf.out _ (Below.refl _ _)).mono ?_
    rintro e w1 ⟨rfl, b1⟩
    have B1 := Lib.hid b1
    clear b1
    go_wp2
    have HZ : Hid (RowAt (w1.alloc (.cells (List.replicate 64 (Value.bool false)).toArray 53)) w1.heap.size 53 (mks [])) := Lib.hid (by
      unfold mks
      rw [Bk.mark_nil, List.map_replicate]
      exact RowAt.new w1 _ _)
    have HB1 := Lib.hid (B1.out.size)
    go_loopw [16] (fun i wr => ∃ k : Nat, k ≤ n ∧ i = .int .i64 k ∧ RowAt wr w1.heap.size 53 (mks (prs (l.take k))) ∧ Below w.heap.size w wr) (fun i _ => n - (intOf i).toNat)
    case atStart => exact ⟨0, by omega, rfl, HZ.out, bel_alloc B1.out _⟩
    case round =>
      clear HZ
      obtain ⟨k, hk, rfl, hrow, hbel⟩ := hrel
      generalize w1.heap.size = g at *
      by_cases hlt : k < n
      · obtain ⟨g1, o1, x, rfl, hg1, hx, hxo, hx0, hx1⟩ := (h.to hbel).at_ (k := k) (by rw [HN.out]; exact hlt)
        have e1 : (k : Int) < (n : Int) := by omega
        have hfx : Bk.fits x.a x.ws.length = true := Bk.fit_iff.1 HR.out _ (List.mem_of_getElem? (prs_get hx))
        have hf := Bk.fits_iff.1 hfx
        obtain ⟨a, ha⟩ : ∃ a : Nat, x.a = (a : Int) := ⟨x.a.toNat, by omega⟩
        obtain ⟨m, hm⟩ : ∃ m, x.ws.length = m := ⟨_, rfl⟩
        have ham : a + m ≤ 64 := by omega
        have hm14 : m ≤ 14 := by omega
        rw [ha] at hx0
        rw [hm] at hx1
        have HT : Hid (mks (prs (l.take k) ++ [((a : Int), x.ws.take m)]) = mks (prs (l.take (k + 1)))) := Lib.hid (by
          rw [prs, prs, List.map_take, List.map_take, List.take_add_one (i := k), prs_get hx, Option.toList, ← hm, List.take_length, ← ha])
        have HXM := Lib.hid hm
        have OW : Hid (RowAt (wr.alloc (.cells #[.int .i64 (a : Int), .slice x.A m x.c] 34)) g 53 (mks (prs (l.take k) ++ [((a : Int), x.ws.take 0)]))) := Lib.hid (by
          unfold mks; rw [Bk.mark_none]; exact hrow.alloc _)
        have BE := Lib.hid hbel
        have hgr : g1 < wr.heap.size := hg1
        have hgg : g < wr.heap.size := hrow.lt
        clear hx hxo hfx hf ha hm hrow hbel
        go_wp2
        have HC0 : Hid ((wr.alloc (.cells #[.int .i64 (a : Int), .slice x.A m x.c] 34)).cell? ⟨wr.heap.size, 0, none⟩ = some (.int .i64 (a : Int))) := Lib.hid (by simp [go_sem])
        have HB0 := Lib.hid (bel_alloc BE.out (.cells #[.int .i64 (a : Int), .slice x.A m x.c] 34))
        obtain ⟨W0, hW0⟩ : ∃ W0, wr.alloc (.cells #[.int .i64 (a : Int), .slice x.A m x.c] 34) = W0 := ⟨_, rfl⟩
        rw [hW0] at HC0 HB0 OW ⊢
        clear hW0
        generalize wr.heap.size = g6 at *
        go_loopw [23] (fun j wr2 => ∃ q : Nat, q ≤ m ∧ j = .int .i64 q ∧ RowAt wr2 g 53 (mks (prs (l.take k) ++ [((a : Int), x.ws.take q)])) ∧ wr2.cell? ⟨g6, 0, none⟩ = some (.int .i64 (a : Int)) ∧ Below w.heap.size w wr2) (fun j _ => m - (intOf j).toNat)
        case atStart => exact ⟨0, by omega, rfl, OW.out, HC0.out, HB0.out⟩
        case round =>
          clear OW
          obtain ⟨q, hq, rfl, hrow, hc0, hbe⟩ := hrel
          have hne : g ≠ g6 := by omega
          by_cases hlq : q < m
          · have hltI : (q : Int) < (m : Int) := by omega
            obtain ⟨p, hp⟩ : ∃ p : Nat, (a : Int) + (q : Int) = (p : Int) := ⟨a + q, by omega⟩
            have hp64 : (p : Int) < 64 := by omega
            have hap : a + q = p := by omega
            obtain ⟨bb, hbb⟩ : ∃ bb, (Bk.mark (prs (l.take k) ++ [((a : Int), x.ws.take q)]))[p]? = some bb := ⟨_, Bk.mark_get _ (by omega)⟩
            have hcp : wr.cell? ⟨g, p, none⟩ = some (.bool bb) := hrow.cell (by unfold mks; rw [List.getElem?_map, hbb]; rfl)
            have hfp : wr.frozen? ⟨g, p, none⟩ = false := hrow.frozen p
            have R2 : Hid (RowAt (wr.setCell ⟨g, p, none⟩ (.bool true)) g 53 (mks (prs (l.take k) ++ [((a : Int), x.ws.take (q + 1))]))) := Lib.hid (by
              have := hrow.set p (.bool true)
              unfold mks at this ⊢
              have hm2 := Bk.mark_more (l := prs (l.take k)) (a := a) (ws := x.ws) (j := q) (by rw [HXM.out]; exact hlq) (by rw [HXM.out]; exact ham)
              rw [hap] at hm2
              rwa [← List.map_set, hm2] at this)
            have C2 : Hid ((wr.setCell ⟨g, p, none⟩ (.bool true)).cell? ⟨g6, 0, none⟩ = some (.int .i64 (a : Int))) := Lib.hid (keep_block hne hc0)
            have B2 : Hid (Below w.heap.size w (wr.setCell ⟨g, p, none⟩ (.bool true))) := Lib.hid (bel_set hbe HB1.out _)
            clear hbb hrow hbe
            go_wp2
            go_roundw
            case rel => exact ⟨q + 1, by omega, by go_num, R2.out, C2.out, B2.out⟩
            case measure => simp [intOf]; omega
          · obtain rfl : q = m := by omega
            have R2 := Lib.hid hrow
            have B2 := Lib.hid hbe
            rw [HT.out] at R2
            clear hrow hbe
            go_wp2
            go_roundw
            case rel => exact ⟨k + 1, by omega, by go_num, R2.out, B2.out⟩
            case measure => simp [intOf]; omega
      · obtain rfl : k = n := by omega
        have HK : Hid (l.take k = l) := Lib.hid (List.take_of_length_le (by rw [HN.out]; exact Nat.le_refl _))
        rw [HK.out] at hrow
        have OW := Lib.hid hrow
        have BE := Lib.hid hbel
        have hgr := hrow.lt
        have HSZ := Lib.hid hbel.size
        clear hrow hbel
        go_wp2_with (refine wpList_load_mid rfl 53 (.tmp 4) rfl g 0 rfl (mks (prs l)) _ (by have := OW.out.range 0 64; rwa [List.drop_zero, List.take_of_length_le (by simp [mks, Bk.mark_length])] at this) Try.underlying53 rfl (by simp only [mks, List.length_map, Bk.mark_length]; kernel_rfl) ?_)
        go_loopw [8, 34] (fun v i wr2 => ∃ q : Nat, ∃ A2 c2, q ≤ 64 ∧ i = .int .i64 q ∧ v = .slice A2 (Bk.cellsTo (prs l) q).length c2 ∧ wr2.ownsRow w.heap.size 3 1 (.slice A2 (Bk.cellsTo (prs l) q).length c2) (Bk.cellsTo (prs l) q).length ((Bk.cellsTo (prs l) q).map fun x : Nat => .int .i64 x) ∧ Below w.heap.size w wr2) (fun _ j _ => 64 - (intOf j).toNat)
        case atStart => exact ⟨0, none, 0, by omega, rfl, rfl, World.ownsRow_nil _ _ _ _, BE.out⟩
        case round =>
          obtain ⟨q, A2, c2, hq, rfl, rfl, hown, hbe⟩ := hrel
          by_cases hlq : q < 64
          · have hqI : (q : Int) < 64 := by omega
            obtain ⟨bb, hbb⟩ : ∃ bb, (Bk.last (prs l) q).isSome = bb := ⟨_, rfl⟩
            have hidx := fun w => run_index_mark w (prs l) q bb hlq hbb
            have hnx := Bk.cellsTo_succ (prs l) q
            have hlen := Bk.cellsTo_length (prs l) q
            obtain ⟨N, hN⟩ : ∃ N, (Bk.cellsTo (prs l) q).length = N := ⟨_, rfl⟩
            rw [hN] at hown hlen ⊢
            rw [hbb] at hnx
            have O2 := Lib.hid hown
            have B2 := Lib.hid hbe
            have NX := Lib.hid hnx
            have HNN := Lib.hid hN
            clear hown hbe hnx hbb hN
            cases bb
            · go_wp2
              go_roundw
              case rel => exact ⟨q + 1, A2, c2, by omega, by go_num, by rw [NX.out, if_neg (by decide), HNN.out], by rw [NX.out, if_neg (by decide), HNN.out]; exact O2.out, B2.out⟩
              case measure => simp [intOf]; omega
            · obtain ⟨i0, hif, hz0, hz1, hz2⟩ := info_parts info_int
              go_wp2_with (at_builtin; refine wpList_append_own_at _ rfl (.tmp 39) (.tmp 41) 39 rfl w.heap.size 3 i0 _ 1 8 Try.underlying39 hif hz0 hz1 hz2 rfl (by decide) (.slice A2 N c2) N _ rfl (O2.out.alloc _) ⟨wr.heap.size, 0, none⟩ 1 1 [.int .i64 q] rfl rfl ?_ ?_ ?_ ?_ ?_ ?_; exact one1 _ _ _; exact one_i64 _; (unfold maxLen; omega); omega; (have h1 := B2.out.size; simp; omega); intro v3 w3 hown3 hg3 _ hat3; obtain ⟨A3, c3, rfl⟩ := own_form hown3; have B3 : Hid (Below w.heap.size w w3) := Lib.hid ((bel_alloc B2.out _).grown hg3 (by have := B2.out.size; simp; omega) (fun g hg => (O2.out.lt g hg).1)); have O3 := Lib.hid hown3; clear hg3 hat3 hown3)
              go_roundw
              case rel =>
                have hl2 : (Bk.cellsTo (prs l) (q + 1)).length = N + 1 := by rw [NX.out, if_pos rfl, List.length_append, HNN.out]; rfl
                refine ⟨q + 1, A3, c3, by omega, by go_num, by rw [hl2], ?_, B3.out⟩
                rw [hl2, NX.out, if_pos rfl, List.map_append]
                exact O3.out
              case measure => simp [intOf]; omega
          · obtain rfl : q = 64 := by omega
            have O2 := Lib.hid hown
            have B2 := Lib.hid hbe
            clear hown hbe
            go_wp2
            go_ret2
            exact ⟨B2.out, by rw [if_pos HR.out]; exact ⟨_, _, rfl, O2.out⟩⟩
end Go.Proofs.Ytkilpiiljpeamaa
