/- The walk of stage.Back. -/
import Derived.Test.YtopkncbpkccfbaaStgPutY
namespace Go.Proofs.Ytopkncbpkccfbaa
open Go.RowKit
set_option linter.unusedVariables false
attribute [local go_sem] Later.cell Later.frozen setCell_twice
/-- the tagged block of a stage -/
def backL (o tx : Nat) (hs : List Bool) (ps : List Bk.Pr) (n : Int) : List Nat :=
  if 0 ≤ n ∧ n < 8 ∧ hs.getD n.toNat false = true then Stg.tagged o tx n.toNat (ps.getD n.toNat (0, [])).1 (ps.getD n.toNat (0, [])).2 else Stg.zs 20
theorem backL_length (o tx : Nat) (hs : List Bool) (ps : List Bk.Pr) (n : Int) : (backL o tx hs ps n).length = 20 := by
  unfold backL
  split
  · exact Stg.tagged_length _ _ _ _ _
  · simp [Stg.zs]
set_option maxRecDepth 100000 in
set_option maxHeartbeats 400000 in
theorem back_any (s : Stv) (o : Nat) (n : Int) (w : World) (hs : s.Ok w w.heap.size) (ho : o < 65536) :
    Calls Try.prog 17 #[.agg s.C.toArray, .int .u16 (o : Int), .int .i64 n] w (Makes u16w 22 w (backL o s.tx s.hs (prs s.bs) n)) := by
  obtain ⟨i0, hif, hz0, hz1, hz2⟩ := info_parts info_w16
  by_cases hn : 0 ≤ n ∧ n < 8
  · obtain ⟨m, rfl, hm⟩ : ∃ m : Nat, n = (m : Int) ∧ m ≤ 7 := ⟨n.toNat, by omega, by omega⟩
    have kn := Lib.hid (fun W => number_any (m : Int) true W (by simp; omega))
    obtain ⟨b, hb⟩ : ∃ b, s.bs[m]? = some b := ⟨_, List.getElem?_eq_getElem (by rw [hs.lb]; omega)⟩
    obtain ⟨y, hy⟩ : ∃ y, s.hs[m]? = some y := ⟨_, List.getElem?_eq_getElem (by rw [hs.lh]; omega)⟩
    have hyD : s.hs.getD m false = y := by rw [List.getD_eq_getElem?_getD, hy]; rfl
    have hbD : (prs s.bs).getD m (0, []) = b.pr := by rw [List.getD_eq_getElem?_getD, prs_get hb]; rfl
    have hR := RowAt.new w 42 s.C
    have e0 := hR.cell (Stv.C_tx s)
    have e1 := hR.cell (Stv.C_have hy)
    have e2 := hR.cell (Stv.C_block hs.lh hb).1
    have e3 := hR.cell (Stv.C_block hs.lh hb).2
    have hbo := (hs.ok b (List.mem_of_getElem? hb)).to (bel_alloc (Below.refl _ _) (.cells s.C.toArray 42))
    have g4 : (m : Int) < 8 := by omega
    cases y
    · have HB := Lib.hid (show backL o s.tx s.hs (prs s.bs) (m : Int) = List.replicate 20 0 by unfold backL; rw [if_neg (by rw [Int.toNat_natCast, hyD]; simp)]; rfl)
      rw [HB.out]
      clear hy hb hyD hbD hn hR
      go_enter Try.func17, Try.ntmps17
      go_wp2_with fail
      with_reducible refine (kn.out _).mono ?_
      rintro e_ w_ ⟨rfl, rfl⟩
      go_wp2_with (at_make; refine wpList_make_full _ rfl _ _ 24 rfl w.heap.size 22 i0 (.int .u16 0) 1 Try.underlying24 hif hz0 hz1 _ _ _ _ 20 rfl rfl rfl rfl (by rw [hz2]; decide) (by decide) (by simp) ?_; intro w2 o2 hg2; have hb2 : Below w.heap.size (w.alloc (.cells s.C.toArray 42)) w2 := (Below.refl _ _).grown hg2 (by simp) (by simp); clear hg2)
      go_ret
      refine Makes.of_own (by simp) ?_ ((bel_alloc (Below.refl _ _) _).trans hb2)
      rw [← vals, ← made_vals]
      show w2.ownsRow _ _ _ _ _ (madeCells (Value.int .u16 0).cells 20).toList
      simpa using o2
    · have HB := Lib.hid (show backL o s.tx s.hs (prs s.bs) (m : Int) = Stg.tagged o s.tx m b.a b.ws by unfold backL; rw [if_pos ⟨by omega, by omega, by rw [Int.toNat_natCast]; exact hyD⟩, Int.toNat_natCast, hbD])
      rw [HB.out]
      have kt := Lib.hid (fun W (h : Below w.heap.size w W) => tagged_any o s.tx m b.a b.ws b.A b.c b.ws.length W ho hs.tx hm rfl ((hs.ok b (List.mem_of_getElem? hb)).to h).sq hbo.lo hbo.hi (Nat.le_trans hbo.ln hbo.cap) hbo.nl)
      have HT := Lib.hid (Stg.tagged_length o s.tx m b.a b.ws)
      clear hy hb hyD hbD hn hR hbo
      go_enter Try.func17, Try.ntmps17
      go_wp2_with fail
      with_reducible refine (kn.out _).mono ?_
      rintro e_ w_ ⟨rfl, rfl⟩
      go_wp2
      go_region_held3 (fun w' => w'.cell? ⟨w.heap.size, 0, none⟩ = some (.int .u32 (s.tx : Int)) ∧ w'.cell? ⟨w.heap.size, 9 + m * 2, none⟩ = some (.int .i64 b.a) ∧ w'.cell? ⟨w.heap.size, 9 + m * 2 + 1, none⟩ = some (.slice b.A b.ws.length b.c))
        (first | (exact ⟨d0, d1, d2⟩) | (refine ⟨?_, ?_, ?_⟩ <;> assumption) | go_keep)
        ((go_at_call 40; (with_reducible refine (kt.out _ (bel_alloc (Below.refl _ _) _).drew).mono ?_); rintro e w4 ⟨A4, c4, rfl, o4, hb4⟩; have d0 := (hb4.cell (p := ⟨w.heap.size, 0, none⟩) (by simp)).trans e0; have d1 := (hb4.cell (p := ⟨w.heap.size, 9 + m * 2, none⟩) (by simp)).trans e2; have d2 := (hb4.cell (p := ⟨w.heap.size, 9 + m * 2 + 1, none⟩) (by simp)).trans e3; rw [HT.out]))
      rw [HT.out] at o4
      go_wp2
      go_ret
      exact Makes.of_own HT.out (own_more o4 (by simp)) ((bel_alloc (Below.refl _ _) _).drew.trans (hb4.mono (by simp)))
  · have kn := Lib.hid (fun W => number_any n false W (by simp; omega))
    have HB := Lib.hid (show backL o s.tx s.hs (prs s.bs) n = List.replicate 20 0 by unfold backL; rw [if_neg (fun h => hn ⟨h.1, h.2.1⟩)]; rfl)
    rw [HB.out]
    clear hn
    go_enter Try.func17, Try.ntmps17
    go_wp2_with fail
    with_reducible refine (kn.out _).mono ?_
    rintro e_ w_ ⟨rfl, rfl⟩
    go_wp2_with (at_make; refine wpList_make_full _ rfl _ _ 24 rfl w.heap.size 22 i0 (.int .u16 0) 1 Try.underlying24 hif hz0 hz1 _ _ _ _ 20 rfl rfl rfl rfl (by rw [hz2]; decide) (by decide) (by simp) ?_; intro w2 o2 hg2; have hb2 : Below w.heap.size (w.alloc (.cells s.C.toArray 42)) w2 := (Below.refl _ _).grown hg2 (by simp) (by simp); clear hg2)
    go_ret
    refine Makes.of_own (by simp) ?_ ((bel_alloc (Below.refl _ _) _).trans hb2)
    rw [← vals, ← made_vals]
    show w2.ownsRow _ _ _ _ _ (madeCells (Value.int .u16 0).cells 20).toList
    simpa using o2
end Go.Proofs.Ytopkncbpkccfbaa
