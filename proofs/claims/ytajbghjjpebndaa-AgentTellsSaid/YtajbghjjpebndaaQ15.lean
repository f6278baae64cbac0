/- The walks of the reference of layer 19: same, Read where the words are none. The walk of the reference of layer 19: Read. The walk of the reference of layer 19: Copy. The walks of the reference of layer 19: Back, Put. -/
import Derived.Test.YtajbghjjpebndaaQ14
import Derived.Test.YtajbghjjpebndaaQ07
import Derived.BigQuiet
import Derived.Deep.QuietTactic
import Derived.Deep.RegionLaw
import Derived.BigRegion
import Derived.Test.YtajbghjjpebndaaQ12
import Derived.IntWalk
namespace Go.Proofs.Ytajbghjjpebndaa
set_option maxRecDepth 100000
open Go.RowKit
set_option linter.unusedVariables false
set_option linter.unusedSimpArgs false
attribute [local go_sem] Later.cell Later.frozen setCell_twice
abbrev none5 (e : Int) : Value := .tuple #[.int .u16 0, .int .u32 0, .int .i64 0, .agg #[.int .i64 0, .slice none 0 0], .int .i64 e]
end Go.Proofs.Ytajbghjjpebndaa
namespace Go.Proofs.Ytajbghjjpebndaa
set_option maxRecDepth 100000
open Go.RowKit
set_option linter.unusedVariables false
set_option linter.unusedSimpArgs false
attribute [local go_sem] Later.cell Later.frozen setCell_twice
theorem wrap_u32m (n : Int) : IntKind.u32.wrap n = n % 4294967296 := by simp [IntKind.wrap, IntKind.signed, IntKind.bits]
end Go.Proofs.Ytajbghjjpebndaa
namespace Go.Proofs.Ytajbghjjpebndaa
set_option maxRecDepth 100000
open Go.RowKit
set_option linter.unusedVariables false
set_option linter.unusedSimpArgs false
attribute [local go_sem] Later.cell Later.frozen setCell_twice
theorem Stv.Is.put1 {so : Stv} {W : World} {base tx k : Nat} {S : SS} {b : Blk} (h : so.Is W base tx S) (hk : k < 8) (hb : b.Ok W W.heap.size) (hnew : ∀ p, b.A = some p → base ≤ p.block) (hl : b.ws.length ≤ 35184372088832) : (⟨so.tx, so.hs.set k true, so.bs.set k b⟩ : Stv).Is W base tx (S.set k (some b.pr)) := by
  have hm : ∀ y ∈ so.bs.set k b, y ∈ so.bs ∨ y = b := fun y hy => List.mem_or_eq_of_mem_set hy
  refine ⟨⟨by simp [h.ok.lh], by simp [h.ok.lb], h.ok.tx, fun y hy => ?_⟩, h.tx, ?_, fun y hy p hp => ?_, fun y hy => ?_⟩
  · rcases hm y hy with hy | rfl
    · exact h.ok.ok y hy
    · exact hb
  · rw [← h.S]
    refine ss_eq (Stv.S_length _) (by rw [List.length_set, Stv.S_length]) fun j hj => ?_
    unfold Stv.S
    rw [ssOf_get? hj]
    by_cases hjk : j = k
    · subst hjk
      have e1 : (so.hs.set j true).getD j false = true := by rw [List.getD_eq_getElem?_getD, List.getElem?_set_self (by rw [h.ok.lh]; exact hj)]; rfl
      rw [List.getElem?_set_self (by rw [ssOf_length]; exact hj), e1, if_pos rfl]
      have e2 : (prs (so.bs.set j b)).getD j (0, []) = b.pr := by
        rw [List.getD_eq_getElem?_getD, prs_get (b := b) (List.getElem?_set_self (by rw [h.ok.lb]; exact hj))]; rfl
      rw [e2]
    · have e1 : (so.hs.set k true).getD j false = so.hs.getD j false := by rw [List.getD_eq_getElem?_getD, List.getElem?_set_ne (fun e => hjk e.symm), ← List.getD_eq_getElem?_getD]
      have e2 : (prs (so.bs.set k b)).getD j (0, []) = (prs so.bs).getD j (0, []) := by
        rw [List.getD_eq_getElem?_getD, List.getD_eq_getElem?_getD]
        simp only [List.getElem?_map, List.getElem?_set_ne (show k ≠ j from fun e => hjk e.symm)]
      rw [List.getElem?_set_ne (fun e => hjk e.symm), ssOf_get? hj, e1, e2]
  · rcases hm y hy with hy | rfl
    · exact h.new y hy p hp
    · exact hnew p hp
  · rcases hm y hy with hy | rfl
    · exact h.ln y hy
    · exact hl
def upto (S : SS) (k : Nat) : SS := (List.range 8).map fun j => if j < k then S.getD j none else none
theorem upto_get? {S : SS} {k j : Nat} (h : j < 8) : (upto S k)[j]? = some (if j < k then S.getD j none else none) := by
  unfold upto; rw [List.getElem?_map, List.getElem?_range h]; rfl
theorem upto_length (S : SS) (k : Nat) : (upto S k).length = 8 := by simp [upto]
theorem upto_zero (S : SS) : upto S 0 = ss0 := by simp [upto, ss0, List.map_const']
theorem upto_all {S : SS} (h : S.length = 8) : upto S 8 = S := ss_eq (upto_length _ _) h fun k hk => by
  rw [upto_get? hk, if_pos hk, List.getD_eq_getElem?_getD, List.getElem?_eq_getElem (by omega)]; rfl
theorem upto_some {S : SS} {k : Nat} {p : Bk.Pr} (hk : k < 8) (h : S.getD k none = some p) : upto S (k + 1) = (upto S k).set k (some p) := by
  refine ss_eq (upto_length _ _) (by rw [List.length_set, upto_length]) fun j hj => ?_
  rw [upto_get? hj]
  by_cases hjk : j = k
  · subst hjk
    rw [List.getElem?_set_self (by rw [upto_length]; exact hj), if_pos (by omega), h]
  · rw [List.getElem?_set_ne (fun e => hjk e.symm), upto_get? hj]
    by_cases h2 : j < k
    · rw [if_pos h2, if_pos (by omega)]
    · rw [if_neg h2, if_neg (by omega)]
theorem upto_none {S : SS} {k : Nat} (hk : k < 8) (h : S.getD k none = none) : upto S (k + 1) = upto S k := by
  refine ss_eq (upto_length _ _) (upto_length _ _) fun j hj => ?_
  rw [upto_get? hj, upto_get? hj]
  by_cases hjk : j = k
  · subst hjk
    rw [if_pos (by omega), if_neg (by omega), h]
  · by_cases h2 : j < k
    · rw [if_pos h2, if_pos (by omega)]
    · rw [if_neg h2, if_neg (by omega)]
/-- from place k on nothing is there -/
def Stv.Rest (s : Stv) (k : Nat) : Prop := ∀ j, k ≤ j → j < 8 → s.hs[j]? = some false ∧ s.bs[j]? = some Blk.zero
theorem Stv.Rest.set {s : Stv} {k : Nat} {b : Blk} {x : Bool} (h : s.Rest k) : (⟨s.tx, s.hs.set k x, s.bs.set k b⟩ : Stv).Rest (k + 1) := fun j hj h8 => by
  have hne : k ≠ j := by omega
  have := h j (by omega) h8
  simp only [List.getElem?_set_ne hne]
  exact this
theorem Stv.Rest.more {s : Stv} {k : Nat} (h : s.Rest k) : s.Rest (k + 1) := fun j hj h8 => h j (by omega) h8
def CopyP (w : World) (tx : Nat) (S : SS) (e : Ending) (w' : World) : Prop :=
  ∃ s' : Stv, e = .returned (.agg s'.C.toArray) ∧ s'.Is w' w.heap.size tx S ∧ Below w.heap.size w w'
set_option maxRecDepth 100000 in
set_option maxHeartbeats 1000000 in
theorem rcopy_S {s : Stv} {B tx : Nat} {S : SS} (w : World) (hs : s.Is w B tx S) : Calls Try.prog 59 #[.agg s.C.toArray] w (CopyP w tx S) := by
  obtain ⟨i0, hif, hz0, hz1, hz2⟩ := info_parts info_w16
  have hR1 : RowAt (((w.alloc (.cells s.C.toArray 33)).alloc (.cells z25 33)).alloc (.cells z25 33)) w.heap.size 33 s.C := ((RowAt.new w _ s.C).alloc _).alloc _
  have hR2 : RowAt (((w.alloc (.cells s.C.toArray 33)).alloc (.cells z25 33)).alloc (.cells z25 33)) (w.heap.size + 1) 33 Stv.zero.C := by
    have := (RowAt.new (w.alloc (.cells s.C.toArray 33)) 33 Stv.zero.C).alloc (.cells z25 33)
    simpa [z25_eq] using this
  have hR3 : RowAt (((w.alloc (.cells s.C.toArray 33)).alloc (.cells z25 33)).alloc (.cells z25 33)) (w.heap.size + 1 + 1) 33 Stv.zero.C := by
    have := RowAt.new ((w.alloc (.cells s.C.toArray 33)).alloc (.cells z25 33)) 33 Stv.zero.C
    simpa [z25_eq] using this
  have c0 : ∀ W, RowAt W w.heap.size 33 s.C → W.cell? ⟨w.heap.size, 0, none⟩ = some (.int .u32 (tx : Int)) := fun W h => (h.cells 0).trans (by rw [Stv.C_tx, hs.tx])
  have c0' := c0 _ (RowAt.new w 33 s.C)
  have c0'' := c0 _ ((RowAt.new w 33 s.C).alloc (.cells z25 33))
  have H1 := Lib.hid hR1
  have H2 := Lib.hid hR2
  have H3 := Lib.hid hR3
  have IS := Lib.hid hs
  have hst1 : ∀ v ∈ (St0 tx).C, v.oneCell' = true := Stv.C_one _
  have HS1 := Lib.hid hst1
  clear hR1 hR2 hR3 hst1 c0 hs
  go_enter Try.func59, Try.ntmps59
  go_wp2_with (refine wpList_store_var rfl 33 (.tmp 3) (.tmp 7) rfl (w.heap.size + 1 + 1) Stv.zero.C (St0 tx).C 25 rfl rfl H3.out size_25 rfl rfl HS1.out ?_; intro w2 r3 k2; have R3 := Lib.hid r3; have K2 := Lib.hid k2; clear r3 k2)
  have hz2 : w.heap.size + 3 ≤ w2.heap.size := by rw [K2.out.size]; simp
  have R1 := Lib.hid (H1.out.only K2.out (by omega))
  have R2 := Lib.hid (H2.out.only K2.out (by omega))
  have hb2 : Below w.heap.size w w2 := K2.out.to (bel_alloc (bel_alloc (bel_alloc (Below.refl _ _) _) _) _) (by omega)
  have B2 := Lib.hid hb2
  have HT0 := Lib.hid (St0_is tx w2 (w.heap.size + 3) (by have := IS.out.ok.tx; rw [IS.out.tx] at this; exact this))
  have HR0 : Hid ((St0 tx).Rest 0) := Lib.hid (fun j _ h8 => ⟨by show (List.replicate 8 false)[j]? = _; rw [List.getElem?_replicate, if_pos h8], by show (List.replicate 8 Blk.zero)[j]? = _; rw [List.getElem?_replicate, if_pos h8]⟩)
  clear K2 H1 H2 H3 HS1 hb2 c0' c0''
  go_loopw [4] (fun i wr => ∃ k : Nat, ∃ so : Stv, k ≤ 8 ∧ i = .int .i64 k ∧ so.Is wr (w.heap.size + 3) tx (upto S k) ∧ so.Rest k ∧ RowAt wr (w.heap.size + 1 + 1) 33 so.C ∧ RowAt wr w.heap.size 33 s.C ∧ RowAt wr (w.heap.size + 1) 33 Stv.zero.C ∧ Below w.heap.size w wr ∧ w.heap.size + 3 ≤ wr.heap.size) (fun i _ => 8 - (intOf i).toNat)
  case atStart => exact ⟨0, St0 tx, by omega, rfl, by rw [upto_zero]; exact HT0.out, HR0.out, R3.out, R1.out, R2.out, B2.out, hz2⟩
  case round =>
    clear hz2
    obtain ⟨k, so, hk, rfl, hso, hrest, hr3, hr1, hr2, hbe, hsz⟩ := hrel
    have hz0' : w.heap.size < wr.heap.size := by omega
    by_cases hlt : k < 8
    · obtain ⟨b, hb⟩ : ∃ b, s.bs[k]? = some b := ⟨_, List.getElem?_eq_getElem (by rw [IS.out.ok.lb]; exact hlt)⟩
      obtain ⟨x, hx⟩ : ∃ x, s.hs.getD k false = x := ⟨_, rfl⟩
      have hltI : (k : Int) < 8 := by omega
      have h0I : (0 : Int) ≤ (k : Int) := by omega
      have hSk : S.getD k none = if x = true then some b.pr else none := by
        rw [← IS.out.S]; unfold Stv.S; rw [ssOf_get hlt, hx]
        have : (prs s.bs).getD k (0, []) = b.pr := by rw [List.getD_eq_getElem?_getD, prs_get hb]; rfl
        rw [this]
      have d1 := (hr1.cells (1 + k)).trans (by rw [Stv.C_have (getD_hs (by rw [IS.out.ok.lh]; exact hlt)), hx])
      have hcb := Stv.C_block IS.out.ok.lh hb
      have d2 := (hr1.cells (9 + k * 2)).trans hcb.1
      have d3 := (hr1.cells (9 + k * 2 + 1)).trans hcb.2
      have HB := Lib.hid hb
      have HSK := Lib.hid hSk
      have ISO := Lib.hid hso
      have HRE := Lib.hid hrest
      have R3 := Lib.hid hr3
      have R1 := Lib.hid hr1
      have R2 := Lib.hid hr2
      have BE := Lib.hid hbe
      clear hb hx hSk hcb hso hrest hr3 hr1 hr2 hbe
      cases x
      · go_wp2
        go_roundw
        case rel => exact ⟨k + 1, so, by omega, by go_num, by rw [upto_none hlt HSK.out]; exact ISO.out, HRE.out.more, R3.out, R1.out, R2.out, BE.out, hsz⟩
        case measure => simp [intOf]; omega
      · have hre := HRE.out k (Nat.le_refl _) hlt
        have hzb := Stv.C_block ISO.out.ok.lh hre.2
        have e1 : wr.cell? ⟨w.heap.size + 1 + 1, 1 + k, none⟩ = some (.bool false) := (R3.out.cells (1 + k)).trans (Stv.C_have hre.1)
        have e2 : wr.cell? ⟨w.heap.size + 1 + 1, 9 + k * 2, none⟩ = some (.int .i64 0) := (R3.out.cells (9 + k * 2)).trans hzb.1
        have e3 : wr.cell? ⟨w.heap.size + 1 + 1, 9 + k * 2 + 1, none⟩ = some (.slice none 0 0) := (R3.out.cells (9 + k * 2 + 1)).trans hzb.2
        have f1 := R3.out.frozen (1 + k)
        have f2 := R3.out.frozen (9 + k * 2)
        have f3 := R3.out.frozen (9 + k * 2 + 1)
        have n1 : ¬ 1 + k = 9 + k * 2 := by omega
        have n2 : ¬ 1 + k = 9 + k * 2 + 1 := by omega
        have n3 : ¬ 9 + k * 2 = 9 + k * 2 + 1 := by omega
        have HZ := Lib.hid hzb.2
        clear hre hzb
        go_wp2
        obtain ⟨w5, hw5⟩ : ∃ w5, w5 = (wr.setCell ⟨w.heap.size + 1 + 1, 1 + k, none⟩ (.bool true)).setCell ⟨w.heap.size + 1 + 1, 9 + k * 2, none⟩ (.int .i64 b.a) := ⟨_, rfl⟩
        rw [← hw5]
        have k5 : Only (w.heap.size + 1 + 1) wr w5 := by rw [hw5]; exact ((Only.refl _ _).set _).set _
        have r3 : RowAt w5 (w.heap.size + 1 + 1) 33 ((so.C.set (1 + k) (.bool true)).set (9 + k * 2) (.int .i64 b.a)) := by rw [hw5]; exact (R3.out.set _ _).set _ _
        have hz5 : w.heap.size + 3 ≤ w5.heap.size := by rw [k5.size]; exact hsz
        have hz51 : w.heap.size + 1 + 1 < w5.heap.size := by omega
        have hz50 : w.heap.size < w5.heap.size := by omega
        have q3 : w5.cell? ⟨w.heap.size + 1 + 1, 9 + k * 2 + 1, none⟩ = some (.slice none 0 0) := (r3.cells _).trans (by rw [List.getElem?_set_ne n3, List.getElem?_set_ne n2]; exact HZ.out)
        have q1 : w5.cell? ⟨w.heap.size, 9 + k * 2 + 1, none⟩ = some (.slice b.A b.ws.length b.c) := (k5.cell (p := ⟨w.heap.size, 9 + k * 2 + 1, none⟩) (by show w.heap.size ≠ w.heap.size + 1 + 1; omega)).trans d3
        have g3 : w5.frozen? ⟨w.heap.size + 1 + 1, 9 + k * 2 + 1, none⟩ = false := r3.frozen _
        have B5 := Lib.hid (k5.to BE.out (by omega))
        have hbs : b.Ok w5 w5.heap.size := (IS.out.ok.ok b (List.mem_of_getElem? HB.out)).to B5.out
        have hbn := IS.out.ln b (List.mem_of_getElem? HB.out)
        have SQ := Lib.hid hbs.sq
        have NL := Lib.hid hbs.nl
        have R35 := Lib.hid r3
        have R15 := Lib.hid (R1.out.only k5 (by omega))
        have R25 := Lib.hid (R2.out.only k5 (by omega))
        have IS5 := Lib.hid (ISO.out.only k5 (by omega))
        have HU := Lib.hid hbs
        clear hw5 k5 r3 e1 e2 e3 f1 f2 f3 d1 d2 d3 hbs
        go_region_law (first | (refine step_append_sq (f := u16w) _ (by rfl) (.tmp 33) (.tmp 38) 22 (by rfl) (fun _ => rfl) w5.heap.size 24 i0 _ _ Try.underlying22 hif hz0 rfl hz1 hz2 (by decide) (.slice none 0 0) [] (by rfl) (World.ownsRow_nil _ _ _ _) w5.heap.size b.A b.ws b.c b.ws.length rfl (by rfl) SQ.out NL.out (by simp; omega) (Nat.le_refl _) ?_; intro A2 c2 W2 hown2 hg2 hb2; rw [List.nil_append] at hown2; have r3w := R35.out.drew.grown hg2 (by simp [Value.ownBlock]); have q3w : W2.cell? ⟨w.heap.size + 1 + 1, 9 + k * 2 + 1, none⟩ = some (.slice none 0 0) := (hb2.cell (p := ⟨w.heap.size + 1 + 1, 9 + k * 2 + 1, none⟩) hz51).trans q3; have q1w : W2.cell? ⟨w.heap.size, 9 + k * 2 + 1, none⟩ = some (.slice b.A b.ws.length b.c) := (hb2.cell (p := ⟨w.heap.size, 9 + k * 2 + 1, none⟩) hz50).trans q1; have g3w : W2.frozen? ⟨w.heap.size + 1 + 1, 9 + k * 2 + 1, none⟩ = false := r3w.frozen _; have R3W := Lib.hid r3w; clear r3w))
        all_goals
          have hbw : Below w5.heap.size w5 W2 := (Below.refl _ _).drew.trans hb2
          have BW2 := Lib.hid hbw
          have O2 := Lib.hid hown2
          clear hg2 hb2 hown2 q3 q1 g3 q3w q1w g3w hbw
          go_wp2
          go_roundw
          case rel =>
            have hbw := BW2.out
            have k7 : ∀ v, Only (w.heap.size + 1 + 1) W2 (W2.setCell ⟨w.heap.size + 1 + 1, 9 + k * 2 + 1, none⟩ v) := fun v => (Only.refl _ _).set v
            have hob : (Blk.mk b.a b.ws A2 c2).Ok W2 W2.heap.size := Blk.Ok.of_own rfl O2.out HU.out.u HU.out.lo HU.out.hi
            have hnew : ∀ p, A2 = some p → w.heap.size + 3 ≤ p.block := fun p hp => by have := (O2.out.lt p.block (by rw [hp]; rfl)).1; omega
            have his := ((IS5.out.to hbw).put1 hlt hob hnew hbn).only (k7 (.slice A2 b.ws.length c2)) (by omega)
            have hS := upto_some hlt HSK.out
            have hrow := R3W.out.set (9 + k * 2 + 1) (.slice A2 b.ws.length c2)
            rw [Stv.C_have_set true (by rw [ISO.out.ok.lh]; exact hlt), Stv.C_block_set (s := ⟨so.tx, so.hs.set k true, so.bs⟩) (by simp [ISO.out.ok.lh]) ⟨b.a, b.ws, A2, c2⟩ (by rw [ISO.out.ok.lb]; exact hlt)] at hrow
            have hzw := hbw.size
            exact ⟨k + 1, ⟨so.tx, so.hs.set k true, so.bs.set k ⟨b.a, b.ws, A2, c2⟩⟩, by omega, by go_num, by rw [hS]; exact his, HRE.out.set, hrow, ((R15.out.to hbw).other (by omega) _), ((R25.out.to hbw).other (by omega) _), (k7 _).to (B5.out.trans (hbw.mono (by omega))) (by omega), by rw [(k7 _).size]; omega⟩
          case measure => simp [intOf]; omega
    · obtain rfl : k = 8 := by omega
      have ISO := Lib.hid hso
      have R3 := Lib.hid hr3
      have R2 := Lib.hid hr2
      have BE := Lib.hid hbe
      have HC := Lib.hid hso.C25
      clear hso hr3 hr1 hr2 hbe hrest
      go_wp2_with (first | (refine wpList_load_var rfl 33 (.tmp 3) rfl (w.heap.size + 1 + 1) rfl so.C _ 25 R3.out Try.underlying33 rfl size_25 HC.out ?_) | (refine wpList_store_var rfl 33 (.tmp 2) (.tmp 43) rfl (w.heap.size + 1) Stv.zero.C so.C 25 rfl rfl R2.out size_25 rfl HC.out (Stv.C_one so) ?_; intro w6 r2 k6; have R26 := Lib.hid r2; have K6 := Lib.hid k6; clear r2 k6))
      have hfin := (ISO.out.only K6.out (by omega)).more (base' := w.heap.size) (by omega)
      rw [upto_all IS.out.len] at hfin
      exact bodyPost_ret (results_cell_row rfl _ _ (w.heap.size + 1) 33 so.C.toArray (0, 0) _ rfl R26.out Try.underlying33 rfl (by rw [size_25, List.size_toArray, HC.out])) rfl ⟨so, rfl, hfin, K6.out.to BE.out (by omega)⟩
end Go.Proofs.Ytajbghjjpebndaa
namespace Go.Proofs.Ytajbghjjpebndaa
set_option maxRecDepth 100000
open Go.RowKit
set_option linter.unusedVariables false
set_option linter.unusedSimpArgs false
attribute [local go_sem] Later.cell Later.frozen setCell_twice
end Go.Proofs.Ytajbghjjpebndaa
