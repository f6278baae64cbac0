/- Layer 10: awake. -/
import Derived.Test.YtbokggilfepdhaaNvRead
import Derived.Test.YtbokggilfepdhaaSame
namespace Go.Proofs.Ytbokggilfepdhaa
open Go.RowKit
set_option linter.unusedVariables false
attribute [local go_sem] Later.cell Later.frozen setCell_twice
abbrev awx : Nr := ⟨4, 258, 0, false, []⟩
theorem awx_fit : awx.Fit := ⟨by decide, by decide, by decide, by simp⟩
set_option maxRecDepth 100000 in
set_option maxHeartbeats 1000000 in
theorem awake_any (w : World) : Calls Try.prog 9 #[] w fun e w' => e = .returned (.bool true) ∧ Below w.heap.size w w' := by
  have hr : awx.right = true := rfl
  obtain ⟨L, hL⟩ : ∃ L, awx.bytes = L := ⟨_, rfl⟩
  have hl : L.length = 13 := by rw [← hL, Nr.bytes_length]; rfl
  have hu : ∀ y ∈ L, y < 256 := by rw [← hL]; exact Nr.bytes_u awx_fit
  have h9 : L.take 9 = [4, 0, 0, 1, 2, 0, 0, 0, 0] := by rw [← hL]; rfl
  have hrd : Nr.read L = ([awx], 13) := by
    have := Nr.read_is [awx] (by simpa using ⟨hr, awx_fit⟩)
    rw [← hL]
    simpa [Nr.all, Nr.bytes_length, Nr.size] using this
  have hrd2 : Nr.read (L.take 12) = ([], 0) := by
    rw [← hL]
    exact Nr.read_none (Nr.first_short hr awx_fit (by decide))
  have HL := Lib.hid hl
  have HU := Lib.hid hu
  have H9 := Lib.hid h9
  have HRD := Lib.hid hrd
  have HRD2 := Lib.hid hrd2
  have kb : Calls Try.prog 13 #[.agg (rcV 4 258 0 false none 0 0).toArray] w fun e w' => Below w.heap.size w w' ∧ ∃ A' c', e = .returned (.tuple #[.slice A' 13 c', .int .i64 0]) ∧ w'.ownsRow w.heap.size 5 1 (.slice A' 13 c') 13 (L.map byw) :=
    (nbytes_any awx none 0 0 rfl awx_fit w Sq.nil (by simp)).mono (fun e w' h => ⟨h.1, by have h2 := h.2; rw [if_pos hr, hL, hl] at h2; exact h2⟩)
  have kb2 : ∀ w, Calls Try.prog 13 #[.agg (rcV 2 1 0 false none 0 0).toArray] w fun e w' => e = .returned (.tuple #[.slice none 0 0, .int .i64 50]) ∧ Below w.heap.size w w' := fun w => (nbytes_any ⟨2, 1, 0, false, []⟩ none 0 0 rfl ⟨by decide, by decide, by decide, by simp⟩ w Sq.nil (by simp)).mono (fun e w' h => ⟨by have := h.2; rwa [if_neg (by decide)] at this, h.1⟩)
  have KB2 := Lib.hid kb2
  clear hL hl hu h9 hrd hrd2 kb2 hr
  go_enter Try.func9, Try.ntmps9
  go_wp2_with fail
  refine kb.mono ?_
  clear kb
  rintro e w1 ⟨b1, A1, c1, rfl, o1⟩
  have BE := Lib.hid b1
  have O1 := Lib.hid o1
  have hcc := (own_nil_c o1).2
  have hcap := own_cap o1
  obtain ⟨g, rfl, hg1, hg2⟩ := own_some o1 (by decide)
  clear b1 o1
  go_wp2_with fail
  refine (same_by _ _ (L.take 9) [4, 0, 0, 1, 2, 0, 0, 0, 0] _ _ 9 9 true _ (by rw [List.length_take, HL.out]; rfl) rfl (((Sq.of_own O1.out).take 9).below (bel_alloc (Below.refl _ _) _) |>.more (by simp)) (Sq.lits _ _ _ _ _ _ _ (by simp) (by simp) (by simp)) (fun y hy => HU.out y (List.mem_of_mem_take hy)) (by decide) (by rw [H9.out]; decide)).mono ?_
  rintro e_ w_ ⟨rfl, rfl⟩
  obtain ⟨w2, hw2⟩ : ∃ W, W = w1.alloc (.cells #[.int .u8 4, .int .u8 0, .int .u8 0, .int .u8 1, .int .u8 2, .int .u8 0, .int .u8 0, .int .u8 0, .int .u8 0] 5) := ⟨_, rfl⟩
  rw [← hw2]
  have b2 : Below w1.heap.size w1 w2 := by rw [hw2]; exact bel_alloc (Below.refl _ _) _
  replace BE := Lib.hid (BE.out.trans (b2.mono BE.out.size))
  have O2 := Lib.hid (own_below O1.out b2)
  clear hw2 b2 O1
  go_wp2_with fail
  refine (nread_any (some ⟨g, 0, none⟩) c1 13 L HL.out w2 (Sq.of_own O2.out) HU.out (by simp) hcc hcap (by decide)).mono ?_
  rintro e w3 ⟨A3, c3, m3, rs3, rfl, ol3, hrs3, hnl3, b3⟩
  rw [HRD.out] at hrs3 ⊢
  obtain ⟨r3, rfl, hp3⟩ := List.map_eq_singleton_iff.1 hrs3
  have htx : r3.p.tx = 258 := by rw [hp3]
  clear hp3
  obtain rfl : m3 = 1 := ol3.len.symm
  obtain ⟨gr, hgr, hgr2, hgr3⟩ : ∃ gr, A3 = some ⟨gr, 0, none⟩ ∧ gr < w3.heap.size ∧ w3.cell? ⟨gr, 1, none⟩ = some (.int .u32 258) := by
    obtain ⟨b, o, a, hA, hb, hga, hc⟩ := (ol3.recs recK_fine).at_ (j := 0) (by simp)
    have h0 := (own_at_s ol3.own _ hA).2.2
    obtain rfl : o = 0 := by simpa using h0
    obtain rfl : r3 = a := by simpa using hga
    have := hc 1 _ rfl
    rw [htx] at this
    exact ⟨b, hA, hb, by simpa using this⟩
  subst hgr
  have O3 := Lib.hid (own_below O2.out b3)
  replace BE := Lib.hid (BE.out.trans (b3.mono BE.out.size))
  clear ol3 hrs3 hnl3 b3 htx O2
  go_wp2_with fail
  refine (nread_any (some ⟨g, 0, none⟩) c1 12 (L.take 12) (by rw [List.length_take, HL.out]; rfl) w3 ((Sq.of_own O3.out).take 12) (fun y hy => HU.out y (List.mem_of_mem_take hy)) (by simp) (by omega) hcap (by decide)).mono ?_
  rintro e w4 ⟨A4, c4, m4, rs4, rfl, ol4, hrs4, hnl4, b4⟩
  rw [HRD2.out] at hrs4 ⊢
  obtain rfl : rs4 = [] := by simpa using hrs4
  obtain rfl : m4 = 0 := ol4.len.symm
  have d1 : w4.cell? ⟨gr, 1, none⟩ = some (.int .u32 258) := (b4.cell (p := ⟨gr, 1, none⟩) hgr2).trans hgr3
  have hgr4 : gr < w4.heap.size := Nat.lt_of_lt_of_le hgr2 b4.size
  replace BE := Lib.hid (BE.out.trans (b4.mono BE.out.size))
  clear ol4 hrs4 hnl4 b4 O3 hgr3
  go_wp2_with fail
  refine (KB2.out _).mono ?_
  rintro e w5 ⟨rfl, b5⟩
  have e1 : w5.cell? ⟨gr, 1, none⟩ = some (.int .u32 258) := (b5.cell (p := ⟨gr, 1, none⟩) hgr4).trans d1
  replace BE := Lib.hid (BE.out.trans (b5.mono BE.out.size))
  clear b5 d1
  go_wp2
  go_ret
  exact ⟨rfl, BE.out⟩
end Go.Proofs.Ytbokggilfepdhaa
