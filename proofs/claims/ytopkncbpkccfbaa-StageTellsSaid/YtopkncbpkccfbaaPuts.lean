/- The walk of saucierlaw19.put: blocks that are put one by one. -/
import Derived.Test.YtopkncbpkccfbaaVar
namespace Go.Proofs.Ytopkncbpkccfbaa
open Go.RowKit
set_option linter.unusedVariables false
attribute [local go_sem] Later.cell Later.frozen setCell_twice
def kOf (at_ : List Nat) (i : Nat) : Nat := if i < at_.length then at_.getD i 0 % 8 else i % 8
theorem kOf_lt (at_ : List Nat) (i : Nat) : kOf at_ i < 8 := by unfold kOf; split <;> omega
def putN (ps : List Bk.Pr) (at_ : List Nat) : Nat → SS
  | 0 => ss0
  | i + 1 => (putN ps at_ i).set (kOf at_ i) (some (ps.getD i (0, [])))
theorem putN_length (ps : List Bk.Pr) (at_ : List Nat) : ∀ i, (putN ps at_ i).length = 8
  | 0 => rfl
  | i + 1 => by unfold putN; rw [List.length_set]; exact putN_length ps at_ i
def PutsP (w : World) (tx : Nat) (S : SS) (e : Ending) (w' : World) : Prop :=
  ∃ s' : Stv, e = .returned (.tuple #[.agg s'.C.toArray, .bool true]) ∧ s'.Is w' w.heap.size tx S ∧ Below w.heap.size w w'
theorem St0_C (t : Nat) : (St0 t).C.toArray = zt t := rfl
set_option maxRecDepth 100000 in
set_option maxHeartbeats 1000000 in
theorem puts_any (t : Nat) (l : List Blk) (A0 Aa : Option Addr) (c0 ca na : Nat) (at_ : List Nat) (w : World) (ht : t < 4294967296) (h : Blks w w.heap.size A0 l) (hlc : l.length ≤ c0) (hc0 : c0 ≤ 9223372036854775807)
    (ha : Sq (fun x : Nat => .int .u8 (x : Int)) w w.heap.size Aa at_) (hab : ∀ x ∈ at_, x < 256) (hna : at_.length = na) (hln : na ≤ 9223372036854775807) :
    Calls Try.prog 19 #[.int .u32 (t : Int), .slice A0 l.length c0, .slice Aa na ca] w (PutsP w t (putN ((prs (l.take 20)).map Bk.fitP) at_ (min l.length 20))) := by
  have hn20 : ((prs (l.take 20)).map Bk.fitP).length = min l.length 20 := by simp [Nat.min_comm]
  have hR8 : RowAt ((w.alloc (.cells z25 42)).alloc (.cells z25 42)) (w.heap.size + 1) 42 Stv.zero.C := by
    have := heap_alloc_new (w.alloc (.cells z25 42)) (.cells z25 42)
    simpa [RowAt, z25_eq] using this
  have hR6 : RowAt ((w.alloc (.cells z25 42)).alloc (.cells z25 42)) w.heap.size 42 Stv.zero.C := RowAt.alloc (RowAt.new w 42 Stv.zero.C) _
  have H8 := Lib.hid hR8
  have H6 := Lib.hid hR6
  have hst1 : ∀ v ∈ (St0 t).C, v.oneCell' = true := Stv.C_one _
  have HS1 := Lib.hid hst1
  generalize hps : (prs (l.take 20)).map Bk.fitP = ps at *
  have HPS := Lib.hid hps
  obtain ⟨N, hN⟩ : ∃ N, min l.length 20 = N := ⟨_, rfl⟩
  rw [hN] at hn20 ⊢
  have hN20 : N ≤ 20 := by omega
  have HN20 := Lib.hid hn20
  have HNA := Lib.hid hna
  have kfit : Hid (∀ W, Below w.heap.size w W → Calls Try.prog 18 #[.slice A0 l.length c0, .int .i64 20] W (BlocksQ W ((prs (l.take 20)).map Bk.fitP))) := Lib.hid (fun W (hW : Below w.heap.size w W) => fit_new A0 l c0 20 W (h.to hW) hlc hc0 (by omega))
  have ka := Lib.hid (fun W (hW : Below w.heap.size w W) => ha.below hW)
  clear hR8 hR6 hst1 hps hN hn20 hna
  go_enter Try.func19, Try.ntmps19
  go_wp2_with (refine wpList_store_var rfl 42 (.tmp 8) (.tmp 15) rfl (w.heap.size + 1) Stv.zero.C (St0 t).C 25 rfl rfl H8.out size_25 rfl rfl HS1.out ?_; intro w2 r8 k2; have r6 := H6.out.only k2 (by omega); have hb2 : Below w.heap.size w w2 := k2.to (bel_alloc (bel_alloc (Below.refl _ _) _) _) (by omega); have hz2 : w2.heap.size = w.heap.size + 2 := (by rw [k2.size]; simp); have R8 := Lib.hid r8; have R6 := Lib.hid r6; clear r8 r6 k2)
  with_reducible refine (kfit.out _ hb2).mono ?_
  rintro e3 w3 ⟨A, c, bl, rfl, hprs, hB, hbc, hcc, hnl, hown, hIn, hb3⟩
  rw [HPS.out] at hprs
  have hbl : bl.length = N := by rw [← HN20.out, ← hprs]; simp
  have hAn : ∀ p, A = some p → w.heap.size + 2 ≤ p.block := fun p hp => by have := (hown.lt p.block (by rw [hp]; rfl)).1; omega
  have hBn : ∀ b ∈ bl, ∀ p, b.A = some p → w.heap.size + 2 ≤ p.block := fun b hb p hp => by have := ((hIn b hb).1 p hp).1; omega
  have r8 := R8.out.to hb3
  have r6 := R6.out.to hb3
  have hz3 : w.heap.size + 2 ≤ w3.heap.size := by have := hb3.size; omega
  have hbw3 : Below w.heap.size w w3 := hb2.trans (hb3.mono (by omega))
  have hfits : ∀ b ∈ bl, Bk.fits b.a b.ws.length = true := fun b hb => by
    have h1 : b.pr ∈ ps := by rw [← hprs]; exact List.mem_map_of_mem hb
    rw [← HPS.out] at h1
    obtain ⟨q, _, hq⟩ := List.mem_map.1 h1
    have h2 := Bk.fitP_fits q
    rw [hq] at h2
    exact h2
  have HPR := Lib.hid hprs
  have HAN := Lib.hid hAn
  have HBN := Lib.hid hBn
  have HFI := Lib.hid hfits
  have HB3 := Lib.hid hB
  have H83 := Lib.hid r8
  have H63 := Lib.hid r6
  have HBW := Lib.hid hbw3
  rw [hbl]
  have HBL := Lib.hid hbl
  have HBC := Lib.hid hbc
  clear hprs hAn hBn hfits hB r8 r6 hown hIn hb3 hb2 hz2 hbl R8 R6 kfit hbw3 hbc
  go_wp2
  go_loopw [19] (fun i wr => ∃ k : Nat, ∃ s : Stv, k ≤ N ∧ i = .int .i64 k ∧ s.Is wr (w.heap.size + 2) t (putN ps at_ k) ∧ RowAt wr (w.heap.size + 1) 42 s.C ∧ RowAt wr w.heap.size 42 Stv.zero.C ∧ Blks wr wr.heap.size A bl ∧ Below w.heap.size w wr ∧ w.heap.size + 2 ≤ wr.heap.size) (fun i _ => N - (intOf i).toNat)
  case atStart => exact ⟨0, St0 t, by omega, rfl, St0_is t _ _ ht, H83.out, H63.out, HB3.out, HBW.out, hz3⟩
  case round =>
    clear hz3
    obtain ⟨k, s, hk, rfl, hs, hr8, hr6, hB, hbe, hsz⟩ := hrel
    by_cases hlt : k < N
    · obtain ⟨g, oo, b, rfl, hg, hb, hbo, hc0, hc1⟩ := hB.at_ (k := k) (by rw [HBL.out]; exact hlt)
      have hfb := HFI.out b (List.mem_of_getElem? hb)
      have HP : Hid (b.pr = ps.getD k (0, [])) := Lib.hid (by rw [← HPR.out, List.getD_eq_getElem?_getD, prs_get hb]; rfl)
      obtain ⟨m, hm⟩ : ∃ m, kOf at_ k = m := ⟨_, rfl⟩
      have hm8 : m < 8 := hm ▸ kOf_lt at_ k
      have HKN : Hid (putN ps at_ (k + 1) = (putN ps at_ k).set m (some b.pr)) := Lib.hid (by rw [HP.out, ← hm]; rfl)
      have kput := Lib.hid (fun (W : World) (hW : Below wr.heap.size wr W) => put_S m b W (hs.to hW) (hbo.to hW) (by omega) hfb)
      have hC := hs.C25
      have HC := Lib.hid hC
      have H8 := Lib.hid hr8
      have H6 := Lib.hid hr6
      have HB := Lib.hid hB
      have hltI : (k : Int) < (N : Int) := by omega
      have hkc : (k : Int) < (c : Int) := by have := HBC.out; have := HBL.out; omega
      clear hb hs hr8 hr6 hB hfb hbo hC
      by_cases hka : k < at_.length
      · have g1 : decide (k < na) = true := by have := HNA.out; simp; omega
        have hkna : (k : Int) < (na : Int) := by have := HNA.out; omega
        obtain ⟨ga, oa, y, rfl, hga, hy, hcy⟩ := (ka.out wr hbe).at_ hka
        have hy256 := hab y (List.mem_of_getElem? hy)
        have hkm : y % 8 = m := by rw [← hm]; unfold kOf; rw [if_pos hka, List.getD_eq_getElem?_getD, hy]; rfl
        have hkm8 : (y : Int) % 8 = (m : Int) := by omega
        have hcy2 := (World.cell?_alloc_lt wr (.cells #[.int .i64 b.a, .slice b.A b.ws.length b.c] 26) ⟨ga, oa + k, none⟩ (block_lt_of_cell hcy)).trans hcy
        clear hm hka hkm hy hcy
        go_wp2_with (refine wpList_load_var rfl 42 (.tmp 8) rfl (w.heap.size + 1) rfl s.C _ 25 (H8.out.alloc _) Try.underlying42 rfl size_25 HC.out ?_)
        with_reducible refine (kput.out _ (bel_alloc (Below.refl _ _) _)).mono ?_
        rintro e4 w4 ⟨s', rfl, hs', hb4⟩
        have hb4r : Below wr.heap.size wr w4 := (bel_alloc (Below.refl _ _) _).trans (hb4.mono (by simp))
        have hz4 : wr.heap.size < w4.heap.size := by have := hb4.size; simp at this; omega
        have HS4 := Lib.hid hs'
        have hC4 := hs'.C25
        have HC4 := Lib.hid hC4
        have H84 := Lib.hid (H8.out.to hb4r)
        have H64 := Lib.hid (H6.out.to hb4r)
        have HB4 := Lib.hid (HB.out.to hb4r)
        have hbe4 := Lib.hid (hbe.trans (hb4r.mono (by omega)))
        clear hs' hC4 hb4 hb4r hbe hg
        go_wp2_with (first | (refine wpList_store_var rfl 42 (.tmp 12) (.tmp 41) rfl w4.heap.size Stv.zero.C s'.C 25 rfl rfl (heap_alloc_new w4 _) size_25 rfl HC4.out (Stv.C_one s') ?_; intro w5 r12 k5; have H12 := Lib.hid r12; have K5 := Lib.hid k5; clear r12 k5) | (refine wpList_load_var rfl 42 (.tmp 12) rfl w4.heap.size rfl s'.C _ 25 H12.out Try.underlying42 rfl size_25 HC4.out ?_) | (refine wpList_store_var rfl 42 (.tmp 8) (.tmp 46) rfl (w.heap.size + 1) s.C s'.C 25 rfl rfl ((H84.out.alloc _).only K5.out (by omega)) size_25 HC.out HC4.out (Stv.C_one s') ?_; intro w6 r8 k6; have H86 := Lib.hid r8; have K6 := Lib.hid k6; clear r8 k6))
        go_roundw
        case rel =>
          have k5 := K5.out
          have k6 := K6.out
          have hz5 : w5.heap.size = w4.heap.size + 1 := by rw [k5.size]; simp
          have hz6 : w6.heap.size = w4.heap.size + 1 := by rw [k6.size, hz5]
          have hb45 : Below w4.heap.size w4 w5 := k5.to (bel_alloc (Below.refl _ _) _) (Nat.le_refl _)
          have hA := HAN.out
          have hbn := HBN.out
          refine ⟨k + 1, s', by omega, by go_num, ?_, H86.out, ((H64.out.alloc _).only k5 (by omega)).only k6 (by omega), ?_, ?_, by omega⟩
          · rw [HKN.out]
            exact ((HS4.out.to hb45).only k6 (by simp; omega)).more (by simp; omega)
          · exact (HB4.out.to hb45).only k6 (fun p hp => by have := hA p hp; omega) (fun b hb p hp => by have := hbn b hb p hp; omega)
          · exact k6.to (k5.to (bel_alloc hbe4.out _) (by omega)) (by omega)
        case measure => simp [intOf]; omega
      · have g1 : decide (k < na) = false := by have := HNA.out; simp; omega
        have hkm : k % 8 = m := by rw [← hm]; unfold kOf; rw [if_neg hka]
        have hkm8 : (k : Int) % 8 = (m : Int) := by omega
        clear hm hka hkm
        go_wp2_with (refine wpList_load_var rfl 42 (.tmp 8) rfl (w.heap.size + 1) rfl s.C _ 25 (H8.out.alloc _) Try.underlying42 rfl size_25 HC.out ?_)
        with_reducible refine (kput.out _ (bel_alloc (Below.refl _ _) _)).mono ?_
        rintro e4 w4 ⟨s', rfl, hs', hb4⟩
        have hb4r : Below wr.heap.size wr w4 := (bel_alloc (Below.refl _ _) _).trans (hb4.mono (by simp))
        have hz4 : wr.heap.size < w4.heap.size := by have := hb4.size; simp at this; omega
        have HS4 := Lib.hid hs'
        have hC4 := hs'.C25
        have HC4 := Lib.hid hC4
        have H84 := Lib.hid (H8.out.to hb4r)
        have H64 := Lib.hid (H6.out.to hb4r)
        have HB4 := Lib.hid (HB.out.to hb4r)
        have hbe4 := Lib.hid (hbe.trans (hb4r.mono (by omega)))
        clear hs' hC4 hb4 hb4r hbe hg
        go_wp2_with (first | (refine wpList_store_var rfl 42 (.tmp 12) (.tmp 41) rfl w4.heap.size Stv.zero.C s'.C 25 rfl rfl (heap_alloc_new w4 _) size_25 rfl HC4.out (Stv.C_one s') ?_; intro w5 r12 k5; have H12 := Lib.hid r12; have K5 := Lib.hid k5; clear r12 k5) | (refine wpList_load_var rfl 42 (.tmp 12) rfl w4.heap.size rfl s'.C _ 25 H12.out Try.underlying42 rfl size_25 HC4.out ?_) | (refine wpList_store_var rfl 42 (.tmp 8) (.tmp 46) rfl (w.heap.size + 1) s.C s'.C 25 rfl rfl ((H84.out.alloc _).only K5.out (by omega)) size_25 HC.out HC4.out (Stv.C_one s') ?_; intro w6 r8 k6; have H86 := Lib.hid r8; have K6 := Lib.hid k6; clear r8 k6))
        go_roundw
        case rel =>
          have k5 := K5.out
          have k6 := K6.out
          have hz5 : w5.heap.size = w4.heap.size + 1 := by rw [k5.size]; simp
          have hz6 : w6.heap.size = w4.heap.size + 1 := by rw [k6.size, hz5]
          have hb45 : Below w4.heap.size w4 w5 := k5.to (bel_alloc (Below.refl _ _) _) (Nat.le_refl _)
          have hA := HAN.out
          have hbn := HBN.out
          refine ⟨k + 1, s', by omega, by go_num, ?_, H86.out, ((H64.out.alloc _).only k5 (by omega)).only k6 (by omega), ?_, ?_, by omega⟩
          · rw [HKN.out]
            exact ((HS4.out.to hb45).only k6 (by simp; omega)).more (by simp; omega)
          · exact (HB4.out.to hb45).only k6 (fun p hp => by have := hA p hp; omega) (fun b hb p hp => by have := hbn b hb p hp; omega)
          · exact k6.to (k5.to (bel_alloc hbe4.out _) (by omega)) (by omega)
        case measure => simp [intOf]; omega
    · obtain rfl : k = N := by omega
      have HS := Lib.hid hs
      have H8 := Lib.hid hr8
      have H6 := Lib.hid hr6
      have hC := hs.C25
      clear hs hr8 hr6 hB
      go_wp2_with (first | (refine wpList_load_var rfl 42 (.tmp 8) rfl (w.heap.size + 1) rfl s.C _ 25 H8.out Try.underlying42 rfl size_25 hC ?_) | (refine wpList_store_var rfl 42 (.tmp 6) (.tmp 48) rfl w.heap.size Stv.zero.C s.C 25 rfl rfl H6.out size_25 rfl hC (Stv.C_one s) ?_; intro w4 r6 k4))
      exact bodyPost_ret (results_cell_tmp rfl _ _ w.heap.size 42 s.C.toArray (0, 0) _ rfl r6 Try.underlying42 rfl (by rw [size_25, List.size_toArray, hC])) rfl ⟨s, rfl, (HS.out.only k4 (by omega)).more (by omega), k4.to hbe (Nat.le_refl _)⟩
end Go.Proofs.Ytopkncbpkccfbaa
