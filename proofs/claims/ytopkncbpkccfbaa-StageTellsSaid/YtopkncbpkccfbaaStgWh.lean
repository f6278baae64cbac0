/- The walk of stage.Whole. -/
import Derived.Test.YtopkncbpkccfbaaStgSum
import Derived.Test.YtopkncbpkccfbaaVar
namespace Go.Proofs.Ytopkncbpkccfbaa
open Go.RowKit
set_option linter.unusedVariables false
attribute [local go_sem] Later.cell Later.frozen setCell_twice
def SSW (S : SS) (count : Int) (check : Nat) : Prop := 0 ≤ count ∧ count ≤ 8 ∧ (∀ i, i < 8 → (S.getD i none).isSome = decide ((i : Int) < count)) ∧ chk (ssThere S) = check
theorem no_of {r : Bool} {P : Prop} (h : r = true ↔ P) (hn : ¬ P) : r = false := by
  cases r
  · rfl
  · exact absurd (h.1 rfl) hn
theorem ssThere_length (S : SS) : (ssThere S).length ≤ S.length := List.length_filterMap_le _ _
set_option maxRecDepth 100000 in
set_option maxHeartbeats 1000000 in
theorem whole_S {s : Stv} {B tx : Nat} {S : SS} (count : Int) (ch : Nat) (r : Bool) (w : World) (hs : s.Is w B tx S) (hr : r = true ↔ SSW S count ch) :
    Calls Try.prog 22 #[.agg s.C.toArray, .int .i64 count, .int .u32 (ch : Int)] w fun e w' => e = .returned (.bool r) ∧ Below w.heap.size w w' := by
  by_cases h1 : count < 0
  · obtain rfl : r = false := no_of hr (fun h => by unfold SSW at h; omega)
    clear hr
    go_enter Try.func22, Try.ntmps22
    go_wp2
    go_ret
    exact ⟨rfl, (by repeat (first | exact Below.refl _ _ | refine bel_later _ ?_ | refine bel_alloc ?_ _ | refine bel_set ?_ (by first | omega | (simp; done) | (simp; omega)) _ | refine Below.drew ?_ | refine bel_drewN ?_ _ | assumption))⟩
  by_cases h2 : 8 < count
  · obtain rfl : r = false := no_of hr (fun h => by unfold SSW at h; omega)
    clear hr
    go_enter Try.func22, Try.ntmps22
    go_wp2
    go_ret
    exact ⟨rfl, (by repeat (first | exact Below.refl _ _ | refine bel_later _ ?_ | refine bel_alloc ?_ _ | refine bel_set ?_ (by first | omega | (simp; done) | (simp; omega)) _ | refine Below.drew ?_ | refine bel_drewN ?_ _ | assumption))⟩
  have g1 : decide (count < 0) = false := by simpa using h1
  have g2 : decide (8 < count) = false := by simpa using h2
  have hlo : 0 ≤ count := by omega
  have hhi : count ≤ 8 := by omega
  clear h1 h2
  have hR := RowAt.new w 42 s.C
  have hlen8 : (s.hs.map Value.bool).length = 8 := by simp [hs.ok.lh]
  have hrng : (w.alloc (.cells s.C.toArray 42)).rangeAt w.heap.size 1 (s.hs.map Value.bool) := by
    have := hR.range 1 8
    rwa [Stv.C_haves hs.ok.lh] at this
  have HRNG := Lib.hid hrng
  have HSZ := Lib.hid (show (Try.prog.info? 39).map (·.size) = some (s.hs.map Value.bool).length by rw [hlen8]; exact size_haves)
  have HR := Lib.hid hR
  have HC := Lib.hid hs.C25
  have HRR := Lib.hid hr
  have IS := Lib.hid hs
  clear hR hlen8 hrng hr hs
  go_enter Try.func22, Try.ntmps22
  go_wp2_with (refine wpList_load_mid rfl 39 (.tmp 15) rfl w.heap.size 1 rfl (s.hs.map Value.bool) _ HRNG.out Try.underlying39 rfl HSZ.out ?_)
  go_loop [17] (fun i => ∃ k : Nat, k ≤ 8 ∧ i = .int .i64 k ∧ Hid (∀ j, j < k → (S.getD j none).isSome = decide ((j : Int) < count))) (fun i => 8 - (intOf i).toNat)
  case atStart => exact ⟨0, by omega, rfl, Lib.hid (fun j hj => absurd hj (by omega))⟩
  case round =>
    obtain ⟨k, hk, rfl, hall⟩ := hrel
    by_cases hlt : k < 8
    · have hx : s.hs[k]? = some (s.hs.getD k false) := getD_hs (by rw [IS.out.ok.lh]; exact hlt)
      have hxs : (S.getD k none).isSome = s.hs.getD k false := by rw [← IS.out.S]; exact s.S_isSome hlt
      obtain ⟨x, hxx⟩ : ∃ x, s.hs.getD k false = x := ⟨_, rfl⟩
      rw [hxx] at hx hxs
      have kx : ∀ w, (Instr.index 39 (.agg (s.hs.map Value.bool).toArray) (.int .i64 (k : Int))).run Try.prog w = .ok (.bool x) w := index_have _ k _ hlt (by simp [hx])
      have hltI : (k : Int) < 8 := by omega
      have h0I : (0 : Int) ≤ (k : Int) := by omega
      obtain ⟨d, hd⟩ : ∃ d, decide ((k : Int) < count) = d := ⟨_, rfl⟩
      by_cases hxd : x = d
      · have HN : Hid (∀ j, j < k + 1 → (S.getD j none).isSome = decide ((j : Int) < count)) := Lib.hid (fun j hj => by
          rcases Nat.lt_or_ge j k with h1 | h1
          · exact hall.out j h1
          · obtain rfl : j = k := by omega
            rw [hxs, hd, hxd])
        subst hxd
        clear hx hxs hxx
        go_wp2
        go_round
        case rel => exact ⟨k + 1, by omega, by go_num, HN⟩
        case measure => simp [intOf]; omega
      · obtain rfl : r = false := by
          refine no_of HRR.out ?_
          rintro ⟨_, _, h, _⟩
          have := h k hlt
          rw [hxs, hd] at this
          exact hxd this
        have hxd' : (x != d) = true := by simpa using hxd
        have hxd2 : (x == d) = false := by simpa using hxd
        clear hx hxs hxx hxd
        go_wp2
        go_ret
        exact ⟨rfl, (by repeat (first | exact Below.refl _ _ | refine bel_later _ ?_ | refine bel_alloc ?_ _ | refine bel_set ?_ (by first | omega | (simp; done) | (simp; omega)) _ | refine Below.drew ?_ | refine bel_drewN ?_ _ | assumption))⟩
    · obtain rfl : k = 8 := by omega
      have HQ := Lib.hid (show decide ((chk (ssThere S) : Int) = (ch : Int)) = r by
        by_cases h : chk (ssThere S) = ch
        · rw [HRR.out.2 ⟨hlo, hhi, hall.out, h⟩, decide_eq_true (by omega)]
        · rw [no_of HRR.out (fun q => h q.2.2.2), decide_eq_false (by omega)])
      have kbl := Lib.hid (blocks_S _ (IS.out.to (bel_alloc (Below.refl _ _) (.cells s.C.toArray 42))))
      have HTL : (ssThere S).length ≤ 8 := by have := ssThere_length S; rw [IS.out.len] at this; exact this
      clear hall
      go_wp2_with (refine wpList_load_var rfl 42 (.tmp 3) rfl w.heap.size rfl s.C _ 25 HR.out Try.underlying42 rfl size_25 HC.out ?_)
      (with_reducible refine (kbl.out).mono ?_)
      rintro e_ w1 ⟨A1, c1, bl, rfl, hp, hB, hc1, hc2, hn, hb1⟩
      have hl8 : bl.length ≤ 8 := by have := congrArg List.length hp; simp at this; omega
      have ksm := Lib.hid (stSum_any A1 bl c1 bl.length (ssThere S) w1 hB rfl (by omega) hc1 hc2 hp)
      have hbw1 : Below w.heap.size w w1 := (bel_alloc (Below.refl _ _) _).trans (hb1.mono (by simp))
      clear kbl hp hB hb1
      go_wp2_with fail
      (with_reducible refine (ksm.out).mono ?_)
      rintro e_ w2 ⟨rfl, hb2⟩
      have hbw2 : Below w.heap.size w w2 := hbw1.trans (hb2.mono hbw1.size)
      obtain ⟨v, hv⟩ : ∃ v, chk (ssThere S) = v := ⟨_, rfl⟩
      have hq := HQ.out
      rw [hv] at hq ⊢
      have hq2 : ((v : Int) == (ch : Int)) = r := by rw [← hq]; exact Bool.beq_eq_decide_eq _ _
      clear hv hq ksm hb2
      go_wp2
      go_ret
      exact ⟨by first | rfl | (rw [← hq2]) | skip, hbw2⟩
end Go.Proofs.Ytopkncbpkccfbaa
