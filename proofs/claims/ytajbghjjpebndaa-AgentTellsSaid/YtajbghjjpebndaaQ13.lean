/- The walk of saucierlaw19.put: blocks that are put one by one. Plain law of StageWhole: the first blocks, and one of them another one. The walks of the reference of layer 17: Fits. -/
import Derived.Test.YtajbghjjpebndaaQ12
import Derived.Test.YtajbghjjpebndaaQ04
import Derived.Test.YtajbghjjpebndaaQ06
namespace Go.Proofs.Ytajbghjjpebndaa
set_option maxRecDepth 100000
open Go.RowKit
set_option linter.unusedVariables false
attribute [local go_sem] Later.cell Later.frozen setCell_twice
def kOf (at_ : List Nat) (i : Nat) : Nat := if i < at_.length then at_.getD i 0 % 8 else i % 8
theorem kOf_lt (at_ : List Nat) (i : Nat) : kOf at_ i < 8 := by unfold kOf; split <;> omega
def putN (ps : List Bk.Pr) (at_ : List Nat) : Nat → SS
  | 0 => ss0
  | i + 1 => (putN ps at_ i).set (kOf at_ i) (some (ps.getD i (0, [])))
theorem putN_length (ps : List Bk.Pr) (at_ : List Nat) : ∀ i, (putN ps at_ i).length = 8
  | 0 => rfl
  | i + 1 => by unfold putN; rw [List.length_set]; exact putN_length ps at_ i
def PutsP (w : World) (tx : Nat) (S : SS) (e : Ending) (w' : World) : Prop :=
  ∃ s' : Stv, e = .returned (.tuple #[.agg s'.C.toArray, .bool true]) ∧ s'.Is w' w.heap.size tx S ∧ Below w.heap.size w w'
theorem St0_C (t : Nat) : (St0 t).C.toArray = zt t := rfl
end Go.Proofs.Ytajbghjjpebndaa
namespace Go.Proofs.Ytajbghjjpebndaa
set_option maxRecDepth 100000
set_option linter.unusedVariables false
def firstN (ps : List Bk.Pr) (k : Nat) : SS := (List.range 8).map fun i => if i < k then some (ps.getD i (0, [])) else none
theorem firstN_get? {ps : List Bk.Pr} {k i : Nat} (h : i < 8) : (firstN ps k)[i]? = some (if i < k then some (ps.getD i (0, [])) else none) := by
  unfold firstN
  rw [List.getElem?_map, List.getElem?_range h]; rfl
theorem firstN_get {ps : List Bk.Pr} {k i : Nat} (h : i < 8) : (firstN ps k).getD i none = if i < k then some (ps.getD i (0, [])) else none := by
  rw [List.getD_eq_getElem?_getD, firstN_get? h]; rfl
theorem firstN_length (ps : List Bk.Pr) (k : Nat) : (firstN ps k).length = 8 := by simp [firstN]
theorem firstN_some {ps : List Bk.Pr} {k i : Nat} (h : i < 8) : ((firstN ps k).getD i none).isSome = decide (i < k) := by
  rw [firstN_get h]
  by_cases hk : i < k <;> simp [hk]
theorem putN_first (ps : List Bk.Pr) : ∀ k, k ≤ 8 → putN ps [] k = firstN ps k
  | 0, _ => rfl
  | k + 1, h => by
    have hk : kOf [] k = k := by unfold kOf; simp; omega
    show (putN ps [] k).set (kOf [] k) (some (ps.getD k (0, []))) = _
    rw [putN_first ps k (by omega), hk]
    refine ss_eq (by simp [firstN]) (firstN_length _ _) fun i hi => ?_
    rw [firstN_get? hi]
    by_cases hik : i = k
    · subst hik
      rw [List.getElem?_set_self (by rw [firstN_length]; omega), if_pos (by omega)]
    · rw [List.getElem?_set_ne (fun e => hik e.symm), firstN_get? hi]
      by_cases h2 : i < k
      · rw [if_pos h2, if_pos (by omega)]
      · rw [if_neg h2, if_neg (by omega)]
theorem filter_first {α : Type} (g : Nat → α) (n : Nat) : ∀ m, n ≤ m → ((List.range m).map fun i => if i < n then some (g i) else none).filterMap id = (List.range n).map g
  | 0, h => by obtain rfl : n = 0 := (by omega); rfl
  | m + 1, h => by
    rw [List.range_succ, List.map_append, List.filterMap_append]
    by_cases hn : n ≤ m
    · rw [filter_first g n m hn]
      have : ¬ m < n := by omega
      simp [this]
    · obtain rfl : n = m + 1 := by omega
      have e : ((List.range m).map fun i => if i < m + 1 then some (g i) else none) = (List.range m).map fun i => if i < m then some (g i) else none := by
        apply List.map_congr_left
        intro i hi
        have : i < m := by simpa using hi
        rw [if_pos this, if_pos (by omega)]
      rw [e, filter_first g m m (Nat.le_refl _)]
      rw [List.range_succ, List.map_append]
      simp
theorem there_first {ps : List Bk.Pr} {n : Nat} (hn : ps.length = n) (h8 : n ≤ 8) : ssThere (firstN ps n) = ps := by
  unfold ssThere firstN
  rw [filter_first _ n 8 h8]
  apply List.ext_getElem?
  intro i
  rw [List.getElem?_map]
  rcases Nat.lt_or_ge i n with h | h
  · rw [List.getElem?_range h, List.getElem?_eq_getElem (by omega)]
    simp only [Option.map_some, List.getD_eq_getElem?_getD, List.getElem?_eq_getElem (show i < ps.length by omega), Option.getD_some]
  · rw [List.getElem?_eq_none (by simpa using h), List.getElem?_eq_none (by omega)]; rfl
theorem first_set {ps : List Bk.Pr} {n i : Nat} (q : Bk.Pr) (hi : i < n) (hn : ps.length = n) (h8 : n ≤ 8) : (firstN ps n).set i (some q) = firstN (ps.set i q) n := by
  refine ss_eq (by simp [firstN]) (firstN_length _ _) fun j hj => ?_
  rw [firstN_get? hj]
  by_cases hij : j = i
  · subst hij
    rw [List.getElem?_set_self (by rw [firstN_length]; omega), if_pos hi, List.getD_eq_getElem?_getD, List.getElem?_set_self (by omega)]; rfl
  · rw [List.getElem?_set_ne (fun e => hij e.symm), firstN_get? hj, List.getD_eq_getElem?_getD, List.getD_eq_getElem?_getD, List.getElem?_set_ne (fun e => hij e.symm)]
theorem there_set {ps : List Bk.Pr} {n i : Nat} (q : Bk.Pr) (hi : i < n) (hn : ps.length = n) (h8 : n ≤ 8) : ssThere ((firstN ps n).set i (some q)) = ps.set i q := by
  rw [first_set q hi hn h8, there_first (by simp [hn]) h8]
/-- whole, just for how many there are -/
theorem ssw_first {ps : List Bk.Pr} {n : Nat} (hn : ps.length = n) (h8 : n ≤ 8) (c : Int) : SSW (firstN ps n) c (chk ps) ↔ c = (n : Int) := by
  constructor
  · rintro ⟨h0, h1, h2, _⟩
    by_cases hc : c < (n : Int)
    · have := h2 c.toNat (by omega)
      rw [firstN_some (by omega), decide_eq_decide] at this
      omega
    · by_cases hc2 : (n : Int) < c
      · have := h2 n (by omega)
        rw [firstN_some (by omega), decide_eq_decide] at this
        omega
      · omega
  · rintro rfl
    refine ⟨by omega, by omega, fun i hi => ?_, by rw [there_first hn h8]⟩
    rw [firstN_some hi, decide_eq_decide]
    omega
theorem not_chk {ps : List Bk.Pr} {n i : Nat} {q : Bk.Pr} (hi : i < n) (hn : ps.length = n) (h8 : n ≤ 8) (h : chk (ps.set i q) ≠ chk ps) (c : Int) : ¬ SSW ((firstN ps n).set i (some q)) c (chk ps) := fun ⟨_, _, _, h3⟩ => by
  rw [there_set q hi hn h8] at h3
  exact h h3
theorem not_less {ps : List Bk.Pr} {n i : Nat} (hi : i < n) (h8 : n ≤ 8) (ck : Nat) (c : Int) (hc : (i : Int) < c) : ¬ SSW ((firstN ps n).set i none) c ck := fun ⟨_, _, h, _⟩ => by
  have := h i (by omega)
  rw [List.getD_eq_getElem?_getD, List.getElem?_set_self (by rw [firstN_length]; omega)] at this
  have h2 : false = decide ((i : Int) < c) := this
  rw [decide_eq_true hc] at h2
  cases h2
theorem not_more {ps : List Bk.Pr} {n : Nat} (h8 : n < 8) (q : Bk.Pr) (ck : Nat) : ¬ SSW ((firstN ps n).set n (some q)) (n : Int) ck := fun ⟨_, _, h, _⟩ => by
  have := h n h8
  rw [List.getD_eq_getElem?_getD, List.getElem?_set_self (by rw [firstN_length]; omega)] at this
  have h2 : true = decide ((n : Int) < (n : Int)) := this
  rw [decide_eq_false (by omega)] at h2
  cases h2
theorem lsum_append (a b : List Bk.Pr) : lsum (a ++ b) = lsum a ++ lsum b := by simp [lsum]
theorem lsum_cons (p : Bk.Pr) (b : List Bk.Pr) : lsum (p :: b) = Stg.itself p.1 p.2 ++ lsum b := by simp [lsum]
theorem chk_one {ps : List Bk.Pr} {i u v : Nat} {p q : Bk.Pr} {X Y : List Nat} (hu : ∀ p ∈ ps, ∀ x ∈ p.2, x < 65536) (hp : ps[i]? = some p) (h1 : Stg.itself p.1 p.2 = X ++ u :: Y) (h2 : Stg.itself q.1 q.2 = X ++ v :: Y) (hv : v < 65536) (hne : u ≠ v) : chk (ps.set i q) ≠ chk ps := fun h => by
  have hi : i < ps.length := (List.getElem?_eq_some_iff.1 hp).1
  have hpe : ps[i] = p := (List.getElem?_eq_some_iff.1 hp).2
  have e1 : ps.set i q = ps.take i ++ q :: ps.drop (i + 1) := List.set_eq_take_append_cons_drop .. |>.trans (by rw [if_pos hi])
  have e2 : ps = ps.take i ++ p :: ps.drop (i + 1) := by
    have e := (List.set_eq_take_append_cons_drop (l := ps) (i := i) (a := p)).trans (by rw [if_pos hi])
    rw [← hpe, List.set_getElem_self] at e
    rw [← hpe]; exact e
  have hm : ∀ x ∈ X ++ u :: Y, x < 65536 := h1 ▸ Stg.itself_u16 (hu p (List.mem_of_getElem? hp))
  have f1 : lsum (ps.set i q) = (lsum (ps.take i) ++ X) ++ v :: (Y ++ lsum (ps.drop (i + 1))) := by rw [e1, lsum_append, lsum_cons, h2]; simp
  have f2 : lsum ps = (lsum (ps.take i) ++ X) ++ u :: (Y ++ lsum (ps.drop (i + 1))) := by
    conv => lhs; rw [e2]
    rw [lsum_append, lsum_cons, h1]; simp
  unfold chk at h
  rw [f1, f2] at h
  refine hne (Crc.one_word (fun x hx => ?_) (fun x hx => ?_) (hm u (by simp)) hv h.symm)
  · rcases List.mem_append.1 hx with hx | hx
    · exact lsum_u16 (fun p hp => hu p (List.mem_of_mem_take hp)) x hx
    · exact hm x (by simp [hx])
  · rcases List.mem_append.1 hx with hx | hx
    · exact hm x (by simp [hx])
    · exact lsum_u16 (fun p hp => hu p (List.mem_of_mem_drop hp)) x hx
/-- one word of a block is another one -/
theorem chk_word {ps : List Bk.Pr} {i j v : Nat} {a : Int} {ws : List Nat} (hu : ∀ p ∈ ps, ∀ x ∈ p.2, x < 65536) (hp : ps[i]? = some (a, ws)) (hf : Bk.fits a ws.length = true) (hj : j < ws.length) (hv : v < 65536) (hne : ws.getD j 0 ≠ v) : chk (ps.set i (a, ws.set j v)) ≠ chk ps := by
  have e : ∀ z, ws.set j z = ws.take j ++ z :: ws.drop (j + 1) := fun z => List.set_eq_take_append_cons_drop .. |>.trans (by rw [if_pos hj])
  have e0 : ws = ws.take j ++ ws.getD j 0 :: ws.drop (j + 1) := by
    have := e (ws.getD j 0)
    have h2 : ws.getD j 0 = ws[j] := by rw [List.getD_eq_getElem?_getD, List.getElem?_eq_getElem hj]; rfl
    rw [h2, List.set_getElem_self] at this
    rw [h2]; exact this
  refine chk_one (p := (a, ws)) (q := (a, ws.set j v)) (u := ws.getD j 0) (v := v) (X := a.toNat :: ws.length :: ws.take j) (Y := ws.drop (j + 1) ++ Stg.zs (14 - ws.length)) hu hp ?_ ?_ hv hne
  · show Stg.itself a ws = _
    rw [Stg.itself_yes hf]
    conv => lhs; rw [e0]
    have : (ws.take j ++ ws.getD j 0 :: ws.drop (j + 1)).length = ws.length := by rw [← e0]
    rw [this]; simp
  · show Stg.itself a (ws.set j v) = _
    rw [Stg.itself_yes (by simpa using hf), List.length_set, e v]; simp
/-- its address is the one ahead -/
theorem chk_at {ps : List Bk.Pr} {i : Nat} {a : Int} {ws : List Nat} (hu : ∀ p ∈ ps, ∀ x ∈ p.2, x < 65536) (hp : ps[i]? = some (a, ws)) (hf : Bk.fits a ws.length = true) (ha : 0 < a) : Bk.fits (a - 1) ws.length = true ∧ chk (ps.set i (a - 1, ws)) ≠ chk ps := by
  have h := Bk.fits_iff.1 hf
  have hf2 : Bk.fits (a - 1) ws.length = true := Bk.fits_iff.2 (by omega)
  refine ⟨hf2, chk_one (p := (a, ws)) (q := (a - 1, ws)) (u := a.toNat) (v := (a - 1).toNat) (X := []) (Y := ws.length :: (ws ++ Stg.zs (14 - ws.length))) hu hp ?_ ?_ (by omega) (by omega)⟩
  · show Stg.itself a ws = _
    rw [Stg.itself_yes hf]; rfl
  · show Stg.itself (a - 1) ws = _
    rw [Stg.itself_yes hf2]; rfl
theorem fitP_all {ps : List Bk.Pr} (h : ∀ p ∈ ps, Bk.fits p.1 p.2.length = true) : ps.map Bk.fitP = ps := by
  induction ps with
  | nil => rfl
  | cons p ps ih => rw [List.map_cons, Bk.fitP_id (h p (by simp)), ih (fun q hq => h q (by simp [hq]))]
end Go.Proofs.Ytajbghjjpebndaa
namespace Go.Proofs.Ytajbghjjpebndaa
set_option maxRecDepth 100000
open Go.RowKit
set_option linter.unusedVariables false
attribute [local go_sem] Later.cell Later.frozen setCell_twice
set_option maxHeartbeats 400000 in
theorem rfits_any (a : Int) (n c : Nat) (A : Option Addr) (r : Bool) (w : World) (lo : -9223372036854775808 ≤ a) (hi : a ≤ 9223372036854775807) (hn : n ≤ 9223372036854775807) (hr : Bk.fits a n = r) :
    Calls Try.prog 53 #[.agg #[.int .i64 a, .slice A n c]] w fun e w' => e = .returned (.bool r) ∧ Below w.heap.size w w' := by
  by_cases h1 : 14 < n
  · obtain rfl : r = false := by rw [← hr, Bk.fits_no]; omega
    have g1 : decide ((14 : Int) < (n : Int)) = true := decide_eq_true (by omega)
    clear hr
    go_enter Try.func53, Try.ntmps53
    go_wp2
    go_ret
    exact ⟨rfl, (by repeat (first | with_reducible exact Below.refl _ _ | with_reducible refine bel_later _ ?_ | with_reducible refine bel_alloc ?_ _ | refine bel_set ?_ (by first | omega | (simp; done) | (simp; omega)) _ | with_reducible refine Below.drew ?_ | with_reducible refine bel_drewN ?_ _ | with_reducible assumption | assumption))⟩
  have g1 : decide ((14 : Int) < (n : Int)) = false := decide_eq_false (by omega)
  by_cases h2 : a < 0
  · obtain rfl : r = false := by rw [← hr, Bk.fits_no]; omega
    clear hr
    go_enter Try.func53, Try.ntmps53
    go_wp2
    go_ret
    exact ⟨rfl, (by repeat (first | with_reducible exact Below.refl _ _ | with_reducible refine bel_later _ ?_ | with_reducible refine bel_alloc ?_ _ | refine bel_set ?_ (by first | omega | (simp; done) | (simp; omega)) _ | with_reducible refine Below.drew ?_ | with_reducible refine bel_drewN ?_ _ | with_reducible assumption | assumption))⟩
  have g2 : decide (a < 0) = false := decide_eq_false h2
  by_cases h3 : 63 < a
  · obtain rfl : r = false := by rw [← hr, Bk.fits_no]; omega
    clear hr
    go_enter Try.func53, Try.ntmps53
    go_wp2
    go_ret
    exact ⟨rfl, (by repeat (first | with_reducible exact Below.refl _ _ | with_reducible refine bel_later _ ?_ | with_reducible refine bel_alloc ?_ _ | refine bel_set ?_ (by first | omega | (simp; done) | (simp; omega)) _ | with_reducible refine Below.drew ?_ | with_reducible refine bel_drewN ?_ _ | with_reducible assumption | assumption))⟩
  have g3 : decide (63 < a) = false := decide_eq_false h3
  have ha0 : 0 ≤ a := by omega
  have ha1 : a ≤ 63 := by omega
  have HR := Lib.hid hr
  clear hr h1 h2 h3
  go_enter Try.func53, Try.ntmps53
  go_wp2
  go_loop [3] (fun i => ∃ k : Nat, k ≤ n ∧ i = .int .i64 k ∧ a + (k : Int) ≤ 64) (fun i => n - (intOf i).toNat)
  case atStart => exact ⟨0, by omega, rfl, by omega⟩
  case round =>
    obtain ⟨k, hk, rfl, hak⟩ := hrel
    by_cases hlt : k < n
    · by_cases h4 : 63 < a + (k : Int)
      · obtain rfl : r = false := by rw [← HR.out, Bk.fits_no]; omega
        have g4 : decide (63 < a + (k : Int)) = true := decide_eq_true h4
        go_wp2
        go_ret
        exact ⟨rfl, (by repeat (first | with_reducible exact Below.refl _ _ | with_reducible refine bel_later _ ?_ | with_reducible refine bel_alloc ?_ _ | refine bel_set ?_ (by first | omega | (simp; done) | (simp; omega)) _ | with_reducible refine Below.drew ?_ | with_reducible refine bel_drewN ?_ _ | with_reducible assumption | assumption))⟩
      · have g4 : decide (63 < a + (k : Int)) = false := decide_eq_false h4
        go_wp2
        go_round
        case rel => exact ⟨k + 1, by omega, by go_num, by omega⟩
        case measure => simp [intOf]; omega
    · obtain rfl : k = n := by omega
      obtain rfl : r = true := by
        rw [← HR.out, Bk.fits_iff]
        have hn14 : k ≤ 14 := by
          rcases Nat.lt_or_ge 14 k with h | h
          · exact absurd g1 (by simp; omega)
          · exact h
        omega
      go_wp2
      go_ret
      exact ⟨rfl, (by repeat (first | with_reducible exact Below.refl _ _ | with_reducible refine bel_later _ ?_ | with_reducible refine bel_alloc ?_ _ | refine bel_set ?_ (by first | omega | (simp; done) | (simp; omega)) _ | with_reducible refine Below.drew ?_ | with_reducible refine bel_drewN ?_ _ | with_reducible assumption | assumption))⟩
end Go.Proofs.Ytajbghjjpebndaa
