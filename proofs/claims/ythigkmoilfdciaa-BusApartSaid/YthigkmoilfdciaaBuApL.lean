/- Layer 11: the plain law of BusApart; which blocks what came lies in. -/
import Derived.Test.YthigkmoilfdciaaBuCalm2
namespace Go.Proofs.Ythigkmoilfdciaa
open Go.RowKit
set_option linter.unusedVariables false
set_option linter.unusedSimpArgs false
def apP (l : List Nat) : Par := ⟨0, false, l⟩
/-- the bus of BusApart at time k -/
def ap (wait again : Nat) (l : List Nat) (k : Nat) : Bu := ⟨[false], k, [(0 + 1 + wait, apP l), (0 + 1 + again, apP l)].filter fun q => decide (k < q.1)⟩
def apL (wait again : Nat) (l : List Nat) (k : Nat) : List Par := (if 0 + 1 + wait = k + 1 then [apP l] else []) ++ (if 0 + 1 + again = k + 1 then [apP l] else [])
/-- how many came before time k -/
def apN (wait again k : Nat) : Nat := (if wait < k then 1 else 0) + (if again < k then 1 else 0)
theorem ap_time (wait again : Nat) (l : List Nat) (k : Nat) : (ap wait again l k).time = k := rfl
theorem ap_len (wait again : Nat) (l : List Nat) (k : Nat) : (ap wait again l k).l.length ≤ 2 := List.length_filter_le _ _
theorem ap_tick (wait again : Nat) (l : List Nat) (k : Nat) : (ap wait again l k).tick = (ap wait again l (k + 1), apL wait again l k) := by
  unfold ap apL
  exact two_tick _ _ _ _ _ _
theorem apL_all {wait again k : Nat} {l : List Nat} : ∀ p ∈ apL wait again l k, p = apP l := by
  unfold apL
  intro p hp
  rcases List.mem_append.1 hp with h | h
  · split at h
    · exact List.mem_singleton.1 h
    · cases h
  · split at h
    · exact List.mem_singleton.1 h
    · cases h
theorem cnt_step (x k : Nat) : (if x < k + 1 then 1 else 0) = (if x < k then 1 else 0) + (if x = k then 1 else 0) := by
  rcases Nat.lt_trichotomy x k with h | h | h
  · rw [if_pos (by omega), if_pos h, if_neg (by omega)]
  · rw [if_pos (by omega), if_neg (by omega), if_pos h]
  · rw [if_neg (by omega), if_neg (by omega), if_neg (by omega)]
theorem apL_len (wait again : Nat) (l : List Nat) (k : Nat) : apN wait again (k + 1) = apN wait again k + (apL wait again l k).length := by
  unfold apN apL
  rw [List.length_append]
  have h1 : (if 0 + 1 + wait = k + 1 then [apP l] else []).length = if wait = k then 1 else 0 := by
    by_cases h : wait = k
    · rw [if_pos (by omega), if_pos h]; rfl
    · rw [if_neg (by omega), if_neg h]; rfl
  have h2 : (if 0 + 1 + again = k + 1 then [apP l] else []).length = if again = k then 1 else 0 := by
    by_cases h : again = k
    · rw [if_pos (by omega), if_pos h]; rfl
    · rw [if_neg (by omega), if_neg h]; rfl
  rw [h1, h2, cnt_step wait k, cnt_step again k]
  omega
theorem apL_le (wait again : Nat) (l : List Nat) (k : Nat) : (apL wait again l k).length ≤ 2 := by
  unfold apL
  rw [List.length_append]
  split <;> split <;> simp
theorem apN_end {wait again : Nat} (h1 : wait < 256) (h2 : again < 256) : apN wait again 257 = 2 := by
  unfold apN
  rw [if_pos (by omega), if_pos (by omega)]
theorem ap_zero {l : List Nat} {wait again at_ turns : Nat} (h1 : 1 ≤ l.length) (h3 : l.length ≤ 300) : sendB ⟨[false], 0, []⟩ (apP l) ⟨false, true, wait, again, at_, turns⟩ = ap wait again l 0 := by
  have hr : Bu.right (Bu.mk [false] 0 []).rtu.length (apP l) = true := by unfold Bu.right apP; exact decide_eq_true ⟨Int.le_refl 0, by show (0 : Int) < 1; decide, h1, h3⟩
  have hf : [(0 + 1 + wait, apP l), (0 + 1 + again, apP l)].filter (fun q => decide (0 < q.1)) = [(0 + 1 + wait, apP l), (0 + 1 + again, apP l)] := List.filter_eq_self.2 (fun q hq => decide_eq_true (by
    rcases List.mem_cons.1 hq with rfl | hq
    · show 0 < 0 + 1 + wait; omega
    · obtain rfl := List.mem_singleton.1 hq
      show 0 < 0 + 1 + again; omega))
  unfold ap
  rw [hf]
  unfold sendB Bu.send
  rw [if_pos hr]
  simp [apP, Bu.turned_zero]
section
variable {w w' : World} {base gs gm rg rc n c : Nat} {b : Bu} {E : List En} {A : Option Addr} {pl : List Pm}
/-- the bytes of what came lie in no block of the bus -/
theorem came_foot (h : BusAt w base gs gm rg rc b E) (hc : ∀ p ∈ pl, pmOwn w base p) (hn : (pl.map Pm.g ++ byts E).Nodup) {x : Pm} (hx : x ∈ pl) : x.g ∉ bfoot gs gm rg E := by
  intro hm
  rcases bfoot_mem.1 hm with h1 | h1 | h1 | ⟨e, he, h1 | ⟨p, hp, h1⟩⟩
  · exact own_row_ne (hc x hx) h.row (by decide) h1
  · obtain ⟨es, clock, hmi, _⟩ := h.parts.map
    exact own_map_ne (hc x hx) hmi h1
  · exact own_ne2 (hc x hx) h.parts.rtu (by decide) h1
  · exact own_ne2 (hc x hx) (h.parts.own e he) (by decide) h1
  · exact (List.nodup_append.1 hn).2.2 x.g (List.mem_map_of_mem hx) p.g (by unfold byts; exact List.mem_flatMap.2 ⟨e, he, List.mem_map_of_mem hp⟩) h1
/-- two parcels that came lie in two blocks -/
theorem came_apart (hn : (pl.map Pm.g ++ byts E).Nodup) {i j : Nat} {x y : Pm} (hx : pl[i]? = some x) (hy : pl[j]? = some y) (hij : i ≠ j) : x.g ≠ y.g := by
  intro hg
  have h1 := (List.nodup_append.1 hn).1
  have hi : i < (pl.map Pm.g).length := by have := (List.getElem?_eq_some_iff.1 hx).1; simpa using this
  exact hij ((List.getElem?_inj hi h1).1 (by rw [List.getElem?_map, List.getElem?_map, hx, hy]; exact congrArg some hg))
end
end Go.Proofs.Ythigkmoilfdciaa
