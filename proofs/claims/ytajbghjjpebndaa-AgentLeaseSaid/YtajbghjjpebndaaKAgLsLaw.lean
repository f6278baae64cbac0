/- Plain laws of AgentLease: what is claimed, prepared, ticked. -/
import Derived.Test.YtajbghjjpebndaaQ30
import Derived.Test.YtajbghjjpebndaaQ10
namespace Go.Proofs.Ytajbghjjpebndaa
set_option maxRecDepth 100000
open Go.RowKit
set_option linter.unusedVariables false
set_option linter.unusedSimpArgs false
/-- claimed: by ow, for the transaction tx, S staged, for lf ticks yet -/
def clm (bank : List Nat) (tk : Int) (ow tx : Nat) (S : SS) (lf : Int) : Ag := ⟨bank, ⟨ow, lf⟩, 1, tx, 0, tx, S, tk⟩
/-- prepared -/
def prp (bank : List Nat) (tk : Int) (ow tx : Nat) (S : SS) : Ag := ⟨bank, ⟨ow, -1⟩, 2, tx, 0, tx, S, tk⟩
section
variable {bank : List Nat} {tk lf : Int} {ow tx : Nat} {S : SS}
theorem new_claim (h1 : ow ≠ 0) (h2 : tx ≠ 0) : (Ag.new bank tk).doit ⟨ow, 1, tx, 0, 0⟩ = (clm bank tk ow tx ss0 tk, 0) := by
  rw [doit_1 (by simp [h1, h2]) (by simp [Ag.new]) rfl, if_neg (by simp [Ag.new, h2]), if_neg (by simp [Ag.new])]
  unfold Ag.claimed
  rw [if_pos (.inl (by simp [Ag.new]))]
  rfl
theorem clm_right (hb : bank.length = 64) (ht : 1 ≤ tk) (h1 : ow ≠ 0) (h2 : tx ≠ 0) (hl : 1 ≤ lf) (hf : Bk.fit (ssThere S) = true) : (clm bank tk ow tx S lf).right := by
  refine ⟨hb, ht, rfl, hf, ?_, .inr (.inl ⟨rfl, h1, by show (0 : Int) < lf; omega, by show 0 < tx; omega⟩)⟩
  show Ls.right ⟨ow, lf⟩ = true
  unfold Ls.right
  simp only [decide_eq_true_eq]
  simp [h1]
  omega
theorem clm_tick (h : 1 < lf) : (clm bank tk ow tx S lf).tick = clm bank tk ow tx S (lf - 1) := by
  unfold Ag.tick
  rw [if_neg (by simp [clm]), if_neg (by show ¬ lf - 1 = 0; omega)]
  rfl
theorem clm_last : (clm bank tk ow tx S 1).tick.ph = 0 := rfl
theorem clm_boot : (clm bank tk ow tx S lf).boot.ph = 0 := rfl
theorem clm_put (h1 : ow ≠ 0) (h2 : tx ≠ 0) {k : Nat} (hk : k < 8) {p : Bk.Pr} (hp : Bk.fits p.1 p.2.length = true) : (clm bank tk ow tx S lf).put ow tx (k : Int) p = (clm bank tk ow tx (S.set k (some p)) tk, 0) := by
  unfold Ag.put
  rw [if_neg (by omega), if_neg (by simp [clm]), if_neg (by simp [clm]), if_neg (by omega), if_pos hp]
  rfl
theorem first_zero (ps : List Bk.Pr) : firstN ps 0 = ss0 := rfl
theorem first_succ (ps : List Bk.Pr) {k : Nat} (hk : k < 8) : (firstN ps k).set k (some (ps.getD k (0, []))) = firstN ps (k + 1) := by
  refine ss_eq (by rw [List.length_set, firstN_length]) (firstN_length _ _) fun i hi => ?_
  rw [firstN_get? hi]
  by_cases hik : i = k
  · subst hik
    rw [List.getElem?_set_self (by rw [firstN_length]; omega), if_pos (by omega)]
  · rw [List.getElem?_set_ne (fun e => hik e.symm), firstN_get? hi]
    by_cases h : i < k
    · rw [if_pos h, if_pos (by omega)]
    · rw [if_neg h, if_neg (by omega)]
theorem first_fit {ps : List Bk.Pr} (h : ∀ p ∈ ps, Bk.fits p.1 p.2.length = true) {k : Nat} (hk : k ≤ ps.length) : Bk.fit (ssThere (firstN ps k)) = true := by
  rw [Bk.fit_iff]
  intro q hq
  obtain ⟨x, hx, hxq⟩ := List.mem_filterMap.1 hq
  obtain rfl : x = some q := hxq
  obtain ⟨i, hi, hiq⟩ := List.mem_map.1 hx
  by_cases hik : i < k
  · rw [if_pos hik] at hiq
    have e := Option.some.inj hiq
    rw [List.getD_eq_getElem?_getD, List.getElem?_eq_getElem (by omega), Option.getD_some] at e
    rw [← e]
    exact h _ (List.getElem_mem _)
  · rw [if_neg hik] at hiq
    cases hiq
theorem clm_prepare {ps : List Bk.Pr} {n : Nat} (hn : ps.length = n) (h8 : n ≤ 8) (h1 : ow ≠ 0) (h2 : tx ≠ 0) : (clm bank tk ow tx (firstN ps n) lf).doit ⟨ow, 2, tx, n, chk ps⟩ = (prp bank tk ow tx (firstN ps n), 0) := by
  rw [doit_2 (by simp [h1, h2]) (by simp [clm]) rfl, if_neg (by simp [clm]), if_neg]
  · rfl
  · rintro (h | h | h)
    · exact h rfl
    · exact h rfl
    · exact h ((ssw_first hn h8 _).2 rfl)
theorem prp_tick : (prp bank tk ow tx S).tick = prp bank tk ow tx S := rfl
theorem prp_boot : (prp bank tk ow tx S).boot = prp bank tk ow tx S := rfl
theorem prp_commit {ps : List Bk.Pr} {n : Nat} (hn : ps.length = n) (h8 : n ≤ 8) (h1 : ow ≠ 0) (h2 : tx ≠ 0) : (prp bank tk ow tx (firstN ps n)).doit ⟨ow, 3, tx, 0, 0⟩ = (⟨Bk.over bank ps, ⟨0, 0⟩, 0, 0, tx, 0, ss0, tk⟩, 0) := by
  rw [doit_3 (by simp [h1, h2]) (by simp [prp]) rfl, if_neg (by show ¬ 0 = tx; omega), if_neg (by simp [prp])]
  show (({ bank := Bk.over bank (ssThere (firstN ps n)), l := ⟨0, 0⟩, ph := 0, tx := 0, la := tx, stx := 0, S := ss0, tk := tk } : Ag), (0 : Int)) = _
  rw [there_first hn h8]
/-- behind j ticks -/
def cst (bank : List Nat) (tk : Int) (ow tx : Nat) (S : SS) (j : Nat) : Ag := if (j : Int) < tk then clm bank tk ow tx S (tk - (j : Int)) else (clm bank tk ow tx S tk).freed
theorem cst_zero (h : 1 ≤ tk) : cst bank tk ow tx S 0 = clm bank tk ow tx S tk := by
  unfold cst
  rw [if_pos (by omega), show tk - ((0 : Nat) : Int) = tk by omega]
theorem cst_tick {j : Nat} (h : (j : Int) < tk) : (cst bank tk ow tx S j).tick = cst bank tk ow tx S (j + 1) := by
  unfold cst
  rw [if_pos h]
  by_cases h1 : ((j + 1 : Nat) : Int) < tk
  · rw [if_pos h1, clm_tick (by omega), show tk - (j : Int) - 1 = tk - ((j + 1 : Nat) : Int) by omega]
  · rw [if_neg h1, show tk - (j : Int) = 1 by omega]
    rfl
theorem cst_in {j : Nat} (h : (j : Int) < tk) : (cst bank tk ow tx S j).ph = 1 := by unfold cst; rw [if_pos h]; rfl
theorem cst_out {j : Nat} (h : ¬ (j : Int) < tk) : (cst bank tk ow tx S j).ph = 0 := by unfold cst; rw [if_neg h]; rfl
theorem cst_right (h : ∀ lf, 1 ≤ lf → (clm bank tk ow tx S lf).right) (ht : 1 ≤ tk) (j : Nat) : (cst bank tk ow tx S j).right := by
  unfold cst
  split
  · exact h _ (by omega)
  · exact (h tk ht).freed
theorem fitP_fits_all (l : List Bk.Pr) : ∀ p ∈ l.map Bk.fitP, Bk.fits p.1 p.2.length = true := by
  intro p hp
  obtain ⟨q, _, rfl⟩ := List.mem_map.1 hp
  exact Bk.fitP_fits q
end
/-- a new agent, no error -/
def AgOk (w : World) (g : Ag) (e : Ending) (w' : World) : Prop := ∃ A c s, e = .returned (.tuple #[.agg (agC A c s g).toArray, .int .i64 0]) ∧ AgIs A c s g w' w.heap.size ∧ Below w.heap.size w w'
theorem AgEE.ok {w w' : World} {r : Ag × Int} {g : Ag} {e : Ending} (h : AgEE w r e w') (hr : r = (g, 0)) : AgOk w g e w' := by
  subst hr
  exact h
/-- fitted blocks, their memory from block B on -/
structure FB (B : Nat) (A : Option Addr) (l : List Blk) (w : World) : Prop where
  bl : Blks w w.heap.size A l
  a : ∀ p, A = some p → B ≤ p.block
  b : ∀ x ∈ l, ∀ p, x.A = some p → B ≤ p.block
theorem FB.to {B : Nat} {A : Option Addr} {l : List Blk} {w w' : World} (h : FB B A l w) (k : Below w.heap.size w w') : FB B A l w' := ⟨h.bl.to k, h.a, h.b⟩
theorem FB.only {B g : Nat} {A : Option Addr} {l : List Blk} {w w' : World} (h : FB B A l w) (k : Only g w w') (hg : g < B) : FB B A l w' :=
  ⟨h.bl.only k (fun p hp e => by have := h.a p hp; omega) (fun x hx p hp e => by have := h.b x hx p hp; omega), h.a, h.b⟩
theorem FB.of {w w' : World} {l : List Bk.Pr} {e : Ending} {B : Nat} (hB : B ≤ w.heap.size) : BlocksQ w l e w' → ∃ A c bl, e = .returned (.slice A (bl : List Blk).length c) ∧ prs bl = l ∧ FB B A bl w' ∧ bl.length ≤ c ∧ c ≤ 9223372036854775807 ∧ Below w.heap.size w w' :=
  fun ⟨A, c, bl, h1, h2, h3, h4, h5, h6, ho, hb, h7⟩ => ⟨A, c, bl, h1, h2, ⟨h3, fun p hp => Nat.le_trans hB (ho.lt p.block (by rw [hp]; rfl)).1, fun x hx p hp => Nat.le_trans hB ((hb x hx).2.lt p.block (by rw [hp]; rfl)).1⟩, h4, h5, h7⟩
end Go.Proofs.Ytajbghjjpebndaa
