/- Stages as eight blocks that are there or not; a variable that is known whole, as the walk's rules. -/
import Derived.Test.YtopkncbpkccfbaaStgRf0
namespace Go.Proofs.Ytopkncbpkccfbaa
open Go.RowKit
set_option linter.unusedVariables false
attribute [local go_sem] Later.cell Later.frozen setCell_twice
/-! ### a variable as rules -/
theorem RowAt.alloc_is {w : World} {b : Nat} {T : TypeId} {C : List Value} {o : Obj} (h : RowAt w b T C) : RowAt (w.alloc o) b T C = True := eq_true (h.alloc o)
theorem RowAt.later_is {w : World} {b : Nat} {T : TypeId} {C : List Value} {x : Later w.heap.size w} (h : RowAt w b T C) : RowAt x.val b T C = True := eq_true (h.to x.bel)
theorem RowAt.drew_is {w : World} {b : Nat} {T : TypeId} {C : List Value} (h : RowAt w b T C) : RowAt w.drew b T C = True := eq_true h
theorem RowAt.set_is {w : World} {b g j : Nat} {T : TypeId} {C : List Value} {v : Value} (h : RowAt w b T C) (hg : g ≠ b) : RowAt (w.setCell ⟨g, j, none⟩ v) b T C = True := eq_true (h.other hg v)
theorem RowAt.load {P : Program} {w : World} {g : Nat} {T : TypeId} {C : List Value} {d : TypeDesc} (hu : P.underlying T = some d) (hd : (match d with | .struct _ | .array _ _ => true | _ => false) = true) (hi : (P.info? T).map (·.size) = some C.length) (h : RowAt w g T C) :
    (loadVar T ⟨g, 0, none⟩).run P w = .ok (.agg C.toArray) w := run_loadVar_row w g T T C.toArray (0, 0) d h hu hd (by rw [hi]; simp)
theorem RowAt.cells {w : World} {g : Nat} {T : TypeId} {C : List Value} (h : RowAt w g T C) (j : Nat) : w.cell? ⟨g, j, none⟩ = C[j]? := by
  rw [cell_of_row _ _ _ _ _ _ h]; simp
/-! ### the state -/
abbrev SS := List (Option Bk.Pr)
def ssOf (hs : List Bool) (ps : List Bk.Pr) : SS := (List.range 8).map fun k => if hs.getD k false = true then some (ps.getD k (0, [])) else none
def Stv.S (s : Stv) : SS := ssOf s.hs (prs s.bs)
def ss0 : SS := List.replicate 8 none
def ssThere (S : SS) : List Bk.Pr := S.filterMap id
def ssBack (o tx : Nat) (S : SS) (n : Int) : List Nat :=
  if 0 ≤ n ∧ n < 8 then match S.getD n.toNat none with | some p => Stg.tagged o tx n.toNat p.1 p.2 | none => Stg.zs 20 else Stg.zs 20
theorem ssOf_get {hs : List Bool} {ps : List Bk.Pr} {k : Nat} (h : k < 8) : (ssOf hs ps).getD k none = if hs.getD k false = true then some (ps.getD k (0, [])) else none := by
  unfold ssOf
  rw [List.getD_eq_getElem?_getD, List.getElem?_map, List.getElem?_range h]
  rfl
theorem ssOf_get? {hs : List Bool} {ps : List Bk.Pr} {k : Nat} (h : k < 8) : (ssOf hs ps)[k]? = some (if hs.getD k false = true then some (ps.getD k (0, [])) else none) := by
  unfold ssOf
  rw [List.getElem?_map, List.getElem?_range h]
  rfl
theorem ssOf_length (hs : List Bool) (ps : List Bk.Pr) : (ssOf hs ps).length = 8 := by simp [ssOf]
theorem Stv.S_length (s : Stv) : s.S.length = 8 := ssOf_length _ _
theorem filter_map_some {α : Type} (p : Nat → Bool) (g : Nat → α) (l : List Nat) : (l.filter p).map g = (l.map fun k => if p k = true then some (g k) else none).filterMap id := by
  induction l with
  | nil => rfl
  | cons k l ih =>
    cases h : p k
    · rw [List.filter_cons_of_neg (by simp [h])]; simp [h, ih]
    · rw [List.filter_cons_of_pos h]; simp [h, ih]
theorem Stv.there_S (s : Stv) : s.there = ssThere s.S := by
  unfold Stv.there Go.Proofs.Ytopkncbpkccfbaa.there ssThere Stv.S ssOf
  exact filter_map_some _ _ _
theorem backL_S (s : Stv) (o tx : Nat) (n : Int) : backL o tx s.hs (prs s.bs) n = ssBack o tx s.S n := by
  unfold backL ssBack Stv.S
  by_cases h : 0 ≤ n ∧ n < 8
  · rw [if_pos h, ssOf_get (by omega)]
    by_cases h2 : s.hs.getD n.toNat false = true
    · rw [if_pos ⟨h.1, h.2, h2⟩, if_pos h2]
    · rw [if_neg (fun h3 => h2 h3.2.2), if_neg h2]
  · rw [if_neg h, if_neg (fun h3 => h ⟨h3.1, h3.2.1⟩)]
theorem ssBack_length (o tx : Nat) (S : SS) (n : Int) : (ssBack o tx S n).length = 20 := by
  unfold ssBack
  split
  · split
    · exact Stg.tagged_length _ _ _ _ _
    · simp [Stg.zs]
  · simp [Stg.zs]
theorem ss_eq {S T : SS} (hS : S.length = 8) (hT : T.length = 8) (h : ∀ k, k < 8 → S[k]? = T[k]?) : S = T := by
  apply List.ext_getElem?
  intro k
  rcases Nat.lt_or_ge k 8 with h1 | h1
  · exact h k h1
  · rw [List.getElem?_eq_none (by omega), List.getElem?_eq_none (by omega)]
/-- a stage at hand: of which transaction, what is there; its words lie from block base on -/
structure Stv.Is (s : Stv) (w : World) (base tx : Nat) (S : SS) : Prop where
  ok : s.Ok w w.heap.size
  tx : s.tx = tx
  S : s.S = S
  new : ∀ b ∈ s.bs, ∀ p, b.A = some p → base ≤ p.block
  ln : ∀ b ∈ s.bs, b.ws.length ≤ 35184372088832
section
variable {s : Stv} {w w' : World} {base base' tx : Nat} {S : SS}
theorem Stv.Is.to (h : s.Is w base tx S) (k : Below w.heap.size w w') : s.Is w' base tx S := ⟨h.ok.to k, h.tx, h.S, h.new, h.ln⟩
theorem Stv.Is.more (h : s.Is w base tx S) (hb : base' ≤ base) : s.Is w base' tx S := ⟨h.ok, h.tx, h.S, fun b hb' p hp => Nat.le_trans hb (h.new b hb' p hp), h.ln⟩
theorem Stv.Is.len (h : s.Is w base tx S) : S.length = 8 := h.S ▸ s.S_length
theorem Stv.Is.C25 (h : s.Is w base tx S) : s.C.length = 25 := Stv.C_length h.ok.lh h.ok.lb
end
theorem getD_hs {s : Stv} {k : Nat} (h : k < s.hs.length) : s.hs[k]? = some (s.hs.getD k false) := by
  rw [List.getD_eq_getElem?_getD, List.getElem?_eq_getElem h]; rfl
theorem Stv.S_isSome (s : Stv) {k : Nat} (h : k < 8) : (s.S.getD k none).isSome = s.hs.getD k false := by
  unfold Stv.S
  rw [ssOf_get h]
  cases s.hs.getD k false <;> rfl
theorem Stv.zero_is (w : World) (base : Nat) : Stv.zero.Is w base 0 ss0 := ⟨Stv.zero_ok _ _, rfl, rfl, (fun b hb p hp => by rw [List.eq_of_mem_replicate hb] at hp; cases hp), fun b hb => by rw [List.eq_of_mem_replicate hb]; decide⟩
theorem St0_is (t : Nat) (w : World) (base : Nat) (ht : t < 4294967296) : (St0 t).Is w base t ss0 := ⟨St0_ok t _ _ ht, rfl, rfl, (fun b hb p hp => by rw [List.eq_of_mem_replicate hb] at hp; cases hp), St0_len t⟩
def PutS (w : World) (tx : Nat) (S : SS) (e : Ending) (w' : World) : Prop :=
  ∃ s' : Stv, e = .returned (.tuple #[.agg s'.C.toArray, .int .i64 0]) ∧ s'.Is w' w.heap.size tx S ∧ Below w.heap.size w w'
theorem put_S {s : Stv} {base tx : Nat} {S : SS} (m : Nat) (x : Blk) (w : World) (hs : s.Is w base tx S) (hx : x.Ok w w.heap.size) (hm : m ≤ 7) (hf : Bk.fits x.a x.ws.length = true) :
    Calls Try.prog 15 #[.agg s.C.toArray, .int .i64 (m : Int), .agg #[.int .i64 x.a, .slice x.A x.ws.length x.c]] w (PutS w tx (S.set m (some x.pr))) := by
  have hxl := (Bk.fits_iff.1 hf).1
  refine (put_ok s m x w hs.ok hx hm hf hs.ln (by omega)).mono ?_
  rintro e w' ⟨s', rfl, hok, htx, hhs, hb, hbel⟩
  have hlen : ((prs s.bs).set m x.pr).length = 8 := by simp [hs.ok.lb]
  have key : ∀ k, k < 8 → s'.hs.getD k false = true → (prs s'.bs).getD k (0, []) = ((prs s.bs).set m x.pr).getD k (0, []) := fun k hk hh => by
    obtain ⟨b, hbk⟩ : ∃ b, s'.bs[k]? = some b := ⟨_, List.getElem?_eq_getElem (by rw [hok.lb]; exact hk)⟩
    rw [hhs] at hh
    rw [← (hb k b hbk).1 hh, List.getD_eq_getElem?_getD, prs_get hbk]
    rfl
  have hsg : ∀ k, k < 8 → k ≠ m → ((prs s.bs).set m x.pr).getD k (0, []) = (prs s.bs).getD k (0, []) := fun k _ hne => by
    rw [List.getD_eq_getElem?_getD, List.getD_eq_getElem?_getD, List.getElem?_set_ne (fun e => hne e.symm)]
  refine ⟨s', rfl, ⟨hok, htx.trans hs.tx, ?_, fun b hbm p hp => ?_, fun b hbm => ?_⟩, hbel⟩
  · refine ss_eq s'.S_length (by rw [List.length_set]; exact hs.len) fun k hk => ?_
    rw [← hs.S]
    unfold Stv.S
    rw [ssOf_get? hk]
    by_cases hkm : k = m
    · subst hkm
      have h1 : s'.hs.getD k false = true := by rw [hhs, List.getD_eq_getElem?_getD, List.getElem?_set_self (by rw [hs.ok.lh]; exact hk)]; rfl
      rw [if_pos h1, key k hk h1, List.getElem?_set_self (by rw [ssOf_length]; exact hk), List.getD_eq_getElem?_getD, List.getElem?_set_self (by simp [hs.ok.lb]; exact hk)]
      rfl
    · have h1 : s'.hs.getD k false = s.hs.getD k false := by rw [hhs, List.getD_eq_getElem?_getD, List.getElem?_set_ne (fun e => hkm e.symm), ← List.getD_eq_getElem?_getD]
      rw [List.getElem?_set_ne (fun e => hkm e.symm), ssOf_get? hk, h1]
      by_cases h2 : s.hs.getD k false = true
      · rw [if_pos h2, if_pos h2, key k hk (h1.trans h2), hsg k hk hkm]
      · rw [if_neg h2, if_neg h2]
  · obtain ⟨k, hk⟩ := List.mem_iff_getElem?.1 hbm
    exact (hb k b hk).2.2 p hp
  · obtain ⟨k, hk⟩ := List.mem_iff_getElem?.1 hbm
    have hk8 : k < 8 := by have := (List.getElem?_eq_some_iff.1 hk).1; rw [hok.lb] at this; exact this
    cases hh : s'.hs.getD k false
    · rw [hhs] at hh
      rw [(hb k b hk).2.1 hh]
      decide
    · have h1 := key k hk8 hh
      have h2 : (prs s'.bs).getD k (0, []) = b.pr := by rw [List.getD_eq_getElem?_getD, prs_get hk]; rfl
      rw [h2] at h1
      have h3 : b.ws.length = (((prs s.bs).set m x.pr).getD k (0, [])).2.length := by rw [← h1]
      rw [h3]
      by_cases hkm : k = m
      · subst hkm
        rw [List.getD_eq_getElem?_getD, List.getElem?_set_self (by simp [hs.ok.lb]; exact hk8)]
        simp; omega
      · rw [hsg k hk8 hkm]
        obtain ⟨c, hc⟩ : ∃ c, s.bs[k]? = some c := ⟨_, List.getElem?_eq_getElem (by rw [hs.ok.lb]; exact hk8)⟩
        rw [List.getD_eq_getElem?_getD, prs_get hc]
        exact hs.ln c (List.mem_of_getElem? hc)
theorem blocks_S {s : Stv} {base tx : Nat} {S : SS} (w : World) (hs : s.Is w base tx S) : Calls Try.prog 16 #[.agg s.C.toArray] w (BlocksP w (ssThere S)) := by
  rw [← hs.S, ← Stv.there_S]
  exact blocks_any s w hs.ok hs.ln
theorem back_S {s : Stv} {base tx : Nat} {S : SS} (o : Nat) (n : Int) (l : List Nat) (w : World) (hs : s.Is w base tx S) (ho : o < 65536) (hl : ssBack o tx S n = l) : Calls Try.prog 17 #[.agg s.C.toArray, .int .u16 (o : Int), .int .i64 n] w (Makes u16w 22 w l) := by
  rw [← hl, ← hs.tx, ← hs.S, ← backL_S]
  exact back_any s o n w hs.ok ho
end Go.Proofs.Ytopkncbpkccfbaa
