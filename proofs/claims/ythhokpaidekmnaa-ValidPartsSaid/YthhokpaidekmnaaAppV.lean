/- append onto a row of records of the call's own, in the words of Recs. -/
import Derived.Test.YthhokpaidekmnaaRecs
import Derived.Maps.AppendAt
import Derived.Deep.AppendLies
import Derived.Deep.RegionLaw
import Derived.OwnWalk
namespace Go.Proofs.Ythhokpaidekmnaa
open Go.RowKit
set_option linter.unusedVariables false

section
variable {α : Type} {f : α → List Value} {s : Nat}
theorem flatR_get (hf : ∀ a, (f a).length = s) (hs : 0 < s) : ∀ (l : List α) (j : Nat), (l.flatMap f)[j]? = (l[j / s]?).bind (fun a => (f a)[j % s]?)
 | [], j => by simp
 | a :: l, j => by
  rw [List.flatMap_cons, List.getElem?_append, hf a]
  by_cases h : j < s
  ·rw [if_pos h, Nat.div_eq_of_lt h, Nat.mod_eq_of_lt h]
   simp
  ·rw [if_neg h, flatR_get hf hs l]
   have h1 : j / s = (j - s) / s + 1 := by
    have := Nat.add_div_right (j - s) hs
    rw [show j - s + s = j by omega] at this
    exact this
   have h2 : j % s = (j - s) % s := by
    have := Nat.add_mod_right (j - s) s
    rw [show j - s + s = j by omega] at this
    exact this
   rw [h1, h2]
   simp
theorem flat_length (hf : ∀ a, (f a).length = s) : ∀ (l : List α), (l.flatMap f).length = l.length * s
 | [] => by simp
 | a :: l => by rw [List.flatMap_cons, List.length_append, hf a, flat_length hf l, List.length_cons, Nat.add_mul]; omega
theorem Recs.news (hf : ∀ a, (f a).length = s) (hs : 0 < s) {w : World} {B b o : Nat} {l : List α} (h : Recs f s w B (some ⟨b, o, none⟩) l) : ∀ j u, (l.flatMap f)[j]? = some u → w.cell? ((⟨b, o, none⟩ : Addr).add j) = some u := by
 intro j u hu
 have hadd : (⟨b, o, none⟩ : Addr).add j = ⟨b, o + j, none⟩ := by unfold Addr.add; split <;> simp_all
 rw [hadd]
 rw [flatR_get hf hs] at hu
 cases hl : l[j / s]? with
 | none => rw [hl] at hu; cases hu
 | some a =>
  rw [hl] at hu
  simp only [Option.bind_some] at hu
  have hlt : j / s < l.length := (List.getElem?_eq_some_iff.1 hl).1
  obtain ⟨b', o', hA, _, hc⟩ := h (Nat.lt_of_le_of_lt (Nat.zero_le _) hlt)
  obtain ⟨rfl, rfl⟩ : b = b' ∧ o = o' := by simpa using hA
  have := hc (j / s) a hl (j % s) u hu
  rw [show j / s * s + j % s = j by rw [Nat.mul_comm]; exact Nat.div_add_mod j s] at this
  exact this
theorem Recs.of_own (hf : ∀ a, (f a).length = s) (hs : 0 < s) {w : World} {base n c : Nat} {e : TypeId} {A : Option Addr} {l : List α} (h : w.ownsRow base e s (.slice A n c) n (l.flatMap f)) : Recs f s w w.heap.size A l := fun hn => by
 have hl := h.1
 rw [flat_length hf] at hl
 have hln : l.length = n := Nat.eq_of_mul_eq_mul_right hs hl
 rcases h.2 with ⟨_, h0⟩ | ⟨g, cap, cur, hv, hb, hh, hnc, _, hcs, htk⟩
 ·omega
 ·have hA : A = some ⟨g, 0, none⟩ ∧ c = cap := by simpa using hv
  obtain ⟨rfl, rfl⟩ := hA
  refine ⟨g, 0, rfl, (Array.getElem?_eq_some_iff.1 hh).1, fun j a ha i v hv' => ?_⟩
  have hi : i < s := by
   rcases Nat.lt_or_ge i (f a).length with h1 | h1
   ·rw [hf a] at h1; exact h1
   ·rw [List.getElem?_eq_none h1] at hv'; cases hv'
  have hj : j < l.length := (List.getElem?_eq_some_iff.1 ha).1
  have hfl : (l.flatMap f)[j * s + i]? = some v := by
   rw [flatR_get hf hs]
   have h1 : (j * s + i) / s = j := by rw [Nat.mul_comm, Nat.mul_add_div hs, Nat.div_eq_of_lt hi]; omega
   have h2 : (j * s + i) % s = i := by rw [Nat.mul_comm, Nat.mul_add_mod, Nat.mod_eq_of_lt hi]
   rw [h1, h2, ha]
   simpa using hv'
  rw [Nat.zero_add, cell_of_row w g _ cur e (0, 0) hh]
  rw [← htk, List.getElem?_take] at hfl
  split at hfl
  ·simpa using hfl
  ·cases hfl
/-- a row of records written out -/
theorem Recs.lits (hf : ∀ a, (f a).length = s) (hs : 0 < s) (w : World) (l : List α) (cs : Array Value) (t : TypeId) (n B : Nat) (hcs : cs.toList = l.flatMap f) (hn : n = w.heap.size) (hB : n < B) : Recs f s (w.alloc (.cells cs t)) B (some ⟨n, 0, none⟩) l := fun hl => by
 subst hn
 refine ⟨w.heap.size, 0, rfl, hB, fun j a ha i v hv' => ?_⟩
 have hi : i < s := by
  rcases Nat.lt_or_ge i (f a).length with h1 | h1
  ·rw [hf a] at h1; exact h1
  ·rw [List.getElem?_eq_none h1] at hv'; cases hv'
 rw [Nat.zero_add, World.cell?_alloc_new]
 have hfl : (l.flatMap f)[j * s + i]? = some v := by
  rw [flatR_get hf hs]
  have h1 : (j * s + i) / s = j := by rw [Nat.mul_comm, Nat.mul_add_div hs, Nat.div_eq_of_lt hi]; omega
  have h2 : (j * s + i) % s = i := by rw [Nat.mul_comm, Nat.mul_add_mod, Nat.mod_eq_of_lt hi]
  rw [h1, h2, ha]
  simpa using hv'
 rw [← hfl, ← hcs]
 simp
theorem Recs.drop {w : World} {B b o n : Nat} {l : List α} (h : Recs f s w B (some ⟨b, o, none⟩) l) : Recs f s w B (some ⟨b, o + n * s, none⟩) (l.drop n) := fun hn => by
 obtain ⟨b', o', hA, hb, hc⟩ := h (by rw [List.length_drop] at hn; omega)
 obtain ⟨rfl, rfl⟩ : b = b' ∧ o = o' := by simpa using hA
 refine ⟨b, o + n * s, rfl, hb, fun j a ha i v hv => ?_⟩
 rw [List.getElem?_drop] at ha
 have := hc (n + j) a ha i v hv
 rw [show o + n * s + (j * s + i) = o + ((n + j) * s + i) by rw [Nat.add_mul]; omega]
 exact this
end

theorem own_recs_nil {α : Type} (f : α → List Value) (w : World) (base : Nat) (e : TypeId) (s : Nat) : w.ownsRow base e s (.slice none ([] : List α).length 0) ([] : List α).length (([] : List α).flatMap f) := by
 simpa using World.ownsRow_nil w base e s
theorem own_recs_empty {α : Type} (f : α → List Value) (w : World) (base : Nat) (e : TypeId) (s n : Nat) (hn : n = w.heap.size) (hb : base ≤ n) : (w.alloc (.cells #[] e)).ownsRow base e s (.slice (some ⟨n, 0, none⟩) ([] : List α).length 0) ([] : List α).length (([] : List α).flatMap f) := by
 subst hn
 exact ⟨by simp, .inr ⟨w.heap.size, 0, #[], rfl, hb, heap_alloc_new w _, Nat.le_refl _, by simp [maxLen], by simp, by simp⟩⟩
theorem own_forms {w : World} {base e n s : Nat} {v : Value} {xs : List Value} (h : w.ownsRow base e s v n xs) : ∃ A c, v = .slice A n c := by
 rcases h.2 with ⟨rfl, rfl⟩ | ⟨g, cap, cur, rfl, _⟩
 ·exact ⟨none, 0, rfl⟩
 ·exact ⟨some ⟨g, 0, none⟩, cap, rfl⟩

section
variable {α : Type} {f : α → List Value} {s : Nat} {P : Program} (w : World)
theorem run_append_recs (hf : ∀ a, (f a).length = s) (hs : 0 < s) (hone : ∀ a, ∀ u ∈ f a, u.oneCell' = true) (base : Nat) (t ty e : TypeId) (i : TypeInfo) (z : Value) (bytes : Nat) (ht : P.underlying t = some (.slice e)) (hi : P.info? e = some i) (hz : i.zero = some z)
  (hsize : i.size = s) (hby : i.bytes = bytes) (h0 : 0 < bytes) (hzs : z.cells.size = s)
  (v : Value) (l : List α) (hown : w.ownsRow base e s v l.length (l.flatMap f))
  (B : Nat) (A2 : Option Addr) (l2 : List α) (c2 m : Nat) (hm : l2.length = m) (hr : Recs f s w B A2 l2) (hnil : A2 = none → c2 = 0)
  (hbytes : (l.length + m) * bytes ≤ 140737488355328) (hbase : base ≤ w.heap.size) :
  ∃ A' c' w', (Builtin.append_ #[t, t] ty #[v, .slice A2 m c2]).run P w = .ok (.slice A' (l ++ l2).length c') w' ∧ w'.ownsRow base e s (.slice A' (l ++ l2).length c') (l ++ l2).length ((l ++ l2).flatMap f) ∧ w.grownBy w' v.ownBlock ∧ Below base w w' := by
 subst hm
 have hlen : l.length + l2.length ≤ 140737488355328 := Nat.le_trans (Nat.le_mul_of_pos_right _ h0) hbytes
 have fin : ∀ v' w', (Builtin.append_ #[t, t] ty #[v, .slice A2 l2.length c2]).run P w = .ok v' w' → w'.ownsRow base e s v' (l.length + l2.length) (l.flatMap f ++ l2.flatMap f) → w.grownBy w' v.ownBlock →
   ∃ A' c' w', (Builtin.append_ #[t, t] ty #[v, .slice A2 l2.length c2]).run P w = .ok (.slice A' (l ++ l2).length c') w' ∧ w'.ownsRow base e s (.slice A' (l ++ l2).length c') (l ++ l2).length ((l ++ l2).flatMap f) ∧ w.grownBy w' v.ownBlock ∧ Below base w w' := by
  intro v' w' hrun ho hg
  obtain ⟨A', c', rfl⟩ := own_forms ho
  rw [← List.length_append] at hrun ho
  rw [← List.flatMap_append] at ho
  exact ⟨A', c', w', hrun, ho, hg, (Below.refl _ _).grown hg hbase (fun g hgb => (hown.lt g hgb).1)⟩
 rcases Nat.eq_zero_or_pos l2.length with hz2 | hp
 ·have hl2 : l2 = [] := List.eq_nil_of_length_eq_zero hz2
  subst hl2
  cases A2 with
  | none =>
   rw [hnil rfl] at fin ⊢
   exact fin v w (run_append_owned_none (P := P) (w := w) base t ty e i s ht hi v _ _ hown) (by simpa using hown) (World.grownBy.refl w _)
  | some ad =>
   obtain ⟨v', w', hrun, h2, h3, _⟩ := run_append_own (P := P) w base t ty e i z s bytes ht hi hz hsize hby hzs hs v l.length (l.flatMap f) hown ad 0 c2 [] (by simp) (by simp) (by simp) (by unfold maxLen; simp at hlen; omega) (by simpa using hbytes) hbase
   exact fin v' w' hrun (by simpa using h2) h3
 ·obtain ⟨b, o, rfl, hb, hc⟩ := hr hp
  obtain ⟨v', w', hrun, h2, h3, _⟩ := run_append_own (P := P) w base t ty e i z s bytes ht hi hz hsize hby hzs hs v l.length (l.flatMap f) hown ⟨b, o, none⟩ l2.length c2 (l2.flatMap f) (flat_length hf l2)
   (Recs.news hf hs hr) (fun u hu => by obtain ⟨a, _, ha⟩ := List.mem_flatMap.1 hu; exact hone a u ha) (by unfold maxLen; omega) hbytes hbase
  exact fin v' w' hrun h2 h3

theorem wpList_append_recs {ops : Array Oper} {rest : List Oper} {o : Oper} {a : Act} {Q : Exit → Act → World → Prop} (hgd : o.guard = none) (sv x : Operand) (t : TypeId)
  (ho : o.op = .call { callee := .builtin .append, args := #[sv, x], argTypes := #[t, t] })
  (hf : ∀ a, (f a).length = s) (hs : 0 < s) (hone : ∀ a, ∀ u ∈ f a, u.oneCell' = true)
  (base : Nat) (e : TypeId) (i : TypeInfo) (z : Value) (bytes : Nat) (ht : P.underlying t = some (.slice e)) (hi : P.info? e = some i) (hz : i.zero = some z)
  (hsize : i.size = s) (hby : i.bytes = bytes) (h0 : 0 < bytes) (hzs : z.cells.size = s)
  (v : Value) (l : List α) (hsv : a.eval sv = v) (hown : w.ownsRow base e s v l.length (l.flatMap f))
  (B : Nat) (A2 : Option Addr) (l2 : List α) (c2 m : Nat) (hm : l2.length = m) (hx : a.eval x = .slice A2 m c2) (hr : Recs f s w B A2 l2) (hnil : A2 = none → c2 = 0)
  (hbytes : (l.length + m) * bytes ≤ 140737488355328) (hbase : base ≤ w.heap.size)
  (h : ∀ A' c' w', w'.ownsRow base e s (.slice A' (l ++ l2).length c') (l ++ l2).length ((l ++ l2).flatMap f) → w.grownBy w' v.ownBlock → Below base w w' → wpList P ops Q rest (a.put o.dst (.slice A' (l ++ l2).length c')) w') : wpList P ops Q (o :: rest) a w := by
 refine wpList_plain hgd fun K hK => ?_
 obtain ⟨A', c', w', hrun, h2, h3, h4⟩ := run_append_recs (P := P) w hf hs hone base t o.type e i z bytes ht hi hz hsize hby h0 hzs v l hown B A2 l2 c2 m hm hr hnil hbytes hbase
 unfold Oper.wp execOp
 simp only [ho, resolve, invoke, builtin, Sem.run_bind, Sem.run_pure, Result.andThen_ok, List.map_toArray, List.map_cons, List.map_nil, hsv, hx, hrun]
 exact hK _ _ (h A' c' w' h2 h3 h4)

theorem step_append_recs {ops : Array Oper} {o : Oper} {a : Act} {K : Act → World → Prop} {Q : Exit → Act → World → Prop} {E : Prop} (hgd : o.guard = none) (sv x : Operand) (t : TypeId)
  (ho : o.op = .call { callee := .builtin .append, args := #[sv, x], argTypes := #[t, t] })
  (hf : ∀ a, (f a).length = s) (hs : 0 < s) (hone : ∀ a, ∀ u ∈ f a, u.oneCell' = true)
  (base : Nat) (e : TypeId) (i : TypeInfo) (z : Value) (bytes : Nat) (ht : P.underlying t = some (.slice e)) (hi : P.info? e = some i) (hz : i.zero = some z)
  (hsize : i.size = s) (hby : i.bytes = bytes) (h0 : 0 < bytes) (hzs : z.cells.size = s)
  (v : Value) (l : List α) (hsv : a.eval sv = v) (hown : w.ownsRow base e s v l.length (l.flatMap f))
  (B : Nat) (A2 : Option Addr) (l2 : List α) (c2 m : Nat) (hm : l2.length = m) (hx : a.eval x = .slice A2 m c2) (hr : Recs f s w B A2 l2) (hnil : A2 = none → c2 = 0)
  (hbytes : (l.length + m) * bytes ≤ 140737488355328) (hbase : base ≤ w.heap.size)
  (h : ∀ A' c' w', w'.ownsRow base e s (.slice A' (l ++ l2).length c') (l ++ l2).length ((l ++ l2).flatMap f) → w.grownBy w' v.ownBlock → Below base w w' → K (a.put o.dst (.slice A' (l ++ l2).length c')) w') :
  if Region.wanted o (yielded ops a.tmps) = true then Oper.wp P o a w K Q else E := by
 have hw : Region.wanted o (yielded ops a.tmps) = true := by simp [Region.wanted, hgd]
 rw [if_pos hw]
 obtain ⟨A', c', w', hrun, h2, h3, h4⟩ := run_append_recs (P := P) w hf hs hone base t o.type e i z bytes ht hi hz hsize hby h0 hzs v l hown B A2 l2 c2 m hm hr hnil hbytes hbase
 unfold Oper.wp execOp
 simp only [ho, resolve, invoke, builtin, Sem.run_bind, Sem.run_pure, Result.andThen_ok, List.map_toArray, List.map_cons, List.map_nil, hsv, hx, hrun]
 exact h A' c' w' h2 h3 h4
end
end Go.Proofs.Ythhokpaidekmnaa
