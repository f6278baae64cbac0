/- Stages as eight blocks that are there or not; a variable that is known whole, as the walk's rules. Variables that are known whole, as steps of a walk: a load, a store; what stays while one block is written. The walk of stage.Whole. -/
import Derived.Test.YtajbghjjpebndaaQ11
import Derived.Test.YtajbghjjpebndaaQ10
import Derived.Test.YtajbghjjpebndaaQ08
namespace Go.Proofs.Ytajbghjjpebndaa
set_option maxRecDepth 100000
open Go.RowKit
set_option linter.unusedVariables false
attribute [local go_sem] Later.cell Later.frozen setCell_twice
/-! ### a variable as rules -/
theorem RowAt.alloc_is {w : World} {b : Nat} {T : TypeId} {C : List Value} {o : Obj} (h : RowAt w b T C) : RowAt (w.alloc o) b T C = True := eq_true (h.alloc o)
theorem RowAt.later_is {w : World} {b : Nat} {T : TypeId} {C : List Value} {x : Later w.heap.size w} (h : RowAt w b T C) : RowAt x.val b T C = True := eq_true (h.to x.bel)
theorem RowAt.drew_is {w : World} {b : Nat} {T : TypeId} {C : List Value} (h : RowAt w b T C) : RowAt w.drew b T C = True := eq_true h
theorem RowAt.set_is {w : World} {b g j : Nat} {T : TypeId} {C : List Value} {v : Value} (h : RowAt w b T C) (hg : g ≠ b) : RowAt (w.setCell ⟨g, j, none⟩ v) b T C = True := eq_true (h.other hg v)
theorem RowAt.load {P : Program} {w : World} {g : Nat} {T : TypeId} {C : List Value} {d : TypeDesc} (hu : P.underlying T = some d) (hd : (match d with | .struct _ | .array _ _ => true | _ => false) = true) (hi : (P.info? T).map (·.size) = some C.length) (h : RowAt w g T C) :
    (loadVar T ⟨g, 0, none⟩).run P w = .ok (.agg C.toArray) w := run_loadVar_row w g T T C.toArray (0, 0) d h hu hd (by rw [hi]; simp)
theorem RowAt.cells {w : World} {g : Nat} {T : TypeId} {C : List Value} (h : RowAt w g T C) (j : Nat) : w.cell? ⟨g, j, none⟩ = C[j]? := by
  rw [cell_of_row _ _ _ _ _ _ h]; simp
/-! ### the state -/
abbrev SS := List (Option Bk.Pr)
def ssOf (hs : List Bool) (ps : List Bk.Pr) : SS := (List.range 8).map fun k => if hs.getD k false = true then some (ps.getD k (0, [])) else none
def Stv.S (s : Stv) : SS := ssOf s.hs (prs s.bs)
def ss0 : SS := List.replicate 8 none
def ssThere (S : SS) : List Bk.Pr := S.filterMap id
def ssBack (o tx : Nat) (S : SS) (n : Int) : List Nat :=
  if 0 ≤ n ∧ n < 8 then match S.getD n.toNat none with | some p => Stg.tagged o tx n.toNat p.1 p.2 | none => Stg.zs 20 else Stg.zs 20
theorem ssOf_get {hs : List Bool} {ps : List Bk.Pr} {k : Nat} (h : k < 8) : (ssOf hs ps).getD k none = if hs.getD k false = true then some (ps.getD k (0, [])) else none := by
  unfold ssOf
  rw [List.getD_eq_getElem?_getD, List.getElem?_map, List.getElem?_range h]
  rfl
theorem ssOf_get? {hs : List Bool} {ps : List Bk.Pr} {k : Nat} (h : k < 8) : (ssOf hs ps)[k]? = some (if hs.getD k false = true then some (ps.getD k (0, [])) else none) := by
  unfold ssOf
  rw [List.getElem?_map, List.getElem?_range h]
  rfl
theorem ssOf_length (hs : List Bool) (ps : List Bk.Pr) : (ssOf hs ps).length = 8 := by simp [ssOf]
theorem Stv.S_length (s : Stv) : s.S.length = 8 := ssOf_length _ _
theorem filter_map_some {α : Type} (p : Nat → Bool) (g : Nat → α) (l : List Nat) : (l.filter p).map g = (l.map fun k => if p k = true then some (g k) else none).filterMap id := by
  induction l with
  | nil => rfl
  | cons k l ih =>
    cases h : p k
    · rw [List.filter_cons_of_neg (by simp [h])]; simp [h, ih]
    · rw [List.filter_cons_of_pos h]; simp [h, ih]
theorem Stv.there_S (s : Stv) : s.there = ssThere s.S := by
  unfold Stv.there Go.Proofs.Ytajbghjjpebndaa.there ssThere Stv.S ssOf
  exact filter_map_some _ _ _
theorem backL_S (s : Stv) (o tx : Nat) (n : Int) : backL o tx s.hs (prs s.bs) n = ssBack o tx s.S n := by
  unfold backL ssBack Stv.S
  by_cases h : 0 ≤ n ∧ n < 8
  · rw [if_pos h, ssOf_get (by omega)]
    by_cases h2 : s.hs.getD n.toNat false = true
    · rw [if_pos ⟨h.1, h.2, h2⟩, if_pos h2]
    · rw [if_neg (fun h3 => h2 h3.2.2), if_neg h2]
  · rw [if_neg h, if_neg (fun h3 => h ⟨h3.1, h3.2.1⟩)]
theorem ssBack_length (o tx : Nat) (S : SS) (n : Int) : (ssBack o tx S n).length = 20 := by
  unfold ssBack
  split
  · split
    · exact Stg.tagged_length _ _ _ _ _
    · simp [Stg.zs]
  · simp [Stg.zs]
theorem ss_eq {S T : SS} (hS : S.length = 8) (hT : T.length = 8) (h : ∀ k, k < 8 → S[k]? = T[k]?) : S = T := by
  apply List.ext_getElem?
  intro k
  rcases Nat.lt_or_ge k 8 with h1 | h1
  · exact h k h1
  · rw [List.getElem?_eq_none (by omega), List.getElem?_eq_none (by omega)]
/-- a stage at hand: of which transaction, what is there; its words lie from block base on -/
structure Stv.Is (s : Stv) (w : World) (base tx : Nat) (S : SS) : Prop where
  ok : s.Ok w w.heap.size
  tx : s.tx = tx
  S : s.S = S
  new : ∀ b ∈ s.bs, ∀ p, b.A = some p → base ≤ p.block
  ln : ∀ b ∈ s.bs, b.ws.length ≤ 35184372088832
section
variable {s : Stv} {w w' : World} {base base' tx : Nat} {S : SS}
theorem Stv.Is.to (h : s.Is w base tx S) (k : Below w.heap.size w w') : s.Is w' base tx S := ⟨h.ok.to k, h.tx, h.S, h.new, h.ln⟩
theorem Stv.Is.more (h : s.Is w base tx S) (hb : base' ≤ base) : s.Is w base' tx S := ⟨h.ok, h.tx, h.S, fun b hb' p hp => Nat.le_trans hb (h.new b hb' p hp), h.ln⟩
theorem Stv.Is.len (h : s.Is w base tx S) : S.length = 8 := h.S ▸ s.S_length
theorem Stv.Is.C25 (h : s.Is w base tx S) : s.C.length = 25 := Stv.C_length h.ok.lh h.ok.lb
end
theorem getD_hs {s : Stv} {k : Nat} (h : k < s.hs.length) : s.hs[k]? = some (s.hs.getD k false) := by
  rw [List.getD_eq_getElem?_getD, List.getElem?_eq_getElem h]; rfl
theorem Stv.S_isSome (s : Stv) {k : Nat} (h : k < 8) : (s.S.getD k none).isSome = s.hs.getD k false := by
  unfold Stv.S
  rw [ssOf_get h]
  cases s.hs.getD k false <;> rfl
theorem Stv.zero_is (w : World) (base : Nat) : Stv.zero.Is w base 0 ss0 := ⟨Stv.zero_ok _ _, rfl, rfl, (fun b hb p hp => by rw [List.eq_of_mem_replicate hb] at hp; cases hp), fun b hb => by rw [List.eq_of_mem_replicate hb]; decide⟩
theorem St0_is (t : Nat) (w : World) (base : Nat) (ht : t < 4294967296) : (St0 t).Is w base t ss0 := ⟨St0_ok t _ _ ht, rfl, rfl, (fun b hb p hp => by rw [List.eq_of_mem_replicate hb] at hp; cases hp), St0_len t⟩
def PutS (w : World) (tx : Nat) (S : SS) (e : Ending) (w' : World) : Prop :=
  ∃ s' : Stv, e = .returned (.tuple #[.agg s'.C.toArray, .int .i64 0]) ∧ s'.Is w' w.heap.size tx S ∧ Below w.heap.size w w'
theorem put_S {s : Stv} {base tx : Nat} {S : SS} (m : Nat) (x : Blk) (w : World) (hs : s.Is w base tx S) (hx : x.Ok w w.heap.size) (hm : m ≤ 7) (hf : Bk.fits x.a x.ws.length = true) :
    Calls Try.prog 71 #[.agg s.C.toArray, .int .i64 (m : Int), .agg #[.int .i64 x.a, .slice x.A x.ws.length x.c]] w (PutS w tx (S.set m (some x.pr))) := by
  have hxl := (Bk.fits_iff.1 hf).1
  refine (put_ok s m x w hs.ok hx hm hf hs.ln (by omega)).mono ?_
  rintro e w' ⟨s', rfl, hok, htx, hhs, hb, hbel⟩
  have hlen : ((prs s.bs).set m x.pr).length = 8 := by simp [hs.ok.lb]
  have key : ∀ k, k < 8 → s'.hs.getD k false = true → (prs s'.bs).getD k (0, []) = ((prs s.bs).set m x.pr).getD k (0, []) := fun k hk hh => by
    obtain ⟨b, hbk⟩ : ∃ b, s'.bs[k]? = some b := ⟨_, List.getElem?_eq_getElem (by rw [hok.lb]; exact hk)⟩
    rw [hhs] at hh
    rw [← (hb k b hbk).1 hh, List.getD_eq_getElem?_getD, prs_get hbk]
    rfl
  have hsg : ∀ k, k < 8 → k ≠ m → ((prs s.bs).set m x.pr).getD k (0, []) = (prs s.bs).getD k (0, []) := fun k _ hne => by
    rw [List.getD_eq_getElem?_getD, List.getD_eq_getElem?_getD, List.getElem?_set_ne (fun e => hne e.symm)]
  refine ⟨s', rfl, ⟨hok, htx.trans hs.tx, ?_, fun b hbm p hp => ?_, fun b hbm => ?_⟩, hbel⟩
  · refine ss_eq s'.S_length (by rw [List.length_set]; exact hs.len) fun k hk => ?_
    rw [← hs.S]
    unfold Stv.S
    rw [ssOf_get? hk]
    by_cases hkm : k = m
    · subst hkm
      have h1 : s'.hs.getD k false = true := by rw [hhs, List.getD_eq_getElem?_getD, List.getElem?_set_self (by rw [hs.ok.lh]; exact hk)]; rfl
      rw [if_pos h1, key k hk h1, List.getElem?_set_self (by rw [ssOf_length]; exact hk), List.getD_eq_getElem?_getD, List.getElem?_set_self (by simp [hs.ok.lb]; exact hk)]
      rfl
    · have h1 : s'.hs.getD k false = s.hs.getD k false := by rw [hhs, List.getD_eq_getElem?_getD, List.getElem?_set_ne (fun e => hkm e.symm), ← List.getD_eq_getElem?_getD]
      rw [List.getElem?_set_ne (fun e => hkm e.symm), ssOf_get? hk, h1]
      by_cases h2 : s.hs.getD k false = true
      · rw [if_pos h2, if_pos h2, key k hk (h1.trans h2), hsg k hk hkm]
      · rw [if_neg h2, if_neg h2]
  · obtain ⟨k, hk⟩ := List.mem_iff_getElem?.1 hbm
    exact (hb k b hk).2.2 p hp
  · obtain ⟨k, hk⟩ := List.mem_iff_getElem?.1 hbm
    have hk8 : k < 8 := by have := (List.getElem?_eq_some_iff.1 hk).1; rw [hok.lb] at this; exact this
    cases hh : s'.hs.getD k false
    · rw [hhs] at hh
      rw [(hb k b hk).2.1 hh]
      decide
    · have h1 := key k hk8 hh
      have h2 : (prs s'.bs).getD k (0, []) = b.pr := by rw [List.getD_eq_getElem?_getD, prs_get hk]; rfl
      rw [h2] at h1
      have h3 : b.ws.length = (((prs s.bs).set m x.pr).getD k (0, [])).2.length := by rw [← h1]
      rw [h3]
      by_cases hkm : k = m
      · subst hkm
        rw [List.getD_eq_getElem?_getD, List.getElem?_set_self (by simp [hs.ok.lb]; exact hk8)]
        simp; omega
      · rw [hsg k hk8 hkm]
        obtain ⟨c, hc⟩ : ∃ c, s.bs[k]? = some c := ⟨_, List.getElem?_eq_getElem (by rw [hs.ok.lb]; exact hk8)⟩
        rw [List.getD_eq_getElem?_getD, prs_get hc]
        exact hs.ln c (List.mem_of_getElem? hc)
theorem blocks_S {s : Stv} {base tx : Nat} {S : SS} (w : World) (hs : s.Is w base tx S) : Calls Try.prog 17 #[.agg s.C.toArray] w (BlocksP w (ssThere S)) := by
  rw [← hs.S, ← Stv.there_S]
  exact blocks_any s w hs.ok hs.ln
end Go.Proofs.Ytajbghjjpebndaa
namespace Go.Proofs.Ytajbghjjpebndaa
set_option maxRecDepth 100000
open Go.RowKit
set_option linter.unusedVariables false
section
variable {P : Program} {ops : Array Oper} {rest : List Oper} {o : Oper} {a : Act} {w : World} {Q : Exit → Act → World → Prop}
theorem wpList_load_var (hw : Region.wanted o (yielded ops a.tmps) = true) (ty : TypeId) (x : Operand) (ho : o.op = .load ty x)
    (g : Nat) (hx : a.eval x = .pointer (some ⟨g, 0, none⟩)) (C : List Value) (d : TypeDesc) (n : Nat) (hR : RowAt w g ty C)
    (hu : P.underlying ty = some d) (hd : (match d with | .struct _ | .array _ _ => true | _ => false) = true) (hi : (P.info? ty).map (·.size) = some n) (hn : C.length = n)
    (h : wpList P ops Q rest (a.put o.dst (.agg C.toArray)) w) : wpList P ops Q (o :: rest) a w :=
  wpList_load_row_g hw ty x ho g hx ty C.toArray (0, 0) d hR hu hd (by rw [hi, ← hn]; simp) h
theorem wpList_store_var (hgd : o.guard = none) (ty : TypeId) (x y : Operand) (ho : o.op = .store ty x y)
    (g : Nat) (C D : List Value) (n : Nat) (hx : a.eval x = .pointer (some ⟨g, 0, none⟩)) (hy : a.eval y = .agg D.toArray) (hR : RowAt w g ty C)
    (hi : (P.info? ty).map (·.size) = some n) (hC : C.length = n) (hD : D.length = n) (h1 : ∀ v ∈ D, v.oneCell' = true)
    (h : ∀ w', RowAt w' g ty D → Only g w w' → wpList P ops Q rest (a.put o.dst undef) w') : wpList P ops Q (o :: rest) a w :=
  wpList_store_row hgd ty x y ho g D.toArray hx hy ty C.toArray hR (by rw [hi, ← hD]; simp) (by simp [hC, hD]) (all_oneCell_toArray h1)
    (h _ (RowAt.row hR D) ⟨rfl, rfl, rfl, setRow_size _ _ _, fun k hk => setRow_other w g k _ hk⟩)
end
section
variable {g : Nat} {w w' : World}
theorem RowAt.only {b : Nat} {T : TypeId} {C : List Value} (h : RowAt w b T C) (k : Only g w w') (hne : b ≠ g) : RowAt w' b T C := (k.block b hne).trans h
theorem Only.to {W w w' : World} (k : Only g w w') (h : Below W.heap.size W w) (hg : W.heap.size ≤ g) : Below W.heap.size W w' := h.trans (k.below hg)
theorem Blk.Ok.only {b : Blk} (h : b.Ok w w.heap.size) (k : Only g w w') (hne : ∀ p, b.A = some p → p.block ≠ g) : b.Ok w' w'.heap.size :=
  ⟨fun hn => by
    obtain ⟨b', o, hA, hb, hc⟩ := h.sq hn
    exact ⟨b', o, hA, by rw [k.size]; exact hb, fun j x hx => (k.cell (p := ⟨b', o + j, none⟩) (show b' ≠ g from hne _ hA)).trans (hc j x hx)⟩, h.u, h.lo, h.hi, h.ln, h.cap, h.nl⟩
theorem Sq.only {α : Type} {f : α → Value} {A : Option Addr} {l : List α} (h : Sq f w w.heap.size A l) (k : Only g w w') (hne : ∀ p, A = some p → p.block ≠ g) : Sq f w' w'.heap.size A l := fun hn => by
  obtain ⟨b', o, hA, hb, hc⟩ := h hn
  exact ⟨b', o, hA, by rw [k.size]; exact hb, fun j x hx => (k.cell (p := ⟨b', o + j, none⟩) (show b' ≠ g from hne _ hA)).trans (hc j x hx)⟩
theorem Blks.only {A : Option Addr} {l : List Blk} (h : Blks w w.heap.size A l) (k : Only g w w') (hA : ∀ p, A = some p → p.block ≠ g) (hb : ∀ b ∈ l, ∀ p, b.A = some p → p.block ≠ g) : Blks w' w'.heap.size A l :=
  ⟨fun hn => by
    obtain ⟨b', o, hA', hb', hc⟩ := h.rc hn
    exact ⟨b', o, hA', by rw [k.size]; exact hb', fun j x hx i v hv => (k.cell (p := ⟨b', o + (j * 2 + i), none⟩) (show b' ≠ g from hA _ hA')).trans (hc j x hx i v hv)⟩, fun b hbl => (h.ok b hbl).only k (hb b hbl)⟩
theorem Stv.Is.only {s : Stv} {base tx : Nat} {S : SS} (h : s.Is w base tx S) (k : Only g w w') (hg : g < base) : s.Is w' base tx S :=
  ⟨⟨h.ok.lh, h.ok.lb, h.ok.tx, fun b hb => (h.ok.ok b hb).only k (fun p hp e => by have := h.new b hb p hp; omega)⟩, h.tx, h.S, h.new, h.ln⟩
end
end Go.Proofs.Ytajbghjjpebndaa
namespace Go.Proofs.Ytajbghjjpebndaa
set_option maxRecDepth 100000
open Go.RowKit
set_option linter.unusedVariables false
attribute [local go_sem] Later.cell Later.frozen setCell_twice
def SSW (S : SS) (count : Int) (check : Nat) : Prop := 0 ≤ count ∧ count ≤ 8 ∧ (∀ i, i < 8 → (S.getD i none).isSome = decide ((i : Int) < count)) ∧ chk (ssThere S) = check
theorem no_of {r : Bool} {P : Prop} (h : r = true ↔ P) (hn : ¬ P) : r = false := by
  cases r
  · rfl
  · exact absurd (h.1 rfl) hn
theorem ssThere_length (S : SS) : (ssThere S).length ≤ S.length := List.length_filterMap_le _ _
set_option maxRecDepth 100000 in
set_option maxHeartbeats 1000000 in
theorem whole_S {s : Stv} {B tx : Nat} {S : SS} (count : Int) (ch : Nat) (r : Bool) (w : World) (hs : s.Is w B tx S) (hr : r = true ↔ SSW S count ch) :
    Calls Try.prog 106 #[.agg s.C.toArray, .int .i64 count, .int .u32 (ch : Int)] w fun e w' => e = .returned (.bool r) ∧ Below w.heap.size w w' := by
  by_cases h1 : count < 0
  · obtain rfl : r = false := no_of hr (fun h => by unfold SSW at h; omega)
    clear hr
    go_enter Try.func106, Try.ntmps106
    go_wp2
    go_ret
    exact ⟨rfl, (by repeat (first | with_reducible exact Below.refl _ _ | with_reducible refine bel_later _ ?_ | with_reducible refine bel_alloc ?_ _ | refine bel_set ?_ (by first | omega | (simp; done) | (simp; omega)) _ | with_reducible refine Below.drew ?_ | with_reducible refine bel_drewN ?_ _ | with_reducible assumption | assumption))⟩
  by_cases h2 : 8 < count
  · obtain rfl : r = false := no_of hr (fun h => by unfold SSW at h; omega)
    clear hr
    go_enter Try.func106, Try.ntmps106
    go_wp2
    go_ret
    exact ⟨rfl, (by repeat (first | with_reducible exact Below.refl _ _ | with_reducible refine bel_later _ ?_ | with_reducible refine bel_alloc ?_ _ | refine bel_set ?_ (by first | omega | (simp; done) | (simp; omega)) _ | with_reducible refine Below.drew ?_ | with_reducible refine bel_drewN ?_ _ | with_reducible assumption | assumption))⟩
  have g1 : decide (count < 0) = false := by simpa using h1
  have g2 : decide (8 < count) = false := by simpa using h2
  have hlo : 0 ≤ count := by omega
  have hhi : count ≤ 8 := by omega
  clear h1 h2
  have hR := RowAt.new w 33 s.C
  have hlen8 : (s.hs.map Value.bool).length = 8 := by simp [hs.ok.lh]
  have hrng : (w.alloc (.cells s.C.toArray 33)).rangeAt w.heap.size 1 (s.hs.map Value.bool) := by
    have := hR.range 1 8
    rwa [Stv.C_haves hs.ok.lh] at this
  have HRNG := Lib.hid hrng
  have HSZ := Lib.hid (show (Try.prog.info? 28).map (·.size) = some (s.hs.map Value.bool).length by rw [hlen8]; exact size_haves)
  have HR := Lib.hid hR
  have HC := Lib.hid hs.C25
  have HRR := Lib.hid hr
  have IS := Lib.hid hs
  clear hR hlen8 hrng hr hs
  go_enter Try.func106, Try.ntmps106
  go_wp2_with (refine wpList_load_mid rfl 28 (.tmp 15) rfl w.heap.size 1 rfl (s.hs.map Value.bool) _ HRNG.out Try.underlying28 rfl HSZ.out ?_)
  go_loop [17] (fun i => ∃ k : Nat, k ≤ 8 ∧ i = .int .i64 k ∧ Hid (∀ j, j < k → (S.getD j none).isSome = decide ((j : Int) < count))) (fun i => 8 - (intOf i).toNat)
  case atStart => exact ⟨0, by omega, rfl, Lib.hid (fun j hj => absurd hj (by omega))⟩
  case round =>
    obtain ⟨k, hk, rfl, hall⟩ := hrel
    by_cases hlt : k < 8
    · have hx : s.hs[k]? = some (s.hs.getD k false) := getD_hs (by rw [IS.out.ok.lh]; exact hlt)
      have hxs : (S.getD k none).isSome = s.hs.getD k false := by rw [← IS.out.S]; exact s.S_isSome hlt
      obtain ⟨x, hxx⟩ : ∃ x, s.hs.getD k false = x := ⟨_, rfl⟩
      rw [hxx] at hx hxs
      have kx : ∀ w, (Instr.index 28 (.agg (s.hs.map Value.bool).toArray) (.int .i64 (k : Int))).run Try.prog w = .ok (.bool x) w := index_have _ k _ hlt (by simp [hx])
      have hltI : (k : Int) < 8 := by omega
      have h0I : (0 : Int) ≤ (k : Int) := by omega
      obtain ⟨d, hd⟩ : ∃ d, decide ((k : Int) < count) = d := ⟨_, rfl⟩
      by_cases hxd : x = d
      · have HN : Hid (∀ j, j < k + 1 → (S.getD j none).isSome = decide ((j : Int) < count)) := Lib.hid (fun j hj => by
          rcases Nat.lt_or_ge j k with h1 | h1
          · exact hall.out j h1
          · obtain rfl : j = k := by omega
            rw [hxs, hd, hxd])
        subst hxd
        clear hx hxs hxx
        go_wp2
        go_round
        case rel => exact ⟨k + 1, by omega, by go_num, HN⟩
        case measure => simp [intOf]; omega
      · obtain rfl : r = false := by
          refine no_of HRR.out ?_
          rintro ⟨_, _, h, _⟩
          have := h k hlt
          rw [hxs, hd] at this
          exact hxd this
        have hxd' : (x != d) = true := by simpa using hxd
        have hxd2 : (x == d) = false := by simpa using hxd
        clear hx hxs hxx hxd
        go_wp2
        go_ret
        exact ⟨rfl, (by repeat (first | with_reducible exact Below.refl _ _ | with_reducible refine bel_later _ ?_ | with_reducible refine bel_alloc ?_ _ | refine bel_set ?_ (by first | omega | (simp; done) | (simp; omega)) _ | with_reducible refine Below.drew ?_ | with_reducible refine bel_drewN ?_ _ | with_reducible assumption | assumption))⟩
    · obtain rfl : k = 8 := by omega
      have HQ := Lib.hid (show decide ((chk (ssThere S) : Int) = (ch : Int)) = r by
        by_cases h : chk (ssThere S) = ch
        · rw [HRR.out.2 ⟨hlo, hhi, hall.out, h⟩, decide_eq_true (by omega)]
        · rw [no_of HRR.out (fun q => h q.2.2.2), decide_eq_false (by omega)])
      have kbl := Lib.hid (blocks_S _ (IS.out.to (bel_alloc (Below.refl _ _) (.cells s.C.toArray 33))))
      have HTL : (ssThere S).length ≤ 8 := by have := ssThere_length S; rw [IS.out.len] at this; exact this
      clear hall
      go_wp2_with (refine wpList_load_var rfl 33 (.tmp 3) rfl w.heap.size rfl s.C _ 25 HR.out Try.underlying33 rfl size_25 HC.out ?_)
      (with_reducible refine (kbl.out).mono ?_)
      rintro e_ w1 ⟨A1, c1, bl, rfl, hp, hB, hc1, hc2, hn, hb1⟩
      have hl8 : bl.length ≤ 8 := by have := congrArg List.length hp; simp at this; omega
      have ksm := Lib.hid (stSum_any A1 bl c1 bl.length (ssThere S) w1 hB rfl (by omega) hc1 hc2 hp)
      have hbw1 : Below w.heap.size w w1 := (bel_alloc (Below.refl _ _) _).trans (hb1.mono (by simp))
      clear kbl hp hB hb1
      go_wp2_with fail
      (with_reducible refine (ksm.out).mono ?_)
      rintro e_ w2 ⟨rfl, hb2⟩
      have hbw2 : Below w.heap.size w w2 := hbw1.trans (hb2.mono hbw1.size)
      obtain ⟨v, hv⟩ : ∃ v, chk (ssThere S) = v := ⟨_, rfl⟩
      have hq := HQ.out
      rw [hv] at hq ⊢
      have hq2 : ((v : Int) == (ch : Int)) = r := by rw [← hq]; exact Bool.beq_eq_decide_eq _ _
      clear hv hq ksm hb2
      go_wp2
      go_ret
      exact ⟨by first | rfl | (rw [← hq2]) | skip, hbw2⟩
end Go.Proofs.Ytajbghjjpebndaa
