/- Layer 9: the chapter's examples. -/
import Derived.Test.YtpjdgnoekplldaaDkDo
import Derived.Test.YtpjdgnoekplldaaSame
namespace Go.Proofs.Ytpjdgnoekplldaa
open Go.RowKit
set_option linter.unusedVariables false
attribute [local go_sem] Later.cell Later.frozen setCell_twice
/-- an operation's error and what it leaves, by name -/
def OpV (w : World) (B g : Nat) (A : Option Addr) (D' : Dk) (E : Int) (e : Ending) (w' : World) : Prop :=
  ∃ A' c', e = .returned (.int .i64 E) ∧ DkAt w' B g A' c' D' ∧ Moves g A w w' ∧ (A' = A ∨ ∀ p, A' = some p → w.heap.size ≤ p.block)
/-- a make that is guarded, and wanted -/
theorem wpList_make_full_g {P : Program} (w : World) {ops : Array Oper} {rest : List Oper} {o : Oper} {a : Act} {Q : Exit → Act → World → Prop}
    (hw : Region.wanted o (yielded ops a.tmps) = true) (l c : Operand) (t : TypeId) (hop : o.op = Op.makeSlice t l c)
    (base : Nat) (e : TypeId) (i : TypeInfo) (z : Value) (size : Nat) (h1 : P.underlying t = some (.slice e)) (h2 : P.info? e = some i) (h3 : i.zero = some z) (h4 : i.size = size)
    (kl kc : IntKind) (L C : Int) (n : Nat) (hl : a.eval l = .int kl L) (hc : a.eval c = .int kc C) (hL : L = (n : Int)) (hC : C = (n : Int)) (b2 : i.bytes * n ≤ 281474976710656) (b3 : n ≤ maxLen) (b4 : base ≤ w.heap.size)
    (hK : ∀ w', w'.ownsRow base e size (.slice (some ⟨w.heap.size, 0, none⟩) n n) n (madeCells z.cells (n * size)).toList → w.grownBy w' none → wpList P ops Q rest (a.put o.dst (.slice (some ⟨w.heap.size, 0, none⟩) n n)) w') :
    wpList P ops Q (o :: rest) a w := by
  refine wpList_step fun K hK' => ?_
  rw [if_pos hw]
  obtain ⟨w', hrun, r1, r2⟩ := run_make_full (P := P) w base t e i z size h1 h2 h3 h4 kl kc n b2 b3 b4
  subst hL
  subst hC
  unfold Oper.wp
  simp [execOp, hop, hl, hc, hrun, Result.andThen]
  exact hK' _ _ (hK w' r1 r2)
section
variable {w : World} {B g c : Nat} {A : Option Addr} {D D' : Dk} {E : Int}
theorem OpP.lit {r : Dk × Int} {e : Ending} {w' : World} (h : OpP w B g A r e w') (hr : r = (D', E)) : OpV w B g A D' E e w' := by
  subst hr
  obtain ⟨he, A', c', h1, h2, h3⟩ := h
  exact ⟨A', c', he, h1, h2, h3⟩
/-- a literal that is appended -/
theorem append_lit (h : DkAt w B g A c D) (l : List Nat) (cs : Array Value) (n : Nat) (b : Nat) (hb : b = w.heap.size) (hcs : cs.toList = l.map byw) (hn : l.length = n) (hn2 : n ≤ 1000) (hu : ∀ x ∈ l, x < 256) (hr : D.append l = (D', E)) :
    Calls Try.prog 10 #[.pointer (some ⟨g, 0, none⟩), .slice (some ⟨b, 0, none⟩) n n] (w.alloc (.cells cs 5)) (OpV w B g A D' E) := by
  subst hb
  have hb1 : Below w.heap.size w (w.alloc (.cells cs 5)) := bel_alloc (Below.refl _ _) _
  have hA := own_at h.own
  refine (append_any (h.to hb1) (some ⟨w.heap.size, 0, none⟩) n n l hn (by omega) (Sq.lits _ _ _ _ _ _ _ hcs rfl (by simp)) hu (fun _ p hp => by obtain rfl := Option.some.inj hp; have := h.lt; show w.heap.size ≠ g; omega) (fun _ p q hp hq => by obtain rfl := Option.some.inj hp; have := (hA q hq).2.1; show q.block ≠ w.heap.size; omega)).mono ?_
  intro e w' ho
  obtain ⟨A', c', he, h1, h2, h3⟩ := ho.lit hr
  exact ⟨A', c', he, h1, (Moves.of_below hb1).trans (.inl rfl) h2, h3.imp id (fun f p hp => by have := f p hp; simp at this; omega)⟩
theorem sync_lit (h : DkAt w B g A c D) (hr : D.sync = (D', E)) : Calls Try.prog 17 #[.pointer (some ⟨g, 0, none⟩)] w (OpV w B g A D' E) := (sync_any h).mono fun e w' ho => ho.lit hr
theorem cut_lit (h : DkAt w B g A c D) (n : Int) (h1 : -9223372036854775808 ≤ n) (h2 : n ≤ 9223372036854775807) (hr : D.cut n = (D', E)) : Calls Try.prog 18 #[.pointer (some ⟨g, 0, none⟩), .int .i64 n] w (OpV w B g A D' E) := (cut_any h n h1 h2).mono fun e w' ho => ho.lit hr
end
end Go.Proofs.Ytpjdgnoekplldaa
