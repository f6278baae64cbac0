/- Layer 15: the plain law of ValidTables; tables of one device. -/
import Derived.Test.YthhokpaidekmnaaVdSmall
import Derived.Test.YthhokpaidekmnaaNvSlice
namespace Go.Proofs.Ythhokpaidekmnaa
open Go.RowKit
set_option linter.unusedVariables false
set_option linter.unusedSimpArgs false
theorem rightDv_iff (nm : ByteArray) (l : List Pt) : Vd.rightDv nm l = true ↔ Vd.name nm = true ∧ l.length ≤ 64 ∧ (∀ p ∈ l, Vd.rightPt p = true) ∧ (l.map Pt.name).Nodup ∧ (l.map Pt.at_).Nodup := by
  unfold Vd.rightDv
  simp only [Bool.and_eq_true, decide_eq_true_iff, List.all_eq_true]
  exact ⟨fun h => ⟨h.1.1, h.1.2, h.2.1, h.2.2.1, h.2.2.2⟩, fun h => ⟨⟨h.1, h.2.1⟩, h.2.2.1, h.2.2.2.1, h.2.2.2.2⟩⟩
theorem rightTab_iff (l : List Dv) : Vd.rightTab l = true ↔ (1 ≤ l.length ∧ l.length ≤ 8) ∧ (∀ d ∈ l, Vd.rightDv d.name d.pts = true) ∧ (l.map Dv.name).Nodup := by
  unfold Vd.rightTab
  simp only [Bool.and_eq_true, decide_eq_true_iff, List.all_eq_true]
theorem rightTab_one (d : Dv) : Vd.rightTab [d] = Vd.rightDv d.name d.pts := by
  unfold Vd.rightTab
  simp
theorem rightDv_nil (nm : ByteArray) : Vd.rightDv nm [] = Vd.name nm := by
  unfold Vd.rightDv
  simp
theorem rightDv_one (nm : ByteArray) (p : Pt) : Vd.rightDv nm [p] = (Vd.name nm && Vd.rightPt p) := by
  unfold Vd.rightDv
  simp
/-- the first k points of a device, by themselves -/
def EPt (nm : ByteArray) (l : List Pt) (k : Nat) : Prop := Vd.name nm = true ∧ (∀ p ∈ l.take k, Vd.rightPt p = true) ∧ ((l.take k).map Pt.name).Nodup ∧ ((l.take k).map Pt.at_).Nodup
def EPr (nm : ByteArray) (l : List Pt) (k : Nat) (p : Pt) (r : Nat) : Prop := (EPt nm l k ∧ Vd.rightPt p = true) ∧ ∀ q ∈ l.take r, p.name ≠ q.name ∧ p.at_ ≠ q.at_
theorem EPt.zero (nm : ByteArray) (l : List Pt) : EPt nm l 0 ↔ Vd.name nm = true := by simp [EPt]
theorem EPr.zero (nm : ByteArray) (l : List Pt) (k : Nat) (p : Pt) : EPr nm l k p 0 ↔ (EPt nm l k ∧ Vd.rightPt p = true) := by simp [EPr]
theorem mem_take_succ {α : Type} {l : List α} {r : Nat} {q : α} (hq : l[r]? = some q) (x : α) : x ∈ l.take (r + 1) ↔ x ∈ l.take r ∨ x = q := by
  rw [List.take_add_one, hq, List.mem_append]
  simp [Option.toList]
theorem EPr.step {nm : ByteArray} {l : List Pt} {k r : Nat} {p q : Pt} (hq : l[r]? = some q) : EPr nm l k p (r + 1) ↔ (EPr nm l k p r ∧ p.name ≠ q.name ∧ p.at_ ≠ q.at_) := by
  unfold EPr
  constructor
  · intro h
    exact ⟨⟨h.1, fun x hx => h.2 x ((mem_take_succ hq x).2 (.inl hx))⟩, h.2 q ((mem_take_succ hq q).2 (.inr rfl))⟩
  · intro h
    refine ⟨h.1.1, fun x hx => ?_⟩
    rcases (mem_take_succ hq x).1 hx with hx | rfl
    · exact h.1.2 x hx
    · exact h.2
theorem nodup_snoc {α β : Type} {f : α → β} {l : List α} {k : Nat} {p : α} (hp : l[k]? = some p) : ((l.take (k + 1)).map f).Nodup ↔ ((l.take k).map f).Nodup ∧ ∀ q ∈ l.take k, f p ≠ f q := by
  constructor
  · intro h
    refine ⟨List.Nodup.sublist (((List.take_prefix_take_left (Nat.le_succ k)).sublist).map f) h, fun q hq he => ?_⟩
    rw [List.take_add_one, hp, List.map_append] at h
    exact (List.nodup_append.1 h).2.2 (f q) (List.mem_map.2 ⟨q, hq, rfl⟩) (f p) (by simp [Option.toList]) he.symm
  · intro h
    exact nodup_step h.1 hp (fun hm => by
      obtain ⟨q, hq, he⟩ := List.mem_map.1 hm
      exact h.2 q hq he.symm)
theorem EPr.last {nm : ByteArray} {l : List Pt} {k : Nat} {p : Pt} (hp : l[k]? = some p) : EPr nm l k p k ↔ EPt nm l (k + 1) := by
  unfold EPr EPt
  rw [nodup_snoc (f := Pt.name) hp, nodup_snoc (f := Pt.at_) hp]
  constructor
  · rintro ⟨⟨⟨h1, h2, h3, h4⟩, h5⟩, h6⟩
    refine ⟨h1, fun x hx => ?_, ⟨h3, fun q hq => (h6 q hq).1⟩, h4, fun q hq => (h6 q hq).2⟩
    rcases (mem_take_succ hp x).1 hx with hx | rfl
    · exact h2 x hx
    · exact h5
  · rintro ⟨h1, h2, ⟨h3, h4⟩, h5, h6⟩
    exact ⟨⟨⟨h1, fun x hx => h2 x ((mem_take_succ hp x).2 (.inl hx)), h3, h5⟩, h2 p ((mem_take_succ hp p).2 (.inr rfl))⟩, fun q hq => ⟨h4 q hq, h6 q hq⟩⟩
theorem EPt.all {nm : ByteArray} {l : List Pt} {m : Nat} (hm : l.length = m) (h64 : m ≤ 64) : EPt nm l m ↔ Vd.rightDv nm l = true := by
  rw [rightDv_iff]
  unfold EPt
  rw [← hm, List.take_length]
  exact ⟨fun h => ⟨h.1, by omega, h.2⟩, fun h => ⟨h.1, h.2.2⟩⟩
/-- the first j devices of a table -/
def WDv (l : List Dv) (j : Nat) : Prop := (1 ≤ l.length ∧ l.length ≤ 8) ∧ (∀ d ∈ l.take j, Vd.rightDv d.name d.pts = true) ∧ ((l.take j).map Dv.name).Nodup
def WDr (l : List Dv) (j : Nat) (nm : ByteArray) (b : Bool) (r : Nat) : Prop := (WDv l j ∧ b = true) ∧ ∀ o ∈ l.take r, o.name ≠ nm
theorem WDv.zero (l : List Dv) : WDv l 0 ↔ (1 ≤ l.length ∧ l.length ≤ 8) := by simp [WDv]
theorem WDr.zero (l : List Dv) (j : Nat) (nm : ByteArray) (b : Bool) : WDr l j nm b 0 ↔ (WDv l j ∧ b = true) := by simp [WDr]
theorem WDr.step {l : List Dv} {j r : Nat} {nm : ByteArray} {b : Bool} {o : Dv} (ho : l[r]? = some o) : WDr l j nm b (r + 1) ↔ (WDr l j nm b r ∧ o.name ≠ nm) := by
  unfold WDr
  constructor
  · intro h
    exact ⟨⟨h.1, fun x hx => h.2 x ((mem_take_succ ho x).2 (.inl hx))⟩, h.2 o ((mem_take_succ ho o).2 (.inr rfl))⟩
  · intro h
    refine ⟨h.1.1, fun x hx => ?_⟩
    rcases (mem_take_succ ho x).1 hx with hx | rfl
    · exact h.1.2 x hx
    · exact h.2
theorem WDr.last {l : List Dv} {j : Nat} {d : Dv} (hd : l[j]? = some d) : WDr l j d.name (Vd.rightDv d.name d.pts) j ↔ WDv l (j + 1) := by
  unfold WDr WDv
  rw [nodup_snoc (f := Dv.name) hd]
  constructor
  · rintro ⟨⟨⟨h1, h2, h3⟩, h5⟩, h6⟩
    refine ⟨h1, fun x hx => ?_, h3, fun q hq he => h6 q hq he.symm⟩
    rcases (mem_take_succ hd x).1 hx with hx | rfl
    · exact h2 x hx
    · exact h5
  · rintro ⟨h1, h2, h3, h4⟩
    exact ⟨⟨⟨h1, fun x hx => h2 x ((mem_take_succ hd x).2 (.inl hx)), h3⟩, h2 d ((mem_take_succ hd d).2 (.inr rfl))⟩, fun q hq he => h4 q hq he.symm⟩
theorem WDv.all (l : List Dv) : WDv l l.length ↔ Vd.rightTab l = true := by
  rw [rightTab_iff]
  unfold WDv
  rw [List.take_length]
theorem firstAt_uniq {α : Type} {f : α → ByteArray} : ∀ {l : List α} {j : Nat} {a : α}, (l.map f).Nodup → l[j]? = some a → firstAt f (f a) l = some j
  | [], j, a, _, h => by simp at h
  | b :: l, 0, a, _, h => by
    obtain rfl : b = a := by simpa using h
    rw [firstAt, if_pos rfl]
  | b :: l, j + 1, a, hn, h => by
    rw [List.map_cons, List.nodup_cons] at hn
    have ha : l[j]? = some a := by simpa using h
    have hne : f b ≠ f a := fun e => hn.1 (by rw [e]; exact List.mem_map.2 ⟨a, List.mem_of_getElem? ha, rfl⟩)
    rw [firstAt, if_neg hne, firstAt_uniq hn.2 ha]
    rfl
/-- a table of one device, new -/
theorem tab_new (W : World) (D : Dv) (h : D.Ok W W.heap.size) : Tab (W.alloc (.cells (dvF D).toArray 39)) (W.alloc (.cells (dvF D).toArray 39)).heap.size (some ⟨W.heap.size, 0, none⟩) [D] :=
  ⟨recs_one (f := dvF) (RowAt.new' W W.heap.size _ (dvF D) rfl) (by simp) rfl, fun d hd => by
    obtain rfl := List.mem_singleton.1 hd
    exact h.to (bel_alloc (Below.refl _ _) _)⟩
/-- Right of a table of one device, new -/
theorem right_one (nm : ByteArray) (pts : List Pt) (A : Option Addr) (m c : Nat) (W : World) (hm : pts.length = m) (h : Dv.Ok ⟨nm, pts, A, c⟩ W W.heap.size) :
    Calls Try.prog 11 #[.slice (some ⟨W.heap.size, 0, none⟩) 1 1] (W.alloc (.cells #[.string nm, .slice A m c] 39)) fun e w' => e = .returned (.bool (Vd.rightDv nm pts)) ∧ Below (W.alloc (.cells #[.string nm, .slice A m c] 39)).heap.size (W.alloc (.cells #[.string nm, .slice A m c] 39)) w' := by
  subst hm
  have := tabright_any (some ⟨W.heap.size, 0, none⟩) [⟨nm, pts, A, c⟩] 1 1 _ rfl (tab_new W ⟨nm, pts, A, c⟩ h) ⟨Nat.le_refl _, by decide, fun h => by cases h⟩
  rw [rightTab_one] at this
  exact this
theorem dv_nil (nm : ByteArray) (W : World) (B : Nat) : Dv.Ok ⟨nm, [], none, 0⟩ W B := ⟨Recs.nil, by simp, ⟨Nat.le_refl _, (show 0 ≤ 9223372036854775807 by decide), fun _ => rfl⟩⟩
theorem dv_one (nm : ByteArray) (p : Pt) (W : World) (hp : p.Fit) : Dv.Ok ⟨nm, [p], some ⟨W.heap.size, 0, none⟩, 1⟩ (W.alloc (.cells (ptF p).toArray 43)) (W.alloc (.cells (ptF p).toArray 43)).heap.size :=
  ⟨recs_one (f := ptF) (RowAt.new' W W.heap.size _ (ptF p) rfl) (by simp) rfl, fun q hq => by
    obtain rfl := List.mem_singleton.1 hq
    exact hp, ⟨Nat.le_refl _, (show 1 ≤ 9223372036854775807 by decide), fun h => by cases h⟩⟩
end Go.Proofs.Ythhokpaidekmnaa
