/- Layer 11: the reference's bus by value: parcels under way; Tick. -/
import Derived.Test.YthigkmoilfdciaaBuRf
import Derived.Test.YthigkmoilfdciaaRes
namespace Go.Proofs.Ythigkmoilfdciaa
open Go.RowKit
set_option linter.unusedVariables false
set_option linter.unusedSimpArgs false
attribute [local go_sem] Later.cell Later.frozen setCell_twice
/-- a parcel under way, and when it comes -/
structure Wy where
  t : Nat
  p : Pc
abbrev wyF (x : Wy) : List Value := [.int .i64 (x.t : Int), .int .i64 x.p.p.s, .bool x.p.p.up, .slice x.p.A x.p.p.b.length x.p.c]
theorem wyF_one : ∀ a : Wy, ∀ u ∈ wyF a, u.oneCell' = true := fun x u hu => by
  simp only [wyF, List.mem_cons, List.not_mem_nil, or_false] at hu
  rcases hu with rfl | rfl | rfl | rfl <;> rfl
theorem info_way : (Try.prog.info? 67).map (fun i => (i.zero, i.size, i.bytes)) = some (some (.agg #[.int .i64 0, .int .i64 0, .bool false, .slice none 0 0]), 4, 48) := by kernel_rfl
theorem size_pc : (Try.prog.info? 36).map (·.size) = some 3 := by kernel_rfl
theorem size_way : (Try.prog.info? 67).map (·.size) = some 4 := by kernel_rfl
theorem size_rbus : (Try.prog.info? 33).map (·.size) = some 3 := by kernel_rfl
/-- parcels under way that can be read -/
structure Wys (w : World) (B : Nat) (A : Option Addr) (l : List Wy) : Prop where
  rc : Recs wyF 4 w B A l
  byt : ∀ x ∈ l, Sq byw w B x.p.A x.p.p.b
  u : ∀ x ∈ l, ∀ y ∈ x.p.p.b, y < 256
  nl : ∀ x ∈ l, x.p.A = none → x.p.c = 0
/-- the reference's bus -/
structure RBus (w : World) (A0 : Option Addr) (b : Bu) (Aw : Option Addr) (nw cw : Nat) (l : List Wy) : Prop where
  rtu : Sq Value.bool w w.heap.size A0 b.rtu
  ways : Wys w w.heap.size Aw l
  len : l.length = nw
  nl : Aw = none → cw = 0
  val : l.map (fun x => (x.t, x.p.p)) = b.l
abbrev rbC (A0 : Option Addr) (n0 c0 : Nat) (T : Int) (Aw : Option Addr) (nw cw : Nat) : List Value := [.slice A0 n0 c0, .int .i64 T, .slice Aw nw cw]
theorem rbC_one (A0 : Option Addr) (n0 c0 : Nat) (T : Int) (Aw : Option Addr) (nw cw : Nat) : ∀ u ∈ rbC A0 n0 c0 T Aw nw cw, u.oneCell' = true := fun u hu => by
  simp only [rbC, List.mem_cons, List.not_mem_nil, or_false] at hu
  rcases hu with rfl | rfl | rfl <;> rfl
section
variable {w w' : World} {B B' nw cw : Nat} {A A0 Aw : Option Addr} {l : List Wy} {b : Bu}
theorem Wys.below (h : Wys w B A l) (k : Below B w w') : Wys w' B A l := ⟨h.rc.below k, fun x hx => (h.byt x hx).below k, h.u, h.nl⟩
theorem Wys.more (h : Wys w B A l) (k : B ≤ B') : Wys w B' A l := ⟨h.rc.more k, fun x hx => (h.byt x hx).more k, h.u, h.nl⟩
theorem Wys.to (h : Wys w w.heap.size A l) (k : Below w.heap.size w w') : Wys w' w'.heap.size A l := (h.below k).more k.size
theorem RBus.to (h : RBus w A0 b Aw nw cw l) (k : Below w.heap.size w w') : RBus w' A0 b Aw nw cw l := ⟨(h.rtu.below k).more k.size, h.ways.to k, h.len, h.nl, h.val⟩
theorem own_grown_w {e s n c : Nat} {xs : List Value} {row : Option Nat} (h : w.ownsRow B e s (.slice A n c) n xs) (hg : w.grownBy w' row) (ho : ∀ p, A = some p → some p.block ≠ row) : w'.ownsRow B e s (.slice A n c) n xs := by
  obtain ⟨h1, h2⟩ := h
  refine ⟨h1, ?_⟩
  rcases h2 with h2 | ⟨g, cap, cur, hv, hB, hh, r⟩
  · exact .inl h2
  · have hA : A = some ⟨g, 0, none⟩ := by simp at hv; exact hv.1
    exact .inr ⟨g, cap, cur, hv, hB, (hg.block g (Array.getElem?_eq_some_iff.1 hh).1 (ho _ hA)).trans hh, r⟩
theorem own_only_w {g e s n : Nat} {v : Value} {xs : List Value} (k : Only g w w') (ho : w.ownsRow B e s v n xs) (hB : g < B) : w'.ownsRow B e s v n xs := by
  obtain ⟨h1, h2⟩ := ho
  refine ⟨h1, ?_⟩
  rcases h2 with h2 | ⟨g', cap, cur, hv, hg, hh, r⟩
  · exact .inl h2
  · exact .inr ⟨g', cap, cur, hv, hg, (k.block g' (by omega)).trans hh, r⟩
theorem own_only_ne {g e s n c : Nat} {xs : List Value} (k : Only g w w') (ho : w.ownsRow B e s (.slice A n c) n xs) (h1 : ∀ p, A = some p → p.block ≠ g) : w'.ownsRow B e s (.slice A n c) n xs := by
  obtain ⟨h2, h3⟩ := ho
  refine ⟨h2, ?_⟩
  rcases h3 with h3 | ⟨g', cap, cur, hv, hg, hh, r⟩
  · exact .inl h3
  · obtain ⟨rfl, _⟩ : A = some ⟨g', 0, none⟩ ∧ c = cap := by simpa using hv
    exact .inr ⟨g', cap, cur, hv, hg, (k.block g' (h1 _ rfl)).trans hh, r⟩
/-- an own row of one type, and a variable of another -/
theorem own_off {g e T s n c : Nat} {xs C : List Value} (ho : w.ownsRow B e s (.slice A n c) n xs) (hr : RowAt w g T C) (he : e ≠ T) : ∀ p, A = some p → p.block ≠ g := fun p hp hg => by
  rcases ho.2 with ⟨h, _⟩ | ⟨g', cap, cur, hv, _, hh, _⟩
  · have : A = none := by simp at h; exact h.1
    rw [hp] at this; cases this
  · obtain ⟨rfl, _⟩ : A = some ⟨g', 0, none⟩ ∧ c = cap := by simpa using hv
    obtain rfl := Option.some.inj hp
    have h9 : w.heap[g]? = some (.cells C.toArray T (0, 0)) := hr
    dsimp only at hg
    rw [hg, h9] at hh
    injection hh with h1
    injection h1 with _ h2 _
    exact he h2.symm
theorem own_ne_w {B1 B2 e1 e2 s1 s2 n1 n2 c1 c2 : Nat} {A1 A2 : Option Addr} {xs1 xs2 : List Value} (h1 : w.ownsRow B1 e1 s1 (.slice A1 n1 c1) n1 xs1) (h2 : w.ownsRow B2 e2 s2 (.slice A2 n2 c2) n2 xs2) (he : e1 ≠ e2) : ∀ p, A1 = some p → some p.block ≠ (Value.slice A2 n2 c2).ownBlock := by
  intro p hp hq
  obtain ⟨q, hq, hqb⟩ := ownBlock_slice A2 n2 c2 p.block hq.symm
  have e1' := (own_at_s h1 p hp).2.2
  have e2' := (own_at_s h2 q hq).2.2
  subst hp hq
  rw [e1'] at h1
  rw [e2'] at h2
  exact own_ne2 h1 h2 he hqb.symm
/-- rows that keep off some blocks -/
def WOff (F : List Nat) (A : Option Addr) (l : List Wy) : Prop := (0 < l.length → ∀ p, A = some p → p.block ∉ F) ∧ ∀ x ∈ l, 0 < x.p.p.b.length → ∀ p, x.p.A = some p → p.block ∉ F
def POff (F : List Nat) (A : Option Addr) (l : List Pc) : Prop := (0 < l.length → ∀ p, A = some p → p.block ∉ F) ∧ ∀ x ∈ l, 0 < x.p.b.length → ∀ p, x.A = some p → p.block ∉ F
theorem Recs.fr {α : Type} {f : α → List Value} {s : Nat} {F : List Nat} {A : Option Addr} {l : List α} (h : Recs f s w w.heap.size A l) (k : Fr F w w') (hA : 0 < l.length → ∀ p, A = some p → p.block ∉ F) : Recs f s w' w'.heap.size A l := fun hn => by
  obtain ⟨b, o, rfl, hb, hc⟩ := h hn
  exact ⟨b, o, rfl, Nat.lt_of_lt_of_le hb k.size, fun j a ha i v hv => (k.cell (p := ⟨b, o + (j * s + i), none⟩) hb (hA hn ⟨b, o, none⟩ rfl)).trans (hc j a ha i v hv)⟩
theorem Wys.fr {F : List Nat} (h : Wys w w.heap.size A l) (k : Fr F w w') (o : WOff F A l) : Wys w' w'.heap.size A l :=
  ⟨h.rc.fr k o.1, fun x hx => Sq.fr' (h.byt x hx) k (o.2 x hx), h.u, h.nl⟩
theorem RBus.fr {F : List Nat} (h : RBus w A0 b Aw nw cw l) (k : Fr F w w') (o : WOff F Aw l) (o0 : 0 < b.rtu.length → ∀ p, A0 = some p → p.block ∉ F) : RBus w' A0 b Aw nw cw l :=
  ⟨Sq.fr' h.rtu k o0, h.ways.fr k o, h.len, h.nl, h.val⟩
theorem Pcs.fr2 {F : List Nat} {lp : List Pc} (h : Pcs w w.heap.size A lp) (k : Fr F w w') (o : POff F A lp) : Pcs w' w'.heap.size A lp :=
  ⟨h.recs.fr k o.1, fun x hx => Sq.fr' (h.byt x hx) k (o.2 x hx), h.u, h.nl⟩
theorem WOff.grow {F F' : List Nat} (o : WOff F A l) (h : Wys w w.heap.size A l) (hF : ∀ x, x ∈ F' → x ∈ F ∨ w.heap.size ≤ x) : WOff F' A l := by
  refine ⟨fun hn p hp hm => ?_, fun x hx hn p hp hm => ?_⟩
  · rcases hF _ hm with h1 | h1
    · exact o.1 hn p hp h1
    · obtain ⟨b', o', hA, hb, _⟩ := h.rc hn
      rw [hp] at hA
      obtain rfl := Option.some.inj hA
      dsimp only at h1
      omega
  · rcases hF _ hm with h1 | h1
    · exact o.2 x hx hn p hp h1
    · obtain ⟨b', o', hA, hb, _⟩ := h.byt x hx hn
      rw [hp] at hA
      obtain rfl := Option.some.inj hA
      dsimp only at h1
      omega
/-- the variables at a method's beginning -/
theorem in_bb (w : World) (C D : List Value) : RowAt ((w.alloc (.cells C.toArray 33)).alloc (.cells D.toArray 33)) w.heap.size 33 C ∧ RowAt ((w.alloc (.cells C.toArray 33)).alloc (.cells D.toArray 33)) (w.heap.size + 1) 33 D ∧ Below w.heap.size w ((w.alloc (.cells C.toArray 33)).alloc (.cells D.toArray 33)) ∧ w.heap.size + 2 ≤ ((w.alloc (.cells C.toArray 33)).alloc (.cells D.toArray 33)).heap.size :=
  ⟨(RowAt.new w _ _).alloc _, by have := RowAt.new (w.alloc (.cells C.toArray 33)) 33 D; rwa [World.size_alloc] at this, bel_alloc (bel_alloc (Below.refl _ _) _) _, by rw [World.size_alloc, World.size_alloc]; exact Nat.le_refl _⟩
end
section
variable {P : Program} {ops : Array Oper} {o : Oper} {a : Act} {w : World} {K : Act → World → Prop} {Q : Exit → Act → World → Prop} {E : Prop}
theorem step_load_var (hgd : o.guard = none) (ty : TypeId) (x : Operand) (ho : o.op = .load ty x)
    (g : Nat) (hx : a.eval x = .pointer (some ⟨g, 0, none⟩)) (C : List Value) (d : TypeDesc) (n : Nat) (hR : RowAt w g ty C)
    (hu : P.underlying ty = some d) (hd : (match d with | .struct _ | .array _ _ => true | _ => false) = true) (hi : (P.info? ty).map (·.size) = some n) (hn : C.length = n)
    (h : K (a.put o.dst (.agg C.toArray)) w) : if Region.wanted o (yielded ops a.tmps) = true then Oper.wp P o a w K Q else E := by
  rw [if_pos (by simp [Region.wanted, hgd])]
  exact wp_load_row ty x ho g hx ty C.toArray (0, 0) d hR hu hd (by rw [hi, ← hn]; simp) h
theorem step_store_var (hgd : o.guard = none) (ty : TypeId) (x y : Operand) (ho : o.op = .store ty x y)
    (g : Nat) (C D : List Value) (n : Nat) (hx : a.eval x = .pointer (some ⟨g, 0, none⟩)) (hy : a.eval y = .agg D.toArray) (hR : RowAt w g ty C)
    (hi : (P.info? ty).map (·.size) = some n) (hC : C.length = n) (hD : D.length = n) (h1 : ∀ v ∈ D, v.oneCell' = true)
    (h : ∀ w', RowAt w' g ty D → Only g w w' → K (a.put o.dst undef) w') : if Region.wanted o (yielded ops a.tmps) = true then Oper.wp P o a w K Q else E := by
  rw [if_pos (by simp [Region.wanted, hgd])]
  exact wp_store_row ty x y ho g D.toArray hx hy ty C.toArray hR (by rw [hi, ← hD]; simp) (by simp [hC, hD]) (all_oneCell_toArray h1) (h _ (RowAt.row hR D) ⟨rfl, rfl, rfl, setRow_size _ _ _, fun k hk => setRow_other w g k _ hk⟩)
end
end Go.Proofs.Ythigkmoilfdciaa
