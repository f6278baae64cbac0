/- Layer 15: recipes of the call's own: a row of parts, each with its row of values. -/
import Derived.Test.YthhokpaidekmnaaVpLaw
import Derived.Test.YthhokpaidekmnaaVdMem
import Derived.Test.YthhokpaidekmnaaAppV
import Derived.Test.YthhokpaidekmnaaOwn
namespace Go.Proofs.Ythhokpaidekmnaa
open Go.RowKit
set_option linter.unusedVariables false
theorem stF_length (s : St) : (stF s).length = 5 := rfl
theorem paF_length (p : Pa) : (paF p).length = 3 := rfl
theorem stF_one (s : St) : ∀ u ∈ stF s, u.oneCell' = true := fun u hu => by
 simp only [stF, List.mem_cons, List.not_mem_nil, or_false] at hu
 rcases hu with rfl | rfl | rfl | rfl | rfl <;> rfl
theorem paF_one (p : Pa) : ∀ u ∈ paF p, u.oneCell' = true := fun u hu => by
 simp only [paF, List.mem_cons, List.not_mem_nil, or_false] at hu
 rcases hu with rfl | rfl | rfl <;> rfl
theorem info_set : (Try.prog.info? 48).map (fun i => (i.zero, i.size, i.bytes)) = some (some (.agg #[.string ⟨#[]⟩, .int .i64 0, .int .u8 0, .string ⟨#[]⟩, .int .i64 0]), 5, 56) := by kernel_rfl
theorem info_part : (Try.prog.info? 46).map (fun i => (i.zero, i.size, i.bytes)) = some (some (.agg #[.string ⟨#[]⟩, .int .i64 0, .slice none 0 0]), 3, 48) := by kernel_rfl
theorem info_three {P : Program} {T : TypeId} {z : Value} {s b : Nat} (h : (P.info? T).map (fun i => (i.zero, i.size, i.bytes)) = some (some z, s, b)) : ∃ i, P.info? T = some i ∧ i.zero = some z ∧ i.size = s ∧ i.bytes = b := by
 cases hi : P.info? T with
 | none => rw [hi] at h; cases h
 | some i =>
  rw [hi] at h
  simp at h
  exact ⟨i, rfl, h.1, h.2.1, h.2.2⟩
theorem size_set : (Try.prog.info? 48).map (·.size) = some 5 := by kernel_rfl
theorem size_part : (Try.prog.info? 46).map (·.size) = some 3 := by kernel_rfl
theorem size_rcp : (Try.prog.info? 26).map (·.size) = some 2 := by kernel_rfl
theorem fault_fld0 (a b : Value) (w : World) : (Instr.field 32 (.agg #[a, b]) 0).run Try.prog w = .ok a w := by kernel_rfl
section
variable {w w' : World} {base n c : Nat} {e : TypeId} {A : Option Addr} {xs : List Value}
theorem own_at_s {s m : Nat} (h : w.ownsRow base e s (.slice A n m) n xs) : ∀ p, A = some p → base ≤ p.block ∧ p.block < w.heap.size ∧ p = ⟨p.block, 0, none⟩ := fun p hp => by
 rcases h.2 with ⟨h1, _⟩ | ⟨g, cap, cur, hv, hb, hh, _⟩
 ·have : A = none ∧ n = 0 ∧ m = 0 := by simpa using h1
  rw [this.1] at hp; cases hp
 ·have hA : A = some ⟨g, 0, none⟩ ∧ m = cap := by simpa using hv
  rw [hA.1] at hp
  obtain rfl := Option.some.inj hp
  exact ⟨hb, (Array.getElem?_eq_some_iff.1 hh).1, rfl⟩
theorem own_shp {s : Nat} (h : w.ownsRow base e s (.slice A n c) n xs) : Shp A n c := by
 rcases h.2 with ⟨h1, _⟩ | ⟨g, cap, cur, hv, _, hh, hnc, hm, _⟩
 ·obtain ⟨rfl, rfl, rfl⟩ : A = none ∧ n = 0 ∧ c = 0 := by simpa using h1
  exact ⟨by omega, by omega, fun _ => rfl⟩
 ·obtain ⟨rfl, rfl⟩ : A = some ⟨g, 0, none⟩ ∧ c = cap := by simpa using hv
  unfold maxLen at hm
  exact ⟨hnc, by omega, by simp⟩
theorem ownBlock_slice (A : Option Addr) (n c : Nat) (q : Nat) (h : (Value.slice A n c).ownBlock = some q) : ∃ p, A = some p ∧ p.block = q := by
 cases A with
 | none => simp [Value.ownBlock] at h
 | some p => exact ⟨p, rfl, by simpa [Value.ownBlock] using h⟩
theorem lit_news (w : World) (n : Nat) (cs : List Value) (t : TypeId) (hn : n = w.heap.size) : ∀ j u, cs[j]? = some u → (w.alloc (.cells cs.toArray t)).cell? ((⟨n, 0, none⟩ : Addr).add j) = some u := by
 intro j u hu
 subst hn
 have hadd : (⟨w.heap.size, 0, none⟩ : Addr).add j = ⟨w.heap.size, j, none⟩ := by unfold Addr.add; split <;> simp_all
 rw [hadd, World.cell?_alloc_new]
 simpa using hu
theorem Recs.grown {α : Type} {f : α → List Value} {s : Nat} {B : Option Addr} {l : List α} {row : Option Nat} (h : Recs f s w w.heap.size B l) (k : w.grownBy w' row) (hne : 0 < l.length → ∀ p, B = some p → some p.block ≠ row) : Recs f s w' w'.heap.size B l := fun hn => by
 obtain ⟨b, o, hA, hb, hc⟩ := h hn
 exact ⟨b, o, hA, Nat.lt_of_lt_of_le hb k.size, fun j x hx i v hv => (k.cell_far ⟨b, o + (j * s + i), none⟩ hb (show some b ≠ row from hne hn ⟨b, o, none⟩ hA)).trans (hc j x hx i v hv)⟩
theorem Recs.aside {α : Type} {f : α → List Value} {s g : Nat} {B : Option Addr} {l : List α} (h : Recs f s w w.heap.size B l) (k : Only g w w') (hne : 0 < l.length → ∀ p, B = some p → p.block ≠ g) : Recs f s w' w'.heap.size B l := fun hn => by
 obtain ⟨b, o, hA, hb, hc⟩ := h hn
 exact ⟨b, o, hA, by rw [k.size]; exact hb, fun j x hx i v hv => (k.cell (p := ⟨b, o + (j * s + i), none⟩) (hne hn ⟨b, o, none⟩ hA)).trans (hc j x hx i v hv)⟩
end
def slcd (a : Option Addr) (l h m s : Nat) : Value := sliced a l h m s
theorem run_slcd {P : Program} {w : World} (t : TypeId) (a : Option Addr) (len cap : Nat) (ht : P.underlying t = some (.slice (P.elem t))) (kl : IntKind) (l : Int) (h0 : 0 ≤ l) (h1 : l ≤ len) :
  (Instr.slice t (.slice a len cap) (some (.int kl l)) none none).run P w = ((sizeOf (P.elem t)).run P w).andThen fun s w => .ok (slcd a l.toNat len cap s) w := run_slice_l _ t a len cap ht kl l h0 h1
theorem sliced_zero (a : Option Addr) (h m s : Nat) : sliced a 0 h m s = .slice a h m := by
 unfold sliced
 rw [Nat.zero_mul, Nat.sub_zero, Nat.sub_zero]
 cases a with
 | none => simp
 | some p => split <;> rfl
theorem recs_from {α : Type} {f : α → List Value} {s : Nat} {w : World} {B : Nat} {A : Option Addr} {l : List α} {c n k : Nat} (h : Recs f s w B A l) (hn : l.length = n) (hk : k ≤ n) (hS : Shp A n c) :
  ∃ A' : Option Addr, slcd A k n c s = .slice A' (n - k) (c - k) ∧ Recs f s w B A' (l.drop k) ∧ (A' = none → c - k = 0) := by
 unfold slcd sliced
 by_cases hkn : k = n
 ·subst hkn
  refine ⟨_, rfl, ?_, fun e => ?_⟩
  ·rw [List.drop_of_length_le (by omega)]
   exact Recs.nil
  ·cases A with
   | none => have := hS.nl rfl; omega
   | some p => split at e <;> cases e
 ·obtain ⟨g, o, _, rfl, _⟩ := h.at_ (j := 0) (by omega)
  have := hS.le
  rw [if_neg (by omega)]
  exact ⟨some ⟨g, o + k * s, none⟩, by simp [Addr.add], Recs.drop h, by simp⟩
/-- an own row of parts -/
structure PL (w : World) (base : Nat) (A : Option Addr) (n c : Nat) (l : List Pa) : Prop where
 len : l.length = n
 own : w.ownsRow base 46 3 (.slice A n c) n (l.flatMap paF)
 ok : ∀ p ∈ l, p.Ok w w.heap.size
 off : ∀ p ∈ l, 0 < p.sets.length → ∀ a q, p.A = some a → A = some q → q.block ≠ a.block
 low : ∀ p ∈ l, ∀ a, p.A = some a → base ≤ a.block
/-- an own row of values -/
def SL (w : World) (base : Nat) (A : Option Addr) (n c : Nat) (l : List St) : Prop := w.ownsRow base 48 5 (.slice A n c) n (l.flatMap stF)
section
variable {w w' : World} {base n c : Nat} {A : Option Addr} {l : List Pa} {ls : List St}
theorem SL.nil (w : World) (base : Nat) : SL w base none 0 0 [] := by unfold SL; simpa using World.ownsRow_nil w base 48 5
theorem SL.to (h : SL w base A n c ls) (k : Below w.heap.size w w') : SL w' base A n c ls := own_below h k
theorem SL.only {g : Nat} (h : SL w base A n c ls) (k : Only g w w') (hg : g < base) : SL w' base A n c ls := by
 obtain ⟨h1, h2⟩ := h
 refine ⟨h1, ?_⟩
 rcases h2 with h2 | ⟨g', cap, cur, hv, hg', hh, r⟩
 ·exact .inl h2
 ·exact .inr ⟨g', cap, cur, hv, hg', (k.block g' (by omega)).trans hh, r⟩
theorem SL.recs (h : SL w base A n c ls) : Recs stF 5 w w.heap.size A ls := Recs.of_own stF_length (by decide) h
theorem SL.len (h : SL w base A n c ls) : ls.length = n := by
 have := h.1
 rw [flat_length stF_length] at this
 omega
theorem SL.shp (h : SL w base A n c ls) : Shp A n c := own_shp h
/-- the part that has these values -/
theorem SL.part (h : SL w base A n c ls) (hf : ∀ s ∈ ls, s.Fit) (slave : ByteArray) (line : Int) (hl : I64 line) : (Pa.mk slave line ls A c).Ok w w.heap.size :=
 ⟨h.recs, hf, by rw [h.len]; exact h.shp, hl⟩
theorem PL.nil (w : World) (base : Nat) : PL w base none 0 0 [] := ⟨rfl, by simpa using World.ownsRow_nil w base 46 3, by simp, by simp, by simp⟩
theorem PL.to (h : PL w base A n c l) (k : Below w.heap.size w w') : PL w' base A n c l := ⟨h.len, own_below h.own k, fun p hp => (h.ok p hp).to k, h.off, h.low⟩
theorem PL.pas (h : PL w base A n c l) : Pas w w.heap.size A l := ⟨Recs.of_own paF_length (by decide) h.own, h.ok⟩
theorem PL.shp (h : PL w base A n c l) : Shp A n c := own_shp h.own
/-- a store into a block ahead of the row and its parts -/
theorem PL.only {g : Nat} (h : PL w base A n c l) (k : Only g w w') (hg : g < base) : PL w' base A n c l := by
 refine ⟨h.len, ?_, fun p hp => ⟨(h.ok p hp).rc.aside k (fun _ a ha => by have := h.low p hp a ha; omega), (h.ok p hp).fit, (h.ok p hp).shp, (h.ok p hp).line⟩, h.off, h.low⟩
 obtain ⟨h1, h2⟩ := h.own
 refine ⟨h1, ?_⟩
 rcases h2 with h2 | ⟨g', cap, cur, hv, hg', hh, r⟩
 ·exact .inl h2
 ·exact .inr ⟨g', cap, cur, hv, hg', (k.block g' (by omega)).trans hh, r⟩
/-- one part more -/
theorem PL.push (h : PL w base A n c l) (a0 : Pa) (hok : a0.Ok w w.heap.size) (hoff : 0 < a0.sets.length → ∀ a q, a0.A = some a → A = some q → q.block ≠ a.block) (hlow : ∀ a, a0.A = some a → base ≤ a.block) {v' : Value} (ho : w'.ownsRow base 46 3 v' (n + 1) (l.flatMap paF ++ paF a0)) (hg : w.grownBy w' (Value.slice A n c).ownBlock) (hat : v'.ownBlock = (Value.slice A n c).ownBlock ∨ v'.ownBlock = some w.heap.size) :
  ∃ A' c', v' = .slice A' (n + 1) c' ∧ PL w' base A' (n + 1) c' (l ++ [a0]) := by
 obtain ⟨A', c', rfl⟩ := own_forms ho
 have key : ∀ a ∈ l ++ [a0], a.Ok w w.heap.size ∧ (0 < a.sets.length → ∀ p q, a.A = some p → A = some q → q.block ≠ p.block) ∧ ∀ p, a.A = some p → base ≤ p.block := by
  intro a ha
  rcases List.mem_append.1 ha with ha | ha
  ·exact ⟨h.ok a ha, h.off a ha, h.low a ha⟩
  ·obtain rfl := List.mem_singleton.1 ha
   exact ⟨hok, hoff, hlow⟩
 refine ⟨A', c', rfl, ⟨by rw [List.length_append, h.len]; rfl, by simpa [List.flatMap_append] using ho, fun a ha => ?_, fun a ha hn p q hp hq => ?_, fun a ha => (key a ha).2.2⟩⟩
 ·obtain ⟨h1, h2, _⟩ := key a ha
  refine ⟨h1.rc.grown hg (fun hn p hp e => ?_), h1.fit, h1.shp, h1.line⟩
  obtain ⟨q, hq, hqb⟩ := ownBlock_slice A n c p.block e.symm
  exact h2 hn p q hp hq hqb
 ·obtain ⟨h1, h2, _⟩ := key a ha
  rcases hat with hat | hat
  ·rw [hq] at hat
   obtain ⟨q2, hq2, hb2⟩ := ownBlock_slice A n c q.block (by rw [← hat]; rfl)
   rw [← hb2]
   exact h2 hn p q2 hp hq2
  ·obtain ⟨b, o, hA, hb, _⟩ := h1.rc hn
   rw [hp] at hA
   obtain rfl := Option.some.inj hA
   rw [hq] at hat
   have : q.block = w.heap.size := by simpa [Value.ownBlock] using hat
   show q.block ≠ b
   omega
theorem getE {l : List Pa} {i : Nat} {p q : Pa} {j : Nat} (h : (l.set i q)[j]? = some p) : (j = i ∧ p = q) ∨ (j ≠ i ∧ l[j]? = some p) := by
 rw [List.getElem?_set] at h
 split at h
 ·rename_i hij
  split at h
  ·exact .inl ⟨hij.symm, (Option.some.inj h).symm⟩
  ·cases h
 ·rename_i hij
  exact .inr ⟨fun e => hij e.symm, h⟩
/-- a part's values are replaced in place -/
theorem PL.put {g : Nat} (h : PL w base (some ⟨g, 0, none⟩) n c l) {i : Nat} {p : Pa} (hp : l[i]? = some p) (q : Pa) (h1 : q.slave = p.slave) (h2 : q.line = p.line) (hq : q.Ok w w.heap.size) (hqa : 0 < q.sets.length → ∀ a, q.A = some a → a.block ≠ g) {u0 : Value} (hc : w.cell? ⟨g, i * 3 + 2, none⟩ = some u0) :
  Pas (w.setCell ⟨g, i * 3 + 2, none⟩ (.slice q.A q.sets.length q.c)) w.heap.size (some ⟨g, 0, none⟩) (l.set i q) := by
 have k : Only g w (w.setCell ⟨g, i * 3 + 2, none⟩ (.slice q.A q.sets.length q.c)) := (Only.refl g w).set _
 refine ⟨fun hn => ?_, fun x hx => ?_⟩
 ·rw [List.length_set] at hn
  obtain ⟨b, o, hA, hb, hcl⟩ := h.pas.rc hn
  obtain ⟨rfl, rfl⟩ : g = b ∧ 0 = o := by simpa using hA
  refine ⟨g, 0, rfl, hb, fun j a ha u v hv => ?_⟩
  have hu : u < 3 := by
   rcases Nat.lt_or_ge u 3 with h3 | h3
   ·exact h3
   ·rw [List.getElem?_eq_none (by rw [paF_length]; exact h3)] at hv; cases hv
  by_cases hs : j = i ∧ u = 2
  ·obtain ⟨rfl, rfl⟩ := hs
   rcases getE ha with ⟨_, rfl⟩ | ⟨hne, _⟩
   ·rw [Nat.zero_add, World.cell?_setCell_same _ _ _ hc]
    simpa using hv
   ·exact absurd rfl hne
  ·rw [World.cell?_setCell_other _ _ _ _ (by intro he; have h4 := congrArg Addr.off he; dsimp only at h4; omega)]
   rcases getE ha with ⟨rfl, rfl⟩ | ⟨hne, ha'⟩
   ·refine hcl j p hp u v ?_
    rw [← hv]
    have hu2 : u = 0 ∨ u = 1 := by omega
    rcases hu2 with rfl | rfl
    ·simp [h1]
    ·simp [h2]
   ·exact hcl j a ha' u v hv
 ·have key : x.Ok w w.heap.size ∧ (0 < x.sets.length → ∀ a, x.A = some a → a.block ≠ g) := by
   rcases List.mem_or_eq_of_mem_set hx with hx | rfl
   ·exact ⟨h.ok x hx, fun hn a ha => fun e => h.off x hx hn a _ ha rfl e.symm⟩
   ·exact ⟨hq, hqa⟩
  obtain ⟨a1, a2⟩ := key
  have := a1.rc.aside k a2
  rw [k.size] at this
  exact ⟨this, a1.fit, a1.shp, a1.line⟩
end
theorem PL.frozen {w : World} {base n c g : Nat} {l : List Pa} (h : PL w base (some ⟨g, 0, none⟩) n c l) (j : Nat) : w.frozen? ⟨g, j, none⟩ = false := by
 rcases h.own.2 with ⟨h1, _⟩ | ⟨g', cap, cur, hv, hb, hh, _⟩
 ·simp at h1
 ·have hA : g = g' := by
   have := hv
   simp at this
   exact this.1
  subst hA
  simp [World.frozen?, hh]
/-- a row of an own list of parts that were there, some left out -/
theorem pas_own {w w6 w7 : World} {base M c6 g : Nat} {A6 : Option Addr} {l l2 : List Pa} (ho : w6.ownsRow base 46 3 (.slice A6 M c6) M (l2.flatMap paF)) (hok : ∀ p ∈ l, p.Ok w w.heap.size) (hb : Below w.heap.size w w6) (hs : ∀ p ∈ l2, p ∈ l)
  (hlow : ∀ p ∈ l, ∀ a, p.A = some a → g < a.block) (hg : g < base) (k : Only g w6 w7) : Pas w7 w7.heap.size A6 l2 := by
 refine ⟨(Recs.of_own paF_length (by decide) ho).aside k (fun _ a ha => by have := (own_at_s ho a ha).1; omega), fun p hp => ?_⟩
 have h1 := (hok p (hs p hp)).to hb
 exact ⟨h1.rc.aside k (fun _ a ha => by have := hlow p (hs p hp) a ha; omega), h1.fit, h1.shp, h1.line⟩
section
variable {α : Type} {f : α → List Value} {s : Nat} {P : Program} (w : World)
theorem step_append_rn {ops : Array Oper} {o : Oper} {a : Act} {K : Act → World → Prop} {Q : Exit → Act → World → Prop} {E : Prop} (hgd : o.guard = none) (sv x : Operand) (t : TypeId)
  (ho : o.op = .call { callee := .builtin .append, args := #[sv, x], argTypes := #[t, t] })
  (hf : ∀ a, (f a).length = s) (hs : 0 < s) (hone : ∀ a, ∀ u ∈ f a, u.oneCell' = true)
  (base : Nat) (e : TypeId) (i : TypeInfo) (z : Value) (bytes : Nat) (ht : P.underlying t = some (.slice e)) (hi : P.info? e = some i) (hz : i.zero = some z)
  (hsize : i.size = s) (hby : i.bytes = bytes) (h0 : 0 < bytes) (hzs : z.cells.size = s)
  (A1 : Option Addr) (c1 N : Nat) (l : List α) (hsv : a.eval sv = .slice A1 N c1) (hN : l.length = N) (hown : w.ownsRow base e s (.slice A1 N c1) N (l.flatMap f))
  (B : Nat) (A2 : Option Addr) (l2 : List α) (c2 m : Nat) (hm : l2.length = m) (hx : a.eval x = .slice A2 m c2) (hr : Recs f s w B A2 l2) (hnil : A2 = none → c2 = 0)
  (M : Nat) (hM : N + m = M) (hbytes : M * bytes ≤ 140737488355328) (hbase : base ≤ w.heap.size)
  (h : ∀ A' c' w', w'.ownsRow base e s (.slice A' M c') M ((l ++ l2).flatMap f) → Below base w w' → K (a.put o.dst (.slice A' M c')) w') :
  if Region.wanted o (yielded ops a.tmps) = true then Oper.wp P o a w K Q else E := by
 subst hN hm hM
 refine step_append_recs w hgd sv x t ho hf hs hone base e i z bytes ht hi hz hsize hby h0 hzs (.slice A1 l.length c1) l hsv hown B A2 l2 c2 l2.length rfl hx hr hnil hbytes hbase (fun A' c' w' h1 _ h3 => ?_)
 have hl : (l ++ l2).length = l.length + l2.length := List.length_append
 rw [hl] at h1 ⊢
 exact h A' c' w' h1 h3
end
section
variable {P : Program} (w0 : World)
theorem wpList_append_set {ops : Array Oper} {rest : List Oper} {o : Oper} {a : Act} {Q : Exit → Act → World → Prop} (hgd : o.guard = none) (s x : Operand) (t : TypeId)
  (ho : o.op = .call { callee := .builtin .append, args := #[s, x], argTypes := #[t, t] })
  (base : Nat) (i : TypeInfo) (z : Value) (ht : P.underlying t = some (.slice 48)) (hi : P.info? 48 = some i) (hz : i.zero = some z)
  (hsize : i.size = 5) (hby : i.bytes = 56) (hzs : z.cells.size = 5)
  (A : Option Addr) (n c : Nat) (l : List St) (hs : a.eval s = .slice A n c) (te : TypeId) (a0 : St) (g : Nat) (hg : g = w0.heap.size) (hown : SL w0 base A n c l)
  (hx : a.eval x = .slice (some ⟨g, 0, none⟩) 1 1) (hn : n ≤ 1000) (hbase : base ≤ w0.heap.size)
  (h : ∀ A' c' w', SL w' base A' (n + 1) c' (l ++ [a0]) → Below base w0 w' → wpList P ops Q rest (a.put o.dst (.slice A' (n + 1) c')) w') : wpList P ops Q (o :: rest) a (w0.alloc (.cells (stF a0).toArray te)) := by
 have h1 : SL (w0.alloc (.cells (stF a0).toArray te)) base A n c l := hown.to (bel_alloc (Below.refl _ _) _)
 refine wpList_append_own_at _ hgd s x t ho base _ i z 5 56 ht hi hz hsize hby hzs (by decide) (.slice A n c) n (l.flatMap stF) hs h1 ⟨g, 0, none⟩ 1 1 (stF a0) hx rfl (lit_news w0 g _ te hg) (stF_one a0) (by unfold maxLen; omega) (by omega) (by simp; omega) (fun v' w' o' g' _ at' => ?_)
 obtain ⟨A', c', rfl⟩ := own_forms o'
 exact h A' c' w' (by unfold SL; simpa [List.flatMap_append] using o') (((Below.refl base w0).alloc hbase _).trans ((Below.refl base _).grown g' (by simp; omega) (fun b hb => (World.ownsRow.lt h1 b hb).1)))
theorem step_append_set {ops : Array Oper} {o : Oper} {a : Act} {K : Act → World → Prop} {Q : Exit → Act → World → Prop} {E : Prop} (hgd : o.guard = none) (s x : Operand) (t : TypeId)
  (ho : o.op = .call { callee := .builtin .append, args := #[s, x], argTypes := #[t, t] })
  (base : Nat) (i : TypeInfo) (z : Value) (ht : P.underlying t = some (.slice 48)) (hi : P.info? 48 = some i) (hz : i.zero = some z)
  (hsize : i.size = 5) (hby : i.bytes = 56) (hzs : z.cells.size = 5)
  (A : Option Addr) (n c : Nat) (l : List St) (hs : a.eval s = .slice A n c) (a0 : St) (hown : SL w0 base A n c l)
  (B : Nat) (A2 : Option Addr) (hx : a.eval x = .slice A2 1 1) (hr : Recs stF 5 w0 B A2 [a0]) (hn : n ≤ 1000) (hbase : base ≤ w0.heap.size)
  (h : ∀ A' c' w', SL w' base A' (n + 1) c' (l ++ [a0]) → Below base w0 w' → K (a.put o.dst (.slice A' (n + 1) c')) w') :
  if Region.wanted o (yielded ops a.tmps) = true then Oper.wp P o a w0 K Q else E := by
 have hl : l.length = n := hown.len
 subst hl
 refine step_append_recs w0 hgd s x t ho stF_length (by decide) stF_one base _ i z 56 ht hi hz hsize hby (by decide) hzs (.slice A l.length c) l hs hown B A2 [a0] 1 1 rfl hx hr (fun e => ?_) (by omega) hbase (fun A' c' w' h1 h2 h3 => ?_)
 ·obtain ⟨b, o', hA, _⟩ := hr (by simp)
  rw [hA] at e; cases e
 ·rw [List.length_append] at h1 ⊢
  exact h A' c' w' h1 h3
theorem wpList_append_part {ops : Array Oper} {rest : List Oper} {o : Oper} {a : Act} {Q : Exit → Act → World → Prop} (hgd : o.guard = none) (s x : Operand) (t : TypeId)
  (ho : o.op = .call { callee := .builtin .append, args := #[s, x], argTypes := #[t, t] })
  (base : Nat) (i : TypeInfo) (z : Value) (ht : P.underlying t = some (.slice 46)) (hi : P.info? 46 = some i) (hz : i.zero = some z)
  (hsize : i.size = 3) (hby : i.bytes = 48) (hzs : z.cells.size = 3)
  (A : Option Addr) (n c : Nat) (l : List Pa) (hs : a.eval s = .slice A n c) (te : TypeId) (a0 : Pa) (cs : List Value) (hcs : paF a0 = cs) (g : Nat) (hg : g = w0.heap.size) (hown : PL w0 base A n c l)
  (hx : a.eval x = .slice (some ⟨g, 0, none⟩) 1 1) (hok : a0.Ok w0 w0.heap.size) (hoff : 0 < a0.sets.length → ∀ a q, a0.A = some a → A = some q → q.block ≠ a.block) (hlow : ∀ a, a0.A = some a → base ≤ a.block) (hn : n ≤ 1000) (hbase : base ≤ w0.heap.size)
  (h : ∀ A' c' w', PL w' base A' (n + 1) c' (l ++ [a0]) → Below base w0 w' → wpList P ops Q rest (a.put o.dst (.slice A' (n + 1) c')) w') : wpList P ops Q (o :: rest) a (w0.alloc (.cells cs.toArray te)) := by
 subst hcs
 have hb0 : Below w0.heap.size w0 (w0.alloc (.cells (paF a0).toArray te)) := bel_alloc (Below.refl _ _) _
 have h1 : PL (w0.alloc (.cells (paF a0).toArray te)) base A n c l := hown.to hb0
 refine wpList_append_own_at _ hgd s x t ho base _ i z 3 48 ht hi hz hsize hby hzs (by decide) (.slice A n c) n (l.flatMap paF) hs h1.own ⟨g, 0, none⟩ 1 1 (paF a0) hx rfl (lit_news w0 g _ te hg) (paF_one a0) (by unfold maxLen; omega) (by omega) (by simp; omega) (fun v' w' o' g' _ at' => ?_)
 obtain ⟨A', c', rfl, hol⟩ := h1.push a0 (hok.to hb0) hoff hlow o' g' at'
 exact h A' c' w' hol (((Below.refl base w0).alloc hbase _).trans ((Below.refl base _).grown g' (by simp; omega) (fun b hb => (World.ownsRow.lt h1.own b hb).1)))
end
end Go.Proofs.Ythhokpaidekmnaa
