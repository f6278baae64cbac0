/- Jobs in memory: one by value, a slice of them, an own list whose texts are own, too. -/
import Derived.Test.YtegmeodmjaijnaaOpenRc
import Derived.Test.YtegmeodmjaijnaaJbLaw
import Derived.Test.YtegmeodmjaijnaaOlist
import Derived.Test.YtegmeodmjaijnaaRowC
namespace Go.Proofs.Ytegmeodmjaijnaa
open Go.ChangeShapes Go.WideShapes Go.ChangeAt Go.RowKit Go.Deep
set_option linter.unusedVariables false
/-- a job in memory: the job, and where its text lies -/
structure Jb where
  p : Jp
  A : Option Addr
  c : Nat
abbrev jbV (tx who : Nat) (A : Option Addr) (n c st : Nat) : List Value := [.int .u32 (tx : Int), .int .u8 (who : Int), .slice A n c, .int .u8 (st : Int)]
abbrev jbF (r : Jb) : List Value := jbV r.p.tx r.p.who r.A r.p.text.length r.c r.p.st
theorem jbF_length (r : Jb) : (jbF r).length = 4 := rfl
theorem jbF_one (r : Jb) : ∀ u ∈ jbF r, u.oneCell' = true := fun u hu => by
  simp only [jbF, jbV, List.mem_cons, List.not_mem_nil, or_false] at hu
  rcases hu with rfl | rfl | rfl | rfl <;> rfl
abbrev jps (l : List Jb) : List Jp := l.map Jb.p
theorem info_job : (Try.prog.info? 38).map (fun i => (i.zero, i.size, i.bytes)) = some (some (.agg #[.int .u32 0, .int .u8 0, .slice none 0 0, .int .u8 0]), 4, 40) := by kernel_rfl
theorem size_job : (Try.prog.info? 38).map (·.size) = some 4 := by kernel_rfl
structure JbOk (w : World) (B : Nat) (x : Jb) : Prop where
  sq : Sq byw w B x.A x.p.text
  fit : x.p.Fit
  nl : x.A = none → x.c = 0
  ln : x.p.text.length ≤ x.c
  cap : x.c ≤ 9223372036854775807
section
variable {w w' : World} {B B' : Nat} {x : Jb} {l : List Jb} {A : Option Addr}
theorem JbOk.below (h : JbOk w B x) (k : Below B w w') : JbOk w' B x := ⟨h.sq.below k, h.fit, h.nl, h.ln, h.cap⟩
theorem JbOk.more (h : JbOk w B x) (hB : B ≤ B') : JbOk w B' x := ⟨h.sq.more hB, h.fit, h.nl, h.ln, h.cap⟩
theorem JbOk.to (h : JbOk w w.heap.size x) (k : Below w.heap.size w w') : JbOk w' w'.heap.size x := (h.below k).more k.size
structure Jbs (w : World) (B : Nat) (A : Option Addr) (l : List Jb) : Prop where
  rc : Recs jbF 4 w B A l
  ok : ∀ b ∈ l, JbOk w B b
theorem Jbs.below (h : Jbs w B A l) (k : Below B w w') : Jbs w' B A l := ⟨h.rc.below k, fun b hb => (h.ok b hb).below k⟩
theorem Jbs.more (h : Jbs w B A l) (hB : B ≤ B') : Jbs w B' A l := ⟨h.rc.more hB, fun b hb => (h.ok b hb).more hB⟩
theorem Jbs.to (h : Jbs w w.heap.size A l) (k : Below w.heap.size w w') : Jbs w' w'.heap.size A l := (h.below k).more k.size
theorem Jbs.nil : Jbs w B A [] := ⟨Recs.nil, fun _ h => by cases h⟩
theorem Jbs.take (h : Jbs w B A l) (n : Nat) : Jbs w B A (l.take n) := ⟨h.rc.take n, fun b hb => h.ok b (List.mem_of_mem_take hb)⟩
theorem Jbs.at_ (h : Jbs w B A l) {k : Nat} (hk : k < l.length) : ∃ g o b, A = some ⟨g, o, none⟩ ∧ g < B ∧ l[k]? = some b ∧ JbOk w B b ∧ w.cell? ⟨g, o + k * 4, none⟩ = some (.int .u32 (b.p.tx : Int)) ∧ w.cell? ⟨g, o + k * 4 + 1, none⟩ = some (.int .u8 (b.p.who : Int)) ∧ w.cell? ⟨g, o + k * 4 + 2, none⟩ = some (.slice b.A b.p.text.length b.c) ∧ w.cell? ⟨g, o + k * 4 + 3, none⟩ = some (.int .u8 (b.p.st : Int)) := by
  obtain ⟨g, o, b, hA, hg, hb, hc⟩ := h.rc.at_ hk
  exact ⟨g, o, b, hA, hg, hb, h.ok b (List.mem_of_getElem? hb), by simpa using hc 0 _ rfl, by simpa [Nat.add_assoc] using hc 1 _ rfl, by simpa [Nat.add_assoc] using hc 2 _ rfl, by simpa [Nat.add_assoc] using hc 3 _ rfl⟩
end
section
variable {H : Type} {enc : TypeId × Value → H} {w : World} {base b0 : Nat} {spare : Nat → Bool} {held : Bool} {r : Reach}
theorem job_trod (n : Nat) (cs : List Value) (y : DataW H × List MemPlace) (h : DataW.trod enc Try.prog w base spare held n 38 cs = some y) : ∃ x : Jb, cs = jbF x ∧ JbOk w w.heap.size x := by
  obtain ⟨hl, n, hf⟩ := trod_field Try.underlying38 h
  have hC : Try.prog.cellsOf 38 = 4 := by kernel_rfl
  rw [hC] at hl
  match cs, hl with
  | [v0, v1, v2, v3], _ =>
    obtain ⟨y0, h0⟩ := hf 0 _ rfl
    obtain ⟨y1, h1⟩ := hf 1 _ rfl
    obtain ⟨y2, h2⟩ := hf 2 _ rfl
    obtain ⟨y3, h3⟩ := hf 3 _ rfl
    obtain ⟨a0, rfl, b0⟩ := trod_nat (k := .u32) (v := v0) rfl Try.underlying28 h0
    obtain ⟨a1, rfl, b1⟩ := trod_nat (k := .u8) (v := v1) rfl Try.underlying5 h1
    obtain ⟨A2, l2, c2, e2, q2⟩ := bytes_trod (cs := [v2]) Try.underlying29 Try.underlying5 (by kernel_rfl) _ _ h2
    obtain ⟨a3, rfl, b3⟩ := trod_nat (k := .u8) (v := v3) rfl Try.underlying5 h3
    obtain rfl : v2 = .slice A2 l2.length c2 := by simpa using e2
    exact ⟨⟨⟨a0, a1, l2, a3⟩, A2, c2⟩, rfl, q2.sq, ⟨b0, b1, q2.u, b3⟩, q2.nl, q2.ln, q2.cap⟩
theorem open_jobs {v : Value} {d : DataW H} {ps : List MemPlace} (hval : Value.okWide Try.prog w r b0 25 v) (hd : DataW.Trod enc Try.prog w base spare held 25 v d ps) :
    ∃ (A : Option Addr) (l : List Jb) (c : Nat), v = .slice A l.length c ∧ Jbs w w.heap.size A l ∧ l.length ≤ c ∧ c ≤ 9223372036854775807 ∧ (A = none → c = 0) := by
  obtain ⟨A, l, c, h1, h2, h3, h4, h5, h6⟩ := okWide_slice_trod jbF (fun b => JbOk w w.heap.size b) Try.underlying25 (show Try.prog.cellsOf 38 = 4 by kernel_rfl) (by decide) job_trod hval hd
  exact ⟨A, l, c, h1, ⟨h2, h3⟩, h4, h5, h6⟩
end
/-- an own list of jobs: their cells, their texts each own and elsewhere -/
structure JL (w : World) (base : Nat) (A : Option Addr) (n c : Nat) (l : List Jb) : Prop where
  len : l.length = n
  own : w.ownsRow base 38 4 (.slice A n c) n (l.flatMap jbF)
  txt : ∀ y ∈ l, w.ownsRow base 5 1 (.slice y.A y.p.text.length y.c) y.p.text.length (y.p.text.map byw)
  off : ∀ y ∈ l, ∀ p, y.A = some p → some p.block ≠ (Value.slice A n c).ownBlock
  fit : ∀ y ∈ l, y.p.Fit
section
variable {w w' : World} {base B n c : Nat} {A : Option Addr} {l : List Jb}
theorem own_slice {w : World} {base e s n c : Nat} {A : Option Addr} {xs : List Value} (h : w.ownsRow base e s (.slice A n c) n xs) : (A = none → c = 0) ∧ n ≤ c ∧ c ≤ 9223372036854775807 := by
  rcases h.2 with ⟨h1, h2⟩ | ⟨g, cap, cur, hv, _, _, hnc, hm, _⟩
  · obtain ⟨rfl, rfl, rfl⟩ : A = none ∧ n = 0 ∧ c = 0 := by simpa using h1
    exact ⟨fun _ => rfl, Nat.le_refl _, by decide⟩
  · obtain ⟨rfl, rfl⟩ : A = some ⟨g, 0, none⟩ ∧ c = cap := by simpa using hv
    unfold maxLen at hm
    exact ⟨by simp, hnc, by omega⟩
theorem JL.nil (w : World) (base : Nat) : JL w base none 0 0 [] := ⟨rfl, by simpa using World.ownsRow_nil w base 38 4, by simp, by simp, by simp⟩
theorem JL.to (h : JL w base A n c l) (k : Below w.heap.size w w') : JL w' base A n c l := ⟨h.len, own_below h.own k, fun y hy => own_below (h.txt y hy) k, h.off, h.fit⟩
theorem JL.base_le {base' : Nat} (h : JL w base A n c l) (hb : base' ≤ base) : JL w base' A n c l := ⟨h.len, own_more h.own hb, fun y hy => own_more (h.txt y hy) hb, h.off, h.fit⟩
theorem JL.jbs (h : JL w base A n c l) : Jbs w w.heap.size A l := ⟨Recs.of_own jbF_length (by decide) h.own, fun y hy => ⟨Sq.of_own (h.txt y hy), h.fit y hy, (own_slice (h.txt y hy)).1, (own_slice (h.txt y hy)).2.1, (own_slice (h.txt y hy)).2.2⟩⟩
theorem jflat_length (l : List Jb) : (l.flatMap jbF).length = l.length * 4 := flat_length jbF_length l
theorem own_grown_j {e s m d : Nat} {D : Option Addr} {xs : List Value} {row : Option Nat} (h : w.ownsRow B e s (.slice D m d) m xs) (hg : w.grownBy w' row) (ho : ∀ p, D = some p → some p.block ≠ row) : w'.ownsRow B e s (.slice D m d) m xs := by
  obtain ⟨h1, h2⟩ := h
  refine ⟨h1, ?_⟩
  rcases h2 with h2 | ⟨g, cap, cur, hv, hB, hh, r⟩
  · exact .inl h2
  · have hA : D = some ⟨g, 0, none⟩ := by simp at hv; exact hv.1
    exact .inr ⟨g, cap, cur, hv, hB, (hg.block g (Array.getElem?_eq_some_iff.1 hh).1 (ho _ hA)).trans hh, r⟩
/-- one job more: its text own, and elsewhere -/
theorem JL.push (h : JL w base A n c l) (a0 : Jb) (htx : w.ownsRow base 5 1 (.slice a0.A a0.p.text.length a0.c) a0.p.text.length (a0.p.text.map byw)) (hoff : ∀ p, a0.A = some p → some p.block ≠ (Value.slice A n c).ownBlock) (hfit : a0.p.Fit) {v' : Value} (ho : w'.ownsRow base 38 4 v' (n + 1) (l.flatMap jbF ++ jbF a0)) (hg : w.grownBy w' (Value.slice A n c).ownBlock) (hat : v'.ownBlock = (Value.slice A n c).ownBlock ∨ v'.ownBlock = some w.heap.size) :
    ∃ A' c', v' = .slice A' (n + 1) c' ∧ JL w' base A' (n + 1) c' (l ++ [a0]) := by
  obtain ⟨A', c', rfl⟩ := own_forms ho
  have key : ∀ y ∈ l ++ [a0], w.ownsRow base 5 1 (.slice y.A y.p.text.length y.c) y.p.text.length (y.p.text.map byw) ∧ (∀ p, y.A = some p → some p.block ≠ (Value.slice A n c).ownBlock) ∧ y.p.Fit := by
    intro y hy
    rcases List.mem_append.1 hy with hy | hy
    · exact ⟨h.txt y hy, h.off y hy, h.fit y hy⟩
    · obtain rfl := List.mem_singleton.1 hy
      exact ⟨htx, hoff, hfit⟩
  refine ⟨A', c', rfl, ⟨by rw [List.length_append, h.len]; rfl, by simpa [List.flatMap_append] using ho, fun y hy => ?_, fun y hy p hp e => ?_, fun y hy => (key y hy).2.2⟩⟩
  · exact own_grown_j (key y hy).1 hg (key y hy).2.1
  · rcases hat with hat | hat
    · rw [hat] at e
      exact (key y hy).2.1 p hp e
    · rw [hat] at e
      have h1 := (own_at_s (key y hy).1 p hp).2.1
      have h2 := Option.some.inj e
      omega
end
end Go.Proofs.Ytegmeodmjaijnaa
