/- What bank.Diff makes, as a fold over the addresses that differ; and how its blocks lie in memory. -/
import Derived.Test.YtkilpiiljpeamaaBkDif
import Derived.Test.YtkilpiiljpeamaaRoundReg
import Derived.Test.YtkilpiiljpeamaaAppR
import Derived.Test.YtkilpiiljpeamaaRow
import Derived.Maps.AppendAt
namespace Go.Proofs.Ytkilpiiljpeamaa
open Go.RowKit
set_option linter.unusedVariables false
def dstep (b : List Nat) (T : List Bk.Pr) (x : Nat) : List Bk.Pr :=
  match T.getLast? with
  | none => [((x : Int), [b[x]?.getD 0])]
  | some p => if p.1 + (p.2.length : Int) + 1 < (x : Int) ∨ 14 ≤ (x : Int) - p.1 then T ++ [((x : Int), [b[x]?.getD 0])] else T.dropLast ++ [(p.1, p.2 ++ (b.drop (p.1 + p.2.length).toNat).take (x + 1 - (p.1 + p.2.length).toNat))]
def dif (b : List Nat) (pre : List Nat) : List Bk.Pr := pre.foldl (dstep b) []
theorem dif_snoc (b pre : List Nat) (x : Nat) : dif b (pre ++ [x]) = dstep b (dif b pre) x := by simp [dif]
structure Fine (x : Nat) (T : List Bk.Pr) : Prop where
  len : T.length ≤ x
  last : ∀ p, T.getLast? = some p → 0 ≤ p.1 ∧ 0 < p.2.length ∧ p.1 + (p.2.length : Int) ≤ (x : Int)
theorem Fine.step {b : List Nat} {x : Nat} {T : List Bk.Pr} (h : Fine x T) (hb : b.length = 64) (hx : x < 64) : Fine (x + 1) (dstep b T x) := by
  obtain ⟨h1, h2⟩ := h
  unfold dstep
  split
  · refine ⟨by simp, fun p hp => ?_⟩
    obtain rfl : ((x : Int), [b[x]?.getD 0]) = p := by simpa using hp
    simp
  · next p hp =>
    have h3 := h2 p hp
    split
    · refine ⟨by simp; omega, fun q hq => ?_⟩
      obtain rfl : ((x : Int), [b[x]?.getD 0]) = q := by simpa using hq
      simp
    · refine ⟨by simp; omega, fun q hq => ?_⟩
      have hq2 : (p.1, p.2 ++ (b.drop (p.1 + p.2.length).toNat).take (x + 1 - (p.1 + p.2.length).toNat)) = q := by simpa using hq
      subst hq2
      simp only [List.length_append, List.length_take, List.length_drop]
      omega
theorem dif_fine (a b : List Nat) (hb : b.length = 64) : ∀ x, x ≤ 64 → Fine x (dif b (difs a b x))
  | 0, _ => ⟨Nat.le_refl _, fun p hp => by cases hp⟩
  | x + 1, hx => by
    have h := dif_fine a b hb x (by omega)
    rw [difs_succ]
    split
    · exact ⟨Nat.le_succ_of_le h.len, fun p hp => by have := h.last p hp; omega⟩
    · rw [dif_snoc]; exact h.step hb (by omega)
theorem own_setS {w : World} {base e s g n c : Nat} {xs : List Value} (h : w.ownsRow base e s (.slice (some ⟨g, 0, none⟩) n c) n xs) {i : Nat} (hi : i < xs.length) (u : Value) : (w.setCell ⟨g, i, none⟩ u).ownsRow base e s (.slice (some ⟨g, 0, none⟩) n c) n (xs.set i u) := by
  obtain ⟨h1, h2⟩ := h
  refine ⟨by simpa using h1, ?_⟩
  rcases h2 with ⟨h, _⟩ | ⟨g', cap, cur, hv, hb, hh, h3, h4, h5, h6⟩
  · cases h
  obtain ⟨rfl, rfl⟩ : g = g' ∧ c = cap := by simpa using hv
  have hs := heap_setCell_same w g i cur e u hh
  refine .inr ⟨g, c, _, rfl, hb, hs, h3, h4, by simpa using h5, ?_⟩
  rw [← h6]
  simp [List.take_set]
theorem ownBlk_slice (A : Option Addr) (n c : Nat) (q : Nat) (h : (Value.slice A n c).ownBlock = some q) : ∃ p, A = some p ∧ p.block = q := by
  cases A with
  | none => cases h
  | some p => exact ⟨p, rfl, by simpa [Value.ownBlock] using h⟩
/-- the blocks of Diff: a variable g6, the row of blocks, each block's words a row of its own, the last one's apart -/
structure DM (W : World) (N1 g6 : Nat) (bl : List Blk) (Al : Option Addr) (cl : Nat) : Prop where
  box : Boxed W g6 26 (.slice Al bl.length cl)
  row : W.ownsRow N1 34 2 (.slice Al bl.length cl) bl.length (bl.flatMap Blk.cells)
  own : ∀ y ∈ bl, W.ownsRow N1 25 1 (.slice y.A y.ws.length y.c) y.ws.length (y.ws.map u16w)
  apart : ∀ init x, bl = init ++ [x] → ∀ y ∈ init, ∀ p q, x.A = some p → y.A = some q → q.block ≠ p.block
section
variable {W W' : World} {N1 g6 cl : Nat} {bl : List Blk} {Al : Option Addr}
theorem DM.kept {row : Option Nat} (h : DM W N1 g6 bl Al cl) (hg : W.grownBy W' row) (hr : ∀ r, row = some r → r ≠ g6 ∧ r < N1) : DM W' N1 g6 bl Al cl := by
  have hne : ∀ (A : Option Addr) (n c e s : Nat) (xs : List Value), W.ownsRow N1 e s (.slice A n c) n xs → (Value.slice A n c).ownBlock = none ∨ (Value.slice A n c).ownBlock ≠ row := by
    intro A n c e s xs ho
    cases row with
    | none => cases A <;> simp [Value.ownBlock]
    | some r =>
      right
      intro e1
      obtain ⟨q, hq, hb⟩ := ownBlk_slice A n c r e1
      have h2 := (hr r rfl).2
      rcases ho.2 with ⟨h3, _⟩ | ⟨g, cap, cur, hv, hb2, _⟩
      · obtain ⟨rfl, _⟩ : A = none ∧ _ := by simpa using h3
        cases hq
      · obtain ⟨rfl, _⟩ : A = some ⟨g, 0, none⟩ ∧ _ := by simpa using hv
        obtain rfl := Option.some.inj hq
        have : g = r := hb
        omega
  exact ⟨h.box.kept hg (fun e => (hr g6 e.symm).1 rfl), h.row.kept hg (hne _ _ _ _ _ _ h.row), fun y hy => (h.own y hy).kept hg (hne _ _ _ _ _ _ (h.own y hy)), h.apart⟩
theorem grownBy_setCellB (W : World) (b i : Nat) (v : Value) : W.grownBy (W.setCell ⟨b, i, none⟩ v) (some b) := ⟨rfl, rfl, rfl, by simp, fun k _ hk => heap_setCell_other W ⟨b, i, none⟩ k v (fun e => hk (by rw [e]))⟩
/-- rows of other element types lie in other blocks -/
theorem own_apart {w : World} {B1 B2 e1 e2 s1 s2 n1 n2 c1 c2 : Nat} {A1 A2 : Option Addr} {xs1 xs2 : List Value} (h1 : w.ownsRow B1 e1 s1 (.slice A1 n1 c1) n1 xs1) (h2 : w.ownsRow B2 e2 s2 (.slice A2 n2 c2) n2 xs2) (he : e1 ≠ e2) : (Value.slice A1 n1 c1).ownBlock = none ∨ (Value.slice A1 n1 c1).ownBlock ≠ (Value.slice A2 n2 c2).ownBlock := by
  cases A1 with
  | none => exact .inl rfl
  | some p =>
    right
    intro e
    obtain ⟨q, hq, hb⟩ := ownBlk_slice A2 n2 c2 p.block e.symm
    subst hq
    rcases h1.2 with ⟨h, _⟩ | ⟨g, cap, cur, hv, _, hh, _⟩
    · cases h
    rcases h2.2 with ⟨h, _⟩ | ⟨g2, cap2, cur2, hv2, _, hh2, _⟩
    · cases h
    obtain ⟨rfl, _⟩ : p = ⟨g, 0, none⟩ ∧ _ := by simpa using hv
    obtain ⟨rfl, _⟩ : q = ⟨g2, 0, none⟩ ∧ _ := by simpa using hv2
    have hb' : g2 = g := hb
    rw [hb', hh] at hh2
    simp at hh2
    exact he hh2.2
theorem own_ge {w : World} {B e s n c : Nat} {A : Option Addr} {xs : List Value} (h : w.ownsRow B e s (.slice A n c) n xs) : ∀ p, A = some p → B ≤ p.block ∧ p.block < w.heap.size ∧ p = ⟨p.block, 0, none⟩ := fun p hp => by
  rcases h.2 with ⟨h1, _⟩ | ⟨g', cap, cur, hv, hg, hh, _⟩
  · obtain ⟨rfl, _⟩ : A = none ∧ _ := by simpa using h1
    cases hp
  · obtain ⟨rfl, _⟩ : A = some ⟨g', 0, none⟩ ∧ _ := by simpa using hv
    obtain rfl := Option.some.inj hp
    exact ⟨hg, (Array.getElem?_eq_some_iff.1 hh).1, rfl⟩
theorem own_blk_ge {w : World} {B e s n c g : Nat} {A : Option Addr} {xs : List Value} (h : w.ownsRow B e s (.slice A n c) n xs) (hg : g < B) : some g ≠ (Value.slice A n c).ownBlock := fun e => by
  obtain ⟨p, hp, hb⟩ := ownBlk_slice A n c g e.symm
  have := own_ge h p hp
  omega
theorem DM.push (h : DM W N1 g6 bl Al cl) (h6 : g6 < N1) {xa : Int} {v gw : Nat} (ow : W.ownsRow N1 25 1 (.slice (some ⟨gw, 0, none⟩) 1 1) 1 [u16w v]) (hf : ∀ y ∈ bl, ∀ q, y.A = some q → q.block ≠ gw) {w1 : World} {A' : Option Addr} {c' : Nat} (hg : W.grownBy w1 (Value.slice Al bl.length cl).ownBlock)
    (hr : w1.ownsRow N1 34 2 (.slice A' (bl ++ [Blk.mk xa [v] (some ⟨gw, 0, none⟩) 1]).length c') (bl ++ [Blk.mk xa [v] (some ⟨gw, 0, none⟩) 1]).length ((bl ++ [Blk.mk xa [v] (some ⟨gw, 0, none⟩) 1]).flatMap Blk.cells)) :
    DM (w1.setCell ⟨g6, 0, none⟩ (.slice A' (bl ++ [Blk.mk xa [v] (some ⟨gw, 0, none⟩) 1]).length c')) N1 g6 (bl ++ [Blk.mk xa [v] (some ⟨gw, 0, none⟩) 1]) A' c' := by
  have hte : 25 ≠ 34 := by decide
  refine ⟨(h.box.kept hg (own_blk_ge h.row h6)).set _, ownsRow_setCell_below hr h6 _, fun y hy => ?_, fun init x hx y hy p q hp hq => ?_⟩
  · refine ownsRow_setCell_below ?_ h6 _
    rcases List.mem_append.1 hy with hy | hy
    · exact (h.own y hy).kept hg (own_apart (h.own y hy) h.row hte)
    · obtain rfl := List.mem_singleton.1 hy
      exact ow.kept hg (own_apart ow h.row hte)
  · obtain ⟨rfl, hx2⟩ := List.append_inj' hx rfl
    obtain rfl : Blk.mk xa [v] (some ⟨gw, 0, none⟩) 1 = x := by simpa using hx2
    obtain rfl := Option.some.inj (show some (⟨gw, 0, none⟩ : Addr) = some p from hp)
    exact hf y hy q hq
theorem flat_set (init : List Blk) (y : Blk) (u : Value) : ((init ++ [y]).flatMap Blk.cells).set (init.length * 2 + 1) u = init.flatMap Blk.cells ++ [.int .i64 y.a, u] := by
  have hl : (init.flatMap Blk.cells).length = init.length * 2 := by
    induction init with
    | nil => rfl
    | cons x init ih => rw [List.flatMap_cons, List.length_append, ih]; simp [Blk.cells]; omega
  rw [List.flatMap_append, List.set_append_right _ _ (by omega), hl, show init.length * 2 + 1 - init.length * 2 = 1 by omega]
  simp
theorem DM.extend {init : List Blk} {y : Blk} {gl : Nat} (h : DM W N1 g6 (init ++ [y]) (some ⟨gl, 0, none⟩) cl) (h6 : g6 < N1) (hy : ∃ q, y.A = some q) {ds : List Nat} {w1 : World} {A' : Option Addr} {c' : Nat} (hg : W.grownBy w1 (Value.slice y.A y.ws.length y.c).ownBlock)
    (hr : w1.ownsRow N1 25 1 (.slice A' (y.ws ++ ds).length c') (y.ws ++ ds).length ((y.ws ++ ds).map u16w)) (hat : (Value.slice A' (y.ws ++ ds).length c').ownBlock = (Value.slice y.A y.ws.length y.c).ownBlock ∨ (Value.slice A' (y.ws ++ ds).length c').ownBlock = some W.heap.size) :
    DM (w1.setCell ⟨gl, init.length * 2 + 1, none⟩ (.slice A' (y.ws ++ ds).length c')) N1 g6 (init ++ [Blk.mk y.a (y.ws ++ ds) A' c']) (some ⟨gl, 0, none⟩) cl := by
  have hte : 25 ≠ 34 := by decide
  have hyo := h.own y (by simp)
  have hrow1 := h.row.kept hg (own_apart h.row hyo hte.symm)
  have hlen : (init ++ [Blk.mk y.a (y.ws ++ ds) A' c']).length = (init ++ [y]).length := by simp
  have hgl := own_ge h.row _ rfl
  have hne6 : g6 ≠ gl := by have := hgl.1; show g6 ≠ gl; simp at this; omega
  have hfl : ((init ++ [y]).flatMap Blk.cells).length = init.length * 2 + 2 := by have := h.row.1; simpa [Nat.add_mul] using this
  refine ⟨?_, ?_, fun z hz => ?_, fun init2 x hx z hz p q hp hq => ?_⟩
  · rw [hlen]
    exact (h.box.kept hg (own_blk_ge hyo h6)).kept (grownBy_setCellB w1 gl _ _) (fun e => hne6 (by cases e; rfl))
  · rw [hlen]
    have := own_setS hrow1 (i := init.length * 2 + 1) (by rw [hfl]; omega) (.slice A' (y.ws ++ ds).length c')
    rw [flat_set] at this
    simpa [Blk.cells] using this
  · have hz2 : w1.ownsRow N1 25 1 (.slice z.A z.ws.length z.c) z.ws.length (z.ws.map u16w) := by
      rcases List.mem_append.1 hz with hz | hz
      · refine (h.own z (by simp [hz])).kept hg ?_
        cases hA : z.A with
        | none => exact .inl rfl
        | some q =>
          right
          intro e
          obtain ⟨q0, hq0⟩ := hy
          rw [hq0] at e
          exact h.apart init y rfl z hz q0 q hq0 hA (by simpa [Value.ownBlock] using e)
      · obtain rfl := List.mem_singleton.1 hz
        exact hr
    refine ownsRow_setCell_other hz2 ?_ _
    intro e
    rcases own_apart hz2 hrow1 hte with e1 | e1
    · rw [e1] at e; cases e
    · exact e1 e
  · obtain ⟨rfl, hx2⟩ := List.append_inj' hx rfl
    obtain rfl : Blk.mk y.a (y.ws ++ ds) A' c' = x := by simpa using hx2
    have hp' : A' = some p := hp
    subst hp'
    obtain ⟨q0, hq0⟩ := hy
    rcases hat with e | e
    · rw [hq0] at e
      have e' : p.block = q0.block := by simpa [Value.ownBlock] using e
      rw [e']
      exact h.apart init y rfl z hz q0 q hq0 hq
    · have e' : p.block = W.heap.size := by simpa [Value.ownBlock] using e
      have := own_ge (h.own z (by simp [hz])) q hq
      omega
end
theorem own_not {w : World} {B e s n c : Nat} {A : Option Addr} {xs : List Value} (h : w.ownsRow B e s (.slice A n c) n xs) {r : Nat} {o : Obj} (ho : w.heap[r]? = some o) (hc : o.isCells = false) : some r ≠ (Value.slice A n c).ownBlock := fun e1 => by
  obtain ⟨p, hp, hb⟩ := ownBlk_slice A n c r e1.symm
  rcases h.2 with ⟨h1, _⟩ | ⟨g', cap, cur, hv, _, hh, _⟩
  · obtain ⟨rfl, _⟩ : A = none ∧ _ := by simpa using h1
    cases hp
  · obtain ⟨rfl, _⟩ : A = some ⟨g', 0, none⟩ ∧ _ := by simpa using hv
    obtain rfl := Option.some.inj hp
    have h3 : g' = r := hb
    rw [← h3, hh] at ho
    obtain rfl := Option.some.inj ho
    cases hc
theorem DM.turned {W W' : World} {N1 g6 cl : Nat} {bl : List Blk} {Al : Option Addr} {row : Option Nat} (h : DM W N1 g6 bl Al cl) (hg : W.grownBy W' row) (hr : ∀ r, row = some r → ∃ o : Obj, W.heap[r]? = some o ∧ o.isCells = false) : DM W' N1 g6 bl Al cl := by
  have hne : ∀ (A : Option Addr) (n c e s : Nat) (xs : List Value), W.ownsRow N1 e s (.slice A n c) n xs → (Value.slice A n c).ownBlock = none ∨ (Value.slice A n c).ownBlock ≠ row := by
    intro A n c e s xs ho
    cases A with
    | none => exact .inl rfl
    | some q =>
      right
      intro e1
      cases hro : row with
      | none => rw [hro] at e1; cases e1
      | some r =>
        obtain ⟨o, h1, h2⟩ := hr r hro
        exact own_not ho h1 h2 (by rw [e1, hro])
  refine ⟨h.box.kept hg (fun e => ?_), h.row.kept hg (hne _ _ _ _ _ _ h.row), fun y hy => (h.own y hy).kept hg (hne _ _ _ _ _ _ (h.own y hy)), h.apart⟩
  obtain ⟨o, h1, h2⟩ := hr g6 e.symm
  rw [show W.heap[g6]? = _ from h.box] at h1
  obtain rfl := Option.some.inj h1
  cases h2
/-- what a round keeps that has grown an own row, and stored into a block of cells -/
theorem round_keeps {W V w1 : World} {N1 B e s n c gs i : Nat} {A : Option Addr} {xs : List Value} (hV : Below W.heap.size W V) (hrow : V.ownsRow B e s (.slice A n c) n xs) (hg : V.grownBy w1 (Value.slice A n c).ownBlock) (hb : Below N1 V w1) (hN : N1 ≤ W.heap.size) (hs : ∀ o, W.heap[gs]? = some o → o.isCells = true) (u : Value) :
    KeepsFrom N1 W (w1.setCell ⟨gs, i, none⟩ u) ∧ ∀ j, j < N1 → j ≠ gs → (w1.setCell ⟨gs, i, none⟩ u).heap[j]? = W.heap[j]? := by
  refine ⟨⟨by have h1 := hV.size; have h2 := hg.size; simp; omega, fun k o hk ho hc => ?_⟩, fun j hj hne => ?_⟩
  · have h1 : V.heap[k]? = some o := (hV.block k (Array.getElem?_eq_some_iff.1 ho).1).trans ho
    have h2 : w1.heap[k]? = some o := (hg.block k (Array.getElem?_eq_some_iff.1 h1).1 (own_not hrow h1 hc)).trans h1
    exact (heap_setCell_other w1 ⟨gs, i, none⟩ k u (fun e => by rw [show k = gs from e] at ho; rw [hs o ho] at hc; cases hc)).trans h2
  · exact (heap_setCell_other w1 ⟨gs, i, none⟩ j u hne).trans ((hb.block j hj).trans (hV.block j (by omega)))
/-- an append onto an own row, as a step of a region that draws; it tells where the row lies then -/
theorem step_append_own_at {P : Program} {w : World} {ops : Array Oper} {o : Oper} {a : Act} {K : Act → World → Prop} {Q : Exit → Act → World → Prop} {E : Prop} (hgd : o.guard = none) (s x : Operand) (t : TypeId)
    (ho : o.op = .call { callee := .builtin .append, args := #[s, x], argTypes := #[t, t] })
    (base : Nat) (e : TypeId) (i : TypeInfo) (z : Value) (size bytes : Nat) (ht : P.underlying t = some (.slice e)) (hi : P.info? e = some i) (hz : i.zero = some z)
    (hsize : i.size = size) (hby : i.bytes = bytes) (hzs : z.cells.size = size) (hsz : 0 < size)
    (v : Value) (n : Nat) (xs : List Value) (hs : a.eval s = v) (hown : w.ownsRow base e size v n xs)
    (ad : Addr) (m c : Nat) (news : List Value) (hx : a.eval x = .slice (some ad) m c) (hl : news.length = m * size) (hnews : ∀ j u, news[j]? = some u → w.cell? (ad.add j) = some u) (h1 : ∀ u ∈ news, u.oneCell' = true)
    (h63 : n + m ≤ maxLen) (hbytes : (n + m) * bytes ≤ 140737488355328) (hbase : base ≤ w.heap.size)
    (h : ∀ A' c' w', w'.ownsRow base e size (.slice A' (n + m) c') (n + m) (xs ++ news) → w.grownBy w' v.ownBlock → ((Value.slice A' (n + m) c').ownBlock = v.ownBlock ∨ (Value.slice A' (n + m) c').ownBlock = some w.heap.size) → K (a.put o.dst (.slice A' (n + m) c')) w') :
    if Region.wanted o (yielded ops a.tmps) = true then Oper.wp P o a w K Q else E := by
  have hw : Region.wanted o (yielded ops a.tmps) = true := by simp [Region.wanted, hgd]
  rw [if_pos hw]
  obtain ⟨v', w', hr, h2, h3, _, h5⟩ := run_append_own_at (P := P) w base t o.type e i z size bytes ht hi hz hsize hby hzs hsz v n xs hown ad m c news hl hnews h1 h63 hbytes hbase
  unfold Oper.wp execOp
  simp only [ho, resolve, invoke, builtin, Sem.run_bind, Sem.run_pure, Result.andThen_ok, List.map_toArray, List.map_cons, List.map_nil, hs, hx, hr]
  have hf : ∃ A' c', v' = .slice A' (n + m) c' := by
    rcases h2.2 with ⟨rfl, h0⟩ | ⟨g, cap, cur, rfl, _⟩
    · exact ⟨none, 0, by rw [h0]⟩
    · exact ⟨_, _, rfl⟩
  obtain ⟨A', c', rfl⟩ := hf
  exact h A' c' w' h2 h3 h5
end Go.Proofs.Ytkilpiiljpeamaa
