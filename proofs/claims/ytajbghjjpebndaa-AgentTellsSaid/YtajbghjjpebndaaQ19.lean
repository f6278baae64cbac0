/- Agents by value, and in a variable; the store of a part of a variable. The walk of agent.own: an agent in memory of its own. The walks of package lease. -/
import Derived.Test.YtajbghjjpebndaaQ18
import Derived.Deep.RegionHeld3
import Derived.Deep.DeepCutAuto
import Derived.Test.YtajbghjjpebndaaProg
import Derived.Test.YtajbghjjpebndaaQ00
import Derived.WalkLawsBesides
import Derived.WalkSpells
import Derived.Outline
namespace Go.Proofs.Ytajbghjjpebndaa
set_option maxRecDepth 100000
open Go.RowKit
set_option linter.unusedVariables false
theorem RowAt.setCells {b : Nat} {T : TypeId} {Z : List Value} : ∀ (D : List Value) (X Y : List Value) (o : Nat) (w : World), X.length = o → Y.length = D.length → RowAt w b T (X ++ (Y ++ Z)) → RowAt (w.setCells b o D) b T (X ++ (D ++ Z))
  | [], X, Y, o, w, hX, hY, h => by
    obtain rfl : Y = [] := List.eq_nil_of_length_eq_zero hY
    exact h
  | v :: r, X, [], o, w, hX, hY, h => by simp at hY
  | v :: r, X, y :: Y', o, w, hX, hY, h => by
    have h1 := h.set o v
    rw [List.set_append_right _ _ (by omega), hX, Nat.sub_self, List.cons_append, List.set_cons_zero] at h1
    have h2 := RowAt.setCells r (X ++ [v]) Y' (o + 1) (w.setCell ⟨b, o, none⟩ v) (by simp [hX]) (by simpa using hY) (by simpa using h1)
    rw [List.append_assoc] at h2
    exact h2
theorem Only.setCells {b : Nat} {w0 : World} : ∀ (D : List Value) (o : Nat) (w : World), Only b w0 w → Only b w0 (w.setCells b o D)
  | [], _, _, h => h
  | v :: r, o, w, h => Only.setCells r (o + 1) _ (h.set v)
section
variable {P : Program} {ops : Array Oper} {rest : List Oper} {o : Oper} {a : Act} {w : World} {Q : Exit → Act → World → Prop}
/-- a part of a variable is stored -/
theorem wpList_store_part (hgd : o.guard = none) (ty : TypeId) (x y : Operand) (ho : o.op = .store ty x y)
    (g off : Nat) (T : TypeId) (X Y Z D : List Value) (n : Nat) (hx : a.eval x = .pointer (some ⟨g, off, none⟩)) (hy : a.eval y = .agg D.toArray) (hR : RowAt w g T (X ++ (Y ++ Z)))
    (hi : (P.info? ty).map (·.size) = some n) (hX : X.length = off) (hY : Y.length = n) (hD : D.length = n) (h1 : ∀ v ∈ D, v.oneCell' = true)
    (h : ∀ w', RowAt w' g T (X ++ (D ++ Z)) → Only g w w' → wpList P ops Q rest (a.put o.dst undef) w') : wpList P ops Q (o :: rest) a w := by
  refine wpList_store_mid hgd ty x y ho g off D.toArray hx hy (fun j hj => ⟨?_, hR.frozen _⟩) (by rw [hi]; simp [hD]) (all_oneCell_toArray h1) (h _ ?_ ?_)
  · have hj' : j < n := by simpa [hD] using hj
    have e : (X ++ (Y ++ Z))[off + j]? = some (Y[j]'(by omega)) := by
      rw [List.getElem?_append_right (by omega), show off + j - X.length = j by omega, List.getElem?_append_left (by omega), List.getElem?_eq_getElem (by omega)]
    rw [hR.cell e]; rfl
  · exact RowAt.setCells D X Y off w hX (by omega) hR
  · exact Only.setCells D off w (Only.refl _ _)
end
/-! ### agents -/
def agP (A : Option Addr) (c : Nat) (g : Ag) : List Value := [.slice A g.bank.length c, .int .u16 (g.l.o : Int), .int .i64 g.l.l, .int .u8 (g.ph : Int), .int .u32 (g.tx : Int), .int .u32 (g.la : Int)]
def agL (A : Option Addr) (c : Nat) (D : List Value) (g : Ag) : List Value := agP A c g ++ (D ++ [.int .i64 g.tk])
def agC (A : Option Addr) (c : Nat) (s : Stv) (g : Ag) : List Value := agL A c s.C g
/-- an agent at hand: its bank and its stage's words lie from block base on -/
structure AgIs (A : Option Addr) (c : Nat) (s : Stv) (g : Ag) (w : World) (base : Nat) : Prop where
  sq : Sq u16w w w.heap.size A g.bank
  new : ∀ p, A = some p → base ≤ p.block
  nl : A = none → c = 0
  len : g.bank.length ≤ c
  cap : c ≤ 9223372036854775807
  small : g.bank.length ≤ 35184372088832
  u : ∀ x ∈ g.bank, x < 65536
  st : s.Is w base g.stx g.S
  o : g.l.o < 65536
  l : -9223372036854775808 ≤ g.l.l ∧ g.l.l ≤ 9223372036854775807
  ph : g.ph < 256
  tx : g.tx < 4294967296
  la : g.la < 4294967296
  tk : -9223372036854775808 ≤ g.tk ∧ g.tk ≤ 9223372036854775807
section
variable {A : Option Addr} {c : Nat} {s : Stv} {g : Ag} {w w' : World} {base base' : Nat}
theorem AgIs.to (h : AgIs A c s g w base) (k : Below w.heap.size w w') : AgIs A c s g w' base := ⟨(h.sq.below k).more k.size, h.new, h.nl, h.len, h.cap, h.small, h.u, h.st.to k, h.o, h.l, h.ph, h.tx, h.la, h.tk⟩
theorem AgIs.more (h : AgIs A c s g w base) (hb : base' ≤ base) : AgIs A c s g w base' := ⟨h.sq, fun p hp => Nat.le_trans hb (h.new p hp), h.nl, h.len, h.cap, h.small, h.u, h.st.more hb, h.o, h.l, h.ph, h.tx, h.la, h.tk⟩
theorem AgIs.only {b : Nat} (h : AgIs A c s g w base) (k : Only b w w') (hb : b < base) : AgIs A c s g w' base :=
  ⟨h.sq.only k (fun p hp e => by have := h.new p hp; omega), h.new, h.nl, h.len, h.cap, h.small, h.u, h.st.only k hb, h.o, h.l, h.ph, h.tx, h.la, h.tk⟩
theorem AgIs.fit (h : AgIs A c s g w base) : Ls.fit g.l := ⟨h.o, h.l.1, h.l.2⟩
theorem AgIs.S8 (h : AgIs A c s g w base) : g.S.length = 8 := h.st.len
theorem AgIs.stx (h : AgIs A c s g w base) : g.stx < 4294967296 := by rw [← h.st.tx]; exact h.st.ok.tx
theorem AgIs.C25 (h : AgIs A c s g w base) : s.C.length = 25 := h.st.C25
theorem AgIs.C32 (h : AgIs A c s g w base) : (agC A c s g).length = 32 := by simp [agC, agL, agP, h.C25]
theorem agL_length {D : List Value} (h : D.length = 25) : (agL A c D g).length = 32 := by simp [agL, agP, h]
theorem agL_st {D : List Value} {j : Nat} {v : Value} (h : D[j]? = some v) : (agL A c D g)[6 + j]? = some v := by
  have hj : j < D.length := (List.getElem?_eq_some_iff.1 h).1
  unfold agL agP
  rw [List.getElem?_append_right (by simp), show 6 + j - _ = j by simp, List.getElem?_append_left hj, h]
theorem agL_tk {D : List Value} (h : D.length = 25) : (agL A c D g)[31]? = some (.int .i64 g.tk) := by
  unfold agL agP
  rw [List.getElem?_append_right (by simp), List.getElem?_append_right (by simp [h])]
  simp [h]
theorem agL_set {D : List Value} {j : Nat} (v : Value) (h : j < D.length) : (agL A c D g).set (6 + j) v = agL A c (D.set j v) g := by
  unfold agL agP
  rw [List.set_append_right _ _ (by simp), show 6 + j - _ = j by simp, List.set_append_left _ _ h]
theorem agL_one {D : List Value} (h : ∀ v ∈ D, v.oneCell' = true) : ∀ v ∈ agL A c D g, v.oneCell' = true := by
  intro v hv
  simp only [agL, agP, List.mem_append, List.mem_cons, List.not_mem_nil, or_false] at hv
  rcases hv with hv | hv | hv
  · rcases hv with rfl | rfl | rfl | rfl | rfl | rfl <;> rfl
  · exact h v hv
  · rw [hv]; rfl
theorem agC_one (s : Stv) : ∀ v ∈ agC A c s g, v.oneCell' = true := agL_one (Stv.C_one s)
theorem agC_blk {k : Nat} {b : Blk} (h1 : s.hs.length = 8) (h : s.bs[k]? = some b) : (agC A c s g)[15 + k * 2]? = some (.int .i64 b.a) ∧ (agC A c s g)[15 + k * 2 + 1]? = some (.slice b.A b.ws.length b.c) := by
  have hb := Stv.C_block h1 h
  constructor
  · rw [show 15 + k * 2 = 6 + (9 + k * 2) by omega]
    exact agL_st hb.1
  · rw [show 15 + k * 2 + 1 = 6 + (9 + k * 2 + 1) by omega]
    exact agL_st hb.2
theorem agC_blk_set {k : Nat} (b : Blk) (h1 : s.hs.length = 8) (h2 : s.bs.length = 8) (h : k < 8) : ((agC A c s g).set (15 + k * 2) (.int .i64 b.a)).set (15 + k * 2 + 1) (.slice b.A b.ws.length b.c) = agC A c ⟨s.tx, s.hs, s.bs.set k b⟩ g := by
  have hl := Stv.C_length h1 h2
  rw [show 15 + k * 2 + 1 = 6 + (9 + k * 2 + 1) by omega, show 15 + k * 2 = 6 + (9 + k * 2) by omega]
  unfold agC
  rw [agL_set _ (by omega), agL_set _ (by simp; omega), Stv.C_block_set h1 b (by omega)]
/-- the stage in an agent's variable -/
theorem RowAt.stage {b : Nat} {T : TypeId} {D : List Value} (h : RowAt w b T (agL A c D g)) (hD : D.length = 25) : w.rangeAt b 6 D := fun j v hv => h.cell (agL_st hv)
theorem RowAt.lease {b : Nat} {T : TypeId} {D : List Value} (h : RowAt w b T (agL A c D g)) : w.rangeAt b 1 [.int .u16 (g.l.o : Int), .int .i64 g.l.l] := fun j v hv => h.cell (by
  match j, hv with
  | 0, hv => exact hv
  | 1, hv => exact hv
  | j + 2, hv => simp at hv)
end
/-- what a function that hands an agent back does -/
def AgE (w : World) (g : Ag) (e : Ending) (w' : World) : Prop := ∃ A c s, e = .returned (.agg (agC A c s g).toArray) ∧ AgIs A c s g w' w.heap.size ∧ Below w.heap.size w w'
/-- an agent and an error -/
def AgEE (w : World) (r : Ag × Int) (e : Ending) (w' : World) : Prop := ∃ A c s, e = .returned (.tuple #[.agg (agC A c s r.1).toArray, .int .i64 r.2]) ∧ AgIs A c s r.1 w' w.heap.size ∧ Below w.heap.size w w'
abbrev z32 : Array Value := #[.slice none 0 0, .int .u16 0, .int .i64 0, .int .u8 0, .int .u32 0, .int .u32 0, .int .u32 0, .bool false, .bool false, .bool false, .bool false, .bool false, .bool false, .bool false, .bool false, .int .i64 0, .slice none 0 0, .int .i64 0, .slice none 0 0, .int .i64 0, .slice none 0 0, .int .i64 0, .slice none 0 0, .int .i64 0, .slice none 0 0, .int .i64 0, .slice none 0 0, .int .i64 0, .slice none 0 0, .int .i64 0, .slice none 0 0, .int .i64 0]
def Ag0 : Ag := ⟨[], ⟨0, 0⟩, 0, 0, 0, 0, ss0, 0⟩
theorem z32_eq : (agC none 0 Stv.zero Ag0).toArray = z32 := rfl
theorem size_32 : (Try.prog.info? 35).map (·.size) = some 32 := by kernel_rfl
theorem size_lease : (Try.prog.info? 26).map (·.size) = some 2 := by kernel_rfl
/-- an agent that keeps its memory, changed elsewhere -/
theorem AgIs.with {A : Option Addr} {c : Nat} {s : Stv} {g : Ag} {w : World} {base : Nat} (h : AgIs A c s g w base) (l : Ls.L) (ph tx la : Nat) (hl : Ls.fit l) (h1 : ph < 256) (h2 : tx < 4294967296) (h3 : la < 4294967296) : AgIs A c s ⟨g.bank, l, ph, tx, la, g.stx, g.S, g.tk⟩ w base :=
  ⟨h.sq, h.new, h.nl, h.len, h.cap, h.small, h.u, h.st, hl.1, hl.2, h1, h2, h3, h.tk⟩
/-- one with another stage -/
theorem AgIs.staged {A : Option Addr} {c : Nat} {s : Stv} {g : Ag} {w : World} {base t : Nat} {S : SS} (h : AgIs A c s g w base) (s' : Stv) (hs : s'.Is w base t S) : AgIs A c s' ⟨g.bank, g.l, g.ph, g.tx, g.la, t, S, g.tk⟩ w base :=
  ⟨h.sq, h.new, h.nl, h.len, h.cap, h.small, h.u, hs, h.o, h.l, h.ph, h.tx, h.la, h.tk⟩
theorem AgIs.freed {A : Option Addr} {c : Nat} {s : Stv} {g : Ag} {w : World} {base : Nat} (h : AgIs A c s g w base) : AgIs A c Stv.zero g.freed w base :=
  ⟨h.sq, h.new, h.nl, h.len, h.cap, h.small, h.u, Stv.zero_is _ _, (show (0 : Nat) < 65536 by decide), (show (-9223372036854775808 : Int) ≤ 0 ∧ (0 : Int) ≤ 9223372036854775807 by decide), (show (0 : Nat) < 256 by decide), (show (0 : Nat) < 4294967296 by decide), h.la, h.tk⟩
end Go.Proofs.Ytajbghjjpebndaa
namespace Go.Proofs.Ytajbghjjpebndaa
set_option maxRecDepth 100000
open Go.RowKit
set_option linter.unusedVariables false
set_option linter.unusedSimpArgs false
attribute [local go_sem] Later.cell Later.frozen setCell_twice
/-- what the loop of own has done up to number k -/
structure OwnAt (w : World) (s : Stv) (k : Nat) (bs : List Blk) (wr : World) : Prop where
  len : bs.length = 8
  new : ∀ j b, bs[j]? = some b → j < k → b.Ok wr wr.heap.size ∧ (∀ p, b.A = some p → w.heap.size + 2 ≤ p.block) ∧ b.ws.length ≤ 35184372088832 ∧ (s.hs.getD j false = true → b.pr = (prs s.bs).getD j (0, []))
  old : ∀ j, k ≤ j → bs[j]? = s.bs[j]?
section
variable {w wr wr' : World} {s : Stv} {k g : Nat} {bs : List Blk}
theorem OwnAt.to (h : OwnAt w s k bs wr) (hb : Below wr.heap.size wr wr') : OwnAt w s k bs wr' :=
  ⟨h.len, fun j b hj hk => ⟨(h.new j b hj hk).1.to hb, (h.new j b hj hk).2⟩, h.old⟩
theorem OwnAt.only (h : OwnAt w s k bs wr) (hb : Only g wr wr') (hg : g < w.heap.size + 2) : OwnAt w s k bs wr' :=
  ⟨h.len, fun j b hj hk => ⟨(h.new j b hj hk).1.only hb (fun p hp e => by have := (h.new j b hj hk).2.1 p hp; omega), (h.new j b hj hk).2⟩, h.old⟩
theorem OwnAt.step (h : OwnAt w s k bs wr) (b' : Blk) (hk : k < 8) (hok : b'.Ok wr wr.heap.size) (hnew : ∀ p, b'.A = some p → w.heap.size + 2 ≤ p.block) (hl : b'.ws.length ≤ 35184372088832) (hpr : s.hs.getD k false = true → b'.pr = (prs s.bs).getD k (0, [])) :
    OwnAt w s (k + 1) (bs.set k b') wr := by
  refine ⟨by simpa using h.len, fun j b hj hjk => ?_, fun j hj => ?_⟩
  · by_cases e : j = k
    · subst e
      rw [List.getElem?_set_self (by rw [h.len]; exact hk)] at hj
      obtain rfl := Option.some.inj hj
      exact ⟨hok, hnew, hl, hpr⟩
    · rw [List.getElem?_set_ne (fun e2 => e e2.symm)] at hj
      exact h.new j b hj (by omega)
  · rw [List.getElem?_set_ne (by omega)]
    exact h.old j (by omega)
theorem OwnAt.is {base tx : Nat} {S : SS} (h : OwnAt w s 8 bs wr) (hs : s.Is w base tx S) : (⟨s.tx, s.hs, bs⟩ : Stv).Is wr (w.heap.size + 2) tx S := by
  have hj : ∀ b ∈ bs, ∃ j, bs[j]? = some b ∧ j < 8 := fun b hb => by
    obtain ⟨j, hj⟩ := List.mem_iff_getElem?.1 hb
    exact ⟨j, hj, by have := (List.getElem?_eq_some_iff.1 hj).1; rw [h.len] at this; exact this⟩
  refine ⟨⟨hs.ok.lh, h.len, hs.ok.tx, fun b hb => ?_⟩, hs.tx, ?_, fun b hb => ?_, fun b hb => ?_⟩
  · obtain ⟨j, h1, h2⟩ := hj b hb
    exact (h.new j b h1 h2).1
  · rw [← hs.S]
    refine ss_eq (ssOf_length _ _) (ssOf_length _ _) fun j hj => ?_
    unfold Stv.S
    rw [ssOf_get? hj, ssOf_get? hj]
    by_cases hh : s.hs.getD j false = true
    · obtain ⟨b, hb⟩ : ∃ b, bs[j]? = some b := ⟨_, List.getElem?_eq_getElem (by rw [h.len]; exact hj)⟩
      rw [if_pos hh, if_pos hh, ← (h.new j b hb hj).2.2.2 hh, List.getD_eq_getElem?_getD, prs_get hb]
      rfl
    · rw [if_neg hh, if_neg hh]
  · obtain ⟨j, h1, h2⟩ := hj b hb
    exact (h.new j b h1 h2).2.1
  · obtain ⟨j, h1, h2⟩ := hj b hb
    exact (h.new j b h1 h2).2.2.1
end
theorem AgIs.of_own {w w' : World} {A A' : Option Addr} {c c' base B : Nat} {s s' : Stv} {g : Ag} (h : AgIs A c s g w base) (o : w'.ownsRow B 24 1 (.slice A' g.bank.length c') g.bank.length (g.bank.map u16w)) (hs : s'.Is w' B g.stx g.S) : AgIs A' c' s' g w' B :=
  ⟨Sq.of_own o, fun p hp => (o.lt p.block (by rw [hp]; rfl)).1, (own_nil_c o).1, (own_nil_c o).2, own_cap o, h.small, h.u, hs, h.o, h.l, h.ph, h.tx, h.la, h.tk⟩
set_option maxRecDepth 100000 in
set_option maxHeartbeats 1000000 in
theorem agown_any {A : Option Addr} {c base : Nat} {s : Stv} {g : Ag} (w : World) (h : AgIs A c s g w base) :
    Calls Try.prog 65 #[.agg (agC A c s g).toArray] w (AgE w g) := by
  have kc := Lib.hid (fun W (hW : Below w.heap.size w W) => clone_any A g.bank g.bank.length c W (h.to hW).sq h.small rfl h.nl)
  have kb := Lib.hid (fun W b (hb : Blk.Ok W W.heap.size b) (hl : b.ws.length ≤ 35184372088832) => clone_any b.A b.ws b.ws.length b.c W hb.sq hl rfl hb.nl)
  have IS := Lib.hid h
  clear h
  go_enter Try.func65, Try.ntmps65
  go_upto_region 1 with fail
  obtain ⟨w0, hw0⟩ : ∃ w_q_, w_q_ = (w.alloc (.cells (agC A c s g).toArray 35)).alloc (.cells z32 35) := ⟨_, rfl⟩
  rw [← hw0]
  have R1 := Lib.hid (show RowAt w0 w.heap.size 35 (agC A c s g) from hw0 ▸ (RowAt.new w _ _).alloc _)
  have R2 := Lib.hid (show RowAt w0 (w.heap.size + 1) 35 (agC none 0 Stv.zero Ag0) from by
    have := RowAt.new (w.alloc (.cells (agC A c s g).toArray 35)) 35 (agC none 0 Stv.zero Ag0)
    rw [hw0]
    simpa [z32_eq] using this)
  have hb0 : Below w.heap.size w w0 := by rw [hw0]; exact bel_alloc (bel_alloc (Below.refl _ _) _) _
  have hz0 : w.heap.size + 2 ≤ w0.heap.size := by rw [hw0]; simp
  have c0 : w0.cell? ⟨w.heap.size, 0, none⟩ = some (.slice A g.bank.length c) := R1.out.cell rfl
  clear hw0
  go_wp2_with fail
  with_reducible refine (kc.out _ hb0).mono ?_
  rintro e1 w1 ⟨A1, c1, rfl, o1, hb1⟩
  replace R1 := Lib.hid (R1.out.to hb1)
  replace R2 := Lib.hid (R2.out.to hb1)
  have d0 : w1.cell? ⟨w.heap.size, 0, none⟩ = some (.slice A g.bank.length c) := R1.out.cell rfl
  have f0 : w1.frozen? ⟨w.heap.size, 0, none⟩ = false := R1.out.frozen 0
  have hbe1 := hb0.trans (hb1.mono hb0.size)
  have hz1 : w.heap.size + 2 ≤ w1.heap.size := by have := hb1.size; omega
  have O1 := Lib.hid (own_more o1 hz0)
  clear hb0 hb1 o1 c0 hz0
  go_upto_region 2 with fail
  obtain ⟨w2, hw2⟩ : ∃ w2, w2 = w1.setCell ⟨w.heap.size, 0, none⟩ (.slice A1 g.bank.length c1) := ⟨_, rfl⟩
  rw [← hw2]
  have k2 : Only w.heap.size w1 w2 := by rw [hw2]; exact (Only.refl _ _).set _
  have r1 : RowAt w2 w.heap.size 35 (agC A1 c1 s g) := by
    rw [hw2]
    exact R1.out.set 0 _
  have HR1 := Lib.hid r1
  have HR2 := Lib.hid (R2.out.only k2 (by omega))
  have HO1 := Lib.hid (k2.own O1.out (by omega))
  have hbe2 : Below w.heap.size w w2 := k2.to hbe1 (Nat.le_refl _)
  have hz2 : w.heap.size + 2 ≤ w2.heap.size := by rw [k2.size]; exact hz1
  have hlh := IS.out.st.ok.lh
  have hlb := IS.out.st.ok.lb
  have hrng : w2.rangeAt w.heap.size 7 (s.hs.map Value.bool) := fun j v hv => by
    have hv' : s.C[1 + j]? = some v := by
      simp only [List.getElem?_map, Option.map_eq_some_iff] at hv
      obtain ⟨x, hx, rfl⟩ := hv
      exact Stv.C_have hx
    rw [show 7 + j = 6 + (1 + j) by omega]
    exact r1.cell (agL_st hv')
  have hlen8 : (s.hs.map Value.bool).length = 8 := by simp [hlh]
  have HG := Lib.hid hrng
  have HZ : Hid ((Try.prog.info? 28).map (·.size) = some (s.hs.map Value.bool).length) := Lib.hid (by rw [hlen8]; exact size_haves)
  have HOA : Hid (OwnAt w s 0 s.bs w2) := Lib.hid ⟨hlb, fun j b hj hk => absurd hk (by omega), fun j _ => rfl⟩
  clear hw2 k2 r1 R1 R2 O1 hbe1 hz1 d0 f0 hrng hlen8
  go_wp2_with (refine wpList_load_mid rfl 28 (.tmp 11) rfl w.heap.size 7 rfl (s.hs.map Value.bool) _ HG.out Try.underlying28 rfl HZ.out ?_)
  go_loopw [13, 3, 4, 5] (fun i _ _ _ wr => ∃ k : Nat, ∃ bs : List Blk, k ≤ 8 ∧ i = .int .i64 k ∧ Hid (OwnAt w s k bs wr) ∧ Hid (RowAt wr w.heap.size 35 (agC A1 c1 ⟨s.tx, s.hs, bs⟩ g)) ∧ Hid (RowAt wr (w.heap.size + 1) 35 (agC none 0 Stv.zero Ag0)) ∧ Hid (wr.ownsRow (w.heap.size + 2) 24 1 (.slice A1 g.bank.length c1) g.bank.length (g.bank.map u16w)) ∧ Below w.heap.size w wr ∧ w.heap.size + 2 ≤ wr.heap.size) (fun i _ _ _ _ => 8 - (intOf i).toNat)
  case atStart => exact ⟨0, s.bs, by omega, rfl, HOA, HR1, HR2, HO1, hbe2, hz2⟩
  case round =>
    clear hbe2 hz2
    obtain ⟨k, bs, hk, rfl, OA, R1, R2, OW, hbe, hsz⟩ := hrel
    have hz0 : w.heap.size < wr.heap.size := by omega
    by_cases hlt : k < 8
    · obtain ⟨b, hb⟩ : ∃ b, bs[k]? = some b := ⟨_, List.getElem?_eq_getElem (by rw [OA.out.len]; exact hlt)⟩
      obtain ⟨y, hy⟩ : ∃ y, s.hs[k]? = some y := ⟨_, List.getElem?_eq_getElem (by rw [hlh]; exact hlt)⟩
      have kx : ∀ w, (Instr.index 28 (.agg (s.hs.map Value.bool).toArray) (.int .i64 (k : Int))).run Try.prog w = .ok (.bool y) w := index_have _ k _ hlt (by simp [hy])
      have hcb := agC_blk (A := A1) (c := c1) (s := ⟨s.tx, s.hs, bs⟩) (g := g) hlh hb
      have c0 := R1.out.cell hcb.1
      have c1_ := R1.out.cell hcb.2
      have f0 := R1.out.frozen (15 + k * 2)
      have f1 := R1.out.frozen (15 + k * 2 + 1)
      have hyD : s.hs.getD k false = y := by rw [List.getD_eq_getElem?_getD, hy]; rfl
      have hbs : s.bs[k]? = some b := by rw [← OA.out.old k (Nat.le_refl _)]; exact hb
      have HBS := Lib.hid hbs
      have HYD := Lib.hid hyD
      have hltI : (k : Int) < 8 := by omega
      have h0I : (0 : Int) ≤ (k : Int) := by omega
      clear hcb hy hb hyD hbs
      cases y
      · go_wp2
        go_roundw
        case rel =>
          have k1 : ∀ v u, Only w.heap.size wr ((wr.setCell ⟨w.heap.size, 15 + k * 2, none⟩ u).setCell ⟨w.heap.size, 15 + k * 2 + 1, none⟩ v) := fun v u => ((Only.refl _ _).set u).set v
          have hba : ∀ v u, Below ((wr.setCell ⟨w.heap.size, 15 + k * 2, none⟩ u).setCell ⟨w.heap.size, 15 + k * 2 + 1, none⟩ v).heap.size ((wr.setCell ⟨w.heap.size, 15 + k * 2, none⟩ u).setCell ⟨w.heap.size, 15 + k * 2 + 1, none⟩ v) (((wr.setCell ⟨w.heap.size, 15 + k * 2, none⟩ u).setCell ⟨w.heap.size, 15 + k * 2 + 1, none⟩ v).alloc (.cells #[.int .i64 0, .slice none 0 0] 30)) := fun v u => bel_alloc (Below.refl _ _) _
          have h := (R1.out.set (15 + k * 2) (.int .i64 Blk.zero.a)).set (15 + k * 2 + 1) (.slice Blk.zero.A Blk.zero.ws.length Blk.zero.c)
          rw [agC_blk_set (s := ⟨s.tx, s.hs, bs⟩) Blk.zero hlh OA.out.len hlt] at h
          exact ⟨k + 1, bs.set k Blk.zero, by omega, by go_num, Lib.hid (((OA.out.only (k1 _ _) (by omega)).to (hba _ _)).step Blk.zero hlt (Blk.zero_ok _ _) (fun p hp => by cases hp) (by decide) (fun h => by rw [HYD.out] at h; cases h)), Lib.hid (h.to (hba _ _)), Lib.hid ((R2.out.only (k1 _ _) (by omega)).to (hba _ _)), Lib.hid (own_below ((k1 _ _).own OW.out (by omega)) (hba _ _)), bel_alloc ((k1 _ _).to hbe (Nat.le_refl _)) _, by simp; omega⟩
        case measure => simp [intOf]; omega
      · have hbo := IS.out.st.ok.ok b (List.mem_of_getElem? HBS.out)
        have hbl := IS.out.st.ln b (List.mem_of_getElem? HBS.out)
        have HBO := Lib.hid (hbo.to hbe)
        have HBL := Lib.hid hbl
        clear hbo hbl
        go_upto_region 7 with fail
        obtain ⟨wa, hwa⟩ : ∃ w_q_, w_q_ = wr.alloc (.cells #[.int .i64 0, .slice none 0 0] 30) := ⟨_, rfl⟩
        rw [← hwa]
        have hba : Below wr.heap.size wr wa := by rw [hwa]; exact bel_alloc (Below.refl _ _) _
        have hza : wr.heap.size + 1 ≤ wa.heap.size := by rw [hwa]; simp
        have RX := Lib.hid (show RowAt wa wr.heap.size 30 [.int .i64 0, .slice none 0 0] from hwa ▸ RowAt.new wr _ _)
        replace c0 := (hba.cell (p := ⟨w.heap.size, 15 + k * 2, none⟩) hz0).trans c0
        replace c1_ := (hba.cell (p := ⟨w.heap.size, 15 + k * 2 + 1, none⟩) hz0).trans c1_
        have HBA := Lib.hid hba
        clear hwa hba f0 f1
        refine wp_region_held_drew (S := (fun w' => w'.cell? ⟨w.heap.size, 15 + k * 2, none⟩ = some (.int .i64 b.a) ∧ w'.cell? ⟨w.heap.size, 15 + k * 2 + 1, none⟩ = some (.slice b.A b.ws.length b.c))) (by kernel_rfl) ?_ (fun hHeld => ?_)
        · exact ⟨c0, c1_⟩
        refine takeD (i := 0) (oi := _) (v := ?vv53) (d := some 19) rfl (by kernel_rfl) (by kernel_rfl) (by kernel_rfl) (by kernel_rfl) (fun _ _ _ h => h) (Or.inl ⟨by kernel_rfl, ?_⟩) (by assumption) ?_
        rotate_left 1
        · intro W_ hSw; (try dsimp only at hSw); go_simp; (first | done | with_reducible rfl)
        try simp only [Act.put, List.setIfInBounds_toArray, List.set_cons_zero, List.set_cons_succ]
        refine takeD (i := 1) (oi := _) (v := ?vv54) (d := some 20) rfl (by kernel_rfl) (by kernel_rfl) (by kernel_rfl) (by kernel_rfl) (fun _ _ _ h => h) (Or.inl ⟨by kernel_rfl, ?_⟩) (by assumption) ?_
        rotate_left 1
        · intro W_ hSw; (try dsimp only at hSw); go_simp; (first | done | with_reducible rfl)
        try simp only [Act.put, List.setIfInBounds_toArray, List.set_cons_zero, List.set_cons_succ]
        refine takeD (i := 2) (oi := _) (v := ?vv55) (d := some 21) rfl (by kernel_rfl) (by kernel_rfl) (by kernel_rfl) (by kernel_rfl) (fun _ _ _ h => h) (Or.inl ⟨by kernel_rfl, ?_⟩) (by assumption) ?_
        rotate_left 1
        · intro W_ hSw; (try dsimp only at hSw); go_simp; (first | done | with_reducible rfl)
        try simp only [Act.put, List.setIfInBounds_toArray, List.set_cons_zero, List.set_cons_succ]
        refine takeD (i := 3) (oi := _) (v := ?vv56) (d := some 22) rfl (by kernel_rfl) (by kernel_rfl) (by kernel_rfl) (by kernel_rfl) (fun _ _ _ h => h) (Or.inl ⟨by kernel_rfl, ?_⟩) (by assumption) ?_
        rotate_left 1
        · intro W_ hSw; (try dsimp only at hSw); go_simp; (first | done | with_reducible rfl)
        try simp only [Act.put, List.setIfInBounds_toArray, List.set_cons_zero, List.set_cons_succ]
        refine takeD (i := 4) (oi := _) (v := ?vv57) (d := some 23) rfl (by kernel_rfl) (by kernel_rfl) (by kernel_rfl) (by kernel_rfl) (fun _ _ _ h => h) (Or.inl ⟨by kernel_rfl, ?_⟩) (by assumption) ?_
        rotate_left 1
        · intro W_ hSw; (try dsimp only at hSw); go_simp; (first | done | with_reducible rfl)
        try simp only [Act.put, List.setIfInBounds_toArray, List.set_cons_zero, List.set_cons_succ]
        refine takeD (i := 5) (oi := _) (v := ?vv58) (d := some 24) rfl (by kernel_rfl) (by kernel_rfl) (by kernel_rfl) (by kernel_rfl) (fun _ _ _ h => h) (Or.inl ⟨by kernel_rfl, ?_⟩) (by assumption) ?_
        rotate_left 1
        · intro W_ hSw; (try dsimp only at hSw); go_simp; (first | done | with_reducible rfl)
        try simp only [Act.put, List.setIfInBounds_toArray, List.set_cons_zero, List.set_cons_succ]
        refine takeD (i := 6) (oi := _) (v := ?vv59) (d := some 25) rfl (by kernel_rfl) (by kernel_rfl) (by kernel_rfl) (by kernel_rfl) (fun _ _ _ h => h) (Or.inl ⟨by kernel_rfl, ?_⟩) (by assumption) ?_
        rotate_left 1
        · intro W_ hSw; (try dsimp only at hSw); go_simp; (first | done | with_reducible rfl)
        try simp only [Act.put, List.setIfInBounds_toArray, List.set_cons_zero, List.set_cons_succ]
        refine takeD (i := 7) (oi := _) (v := ?vv60) (d := some 26) rfl (by kernel_rfl) (by kernel_rfl) (by kernel_rfl) (by kernel_rfl) (fun _ _ _ h => h) (Or.inl ⟨by kernel_rfl, ?_⟩) (by assumption) ?_
        rotate_left 1
        · intro W_ hSw; (try dsimp only at hSw); go_simp; (first | done | with_reducible rfl)
        try simp only [Act.put, List.setIfInBounds_toArray, List.set_cons_zero, List.set_cons_succ]
        refine takeD (i := 8) (oi := _) (v := ?vv61) (d := some 27) rfl (by kernel_rfl) (by kernel_rfl) (by kernel_rfl) (by kernel_rfl) (fun _ _ _ h => h) (Or.inl ⟨by kernel_rfl, ?_⟩) (by assumption) ?_
        rotate_left 1
        · intro W_ hSw; (try dsimp only at hSw); go_simp; (first | done | with_reducible rfl)
        try simp only [Act.put, List.setIfInBounds_toArray, List.set_cons_zero, List.set_cons_succ]
        refine takeD (i := 9) (oi := _) (v := ?vv62) (d := some 28) rfl (by kernel_rfl) (by kernel_rfl) (by kernel_rfl) (by kernel_rfl) (fun _ _ _ h => h) (Or.inl ⟨by kernel_rfl, ?_⟩) (by assumption) ?_
        rotate_left 1
        · intro W_ hSw; (try dsimp only at hSw); go_simp; (first | done | with_reducible rfl)
        try simp only [Act.put, List.setIfInBounds_toArray, List.set_cons_zero, List.set_cons_succ]
        refine takeD (i := 10) (oi := _) (v := ?vv63) (d := some 29) rfl (by kernel_rfl) (by kernel_rfl) (by kernel_rfl) (by kernel_rfl) (fun _ _ _ h => h) (Or.inl ⟨by kernel_rfl, ?_⟩) (by assumption) ?_
        rotate_left 1
        · intro W_ hSw; (try dsimp only at hSw); go_simp; (first | done | with_reducible rfl)
        try simp only [Act.put, List.setIfInBounds_toArray, List.set_cons_zero, List.set_cons_succ]
        refine takeD (i := 11) (oi := _) (v := ?vv64) (d := some 30) rfl (by kernel_rfl) (by kernel_rfl) (by kernel_rfl) (by kernel_rfl) (fun _ _ _ h => h) (Or.inl ⟨by kernel_rfl, ?_⟩) (by assumption) ?_
        rotate_left 1
        · intro W_ hSw; (try dsimp only at hSw); go_simp; (first | done | with_reducible rfl)
        try simp only [Act.put, List.setIfInBounds_toArray, List.set_cons_zero, List.set_cons_succ]
        refine takeD (i := 13) (oi := _) (v := ?vv65) (d := some 32) rfl (by kernel_rfl) (by kernel_rfl) (by kernel_rfl) (by kernel_rfl) (fun _ _ _ h => h) (Or.inl ⟨by kernel_rfl, ?_⟩) (by assumption) ?_
        rotate_left 1
        · intro W_ hSw; (try dsimp only at hSw); go_simp; (first | done | with_reducible rfl)
        try simp only [Act.put, List.setIfInBounds_toArray, List.set_cons_zero, List.set_cons_succ]
        refine wpAnyH_ready (rs := [12]) (by kernel_rfl) (by simp) ?_
        refine AllReadyH.cons (o := _) rfl (fun K hK => ?_) AllReadyH.nil
        go_simp
        (go_at_call 50; (with_reducible refine (kb.out _ b (HBO.out.to (HBA.out.drew)) HBL.out).mono ?_); rintro e4 w4 ⟨A4, c4, rfl, o4, hb4⟩; have hb4a : Below wa.heap.size wa w4 := (Below.refl _ _).drew.trans (hb4.mono (Nat.le_refl _)); have HB4 := Lib.hid hb4a; have O4 := Lib.hid (own_more o4 (show wa.heap.size ≤ _ from Nat.le_refl _)); have q0 := (hb4a.cell (p := ⟨w.heap.size, 15 + k * 2, none⟩) (show w.heap.size < wa.heap.size by omega)).trans c0; have q1 := (hb4a.cell (p := ⟨w.heap.size, 15 + k * 2 + 1, none⟩) (show w.heap.size < wa.heap.size by omega)).trans c1_; have RX4 := Lib.hid (RX.out.to hb4a); have e0 : w4.cell? ⟨wr.heap.size, 0, none⟩ = some (.int .i64 0) := RX4.out.cell rfl; have e1 : w4.cell? ⟨wr.heap.size, 1, none⟩ = some (.slice none 0 0) := RX4.out.cell rfl; have z0 := RX4.out.frozen 0; have z1 := RX4.out.frozen 1; clear hb4 hb4a o4)
        go_wp2_with fail
        refine hK.out _ _ ?_ (fun hHeld => ?_)
        · exact ⟨q0, q1⟩
        clear hK K
        try simp only [Act.put, List.setIfInBounds_toArray, List.set_cons_zero, List.set_cons_succ]
        refine wpAnyH_ready (rs := [14]) (by kernel_rfl) (by simp) ?_
        refine AllReadyH.cons (o := _) rfl (fun K hK => ?_) AllReadyH.nil
        go_simp
        refine hK.out _ _ ?_ (fun hHeld => ?_)
        · exact ⟨keep_block (by omega) q0, keep_block (by omega) q1⟩
        clear hK K
        try simp only [Act.put]
        try simp only [List.setIfInBounds_toArray]
        try simp only [List.set_cons_succ]
        try simp only [List.set_cons_zero]
        refine takeD (i := 15) (oi := _) (v := ?vv66) (d := some 33) rfl (by kernel_rfl) (by kernel_rfl) (by kernel_rfl) (by kernel_rfl) (fun _ _ _ h => h) (Or.inl ⟨by kernel_rfl, ?_⟩) (by assumption) ?_
        rotate_left 1
        · intro W_ hSw; (try dsimp only at hSw); go_simp; (first | done | with_reducible rfl)
        try simp only [Act.put, List.setIfInBounds_toArray, List.set_cons_zero, List.set_cons_succ]
        refine wpAnyH_ready (rs := [16]) (by kernel_rfl) (by simp) ?_
        refine AllReadyH.cons (o := _) rfl (fun K hK => ?_) AllReadyH.nil
        go_simp
        refine hK.out _ _ ?_ (fun hHeld => ?_)
        · exact ⟨keep_block (by omega) (keep_block (by omega) q0), keep_block (by omega) (keep_block (by omega) q1)⟩
        clear hK K
        try simp only [Act.put]
        try simp only [List.setIfInBounds_toArray]
        try simp only [List.set_cons_succ]
        try simp only [List.set_cons_zero]
        refine wpAnyH_done (by kernel_rfl) ?_ _
        obtain ⟨w5, hw5⟩ : ∃ w_q_, w_q_ = (w4.setCell ⟨wr.heap.size, 0, none⟩ (.int .i64 b.a)).setCell ⟨wr.heap.size, 1, none⟩ (.slice A4 b.ws.length c4) := ⟨_, rfl⟩
        rw [← hw5]
        have k5 : Only wr.heap.size w4 w5 := by rw [hw5]; exact ((Only.refl _ _).set _).set _
        have rx5 : RowAt w5 wr.heap.size 30 [.int .i64 b.a, .slice A4 b.ws.length c4] := by rw [hw5]; exact (RX4.out.set 0 _).set 1 _
        have h45 : Below wr.heap.size wr w5 := HBA.out.trans ((HB4.out.mono (by omega)).trans (k5.below (Nat.le_refl _)))
        have x0 : w5.cell? ⟨wr.heap.size, 0, none⟩ = some (.int .i64 b.a) := rx5.cell rfl
        have x1 : w5.cell? ⟨wr.heap.size, 1, none⟩ = some (.slice A4 b.ws.length c4) := rx5.cell rfl
        have R15 := Lib.hid (R1.out.to h45)
        have R25 := Lib.hid (R2.out.to h45)
        have OA5 := Lib.hid (OA.out.to h45)
        have OW5 := Lib.hid (own_below OW.out h45)
        have BE5 := Lib.hid (hbe.trans (h45.mono (by omega)))
        have o5 : w5.ownsRow wa.heap.size 24 1 (.slice A4 b.ws.length c4) b.ws.length (b.ws.map u16w) := k5.own O4.out (by omega)
        have hob : (Blk.mk b.a b.ws A4 c4).Ok w5 w5.heap.size := Blk.Ok.of_own rfl o5 HBO.out.u HBO.out.lo HBO.out.hi
        have hnew : ∀ p, A4 = some p → w.heap.size + 2 ≤ p.block := fun p hp => by have := (o5.lt p.block (by rw [hp]; rfl)).1; omega
        have HOB := Lib.hid hob
        have HNEW := Lib.hid hnew
        have hz5 := h45.size
        have y0 := (k5.cell (p := ⟨w.heap.size, 15 + k * 2, none⟩) (show w.heap.size ≠ wr.heap.size by omega)).trans q0
        have y1 := (k5.cell (p := ⟨w.heap.size, 15 + k * 2 + 1, none⟩) (show w.heap.size ≠ wr.heap.size by omega)).trans q1
        have g0 := R15.out.frozen (15 + k * 2)
        have g1 := R15.out.frozen (15 + k * 2 + 1)
        clear hw5 k5 rx5 h45 c0 c1_ q0 q1 e0 e1 z0 z1 RX4 RX HBA HB4 O4 o5 hob hnew
        go_wp2
        go_roundw
        case rel =>
          have k1 : ∀ v u, Only w.heap.size w5 ((w5.setCell ⟨w.heap.size, 15 + k * 2, none⟩ u).setCell ⟨w.heap.size, 15 + k * 2 + 1, none⟩ v) := fun v u => ((Only.refl _ _).set u).set v
          have h := (R15.out.set (15 + k * 2) (.int .i64 b.a)).set (15 + k * 2 + 1) (.slice A4 b.ws.length c4)
          rw [agC_blk_set (s := ⟨s.tx, s.hs, bs⟩) ⟨b.a, b.ws, A4, c4⟩ hlh OA.out.len hlt] at h
          exact ⟨k + 1, bs.set k ⟨b.a, b.ws, A4, c4⟩, by omega, by go_num, Lib.hid ((OA5.out.step ⟨b.a, b.ws, A4, c4⟩ hlt HOB.out HNEW.out HBL.out (fun _ => by rw [List.getD_eq_getElem?_getD, prs_get HBS.out]; rfl)).only (k1 _ _) (by omega)), Lib.hid h, Lib.hid (R25.out.only (k1 _ _) (by omega)), Lib.hid ((k1 _ _).own OW5.out (by omega)), (k1 _ _).to BE5.out (Nat.le_refl _), by simp; omega⟩
        case measure => simp [intOf]; omega
    · obtain rfl : k = 8 := by omega
      have hC : (agC A1 c1 ⟨s.tx, s.hs, bs⟩ g).length = 32 := agL_length (Stv.C_length hlh OA.out.len)
      have HC := Lib.hid hC
      have hfin := OA.out.is IS.out.st
      have HFIN := Lib.hid hfin
      clear hC hfin
      go_wp2_with (first | (refine wpList_load_var rfl 35 (.tmp 1) rfl w.heap.size rfl _ _ 32 R1.out Try.underlying35 rfl size_32 HC.out ?_) | (refine wpList_store_var rfl 35 (.tmp 2) (.tmp 40) rfl (w.heap.size + 1) _ (agC A1 c1 ⟨s.tx, s.hs, bs⟩ g) 32 rfl rfl R2.out size_32 rfl HC.out (agC_one _) ?_; intro w6 r2 k6; have R26 := Lib.hid r2; have K6 := Lib.hid k6; clear r2 k6))
      have hag := (IS.out.of_own (K6.out.own OW.out (by omega)) (HFIN.out.only K6.out (by omega))).more (base' := w.heap.size) (by omega)
      exact bodyPost_ret (results_cell_row rfl _ _ (w.heap.size + 1) 35 (agC A1 c1 ⟨s.tx, s.hs, bs⟩ g).toArray (0, 0) _ rfl R26.out Try.underlying35 rfl (by rw [size_32, List.size_toArray, HC.out])) rfl ⟨A1, c1, _, rfl, hag, K6.out.to hbe (by omega)⟩
end Go.Proofs.Ytajbghjjpebndaa
namespace Go.Proofs.Ytajbghjjpebndaa
set_option maxRecDepth 100000
open Go.RowKit
set_option linter.unusedVariables false
attribute [local go_sem] Later.cell Later.frozen


theorem lease_fld0 (a b : Value) (w : World) : (Instr.field 26 (.agg #[a, b]) 0).run Try.prog w = .ok a w := by kernel_rfl
theorem lease_fld1 (a b : Value) (w : World) : (Instr.field 26 (.agg #[a, b]) 1).run Try.prog w = .ok b w := by kernel_rfl

theorem held_any (o : Nat) (w : World) (h : o < 65536) :
    Calls Try.prog 95 #[.int .u16 (o : Int)] w fun e w' => e = .returned (.agg #[.int .u16 (o : Int), .int .i64 (-1)]) ∧ Below w.heap.size w w' := by
  go_enter Try.func95, Try.ntmps95
  go_wp2
  refine bodyPost_ret (v := .agg #[.int .u16 (o : Int), .int .i64 (-1)]) (by simp [results, Try.results95, go_sem, *]) rfl ⟨rfl, (by repeat (first | with_reducible exact Below.refl _ _ | with_reducible refine bel_later _ ?_ | with_reducible refine bel_alloc ?_ _ | refine bel_set ?_ (by first | omega | (simp; done) | (simp; omega)) _ | with_reducible refine Below.drew ?_ | with_reducible refine bel_drewN ?_ _ | with_reducible assumption | assumption))⟩

theorem right_any (x : Ls.L) (w : World) (hf : Ls.fit x) :
    Calls Try.prog 101 #[.agg #[.int .u16 (x.o : Int), .int .i64 x.l]] w fun e w' => e = .returned (.bool (Ls.right x)) ∧ Below w.heap.size w w' := by
  obtain ⟨o, l⟩ := x
  obtain ⟨h1, h2, h3⟩ := hf
  simp only at h1 h2 h3
  by_cases ho : o = 0
  · subst ho
    by_cases hl : l = 0
    · subst hl
      go_enter Try.func101, Try.ntmps101
      go_wp2
      go_ret
      exact ⟨rfl, (by repeat (first | with_reducible exact Below.refl _ _ | with_reducible refine bel_later _ ?_ | with_reducible refine bel_alloc ?_ _ | refine bel_set ?_ (by first | omega | (simp; done) | (simp; omega)) _ | with_reducible refine Below.drew ?_ | with_reducible refine bel_drewN ?_ _ | with_reducible assumption | assumption))⟩
    · rw [Ls.right_not_free rfl hl]
      go_enter Try.func101, Try.ntmps101
      go_wp2
      go_ret
      exact ⟨rfl, (by repeat (first | with_reducible exact Below.refl _ _ | with_reducible refine bel_later _ ?_ | with_reducible refine bel_alloc ?_ _ | refine bel_set ?_ (by first | omega | (simp; done) | (simp; omega)) _ | with_reducible refine Below.drew ?_ | with_reducible refine bel_drewN ?_ _ | with_reducible assumption | assumption))⟩
  have h0 : ((o : Int) == 0) = false := beq_eq_false_iff_ne.2 (by omega)
  by_cases hl : 1 ≤ l
  · rw [Ls.right_of_runs ho hl]
    go_enter Try.func101, Try.ntmps101
    go_wp2
    refine wp_region_lat (by kernel_rfl) (by kernel_rfl) ?_
    repeat (go_big_quiet_step (fail))
    refine wpQuiet_nil ?_
    rintro _ ⟨x, rfl⟩
    have hz_x := x.bel.size
    try simp at hz_x
    go_wp2
    go_ret
    exact ⟨rfl, (by repeat (first | with_reducible exact Below.refl _ _ | with_reducible refine bel_later _ ?_ | with_reducible refine bel_alloc ?_ _ | refine bel_set ?_ (by first | omega | (simp; done) | (simp; omega)) _ | with_reducible refine Below.drew ?_ | with_reducible refine bel_drewN ?_ _ | with_reducible assumption | assumption))⟩
  have hl1 : decide (1 ≤ l) = false := by simp; omega
  by_cases hm : l = -1
  · subst hm
    rw [Ls.right_of_held ho rfl]
    go_enter Try.func101, Try.ntmps101
    go_wp2
    refine wp_region_lat (by kernel_rfl) (by kernel_rfl) ?_
    repeat (go_big_quiet_step (fail))
    go_big_quiet_step (exact later_new (held_any _ _ h1))
    repeat (go_big_quiet_step (fail))
    refine wpQuiet_nil ?_
    rintro _ ⟨x, rfl⟩
    have hz_x := x.bel.size
    try simp at hz_x
    go_wp2
    go_ret
    exact ⟨rfl, (by repeat (first | with_reducible exact Below.refl _ _ | with_reducible refine bel_later _ ?_ | with_reducible refine bel_alloc ?_ _ | refine bel_set ?_ (by first | omega | (simp; done) | (simp; omega)) _ | with_reducible refine Below.drew ?_ | with_reducible refine bel_drewN ?_ _ | with_reducible assumption | assumption))⟩
  · rw [Ls.right_not ho (by simp only; omega) hm]
    go_enter Try.func101, Try.ntmps101
    go_wp2
    refine wp_region_lat (by kernel_rfl) (by kernel_rfl) ?_
    repeat (go_big_quiet_step (fail))
    go_big_quiet_step (exact later_new (held_any _ _ h1))
    repeat (go_big_quiet_step (fail))
    refine wpQuiet_nil ?_
    rintro _ ⟨x, rfl⟩
    have hz_x := x.bel.size
    try simp at hz_x
    go_wp2
    go_ret
    exact ⟨rfl, (by repeat (first | with_reducible exact Below.refl _ _ | with_reducible refine bel_later _ ?_ | with_reducible refine bel_alloc ?_ _ | refine bel_set ?_ (by first | omega | (simp; done) | (simp; omega)) _ | with_reducible refine Below.drew ?_ | with_reducible refine bel_drewN ?_ _ | with_reducible assumption | assumption))⟩

theorem counted_any (x c : Ls.L) (w : World) (hf : Ls.fit x) (hc : Ls.counted x = c) :
    Calls Try.prog 78 #[.agg #[.int .u16 (x.o : Int), .int .i64 x.l]] w fun e w' => e = .returned (.agg #[.int .u16 (c.o : Int), .int .i64 c.l]) ∧ Below w.heap.size w w' := by
  have hr := fun w => right_any x w hf
  subst hc
  by_cases h : Ls.right x = true
  · rw [h] at hr
    rw [Ls.counted_of_right h]
    have kr := Lib.hid hr
    clear hr h
    go_enter Try.func78, Try.ntmps78
    go_wp2_with fail
    refine (kr.out _).mono ?_
    rintro e_x1 w_x1 ⟨rfl, hb_x1⟩
    obtain ⟨x1, rfl⟩ := later_is hb_x1
    clear hb_x1
    have hz_x1 := x1.bel.size
    try simp at hz_x1
    go_wp2
    refine bodyPost_ret (v := .agg #[.int .u16 (x.o : Int), .int .i64 x.l]) (by simp [results, Try.results78, go_sem, *]) rfl ⟨rfl, (by repeat (first | with_reducible exact Below.refl _ _ | with_reducible refine bel_later _ ?_ | with_reducible refine bel_alloc ?_ _ | refine bel_set ?_ (by first | omega | (simp; done) | (simp; omega)) _ | with_reducible refine Below.drew ?_ | with_reducible refine bel_drewN ?_ _ | with_reducible assumption | assumption))⟩
  · have h' : Ls.right x = false := by simpa using h
    rw [h'] at hr
    rw [Ls.counted_not h']
    have kr := Lib.hid hr
    clear hr h h'
    go_enter Try.func78, Try.ntmps78
    go_wp2_with fail
    refine (kr.out _).mono ?_
    rintro e_x1 w_x1 ⟨rfl, hb_x1⟩
    obtain ⟨x1, rfl⟩ := later_is hb_x1
    clear hb_x1
    have hz_x1 := x1.bel.size
    try simp at hz_x1
    go_wp2
    refine bodyPost_ret (v := .agg #[.int .u16 (0 : Int), .int .i64 0]) (by simp [results, Try.results78, go_sem, *]) rfl ⟨rfl, (by repeat (first | with_reducible exact Below.refl _ _ | with_reducible refine bel_later _ ?_ | with_reducible refine bel_alloc ?_ _ | refine bel_set ?_ (by first | omega | (simp; done) | (simp; omega)) _ | with_reducible refine Below.drew ?_ | with_reducible refine bel_drewN ?_ _ | with_reducible assumption | assumption))⟩

theorem free_any (x : Ls.L) (w : World) (hf : Ls.fit x) :
    Calls Try.prog 45 #[.agg #[.int .u16 (x.o : Int), .int .i64 x.l]] w fun e w' => e = .returned (.bool (Ls.free x)) ∧ Below w.heap.size w w' := by
  obtain ⟨c, hc⟩ : ∃ c, Ls.counted x = c := ⟨_, rfl⟩
  have kc := Lib.hid (fun w => counted_any x c w hf hc)
  have hr := Ls.right_counted x
  have hfr : Ls.free x = decide (c.o = 0) := by rw [← hc]; rfl
  rw [hfr]
  rw [hc] at hr
  obtain ⟨o, l⟩ := c
  clear hc hfr
  rcases Ls.right_cases hr with ⟨h1, h2⟩ | ⟨h1, h2⟩ | ⟨h1, h2⟩ <;> simp only at h1 h2 <;> clear hr
  · subst h1 h2
    go_enter Try.func45, Try.ntmps45
    go_wp2_with fail
    refine (kc.out _).mono ?_
    rintro e_x1 w_x1 ⟨rfl, hb_x1⟩
    obtain ⟨x1, rfl⟩ := later_is hb_x1
    clear hb_x1
    have hz_x1 := x1.bel.size
    try simp at hz_x1
    go_wp2
    go_ret
    exact ⟨rfl, (by repeat (first | with_reducible exact Below.refl _ _ | with_reducible refine bel_later _ ?_ | with_reducible refine bel_alloc ?_ _ | refine bel_set ?_ (by first | omega | (simp; done) | (simp; omega)) _ | with_reducible refine Below.drew ?_ | with_reducible refine bel_drewN ?_ _ | with_reducible assumption | assumption))⟩
  all_goals
    have h0 : decide (o = 0) = false := by simpa using h1
    simp only [h0]
    have h3 : ¬ (o : Int) = 0 := by omega
    clear h0
    go_enter Try.func45, Try.ntmps45
    go_wp2_with fail
    refine (kc.out _).mono ?_
    rintro e_x1 w_x1 ⟨rfl, hb_x1⟩
    obtain ⟨x1, rfl⟩ := later_is hb_x1
    clear hb_x1
    have hz_x1 := x1.bel.size
    try simp at hz_x1
    go_wp2
    go_ret
    exact ⟨rfl, (by repeat (first | with_reducible exact Below.refl _ _ | with_reducible refine bel_later _ ?_ | with_reducible refine bel_alloc ?_ _ | refine bel_set ?_ (by first | omega | (simp; done) | (simp; omega)) _ | with_reducible refine Below.drew ?_ | with_reducible refine bel_drewN ?_ _ | with_reducible assumption | assumption))⟩

end Go.Proofs.Ytajbghjjpebndaa
