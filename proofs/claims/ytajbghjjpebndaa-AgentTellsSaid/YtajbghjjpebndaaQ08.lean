/- The examples of chapter 19 (awake). Stages by value, and in a variable. The walk of stage.Sum. -/
import Derived.Test.YtajbghjjpebndaaQ07
import Derived.Test.YtajbghjjpebndaaQ06
import Derived.Test.YtajbghjjpebndaaQ01
import Derived.Test.YtajbghjjpebndaaQ05
namespace Go.Proofs.Ytajbghjjpebndaa
set_option maxRecDepth 100000
open Go.RowKit
set_option linter.unusedVariables false
attribute [local go_sem] Later.cell Later.frozen setCell_twice
/-- what Read hands back, by numbers -/
def ReadV (w : World) (O T N Aa E : Int) (ws : List Nat) (m : Nat) (en : Ending) (w' : World) : Prop :=
  ∃ A c, en = .returned (.tuple #[.int .u16 O, .int .u32 T, .int .i64 N, .agg #[.int .i64 Aa, .slice A m c], .int .i64 E]) ∧ w'.ownsRow w.heap.size 24 1 (.slice A m c) m (ws.map u16w) ∧ Below w.heap.size w w'
/-- the words of a row of the call's own, one of them another one -/
theorem own_set {w : World} {base g i x : Nat} {n c : Nat} {l : List Nat} (h : w.ownsRow base 24 1 (.slice (some ⟨g, 0, none⟩) n c) n (l.map u16w)) : (w.setCell ⟨g, i, none⟩ (.int .u16 (x : Int))).ownsRow base 24 1 (.slice (some ⟨g, 0, none⟩) n c) n ((l.set i x).map u16w) := by
  have h1 := (h.stored i (.int .u16 (x : Int))).1
  rw [List.map_set]
  simpa using h1
def wantL : List Nat := [9, 1, 2, 1, 3, 2, 5, 6, 0, 0, 0, 0, 0, 0, 0, 0, 0, 0, 0, 0]
end Go.Proofs.Ytajbghjjpebndaa
namespace Go.Proofs.Ytajbghjjpebndaa
set_option maxRecDepth 100000
open Go.RowKit
set_option linter.unusedVariables false
attribute [local go_sem] Later.cell Later.frozen setCell_twice
theorem index_have (cs : List Value) (k : Nat) (v : Value) (hk : k < 8) (hv : cs[k]? = some v) (w : World) :
    (Instr.index 28 (.agg cs.toArray) (.int .i64 (k : Int))).run Try.prog w = .ok v w := by
  have h1 : (0 : Int) ≤ (k : Int) ∧ (k : Int) < 8 := by omega
  have hs : (sizeOf 4).run Try.prog w = .ok 1 w := by kernel_rfl
  simp [Instr.index, run_underlying Try.underlying28, asIntOf, h1, Sem.run_bind, hs, part, hv, go_sem]
  intro h; omega
structure Stv where
  tx : Nat
  hs : List Bool
  bs : List Blk
def Stv.C (s : Stv) : List Value := .int .u32 (s.tx : Int) :: (s.hs.map Value.bool ++ s.bs.flatMap Blk.cells)
structure Stv.Ok (w : World) (B : Nat) (s : Stv) : Prop where
  lh : s.hs.length = 8
  lb : s.bs.length = 8
  tx : s.tx < 4294967296
  ok : ∀ b ∈ s.bs, b.Ok w B
section
variable {w w' : World} {B B' : Nat} {s : Stv}
theorem Stv.Ok.below (h : s.Ok w B) (k : Below B w w') : s.Ok w' B := ⟨h.lh, h.lb, h.tx, fun b hb => (h.ok b hb).below k⟩
theorem Stv.Ok.more (h : s.Ok w B) (hB : B ≤ B') : s.Ok w B' := ⟨h.lh, h.lb, h.tx, fun b hb => (h.ok b hb).more hB⟩
theorem Stv.Ok.to (h : s.Ok w w.heap.size) (k : Below w.heap.size w w') : s.Ok w' w'.heap.size := (h.below k).more k.size
end
theorem flat_length (l : List Blk) : (l.flatMap Blk.cells).length = l.length * 2 := by
  induction l with
  | nil => rfl
  | cons b l ih => simp only [List.flatMap_cons, List.length_append, ih, List.length_cons, List.length_nil]; omega
theorem flat_get {l : List Blk} {k : Nat} {b : Blk} (h : l[k]? = some b) : (l.flatMap Blk.cells)[k * 2]? = some (.int .i64 b.a) ∧ (l.flatMap Blk.cells)[k * 2 + 1]? = some (.slice b.A b.ws.length b.c) := by
  induction l generalizing k with
  | nil => cases h
  | cons x l ih =>
    cases k with
    | zero =>
      obtain rfl : x = b := by simpa using h
      exact ⟨rfl, rfl⟩
    | succ k =>
      have := ih (by simpa using h)
      simp only [List.flatMap_cons, show (k + 1) * 2 = k * 2 + 2 by omega, show k * 2 + 2 + 1 = (k * 2 + 1) + 2 by omega]
      exact this
theorem flat_set {l : List Blk} {k : Nat} (b : Blk) (h : k < l.length) : ((l.flatMap Blk.cells).set (k * 2) (.int .i64 b.a)).set (k * 2 + 1) (.slice b.A b.ws.length b.c) = (l.set k b).flatMap Blk.cells := by
  induction l generalizing k with
  | nil => cases h
  | cons x l ih =>
    cases k with
    | zero => rfl
    | succ k =>
      have := ih (k := k) (by simpa using h)
      simp only [List.flatMap_cons, List.set_cons_succ, show (k + 1) * 2 = k * 2 + 2 by omega, show k * 2 + 2 + 1 = (k * 2 + 1) + 2 by omega]
      rw [← this]
      rfl
theorem Stv.C_length {s : Stv} (h1 : s.hs.length = 8) (h2 : s.bs.length = 8) : s.C.length = 25 := by
  simp only [Stv.C, List.length_cons, List.length_append, List.length_map, flat_length]; omega
theorem Stv.C_tx (s : Stv) : s.C[0]? = some (.int .u32 (s.tx : Int)) := rfl
theorem Stv.C_have {s : Stv} {k : Nat} {x : Bool} (h : s.hs[k]? = some x) : s.C[1 + k]? = some (.bool x) := by
  have hk : k < s.hs.length := (List.getElem?_eq_some_iff.1 h).1
  rw [Nat.add_comm]
  show (s.hs.map Value.bool ++ s.bs.flatMap Blk.cells)[k]? = _
  rw [List.getElem?_append_left (by simpa using hk), List.getElem?_map, h]; rfl
theorem Stv.C_block {s : Stv} (h1 : s.hs.length = 8) {k : Nat} {b : Blk} (h : s.bs[k]? = some b) : s.C[9 + k * 2]? = some (.int .i64 b.a) ∧ s.C[9 + k * 2 + 1]? = some (.slice b.A b.ws.length b.c) := by
  have hf := flat_get h
  have e : ∀ j, s.C[9 + j]? = (s.bs.flatMap Blk.cells)[j]? := fun j => by
    rw [show 9 + j = (8 + j) + 1 by omega]
    show (s.hs.map Value.bool ++ s.bs.flatMap Blk.cells)[8 + j]? = _
    rw [List.getElem?_append_right (by simp; omega)]
    congr 1
    simp; omega
  exact ⟨(e _).trans hf.1, (e _).trans hf.2⟩
theorem Stv.C_haves {s : Stv} (h1 : s.hs.length = 8) : (s.C.drop 1).take 8 = s.hs.map Value.bool := by
  show (s.hs.map Value.bool ++ s.bs.flatMap Blk.cells).take 8 = _
  rw [List.take_append_of_le_length (by simp; omega), List.take_of_length_le (by simp; omega)]
theorem Stv.C_one (s : Stv) : ∀ v ∈ s.C, v.oneCell' = true := by
  intro v hv
  simp only [Stv.C, List.mem_cons, List.mem_append, List.mem_map, List.mem_flatMap] at hv
  rcases hv with rfl | ⟨x, _, rfl⟩ | ⟨b, _, hb⟩
  · rfl
  · rfl
  · have hb' : v = .int .i64 b.a ∨ v = .slice b.A b.ws.length b.c := by simpa using hb
    rcases hb' with rfl | rfl <;> rfl
/-- the blocks that are there -/
def there (hs : List Bool) (ps : List Bk.Pr) (n : Nat) : List Bk.Pr := ((List.range n).filter fun k => hs.getD k false).map fun k => ps.getD k (0, [])
theorem there_succ (hs : List Bool) (ps : List Bk.Pr) (n : Nat) : there hs ps (n + 1) = if hs.getD n false = true then there hs ps n ++ [ps.getD n (0, [])] else there hs ps n := by
  unfold there
  have e1 : List.filter (fun k => hs.getD k false) [n] = if hs.getD n false = true then [n] else [] := by
    simp only [List.filter]
    cases hs.getD n false <;> rfl
  rw [List.range_succ, List.filter_append, e1]
  split
  · rw [List.map_append]; rfl
  · rw [List.append_nil]
theorem there_length (hs : List Bool) (ps : List Bk.Pr) (n : Nat) : (there hs ps n).length ≤ n := by
  have := List.length_filter_le (fun k => hs.getD k false) (List.range n)
  simpa [there] using this
def Stv.there (s : Stv) : List Bk.Pr := Go.Proofs.Ytajbghjjpebndaa.there s.hs (prs s.bs) 8
theorem lit2 (w : World) (x y : Value) (t : TypeId) : ∀ (j : Nat) (u : Value), [x, y][j]? = some u → (w.alloc (.cells #[x, y] t)).cell? ((⟨w.heap.size, 0, none⟩ : Addr).add j) = some u := by
  intro j u h
  have hadd : (⟨w.heap.size, 0, none⟩ : Addr).add j = ⟨w.heap.size, 0 + j, none⟩ := by unfold Addr.add; split <;> simp_all
  rw [hadd, Nat.zero_add, cell_of_row _ _ _ _ _ _ (heap_alloc_new w _)]
  simpa using h
theorem one2 (b : Int) (A : Option Addr) (n c : Nat) : ∀ u ∈ [Value.int .i64 b, .slice A n c], u.oneCell' = true := by
  intro u hu
  have hb' : u = .int .i64 b ∨ u = .slice A n c := by simpa using hu
  rcases hb' with rfl | rfl <;> rfl
theorem own_form2 {w : World} {base e s n : Nat} {v : Value} {xs : List Value} (h : w.ownsRow base e s v n xs) : ∃ A c, v = .slice A n c ∧ (A = none → c = 0) ∧ n ≤ c ∧ c ≤ 9223372036854775807 := by
  rcases h.2 with ⟨rfl, rfl⟩ | ⟨g, cap, cur, rfl, _, _, hnc, hm, _⟩
  · exact ⟨none, 0, rfl, fun _ => rfl, Nat.le_refl _, by omega⟩
  · exact ⟨some ⟨g, 0, none⟩, cap, rfl, by simp, hnc, by unfold maxLen at hm; omega⟩
/-- an own row of blocks reads as them -/
theorem Recs.of_own2 {w : World} {base e n : Nat} {A : Option Addr} {c : Nat} {l : List Blk} (hn : n = l.length) (h : w.ownsRow base e 2 (.slice A n c) n (l.flatMap Blk.cells)) : Recs Blk.cells 2 w w.heap.size A l := fun hl => by
  subst hn
  have hlen := h.1
  rcases h.2 with ⟨_, h0⟩ | ⟨g, cap, cur, hv, _, hh, hnc, _, hsz, htk⟩
  · omega
  · obtain ⟨rfl, rfl⟩ : A = some ⟨g, 0, none⟩ ∧ c = cap := by simpa using hv
    refine ⟨g, 0, rfl, (Array.getElem?_eq_some_iff.1 hh).1, fun j a hj i v hi => ?_⟩
    have hjl : j < l.length := (List.getElem?_eq_some_iff.1 hj).1
    have key : (l.flatMap Blk.cells)[j * 2 + i]? = some v := by
      have hf := flat_get hj
      match i, hi with
      | 0, hi => rw [Nat.add_zero, hf.1]; simpa using hi
      | 1, hi => rw [hf.2]; simpa using hi
      | i + 2, hi => simp at hi
    rw [Nat.zero_add, cell_of_row _ _ _ _ _ _ hh]
    rw [← htk, List.getElem?_take] at key
    split at key
    · simpa using key
    · cases key
/-- its words do not lie in block g -/
def Blk.Off (g : Option Nat) (b : Blk) : Prop := ∀ p, b.A = some p → some p.block ≠ g
theorem Blk.Ok.grown {w w' : World} {b : Blk} {row : Option Nat} (h : b.Ok w w.heap.size) (hg : w.grownBy w' row) (ho : b.Off row) : b.Ok w' w'.heap.size := by
  refine ⟨fun hn => ?_, h.u, h.lo, h.hi, h.ln, h.cap, h.nl⟩
  obtain ⟨g, o, hA, hb, hc⟩ := h.sq hn
  exact ⟨g, o, hA, Nat.lt_of_lt_of_le hb hg.size, fun j x hx => hg.cell (hc j x hx) (ho ⟨g, o, none⟩ hA)⟩
def Blk.In (L B : Nat) (b : Blk) : Prop := ∀ p, b.A = some p → L ≤ p.block ∧ p.block < B
def Blk.Own (L : Nat) (w : World) (b : Blk) : Prop := w.ownsRow L 24 1 (.slice b.A b.ws.length b.c) b.ws.length (b.ws.map u16w)
theorem own_grown {w w' : World} {B e s n c : Nat} {A : Option Addr} {xs : List Value} {row : Option Nat} (h : w.ownsRow B e s (.slice A n c) n xs) (hg : w.grownBy w' row) (ho : ∀ p, A = some p → some p.block ≠ row) : w'.ownsRow B e s (.slice A n c) n xs := by
  obtain ⟨h1, h2⟩ := h
  refine ⟨h1, ?_⟩
  rcases h2 with h2 | ⟨g, cap, cur, hv, hB, hh, r⟩
  · exact .inl h2
  · have hA : A = some ⟨g, 0, none⟩ := by simp at hv; exact hv.1
    exact .inr ⟨g, cap, cur, hv, hB, (hg.block g (Array.getElem?_eq_some_iff.1 hh).1 (ho _ hA)).trans hh, r⟩
theorem RowAt.grown {w w' : World} {b : Nat} {T : TypeId} {C : List Value} {row : Option Nat} (h : RowAt w b T C) (hg : w.grownBy w' row) (hne : some b ≠ row) : RowAt w' b T C := (hg.block b h.lt hne).trans h
/-- what Blocks hands back -/
def BlocksP (w : World) (l : List Bk.Pr) (e : Ending) (w' : World) : Prop :=
  ∃ A c bl, e = .returned (.slice A (bl : List Blk).length c) ∧ prs bl = l ∧ Blks w' w'.heap.size A bl ∧ bl.length ≤ c ∧ c ≤ 9223372036854775807 ∧ (A = none → c = 0) ∧ Below w.heap.size w w'
def BlocksQ (w : World) (l : List Bk.Pr) (e : Ending) (w' : World) : Prop :=
  ∃ A c bl, e = .returned (.slice A (bl : List Blk).length c) ∧ prs bl = l ∧ Blks w' w'.heap.size A bl ∧ bl.length ≤ c ∧ c ≤ 9223372036854775807 ∧ (A = none → c = 0) ∧ w'.ownsRow w.heap.size 30 2 (.slice A bl.length c) bl.length (bl.flatMap Blk.cells) ∧ (∀ b ∈ bl, b.In w.heap.size w'.heap.size ∧ b.Own w.heap.size w') ∧ Below w.heap.size w w'
theorem BlocksQ.weak {w w' : World} {l : List Bk.Pr} {e : Ending} : BlocksQ w l e w' → BlocksP w l e w' := fun ⟨A, c, bl, h1, h2, h3, h4, h5, h6, _, _, h7⟩ => ⟨A, c, bl, h1, h2, h3, h4, h5, h6, h7⟩
theorem info_block : (Try.prog.info? 30).map (fun i => (i.zero, i.size, i.bytes)) = some (some (.agg #[.int .i64 0, .slice none 0 0]), 2, 32) := by kernel_rfl
theorem size_haves : (Try.prog.info? 28).map (·.size) = some 8 := by kernel_rfl
set_option maxRecDepth 100000 in
set_option maxHeartbeats 400000 in
theorem blocks_new (s : Stv) (w : World) (hs : s.Ok w w.heap.size) (hl : ∀ b ∈ s.bs, b.ws.length ≤ 35184372088832) :
    Calls Try.prog 17 #[.agg s.C.toArray] w (BlocksQ w s.there) := by
  obtain ⟨i0, hif, hz0, hz1, hz2⟩ := info_parts info_block
  have hrow := RowAt.new w 33 s.C
  have hrng : (w.alloc (.cells s.C.toArray 33)).rangeAt w.heap.size 1 (s.hs.map Value.bool) := by
    have := hrow.range 1 8
    rwa [Stv.C_haves hs.lh] at this
  have hlen8 : (s.hs.map Value.bool).length = 8 := by simp [hs.lh]
  have hsz8 : (Try.prog.info? 28).map (·.size) = some (s.hs.map Value.bool).length := by rw [hlen8]; exact size_haves
  have HR := Lib.hid hrow
  have HG := Lib.hid hrng
  have HZ := Lib.hid hsz8
  clear hrow hrng hlen8 hsz8
  go_enter Try.func17, Try.ntmps17
  go_wp2_with (refine wpList_load_mid rfl 28 (.tmp 6) rfl w.heap.size 1 rfl (s.hs.map Value.bool) _ HG.out Try.underlying28 rfl HZ.out ?_)
  have hb0 : Below w.heap.size w (w.alloc (.cells s.C.toArray 33)) := bel_alloc (Below.refl _ _) _
  go_loopw [3, 8, 4, 5] (fun v i _ _ wr => ∃ k n : Nat, ∃ A c bl, k ≤ 8 ∧ i = .int .i64 k ∧ v = .slice A n c ∧ n = (bl : List Blk).length ∧ n ≤ k ∧ prs bl = there s.hs (prs s.bs) k ∧ (∀ b ∈ bl, b.Ok wr wr.heap.size ∧ b.Off (Value.slice A n c).ownBlock ∧ b.In w.heap.size wr.heap.size ∧ b.Own w.heap.size wr) ∧ wr.ownsRow (w.heap.size + 1) 30 2 (.slice A n c) n (bl.flatMap Blk.cells) ∧ Below w.heap.size w wr ∧ RowAt wr w.heap.size 33 s.C ∧ w.heap.size + 1 ≤ wr.heap.size)
    (fun _ i _ _ _ => 8 - (intOf i).toNat)
  case atStart => exact ⟨0, 0, none, 0, [], by omega, rfl, rfl, rfl, by omega, rfl, by simp, World.ownsRow_nil _ _ _ _, hb0, HR.out, by simp⟩
  case round =>
    obtain ⟨k, n, A, c, bl, hk, rfl, rfl, hn, hnk, hprs, hok, hown, hbe, hrow, hsz⟩ := hrel
    by_cases hlt : k < 8
    · obtain ⟨b, hb⟩ : ∃ b, s.bs[k]? = some b := ⟨_, List.getElem?_eq_getElem (by rw [hs.lb]; exact hlt)⟩
      obtain ⟨x, hx⟩ : ∃ x, s.hs[k]? = some x := ⟨_, List.getElem?_eq_getElem (by rw [hs.lh]; exact hlt)⟩
      have hcb := Stv.C_block hs.lh hb
      have c0 := hrow.cell hcb.1
      have c1 := hrow.cell hcb.2
      have hbo := hs.ok b (List.mem_of_getElem? hb)
      have hbl := hl b (List.mem_of_getElem? hb)
      have kx : ∀ w, (Instr.index 28 (.agg (s.hs.map Value.bool).toArray) (.int .i64 (k : Int))).run Try.prog w = .ok (.bool x) w := index_have _ k _ hlt (by simp [hx])
      have HT := Lib.hid (there_succ s.hs (prs s.bs) k)
      have hx' : s.hs.getD k false = x := by rw [List.getD_eq_getElem?_getD, hx]; rfl
      have hp' : (prs s.bs).getD k (0, []) = b.pr := by rw [List.getD_eq_getElem?_getD, prs_get hb]; rfl
      have HP := Lib.hid hprs
      have HN := Lib.hid hn
      rw [hx', hp'] at HT
      have HK := Lib.hid hok
      clear hcb hb hx hx' hp' hprs hn hok
      cases x
      · go_wp2
        go_roundw
        case rel => exact ⟨k + 1, n, A, c, bl, by omega, by go_num, rfl, HN.out, by omega, by rw [HT.out, HP.out]; rfl, HK.out, hown, hbe, hrow, hsz⟩
        case measure => simp [intOf]; omega
      · have ko := Lib.hid (own_any b.a b.ws b.A b.c b.ws.length wr rfl (hbo.below hbe |>.more hbe.size).sq hbl hbo.nl)
        go_wp2_with fail
        (with_reducible refine (ko.out).mono ?_)
        rintro e2 w2 ⟨A2, c2, rfl, o2, hb2⟩
        have hob : (Blk.mk b.a b.ws A2 c2).Ok w2 w2.heap.size := Blk.Ok.of_own rfl o2 hbo.u hbo.lo hbo.hi
        have hown2 := own_below hown hb2
        have hrow2 := hrow.to hb2
        have hbe2 : Below w.heap.size w w2 := hbe.trans (hb2.mono (by omega))
        have hofN : (Blk.mk b.a b.ws A2 c2).Off (Value.slice A n c).ownBlock := fun p hp e => by
          have h1 := (hown.lt _ e.symm).2
          have h2 := (o2.lt p.block (by simp only at hp; rw [hp]; rfl)).1
          omega
        have hok2 : ∀ y ∈ bl ++ [Blk.mk b.a b.ws A2 c2], y.Ok w2 w2.heap.size ∧ y.Off (Value.slice A n c).ownBlock ∧ y.In w.heap.size w2.heap.size ∧ y.Own w.heap.size w2 := fun y hy => by
          rcases List.mem_append.1 hy with hy | hy
          · exact ⟨(HK.out y hy).1.to hb2, (HK.out y hy).2.1, fun p hp => ⟨((HK.out y hy).2.2.1 p hp).1, Nat.lt_of_lt_of_le ((HK.out y hy).2.2.1 p hp).2 hb2.size⟩, own_below (HK.out y hy).2.2.2 hb2⟩
          · obtain rfl : y = _ := List.mem_singleton.1 hy
            exact ⟨hob, hofN, fun p hp => ⟨Nat.le_trans hbe.size (o2.lt p.block (by simp only at hp; rw [hp]; rfl)).1, (o2.lt p.block (by simp only at hp; rw [hp]; rfl)).2⟩, own_more o2 hbe.size⟩
        have hs2 : w.heap.size + 1 ≤ w2.heap.size := by have := hb2.size; omega
        have HK2 := Lib.hid hok2
        have hgA : ∀ g, (Value.slice A n c).ownBlock = some g → g < w2.heap.size := fun g hg => (hown2.lt g hg).2
        have HGA := Lib.hid hgA
        clear hown hrow hok2 hb2 o2 hsz hbe c0 c1 kx hofN hgA
        go_wp2_with (at_builtin; refine wpList_append_own_at _ rfl (.tmp 13) (.tmp 19) 52 rfl (w.heap.size + 1) 30 i0 _ 2 32 Try.underlying52 hif hz0 hz1 hz2 rfl (Nat.zero_lt_two) (.slice A n c) n (bl.flatMap Blk.cells) rfl (hown2.alloc _) ⟨w2.heap.size, 0, none⟩ 1 1 [.int .i64 b.a, .slice A2 b.ws.length c2] rfl rfl ?_ ?_ ?_ ?_ ?_ ?_; exact lit2 w2 _ _ _; exact one2 _ _ _ _; (unfold maxLen; omega); omega; (simp; omega); intro v3 w3 hown3 hg3 _ hat3; have HG3 := Lib.hid hg3; have HAT := Lib.hid hat3; clear hg3 hat3)
        obtain ⟨A3, c3, rfl, hA3⟩ := own_form2 hown3
        go_roundw
        case rel =>
          have hg3 := HG3.out
          have hsz3 := hg3.size
          refine ⟨k + 1, n + 1, A3, c3, bl ++ [⟨b.a, b.ws, A2, c2⟩], by omega, by go_num, rfl, by have := HN.out; simp; omega, by omega, by have h1 := HT.out; rw [if_pos trivial] at h1; rw [h1, ← HP.out]; simp [prs], fun y hy => ?_, by simpa using hown3, ?_, ?_, ?_⟩
          · obtain ⟨y1, y2, y3, y4⟩ := HK2.out y hy
            refine ⟨(y1.to (bel_alloc (Below.refl _ _) _)).grown hg3 y2, fun p hp e => ?_, fun p hp => ?_, own_grown (own_below y4 (bel_alloc (Below.refl _ _) _)) hg3 y2⟩
            · have h3 := y3 p hp
              rcases HAT.out with h | h
              · rw [h] at e
                exact y2 p hp e
              · rw [h] at e
                have := Option.some.inj e
                simp at this
                omega
            · have h3 := y3 p hp
              simp at hsz3
              omega
          · exact (bel_alloc hbe2 _).grown hg3 (by simp; omega) (fun g hg => by have := (hown2.lt g hg).1; omega)
          · exact (hrow2.alloc _).grown hg3 (fun e => by have := (hown2.lt _ e.symm).1; omega)
          · simp at hsz3
            omega
        case measure => simp [intOf]; omega
    · obtain rfl : k = 8 := by omega
      have HP := Lib.hid hprs
      have HN := Lib.hid hn
      have HK := Lib.hid hok
      clear hprs hn hok
      go_wp2
      go_ret
      obtain ⟨A', c', hv, h1, h2, h3⟩ := own_form2 hown
      obtain ⟨rfl, rfl⟩ : A = A' ∧ c = c' := by simpa using hv
      refine ⟨A, c, bl, ?_, HP.out, ⟨Recs.of_own2 HN.out hown, fun b hb => (HK.out b hb).1⟩, by rw [← HN.out]; exact h2, h3, h1, own_more (HN.out ▸ hown) (Nat.le_succ _), fun b hb => (HK.out b hb).2.2, hbe⟩
      rw [← HN.out]
      rfl
theorem blocks_any (s : Stv) (w : World) (hs : s.Ok w w.heap.size) (hl : ∀ b ∈ s.bs, b.ws.length ≤ 35184372088832) :
    Calls Try.prog 17 #[.agg s.C.toArray] w (BlocksP w s.there) := (blocks_new s w hs hl).mono fun _ _ h => h.weak
end Go.Proofs.Ytajbghjjpebndaa
namespace Go.Proofs.Ytajbghjjpebndaa
set_option maxRecDepth 100000
open Go.RowKit
set_option linter.unusedVariables false
attribute [local go_sem] Later.cell Later.frozen setCell_twice
def lsum (ps : List Bk.Pr) : List Nat := ps.flatMap fun p => Stg.itself p.1 p.2
def chk (ps : List Bk.Pr) : Nat := Crc.bytes (packRegs (lsum ps))
theorem lsum_length (ps : List Bk.Pr) : (lsum ps).length = 16 * ps.length := by
  induction ps with
  | nil => rfl
  | cons p ps ih => simp only [lsum, List.flatMap_cons, List.length_append, Stg.itself_length, List.length_cons] at ih ⊢; omega
theorem lsum_u16 {ps : List Bk.Pr} (h : ∀ p ∈ ps, ∀ x ∈ p.2, x < 65536) : ∀ x ∈ lsum ps, x < 65536 := fun x hx => by
  obtain ⟨p, hp, hx⟩ := List.mem_flatMap.1 hx
  exact Stg.itself_u16 (h p hp) x hx
theorem lsum_take {ps : List Bk.Pr} {k : Nat} {p : Bk.Pr} (h : ps[k]? = some p) : lsum (ps.take (k + 1)) = lsum (ps.take k) ++ Stg.itself p.1 p.2 := by
  unfold lsum
  rw [List.take_add_one, h, List.flatMap_append]
  simp
theorem chk_lt {ps : List Bk.Pr} (h : ∀ p ∈ ps, ∀ x ∈ p.2, x < 65536) : chk ps < 4294967296 := Crc.bytes_lt (packRegs_byte (lsum_u16 h))
set_option maxHeartbeats 400000 in
theorem stSum_any (A : Option Addr) (l : List Blk) (c n : Nat) (ps : List Bk.Pr) (w : World) (h : Blks w w.heap.size A l) (hn : l.length = n) (hn2 : n ≤ 1000) (hc : n ≤ c) (hc2 : c ≤ 9223372036854775807) (hp : prs l = ps) :
    Calls Try.prog 40 #[.slice A n c] w fun e w' => e = .returned (.int .u32 (chk ps : Nat)) ∧ Below w.heap.size w w' := by
  subst hn hp
  have hu := lsum_u16 (prs_u16 h.ok)
  have HU := Lib.hid hu
  have HL := Lib.hid (lsum_length (prs l))
  have HT := Lib.hid (show (prs l).take l.length = prs l by rw [List.take_of_length_le (by simp)])
  clear hu
  go_enter Try.func40, Try.ntmps40
  go_wp2
  go_loopw [3, 8] (fun v i wr => ∃ k m : Nat, ∃ A' c', k ≤ l.length ∧ i = .int .i64 k ∧ v = .slice A' m c' ∧ (lsum ((prs l).take k)).length = m ∧ wr.ownsRow w.heap.size 24 1 (.slice A' m c') m ((lsum ((prs l).take k)).map u16w) ∧ Below w.heap.size w wr) (fun _ i _ => l.length - (intOf i).toNat)
  case atStart => exact ⟨0, 0, none, 0, by omega, rfl, rfl, rfl, World.ownsRow_nil _ _ _ _, Below.refl _ _⟩
  case round =>
    obtain ⟨k, m, A', c', hk, rfl, rfl, hm, hown, hbe⟩ := hrel
    by_cases hlt : k < l.length
    · obtain ⟨g, o, b, rfl, hg, hb, hbo, hc0, hc1⟩ := (h.to hbe).at_ hlt
      have hltI : (k : Int) < (l.length : Int) := by omega
      have hkc : (k : Int) < (c : Int) := by omega
      have HLT := Lib.hid (lsum_take (prs_get hb))
      have hm16 : m ≤ 16000 := by rw [← hm, lsum_length]; simp; omega
      have HM := Lib.hid hm
      have ki := Lib.hid (fun W (hW : Below wr.heap.size wr W) => itself_any b.a b.ws b.A b.c b.ws.length W rfl (hbo.to hW).sq hbo.lo hbo.hi (Nat.le_trans hbo.ln hbo.cap) hbo.nl)
      have HIL := Lib.hid (Stg.itself_length b.a b.ws)
      clear hb hm hbo
      go_wp2_with fail
      (with_reducible refine (ki.out _ (bel_alloc (Below.refl _ _) _)).mono ?_)
      rintro e_ w1 ⟨A1, c1, rfl, o1, hb1⟩
      rw [HIL.out] at o1 ⊢
      have hb1r : Below wr.heap.size wr w1 := (bel_alloc (Below.refl _ _) _).trans (hb1.mono (by simp))
      have hown1 := own_below hown hb1r
      have hbe1 : Below w.heap.size w w1 := hbe.trans (hb1r.mono hbe.size)
      have kad := Lib.hid (stadd_any w.heap.size A' A1 c' c1 m 16 (lsum ((prs l).take k)) (Stg.itself b.a b.ws) w1 hown1 HM.out (Sq.of_own o1) HIL.out (own_nil_c o1).1 (by rw [HM.out, HIL.out]; omega) hbe1.size)
      clear hown o1 hown1 hb1 hb1r ki
      go_wp2_with fail
      (with_reducible refine (kad.out).mono ?_)
      rintro e_ w2 ⟨A2, c2, rfl, o2, hb2⟩
      have hbe2 : Below w.heap.size w w2 := hbe1.trans hb2
      have HLEN := Lib.hid (show (lsum ((prs l).take k) ++ Stg.itself b.a b.ws).length = m + 16 by rw [List.length_append, HM.out, HIL.out])
      rw [HLEN.out] at o2 ⊢
      have O2 := Lib.hid o2
      clear o2 hb2 kad
      go_wp2
      go_roundw
      case rel => exact ⟨k + 1, m + 16, A2, c2, by omega, by go_num, rfl, by rw [HLT.out]; exact HLEN.out, by rw [HLT.out]; exact O2.out, hbe2⟩
      case measure => simp [intOf]; omega
    · obtain rfl : k = l.length := by omega
      have HM := Lib.hid hm
      rw [HT.out] at HM hown
      have hs := Sq.of_own hown
      obtain rfl : m = (lsum (prs l)).length := HM.out.symm
      have ksw := Lib.hid (sumWords_any A' c' (lsum (prs l)) wr hs HU.out (by rw [HL.out]; simp; omega))
      clear hm hown hs
      go_wp2_with fail
      (with_reducible refine (ksw.out).mono ?_)
      rintro e_ w2 ⟨rfl, hb2⟩
      have hbe2 : Below w.heap.size w w2 := hbe.trans (hb2.mono hbe.size)
      go_wp2
      go_ret
      exact ⟨rfl, hbe2⟩
end Go.Proofs.Ytajbghjjpebndaa
