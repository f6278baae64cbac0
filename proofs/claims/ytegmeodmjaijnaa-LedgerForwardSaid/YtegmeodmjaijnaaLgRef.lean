/- Layer 23, the document's: Find, Add, Make. -/
import Derived.Test.YtegmeodmjaijnaaLgAdd
import Derived.Test.YtegmeodmjaijnaaLgRight
import Derived.Test.YtegmeodmjaijnaaRfRi
import Derived.Deep.QuietTactic
namespace Go.Proofs.Ytegmeodmjaijnaa
open Go.RowKit
set_option linter.unusedVariables false
set_option linter.unusedSimpArgs false
attribute [local go_sem] Later.cell Later.frozen setCell_twice
def fndI (o : Option Nat) : Int := match o with | some i => (i : Int) | none => -1
theorem find_here {l : List Jp} {k tx : Nat} {x : Jp} (hs : Jp.Sorted l) (h : l[k]? = some x) (ht : x.tx = tx) : Jp.find l tx = some k := by
  have hk := (List.getElem?_eq_some_iff.1 h).1
  have ha : Jp.at_ l tx = k := Jp.at_of hs (Nat.le_of_lt hk) (fun j h0 hj => by
    have h1 := List.pairwise_iff_getElem.1 hs (k - 1) k (List.getElem?_eq_some_iff.1 hj).1 hk (by omega)
    rw [(List.getElem?_eq_some_iff.1 hj).2, (List.getElem?_eq_some_iff.1 h).2] at h1
    omega) (fun j hj => by rw [h] at hj; obtain rfl := Option.some.inj hj; omega)
  unfold Jp.find
  rw [ha, h]
  simp only
  rw [if_pos ht]
theorem find_nowhere {l : List Jp} {tx : Nat} (h : ∀ (j : Nat) (x : Jp), l[j]? = some x → x.tx ≠ tx) : Jp.find l tx = none := by
  cases hf : Jp.find l tx with
  | none => rfl
  | some i =>
    obtain ⟨j, hj, ht, _⟩ := Jp.find_some hf
    exact absurd ht (h i j hj)
set_option maxHeartbeats 400000 in
theorem rjfind_any (A : Option Addr) (l : List Jb) (c n tx : Nat) (w : World) (hn : l.length = n) (h : Jbs w w.heap.size A l) (hn63 : n ≤ 1000000) (hs : Jp.Sorted (jps l)) :
    Calls Try.prog 25 #[.slice A n c, .int .u32 (tx : Int)] w fun e w' => e = .returned (.int .i64 (fndI (Jp.find (jps l) tx))) ∧ w = w' := by
  have HN := Lib.hid hn
  have HH := Lib.hid h
  have HS := Lib.hid hs
  obtain ⟨r, hr⟩ : ∃ r, fndI (Jp.find (jps l) tx) = r := ⟨_, rfl⟩
  have HR := Lib.hid hr
  rw [hr]
  clear hn h hs hr
  go_enter Try.func25, Try.ntmps25
  go_wp2
  go_loop [5] (fun i => ∃ k : Nat, k ≤ n ∧ i = .int .i64 k ∧ Hid (∀ j x, j < k → (jps l)[j]? = some x → x.tx ≠ tx)) (fun i => n - (intOf i).toNat)
  case atStart => exact ⟨0, by omega, rfl, Lib.hid (fun j x h => absurd h (Nat.not_lt_zero j))⟩
  case round =>
    obtain ⟨k, hk, rfl, hh⟩ := hrel
    by_cases hlt : k < n
    · obtain ⟨g1, o1, x, rfl, hg1, hx, hxo, hx0, hx1, hx2, hx3⟩ := HH.out.at_ (k := k) (by rw [HN.out]; exact hlt)
      have hltI : (k : Int) < (n : Int) := by omega
      have h0I : (0 : Int) ≤ (k : Int) := by omega
      have HX : Hid ((jps l)[k]? = some x.p) := Lib.hid (by rw [jps, List.getElem?_map, hx]; rfl)
      clear hx hxo
      by_cases ht : x.p.tx = tx
      · obtain rfl : r = (k : Int) := by rw [← HR.out, find_here HS.out HX.out ht]; rfl
        have g : ((x.p.tx : Int) == (tx : Int)) = true := by rw [ht]; simp
        have HT := Lib.hid ht
        clear ht
        go_wp2
        go_ret
        exact ⟨rfl, rfl⟩
      · have g : ((x.p.tx : Int) == (tx : Int)) = false := beq_eq_false_iff_ne.2 (by omega)
        have HT := Lib.hid ht
        clear ht
        go_wp2
        go_round
        case rel => exact ⟨k + 1, by omega, by go_num, Lib.hid (fun j y hj hy => by
          by_cases e : j = k
          · subst e; rw [HX.out] at hy; obtain rfl := Option.some.inj hy; exact HT.out
          · exact hh.out j y (by omega) hy)⟩
        case measure => simp [intOf]; omega
    · obtain rfl : k = n := by omega
      obtain rfl : r = -1 := by
        rw [← HR.out, find_nowhere (fun j x hj => hh.out j x (by have := (List.getElem?_eq_some_iff.1 hj).1; rw [jps, List.length_map, HN.out] at this; exact this) hj)]
        rfl
      go_wp2
      go_ret
      exact ⟨rfl, rfl⟩
theorem put_step {l : List Jb} {what tx who i st s : Nat} {yes : Bool} {text : List Nat} {y : Jb} (hr : (Nr.mk what tx who yes text).right = true) (h1 : what ≠ 1) (h2 : what ≠ 2) (hf : Jp.find (jps l) tx = some i) (hy : l[i]? = some y) (hst : y.p.st = st) (hs : Jp.step what yes st = some s) : Jp.put (jps l) ⟨what, tx, who, yes, text⟩ = some (jps (l.set i ⟨⟨y.p.tx, y.p.who, y.p.text, s⟩, y.A, y.c⟩)) := by
  have h := put_other (l := jps l) (x := ⟨what, tx, who, yes, text⟩) hr h1 h2
  have hyp : (jps l)[i]? = some y.p := by rw [jps, List.getElem?_map, hy]; rfl
  rw [h]
  simp only
  rw [hf]
  simp only
  rw [hyp]
  simp only
  rw [hst, hs]
  simp only
  rw [jps_set hy]
theorem put_nostep {l : List Jb} {what tx who i st : Nat} {yes : Bool} {text : List Nat} {y : Jb} (hr : (Nr.mk what tx who yes text).right = true) (h1 : what ≠ 1) (h2 : what ≠ 2) (hf : Jp.find (jps l) tx = some i) (hy : l[i]? = some y) (hst : y.p.st = st) (hs : Jp.step what yes st = none) : Jp.put (jps l) ⟨what, tx, who, yes, text⟩ = none := by
  have h := put_other (l := jps l) (x := ⟨what, tx, who, yes, text⟩) hr h1 h2
  have hyp : (jps l)[i]? = some y.p := by rw [jps, List.getElem?_map, hy]; rfl
  rw [h]
  simp only
  rw [hf]
  simp only
  rw [hyp]
  simp only
  rw [hst, hs]
/-- a row of jobs of its own, the texts elsewhere, below it -/
structure RL (w : World) (base : Nat) (A : Option Addr) (n c : Nat) (l : List Jb) : Prop where
  len : l.length = n
  own : w.ownsRow base 38 4 (.slice A n c) n (l.flatMap jbF)
  ok : ∀ y ∈ l, JbOk w base y
section
variable {w w' : World} {base n c : Nat} {A : Option Addr} {l : List Jb}
theorem RL.jbs (h : RL w base A n c l) (hb : base ≤ w.heap.size) : Jbs w w.heap.size A l := ⟨Recs.of_own jbF_length (by decide) h.own, fun y hy => (h.ok y hy).more hb⟩
theorem RL.nil (w : World) (base : Nat) : RL w base none 0 0 [] := ⟨rfl, by simpa using World.ownsRow_nil w base 38 4, by simp⟩
theorem RL.to (h : RL w base A n c l) (hb : base ≤ w.heap.size) (k : Below w.heap.size w w') : RL w' base A n c l := ⟨h.len, own_below h.own k, fun y hy => (h.ok y hy).below (k.mono hb)⟩
theorem RL.set {g i s : Nat} {y : Jb} (h : RL w base (some ⟨g, 0, none⟩) n c l) (hg : base ≤ g) (hy : l[i]? = some y) (hs : s < 256) : RL (w.setCell ⟨g, i * 4 + 3, none⟩ (.int .u8 (s : Int))) base (some ⟨g, 0, none⟩) n c (l.set i ⟨⟨y.p.tx, y.p.who, y.p.text, s⟩, y.A, y.c⟩) := by
  have hst := h.own.stored (i * 4 + 3) (.int .u8 (s : Int))
  refine ⟨by rw [List.length_set]; exact h.len, by rw [flat_set hy]; exact hst.1, fun z hz => ?_⟩
  have hb : Below base w (w.setCell ⟨g, i * 4 + 3, none⟩ (.int .u8 (s : Int))) := (Below.refl _ _).setCell hg _
  rcases List.mem_or_eq_of_mem_set hz with hz | rfl
  · exact (h.ok z hz).below hb
  · have h1 := (h.ok y (List.mem_of_getElem? hy)).below hb
    exact ⟨h1.sq, ⟨h1.fit.tx, h1.fit.who, h1.fit.text, hs⟩, h1.nl, h1.ln, h1.cap⟩
end
theorem jbF_one1 : ∀ (a : Jb) (u : Value), u ∈ jbF a → u.oneCell' = true := fun a => jbF_one a
/-- what the document's Add and Make hand back -/
def RgP (o : Option (List Jp)) (w : World) (e : Ending) (w' : World) : Prop :=
  ∃ A n c b, e = .returned (.tuple #[.slice A n c, .int .i64 b]) ∧ Below w.heap.size w w' ∧ Hid ((o = none ∧ b = 230 ∧ A = none ∧ n = 0 ∧ c = 0) ∨ (b = 0 ∧ ∃ jl, o = some (jps jl) ∧ jl.length = n ∧ Jbs w' w'.heap.size A jl))
theorem RgP.no {o : Option (List Jp)} {w w' : World} (h : o = none) (hb : Below w.heap.size w w') : RgP o w (.returned (.tuple #[.slice none 0 0, .int .i64 230])) w' := ⟨none, 0, 0, 230, rfl, hb, Lib.hid (.inl ⟨h, rfl, rfl, rfl, rfl⟩)⟩
theorem RgP.yes {n c : Nat} {A : Option Addr} {jl : List Jb} {o : Option (List Jp)} {w w' : World} (h : o = some (jps jl)) (hb : Below w.heap.size w w') (hl : jl.length = n) (hJ : Jbs w' w'.heap.size A jl) : RgP o w (.returned (.tuple #[.slice A n c, .int .i64 0])) w' := ⟨A, n, c, 0, rfl, hb, Lib.hid (.inr ⟨rfl, jl, h, hl, hJ⟩)⟩
abbrev intv {s : Nat} (h : s < 256) : Value := .int .u8 (s : Int)
theorem setCell_le {w : World} {b : Nat} {p : Addr} (h : b ≤ w.heap.size) (v : Value) : b ≤ (w.setCell p v).heap.size := by simp; exact h
theorem rc_jb {w : World} {B what tx who : Nat} {yes : Bool} {text : List Nat} {XA : Option Addr} {xc s : Nat} (h : RcOk w B ⟨⟨what, tx, who, yes, text⟩, XA, xc⟩) (hs : s < 256) : JbOk w B ⟨⟨tx, who, text, s⟩, XA, xc⟩ := by
  have hn : _ ∧ _ := h.nl
  exact ⟨h.sq, ⟨h.fit.tx, h.fit.who, h.fit.u, hs⟩, hn.1, hn.2.1, hn.2.2⟩
set_option maxRecDepth 100000 in
set_option maxHeartbeats 2000000 in
theorem rjadd_any (A : Option Addr) (n c : Nat) (l : List Jb) (what tx who : Nat) (yes : Bool) (text : List Nat) (XA : Option Addr) (m xc : Nat) (w : World) (hJ : Jbs w w.heap.size A l) (hln : l.length = n) (hm : text.length = m) (hx : RcOk w w.heap.size ⟨⟨what, tx, who, yes, text⟩, XA, xc⟩)
    (hs : Jp.Sorted (jps l)) (hn : n ≤ 90000) :
    Calls Try.prog 28 #[.slice A n c, .agg (rcV what tx who yes XA m xc).toArray] w (RgP (Jp.put (jps l) ⟨what, tx, who, yes, text⟩) w) := by
  have hfr : Below w.heap.size w (w.alloc (.cells #[.int .u8 (what : Int), .int .u32 (tx : Int), .int .u8 (who : Int), .bool yes, .slice XA m xc] 31)) := bel_alloc (Below.refl _ _) _
  have J0 := Lib.hid (hJ.to hfr)
  have X0 := Lib.hid ((hx.below hfr).more hfr.size)
  have B0 : Hid (Below w.heap.size w _) := Lib.hid hfr
  have R0 : Hid (RowAt (w.alloc (.cells #[.int .u8 (what : Int), .int .u32 (tx : Int), .int .u8 (who : Int), .bool yes, .slice XA m xc] 31)) w.heap.size 31 (rcV what tx who yes XA m xc)) := Lib.hid (RowAt.new _ _ _)
  have HS := Lib.hid hs
  have HM := Lib.hid hm
  have HLN := Lib.hid hln
  obtain ⟨iJ, hifJ, hj0, hj1, hj2⟩ := info_parts info_job
  clear hfr hJ hx hs hln
  obtain ⟨r, hr⟩ : ∃ r, (Nr.mk what tx who yes text).right = r := ⟨_, rfl⟩
  have HR := Lib.hid hr
  clear hr
  go_enter Try.func28, Try.ntmps28
  go_wp2_with fail
  generalize w.alloc (.cells #[.int .u8 (what : Int), .int .u32 (tx : Int), .int .u8 (who : Int), .bool yes, .slice XA m xc] 31) = W0 at *
  obtain ⟨gv, hgv⟩ : ∃ gv, w.heap.size = gv := ⟨_, rfl⟩
  have HGV := Lib.hid hgv
  rw [hgv] at R0
  rw [hgv]
  have hgv0 : gv < W0.heap.size := R0.out.lt
  clear hgv
  refine (rright_any ⟨what, tx, who, yes, text⟩ XA xc m hm W0).mono ?_
  rintro e w1 ⟨rfl, b1⟩
  have J1 := Lib.hid (J0.out.to b1)
  have X1 := Lib.hid ((X0.out.below b1).more b1.size)
  have R1 := Lib.hid (R0.out.to b1)
  have B1 : Hid (Below w.heap.size w w1) := Lib.hid (B0.out.trans (b1.mono B0.out.size))
  have hgv1 : gv < w1.heap.size := Nat.lt_of_lt_of_le hgv0 b1.size
  rw [HR.out]
  clear b1 J0 X0 R0 B0 hm hgv0
  cases r
  · have HNO : Hid (Jp.put (jps l) ⟨what, tx, who, yes, text⟩ = none) := Lib.hid (put_wrong HR.out)
    go_wp2
    go_ret2
    exact RgP.no HNO.out B1.out
  obtain ⟨base, hbs⟩ : ∃ base, w1.heap.size = base := ⟨_, rfl⟩
  have HBS := Lib.hid hbs
  have RL0 := Lib.hid (RL.nil w1 base)
  have hgvb : gv < base := by omega
  rw [hbs] at J1 X1
  clear hbs hgv1
  go_wp2
  go_loopw [6, 7] (fun v i wr => ∃ (k : Nat) (A' : Option Addr) (c' : Nat), k ≤ n ∧ i = .int .i64 k ∧ v = .slice A' k c' ∧ Hid (RL wr base A' k c' (l.take k) ∧ Below base w1 wr)) (fun _ i _ => n - (intOf i).toNat)
  case atStart => exact ⟨0, none, 0, by omega, rfl, rfl, Lib.hid ⟨RL0.out, Below.refl _ _⟩⟩
  case round =>
    rename World => wr
    obtain ⟨k, A', c', hk, rfl, rfl, hh⟩ := hrel
    have RR := Lib.hid hh.out.1
    have BE := Lib.hid hh.out.2
    have hbw : base ≤ wr.heap.size := by have := BE.out.size; have := HBS.out; omega
    clear hh RL0
    by_cases hlt : k < n
    · obtain ⟨g1, o1, x, rfl, hg1, hx, hxo, hx0, hx1, hx2, hx3⟩ := (J1.out.below BE.out).at_ (k := k) (by rw [HLN.out]; exact hlt)
      have hltI : (k : Int) < (n : Int) := by omega
      have h0I : (0 : Int) ≤ (k : Int) := by omega
      have HX : Hid (l.take (k + 1) = l.take k ++ [x]) := Lib.hid (by rw [List.take_add_one, hx]; rfl)
      have HXO := Lib.hid hxo
      have HTL : Hid ((l.take k).length = k) := Lib.hid (by rw [List.length_take, HLN.out]; omega)
      obtain ⟨⟨ytx, ywho, ytext, yst⟩, YA, yc⟩ := x
      dsimp only at hx0 hx1 hx2 hx3
      obtain ⟨my, hmy⟩ : ∃ my, ytext.length = my := ⟨_, rfl⟩
      have HMY := Lib.hid hmy
      rw [hmy] at hx2
      clear hx hxo hmy
      go_wp2_with (at_builtin; (refine wpList_append_rn (f := jbF) (s := 4) _ rfl (.tmp 18) (.tmp 23) 25 rfl jbF_length (by decide) jbF_one1 base 38 iJ _ _ Try.underlying25 hifJ hj0 hj1 hj2 (by decide) rfl A' c' k (l.take k) rfl HTL.out (own_below RR.out.own (bel_alloc (Below.refl _ _) _)) (wr.heap.size + 1) _ [⟨⟨ytx, ywho, ytext, yst⟩, YA, yc⟩] 1 1 rfl rfl (Recs.lits (f := jbF) (s := 4) jbF_length (by decide) _ _ _ _ _ _ (by simp [HMY.out]) (by simp) (by simp)) (by simp) (k + 1) rfl (by omega) (by simp; omega) ?_); intro A4 c4 w4 o4 g4 b4; have b5 : Below base wr w4 := ((Below.refl base wr).alloc hbw _).trans b4; have RR4 : Hid (RL w4 base A4 (k + 1) c4 (l.take (k + 1))) := Lib.hid ⟨by rw [HX.out, List.length_append, HTL.out]; rfl, by rw [HX.out]; exact o4, by rw [HX.out]; intro y hy; rcases List.mem_append.1 hy with hy | hy; exact (RR.out.ok y hy).below b5; obtain rfl := List.mem_singleton.1 hy; exact HXO.out.below b5⟩; have BE4 : Hid (Below base w1 w4) := Lib.hid (BE.out.trans b5); clear o4 g4 b4 b5)
      go_wp2
      go_roundw
      case rel => exact ⟨k + 1, A4, c4, by omega, by go_num, rfl, Lib.hid ⟨RR4.out, BE4.out⟩⟩
      case measure => simp [intOf]; omega
    · obtain rfl : k = n := by omega
      have HTK : l.take k = l := List.take_of_length_le (by rw [HLN.out]; exact Nat.le_refl _)
      rw [HTK] at RR
      have J2 := Lib.hid ((J1.out.below BE.out).more hbw)
      have X2 := Lib.hid (X1.out.below BE.out)
      have R2 := Lib.hid (R1.out.below BE.out hgvb)
      have BW : Hid (Below w.heap.size w wr) := Lib.hid (B1.out.trans (BE.out.mono (by have := B1.out.size; have := HBS.out; omega)))
      clear HTK J1 X1 R1 hlt
      have hgw : gv < wr.heap.size := Nat.lt_of_lt_of_le hgvb hbw
      have dlt : gv < (wr).heap.size := R2.out.lt
      have dlu : gv < (wr).heap.size + 1 := Nat.lt_succ_of_lt R2.out.lt
      have d0 : (wr).cell? ⟨gv, 0, none⟩ = some (.int .u8 (what : Int)) := R2.out.cells 0
      have dz0 : (wr).frozen? ⟨gv, 0, none⟩ = false := R2.out.frozen 0
      have d1 : (wr).cell? ⟨gv, 1, none⟩ = some (.int .u32 (tx : Int)) := R2.out.cells 1
      have dz1 : (wr).frozen? ⟨gv, 1, none⟩ = false := R2.out.frozen 1
      have d2 : (wr).cell? ⟨gv, 2, none⟩ = some (.int .u8 (who : Int)) := R2.out.cells 2
      have dz2 : (wr).frozen? ⟨gv, 2, none⟩ = false := R2.out.frozen 2
      have d3 : (wr).cell? ⟨gv, 3, none⟩ = some (.bool yes) := R2.out.cells 3
      have dz3 : (wr).frozen? ⟨gv, 3, none⟩ = false := R2.out.frozen 3
      have d4 : (wr).cell? ⟨gv, 4, none⟩ = some (.slice XA m xc) := R2.out.cells 4
      have dz4 : (wr).frozen? ⟨gv, 4, none⟩ = false := R2.out.frozen 4
      by_cases hw1 : what = 1
      · subst hw1
        have HP : Hid (Jp.put (jps l) ⟨1, tx, who, yes, text⟩ = some (jps l)) := Lib.hid (put_reserve HR.out rfl)
        go_wp2
        go_ret2
        exact RgP.yes HP.out BW.out HLN.out (RR.out.jbs hbw)
      have hw1I : ((what : Int) == 1) = false := beq_eq_false_iff_ne.2 (by omega)
      by_cases hw2 : what = 2
      · subst hw2
        clear hw1 hw1I
        obtain ⟨hy0, -, -⟩ : yes = false ∧ True ∧ True := by
          have := of_decide_eq_true HR.out
          simp at this
          exact ⟨this.2.1, trivial, trivial⟩
        subst hy0
        have HP := Lib.hid (put_begin (l := jps l) (x := ⟨2, tx, who, false, text⟩) HR.out rfl)
        by_cases ht0 : tx = 0
        · have ht0I : ((tx : Int) == 0) = true := by subst ht0; rfl
          have HNO : Hid (Jp.put (jps l) ⟨2, tx, who, false, text⟩ = none) := Lib.hid (HP.out.trans (show _ = none by simp only [Jp.step]; rw [if_pos (by simp), ht0]; simp))
          clear ht0
          go_wp2
          go_quiet (fail)
          go_wp2
          go_ret2
          exact RgP.no HNO.out (bel_drewN BW.out _)
        have ht0I : ((tx : Int) == 0) = false := beq_eq_false_iff_ne.2 (by omega)
        by_cases hn0 : k = 0
        · subst hn0
          have HLT : Hid (Jp.lastTx (jps l) = 0) := Lib.hid (by rw [List.eq_nil_of_length_eq_zero HLN.out]; rfl)
          have HYES : Hid (Jp.put (jps l) ⟨2, tx, who, false, text⟩ = some (jps (l ++ [⟨⟨tx, who, text, 1⟩, XA, xc⟩]))) := Lib.hid (HP.out.trans (show _ = some _ by simp only [Jp.step]; rw [if_pos (by simp)]; simp only; rw [if_neg (by rw [HLT.out]; omega), jps, jps, List.map_append]; rfl))
          go_wp2
          go_quiet (fail)
          obtain ⟨wz, hwz⟩ : ∃ wz, wr.drewN nq = wz := ⟨_, rfl⟩
          have bz : Below wr.heap.size wr wz := by rw [← hwz]; exact bel_drewN (Below.refl _ _) _
          rw [hwz]
          have RZ := Lib.hid (RR.out.to hbw bz)
          have R3 := Lib.hid (R2.out.to bz)
          have X3 := Lib.hid (X2.out.below (bz.mono hbw))
          have BZ : Hid (Below w.heap.size w wz) := Lib.hid (BW.out.trans (bz.mono BW.out.size))
          have hbz : base ≤ wz.heap.size := Nat.le_trans hbw bz.size
          clear hwz bz d0 d1 d2 d3 d4 dz0 dz1 dz2 dz3 dz4 dlt dlu
          have dlt : gv < (wz).heap.size := R3.out.lt
          have dlu : gv < (wz).heap.size + 1 := Nat.lt_succ_of_lt R3.out.lt
          have d0 : (wz).cell? ⟨gv, 0, none⟩ = some (.int .u8 2) := R3.out.cells 0
          have dz0 : (wz).frozen? ⟨gv, 0, none⟩ = false := R3.out.frozen 0
          have d1 : (wz).cell? ⟨gv, 1, none⟩ = some (.int .u32 (tx : Int)) := R3.out.cells 1
          have dz1 : (wz).frozen? ⟨gv, 1, none⟩ = false := R3.out.frozen 1
          have d2 : (wz).cell? ⟨gv, 2, none⟩ = some (.int .u8 (who : Int)) := R3.out.cells 2
          have dz2 : (wz).frozen? ⟨gv, 2, none⟩ = false := R3.out.frozen 2
          have d3 : (wz).cell? ⟨gv, 3, none⟩ = some (.bool false) := R3.out.cells 3
          have dz3 : (wz).frozen? ⟨gv, 3, none⟩ = false := R3.out.frozen 3
          have d4 : (wz).cell? ⟨gv, 4, none⟩ = some (.slice XA m xc) := R3.out.cells 4
          have dz4 : (wz).frozen? ⟨gv, 4, none⟩ = false := R3.out.frozen 4
          go_wp2_with (at_builtin; (refine wpList_append_rn (f := jbF) (s := 4) _ rfl (.tmp 52) (.tmp 60) 25 rfl jbF_length (by decide) jbF_one1 base 38 iJ _ _ Try.underlying25 hifJ hj0 hj1 hj2 (by decide) rfl A' c' _ l rfl HLN.out (own_below RZ.out.own (bel_alloc (Below.refl _ _) _)) (wz.heap.size + 1) _ [⟨⟨tx, who, text, 1⟩, XA, xc⟩] 1 1 rfl rfl (Recs.lits (f := jbF) (s := 4) jbF_length (by decide) _ _ _ _ _ _ (by simp [HM.out]) (by simp) (by simp)) (by simp) _ rfl (by omega) (by simp; omega) ?_); intro A4 c4 w4 o4 g4 b4; have b5 : Below base wz w4 := ((Below.refl base wz).alloc hbz _).trans b4; have RR4 : Hid (RL w4 base A4 _ c4 (l ++ [⟨⟨tx, who, text, 1⟩, XA, xc⟩])) := Lib.hid ⟨by rw [List.length_append, HLN.out]; rfl, o4, by intro y hy; rcases List.mem_append.1 hy with hy | hy; exact (RZ.out.ok y hy).below b5; obtain rfl := List.mem_singleton.1 hy; exact rc_jb (X3.out.below b5) (by decide)⟩; have BE4 : Hid (Below w.heap.size w w4) := Lib.hid (BZ.out.trans (b5.mono (by have := B1.out.size; have := HBS.out; omega))); have hb4 : base ≤ w4.heap.size := Nat.le_trans hbz b5.size; clear o4 g4 b4 b5)
          go_ret2
          exact RgP.yes HYES.out BE4.out RR4.out.len (RR4.out.jbs hb4)
        · obtain ⟨k', rfl⟩ : ∃ k', k = k' + 1 := ⟨k - 1, by omega⟩
          obtain ⟨g2, o2, y, rfl, hg2, hy, hyo, hy0, hy1, hy2, hy3⟩ := J2.out.at_ (k := k') (by rw [HLN.out]; omega)
          have HLT : Hid (Jp.lastTx (jps l) = y.p.tx) := Lib.hid (last_get HLN.out hy)
          have hgr2 : g2 < wr.heap.size := hg2
          clear hy hyo hn0
          by_cases hle : tx ≤ y.p.tx
          · have hleI : (tx : Int) ≤ (y.p.tx : Int) := by omega
            have HNO : Hid (Jp.put (jps l) ⟨2, tx, who, false, text⟩ = none) := Lib.hid (HP.out.trans (show _ = none by simp only [Jp.step]; rw [if_pos (by simp)]; simp only; rw [if_pos (by rw [HLT.out]; omega)]))
            go_wp2
            go_quiet (fail)
            go_wp2
            go_ret2
            exact RgP.no HNO.out (bel_drewN BW.out _)
          · have hleI : ¬ (tx : Int) ≤ (y.p.tx : Int) := by omega
            have HYES : Hid (Jp.put (jps l) ⟨2, tx, who, false, text⟩ = some (jps (l ++ [⟨⟨tx, who, text, 1⟩, XA, xc⟩]))) := Lib.hid (HP.out.trans (show _ = some _ by simp only [Jp.step]; rw [if_pos (by simp)]; simp only; rw [if_neg (by rw [HLT.out]; omega), jps, jps, List.map_append]; rfl))
            go_wp2
            go_quiet (fail)
            obtain ⟨wz, hwz⟩ : ∃ wz, wr.drewN nq = wz := ⟨_, rfl⟩
            have bz : Below wr.heap.size wr wz := by rw [← hwz]; exact bel_drewN (Below.refl _ _) _
            rw [hwz]
            have RZ := Lib.hid (RR.out.to hbw bz)
            have R3 := Lib.hid (R2.out.to bz)
            have X3 := Lib.hid (X2.out.below (bz.mono hbw))
            have BZ : Hid (Below w.heap.size w wz) := Lib.hid (BW.out.trans (bz.mono BW.out.size))
            have hbz : base ≤ wz.heap.size := Nat.le_trans hbw bz.size
            clear hwz bz d0 d1 d2 d3 d4 dz0 dz1 dz2 dz3 dz4 dlt dlu
            have dlt : gv < (wz).heap.size := R3.out.lt
            have dlu : gv < (wz).heap.size + 1 := Nat.lt_succ_of_lt R3.out.lt
            have d0 : (wz).cell? ⟨gv, 0, none⟩ = some (.int .u8 2) := R3.out.cells 0
            have dz0 : (wz).frozen? ⟨gv, 0, none⟩ = false := R3.out.frozen 0
            have d1 : (wz).cell? ⟨gv, 1, none⟩ = some (.int .u32 (tx : Int)) := R3.out.cells 1
            have dz1 : (wz).frozen? ⟨gv, 1, none⟩ = false := R3.out.frozen 1
            have d2 : (wz).cell? ⟨gv, 2, none⟩ = some (.int .u8 (who : Int)) := R3.out.cells 2
            have dz2 : (wz).frozen? ⟨gv, 2, none⟩ = false := R3.out.frozen 2
            have d3 : (wz).cell? ⟨gv, 3, none⟩ = some (.bool false) := R3.out.cells 3
            have dz3 : (wz).frozen? ⟨gv, 3, none⟩ = false := R3.out.frozen 3
            have d4 : (wz).cell? ⟨gv, 4, none⟩ = some (.slice XA m xc) := R3.out.cells 4
            have dz4 : (wz).frozen? ⟨gv, 4, none⟩ = false := R3.out.frozen 4
            go_wp2_with (at_builtin; (refine wpList_append_rn (f := jbF) (s := 4) _ rfl (.tmp 52) (.tmp 60) 25 rfl jbF_length (by decide) jbF_one1 base 38 iJ _ _ Try.underlying25 hifJ hj0 hj1 hj2 (by decide) rfl A' c' _ l rfl HLN.out (own_below RZ.out.own (bel_alloc (Below.refl _ _) _)) (wz.heap.size + 1) _ [⟨⟨tx, who, text, 1⟩, XA, xc⟩] 1 1 rfl rfl (Recs.lits (f := jbF) (s := 4) jbF_length (by decide) _ _ _ _ _ _ (by simp [HM.out]) (by simp) (by simp)) (by simp) _ rfl (by omega) (by simp; omega) ?_); intro A4 c4 w4 o4 g4 b4; have b5 : Below base wz w4 := ((Below.refl base wz).alloc hbz _).trans b4; have RR4 : Hid (RL w4 base A4 _ c4 (l ++ [⟨⟨tx, who, text, 1⟩, XA, xc⟩])) := Lib.hid ⟨by rw [List.length_append, HLN.out]; rfl, o4, by intro y hy; rcases List.mem_append.1 hy with hy | hy; exact (RZ.out.ok y hy).below b5; obtain rfl := List.mem_singleton.1 hy; exact rc_jb (X3.out.below b5) (by decide)⟩; have BE4 : Hid (Below w.heap.size w w4) := Lib.hid (BZ.out.trans (b5.mono (by have := B1.out.size; have := HBS.out; omega))); have hb4 : base ≤ w4.heap.size := Nat.le_trans hbz b5.size; clear o4 g4 b4 b5)
            go_ret2
            exact RgP.yes HYES.out BE4.out RR4.out.len (RR4.out.jbs hb4)
      have hw2I : ((what : Int) == 2) = false := beq_eq_false_iff_ne.2 (by omega)
      have HP := Lib.hid (put_other (l := jps l) (x := ⟨what, tx, who, yes, text⟩) HR.out hw1 hw2)
      obtain ⟨h34, hy4⟩ : (what = 3 ∨ what = 4) ∧ (yes = false ∨ what = 3) := by
        have := of_decide_eq_true HR.out
        dsimp only at this
        rcases this with h | ⟨h, _, _, h'⟩
        · exact absurd h.1 hw2
        · exact ⟨by omega, h'⟩
      go_wp2_with fail
      (with_reducible refine (rjfind_any A l c k tx wr HLN.out J2.out (by omega) HS.out).mono ?_)
      rintro e w2 ⟨rfl, rfl⟩
      obtain ⟨fo, hfo⟩ : ∃ fo, Jp.find (jps l) tx = fo := ⟨_, rfl⟩
      have HFO := Lib.hid hfo
      rw [hfo]
      clear hfo
      cases fo with
      | none =>
        simp only [fndI]
        have HNO := Lib.hid (HP.out.trans (show _ = none by rw [HFO.out]))
        go_wp2
        go_ret2
        exact RgP.no HNO.out BW.out
      | some i =>
        simp only [fndI]
        obtain ⟨yp, hyp, -, -⟩ := Jp.find_some HFO.out
        obtain ⟨y, hy, rfl⟩ : ∃ y, l[i]? = some y ∧ y.p = yp := by
          rw [jps, List.getElem?_map] at hyp
          cases hj : l[i]? with
          | none => rw [hj] at hyp; cases hyp
          | some y => rw [hj] at hyp; exact ⟨y, rfl, by simpa using hyp⟩
        have hin : i < k := by rw [← HLN.out]; exact (List.getElem?_eq_some_iff.1 hy).1
        obtain ⟨g2, rfl, hgb, hgs⟩ : ∃ g2, A' = some ⟨g2, 0, none⟩ ∧ base ≤ g2 ∧ g2 < wr.heap.size := by
          rcases RR.out.own.2 with ⟨_, h0⟩ | ⟨g, cap, cur, hv, h1, hh, _⟩
          · omega
          · exact ⟨g, by simpa using (show A' = some ⟨g, 0, none⟩ ∧ _ by simpa using hv).1, h1, (Array.getElem?_eq_some_iff.1 hh).1⟩
        obtain ⟨g3, o3, y', rfl, hg3, hy', hyo, hy0, hy1, hy2, hy3⟩ := J2.out.at_ (k := i) (by rw [HLN.out]; exact hin)
        rw [hy] at hy'
        obtain rfl := Option.some.inj hy'
        obtain ⟨g4, o4, y4, hA4, hg4, hy4', -, -, -, -, hz3⟩ := (RR.out.jbs hbw).at_ (k := i) (by rw [HLN.out]; exact hin)
        obtain ⟨rfl, rfl⟩ : g2 = g4 ∧ 0 = o4 := by simpa using hA4
        rw [hy] at hy4'
        obtain rfl := Option.some.inj hy4'
        rw [Nat.zero_add] at hz3
        have hyz : wr.frozen? ⟨g2, i * 4 + 3, none⟩ = false := by
          rcases RR.out.own.2 with ⟨h1, _⟩ | ⟨g', cap, cur, hv, _, hh, _⟩
          · cases h1
          · obtain ⟨rfl, _⟩ : g2 = g' ∧ c' = cap := by simpa using hv
            simp [World.frozen?, hh]
        have hinI : (i : Int) < (k : Int) := by omega
        have h0I : ¬ (i : Int) < 0 := by omega
        obtain ⟨st, hst⟩ : ∃ st, y.p.st = st := ⟨_, rfl⟩
        rw [hst] at hy3 hz3
        have HSTE := Lib.hid hst
        have HY := Lib.hid hy
        have HYP := Lib.hid hyp
        clear hy hyp hyo hA4 hst hy0 hy1 hy2
        rcases h34 with rfl | rfl
        · clear hy4 hw1 hw2 hw1I hw2I
          by_cases h1 : st = 1
          · subst h1
            cases yes
            · have HSP : Jp.step 3 false 1 = some 3 := rfl
              have hs256 : 3 < 256 := by decide
              have HYES := Lib.hid (put_step HR.out (by decide) (by decide) HFO.out HY.out HSTE.out HSP)
              have J4 := Lib.hid (RR.out.set hgb HY.out hs256)
              have B4 := Lib.hid (Below.setCell BW.out (p := ⟨g2, i * 4 + 3, none⟩) (by have := B1.out.size; have := HBS.out; simp only; omega) (intv hs256))
              have HB4 := Lib.hid (setCell_le (p := ⟨g2, i * 4 + 3, none⟩) hbw (intv hs256))
              clear HSP
              go_wp2
              go_ret2
              exact RgP.yes HYES.out B4.out J4.out.len (J4.out.jbs HB4.out)
            · have HSP : Jp.step 3 true 1 = some 2 := rfl
              have hs256 : 2 < 256 := by decide
              have HYES := Lib.hid (put_step HR.out (by decide) (by decide) HFO.out HY.out HSTE.out HSP)
              have J4 := Lib.hid (RR.out.set hgb HY.out hs256)
              have B4 := Lib.hid (Below.setCell BW.out (p := ⟨g2, i * 4 + 3, none⟩) (by have := B1.out.size; have := HBS.out; simp only; omega) (intv hs256))
              have HB4 := Lib.hid (setCell_le (p := ⟨g2, i * 4 + 3, none⟩) hbw (intv hs256))
              clear HSP
              go_wp2
              go_ret2
              exact RgP.yes HYES.out B4.out J4.out.len (J4.out.jbs HB4.out)
          · have h1I : ((st : Int) == 1) = false := beq_eq_false_iff_ne.2 (by omega)
            have HSP : Jp.step 3 yes st = none := by unfold Jp.step; simp [h1]
            clear h1
            have HNO := Lib.hid (put_nostep HR.out (by first | decide | assumption) (by first | decide | assumption) HFO.out HY.out HSTE.out HSP)
            go_wp2
            go_ret2
            exact RgP.no HNO.out BW.out
        · obtain rfl : yes = false := by
            rcases hy4 with h | h
            · exact h
            · exact absurd h (by decide)
          clear hy4 hw1 hw2 hw1I hw2I
          by_cases h2 : st = 2
          · subst h2
            have HSP : Jp.step 4 false 2 = some 4 := rfl
            have hs256 : 4 < 256 := by decide
            have HYES := Lib.hid (put_step HR.out (by decide) (by decide) HFO.out HY.out HSTE.out HSP)
            have J4 := Lib.hid (RR.out.set hgb HY.out hs256)
            have B4 := Lib.hid (Below.setCell BW.out (p := ⟨g2, i * 4 + 3, none⟩) (by have := B1.out.size; have := HBS.out; simp only; omega) (intv hs256))
            have HB4 := Lib.hid (setCell_le (p := ⟨g2, i * 4 + 3, none⟩) hbw (intv hs256))
            clear HSP
            go_wp2
            go_ret2
            exact RgP.yes HYES.out B4.out J4.out.len (J4.out.jbs HB4.out)
          by_cases h3 : st = 3
          · subst h3
            clear h2
            have HSP : Jp.step 4 false 3 = some 5 := rfl
            have hs256 : 5 < 256 := by decide
            have HYES := Lib.hid (put_step HR.out (by decide) (by decide) HFO.out HY.out HSTE.out HSP)
            have J4 := Lib.hid (RR.out.set hgb HY.out hs256)
            have B4 := Lib.hid (Below.setCell BW.out (p := ⟨g2, i * 4 + 3, none⟩) (by have := B1.out.size; have := HBS.out; simp only; omega) (intv hs256))
            have HB4 := Lib.hid (setCell_le (p := ⟨g2, i * 4 + 3, none⟩) hbw (intv hs256))
            clear HSP
            go_wp2
            go_ret2
            exact RgP.yes HYES.out B4.out J4.out.len (J4.out.jbs HB4.out)
          have h2I : ((st : Int) == 2) = false := beq_eq_false_iff_ne.2 (by omega)
          have h3I : ((st : Int) == 3) = false := beq_eq_false_iff_ne.2 (by omega)
          have HSP : Jp.step 4 false st = none := by unfold Jp.step; simp [h2, h3]
          clear h2 h3
          have HNO := Lib.hid (put_nostep HR.out (by first | decide | assumption) (by first | decide | assumption) HFO.out HY.out HSTE.out HSP)
          go_wp2
          go_ret2
          exact RgP.no HNO.out BW.out
end Go.Proofs.Ytegmeodmjaijnaa
