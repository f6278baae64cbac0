/- Layer 15, the document's answer: Lex (layer 13): its words are words; of a word it answers just that. -/
import Derived.Test.YthhokpaidekmnaaVrLxL
import Derived.BigQuiet
import Derived.Test.YthhokpaidekmnaaHeld
import Derived.Test.YthhokpaidekmnaaVdStep
import Derived.StillTailTactics
namespace Go.Proofs.Ythhokpaidekmnaa
open Go.RowKit
set_option linter.unusedVariables false
set_option linter.unusedSimpArgs false
set_option maxRecDepth 100000
attribute [local go_sem] Later.cell Later.frozen setCell_twice
abbrev tok1 (s : ByteArray) : Tk := ⟨1, s, ⟨0, 0⟩, 1⟩
abbrev tok4 (ln : Nat) : Tk := ⟨4, ⟨#[]⟩, ⟨0, 0⟩, (ln : Int)⟩
/-- where Lex stands, of a word -/
def GhU (s : ByteArray) (i ln : Nat) (sm : Bool) (l : List Tk) : Prop :=
 Vd.unit s = true → (i = 0 ∧ ln = 1 ∧ sm = false ∧ l = []) ∨ (i = s.size ∧ ln = 1 ∧ sm = true ∧ l = [tok1 s]) ∨ (i = s.size + 1 ∧ l = [tok1 s, tok4 1])
/-- what Lex answers -/
def LexP (s : ByteArray) (w : World) (e : Ending) (w' : World) : Prop :=
 ∃ (A : Option Addr) (n c : Nat) (l : List Tk) (f1 f2 : Int), e = .returned (.tuple #[.slice A n c, .agg #[.int .i64 f1, .int .i64 f2]]) ∧ Below w.heap.size w w' ∧ l.length = n ∧ Recs tkF 5 w' w'.heap.size A l ∧ TokOk l ∧ (Vd.unit s = true → f1 = 0 ∧ l = [tok1 s, tok4 1])
theorem own_keep {w w' : World} {B n c s : Nat} {e : TypeId} {A : Option Addr} {xs : List Value} (ho : w.ownsRow B e s (.slice A n c) n xs) (hk : ∀ k, B ≤ k → k < w.heap.size → w'.heap[k]? = w.heap[k]?) : w'.ownsRow B e s (.slice A n c) n xs := by
 obtain ⟨h1, h2⟩ := ho
 refine ⟨h1, ?_⟩
 rcases h2 with h2 | ⟨g, cap, cur, hv, hg, hh, r⟩
 ·exact .inl h2
 ·exact .inr ⟨g, cap, cur, hv, hg, (hk g hg (Array.getElem?_eq_some_iff.1 hh).1).trans hh, r⟩
theorem own_to {w w' : World} {B n c s : Nat} {e : TypeId} {A : Option Addr} {xs : List Value} (ho : w.ownsRow B e s (.slice A n c) n xs) (k : Below w.heap.size w w') : w'.ownsRow B e s (.slice A n c) n xs := own_keep ho fun i _ hi => k.block i hi
theorem ne_set {w : World} {g o : Nat} {u : Value} {B n c s : Nat} {e : TypeId} {A : Option Addr} {xs : List Value} (ho : w.ownsRow B e s (.slice A n c) n xs) (hg : g < B) : (w.setCell ⟨g, o, none⟩ u).ownsRow B e s (.slice A n c) n xs := own_keep ho fun i hi _ => Below.heap_setCell _ _ _ _ (by dsimp only; omega)
theorem recs_one1 {α : Type} {f : α → List Value} {s : Nat} {w : World} {B g : Nat} {T : TypeId} {a : α} (h : RowAt w g T (f a)) (hg : g < B) (hf : (f a).length = s) : Recs f s w B (some ⟨g, 0, none⟩) [a] := fun _ => by
 refine ⟨g, 0, rfl, hg, fun j x hx i v hv => ?_⟩
 have hj : j = 0 := by
  have := (List.getElem?_eq_some_iff.1 hx).1
  simpa using this
 subst hj
 obtain rfl : a = x := by simpa using hx
 rw [Nat.zero_mul, Nat.zero_add, Nat.zero_add]
 exact h.cell hv
set_option maxHeartbeats 16000000 in
theorem lex_any (s : ByteArray) (w : World) (h0 : 0 < s.size) (hs : s.size ≤ 8192) : Calls Try.prog 58 #[.string s] w (LexP s w) := by
 obtain ⟨iT, hifT, ht0_, ht1_, ht2_⟩ := info_split info_tok
 have g8 : decide ((8192 : Int) < (s.size : Int)) = false := decide_eq_false (by omega)
 have UO := Lib.hid (fun h => unit_out (s := s) h)
 go_enter Try.func58, Try.ntmps58
 go_upto_region 1 with fail
 obtain ⟨w0, hw0⟩ : ∃ w_q_, w_q_ = w.alloc (.cells #[.int .i64 0, .int .i64 0] 32) := ⟨_, rfl⟩
 rw [← hw0]
 have hb0 : Below w.heap.size w w0 := by rw [hw0]; exact bel_alloc (Below.refl _ _) _
 have hz0 : w0.heap.size = w.heap.size + 1 := by rw [hw0]; simp
 have c0 : w0.cell? ⟨w.heap.size, 0, none⟩ = some (.int .i64 0) := by rw [hw0]; simp [go_sem]
 have c1 : w0.cell? ⟨w.heap.size, 1, none⟩ = some (.int .i64 0) := by rw [hw0]; simp [go_sem]
 have z0 : w0.frozen? ⟨w.heap.size, 0, none⟩ = false := by rw [hw0]; simp [go_sem]
 have z1 : w0.frozen? ⟨w.heap.size, 1, none⟩ = false := by rw [hw0]; simp [go_sem]
 have hz0' : w.heap.size + 1 ≤ w0.heap.size := by omega
 clear hw0 hz0
 go_wp2
 go_loopw [4, 5, 6, 7] (fun xo xl xs xi wr => ∃ (A : Option Addr) (n c : Nat) (l : List Tk) (ln i : Nat) (sm : Bool), i ≤ s.size + 1 ∧ n ≤ i ∧ ln ≤ i + 1 ∧ Hid (l.length = n) ∧ Hid (wr.ownsRow (w.heap.size + 1) 99 5 (.slice A n c) n (l.flatMap tkF)) ∧ Hid (TokOk l) ∧ Hid (GhU s i ln sm l) ∧ xo = .slice A n c ∧ xl = .int .i64 (ln : Int) ∧ xs = .bool sm ∧ xi = .int .i64 (i : Int) ∧ Below (w.heap.size + 1) w0 wr) (fun _ _ _ xi _ => s.size + 1 - (RowKit.intOf xi).toNat)
 case atStart => exact ⟨none, 0, 0, [], 1, 0, false, by omega, by omega, by omega, Lib.hid rfl, Lib.hid (own_recs_nil tkF w0 _ _ 5), Lib.hid TokOk.nil, Lib.hid (fun _ => .inl ⟨rfl, rfl, rfl, rfl⟩), rfl, rfl, rfl, rfl, Below.refl _ _⟩
 case round =>
  rename World => wr
  obtain ⟨A, n, c, l, ln, i, sm, hi, hni, hln, HL, HO, HT, HG, rfl, rfl, rfl, rfl, hbr⟩ := hrel
  obtain ⟨xr, hxr⟩ := later_is hbr
  have hz_xr := xr.bel.size
  obtain rfl := hxr
  have hz_xr := xr.bel.size
  try simp at hz_xr
  have l_xr_0 : w.heap.size < xr.val.heap.size := by omega
  have m_xr_0 : w.heap.size < xr.val.heap.size + 1 := by omega
  have q_ := xr.cq (w.heap.size) 0
  generalize c_xr_0_0 : xr.val.cell? ⟨w.heap.size, 0, none⟩ = q at q_
  first | (have q2_ : q = some _ := q_; subst q2_) | (simp [go_sem] at q_; have q2_ : q = some _ := q_; subst q2_) | (simp [go_sem, *] at q_; have q2_ : q = some _ := q_; subst q2_)
  have q_ := xr.zq (w.heap.size) 0
  generalize z_xr_0_0 : xr.val.frozen? ⟨w.heap.size, 0, none⟩ = q at q_
  first | (have q2_ : q = false := q_; subst q2_) | (simp [go_sem] at q_; have q2_ : q = false := q_; subst q2_) | (simp [go_sem, *] at q_; have q2_ : q = false := q_; subst q2_)
  have q_ := xr.cq (w.heap.size) 1
  generalize c_xr_0_1 : xr.val.cell? ⟨w.heap.size, 1, none⟩ = q at q_
  first | (have q2_ : q = some _ := q_; subst q2_) | (simp [go_sem] at q_; have q2_ : q = some _ := q_; subst q2_) | (simp [go_sem, *] at q_; have q2_ : q = some _ := q_; subst q2_)
  have q_ := xr.zq (w.heap.size) 1
  generalize z_xr_0_1 : xr.val.frozen? ⟨w.heap.size, 1, none⟩ = q at q_
  first | (have q2_ : q = false := q_; subst q2_) | (simp [go_sem] at q_; have q2_ : q = false := q_; subst q2_) | (simp [go_sem, *] at q_; have q2_ : q = false := q_; subst q2_)
  have hbe : Below w.heap.size w xr.val := hb0.trans (hbr.mono (by omega))
  have lnw : IntKind.i64.wrap ((ln : Int) + 1) = (ln : Int) + 1 := IntWalk.i64_in _ (by omega)
  have iw : IntKind.i64.wrap ((i : Int) + 1) = (i : Int) + 1 := IntWalk.i64_in _ (by omega)
  by_cases hlast : i = s.size + 1
  ·subst hlast
   have r1 : decide (((s.size + 1 : Nat) : Int) ≤ (s.size : Int)) = false := decide_eq_false (by omega)
   have r2 : decide ((s.size : Int) + 1 ≤ (s.size : Int)) = false := decide_eq_false (by omega)
   go_wp2
   refine bodyPost_ret (v := .tuple #[.slice A n c, .agg #[.int .i64 0, .int .i64 0]]) (by simp [results, Try.results58, go_sem, *]) rfl ⟨A, n, c, l, 0, 0, rfl, belo, HL.out, ?_, HT.out, fun hu => ⟨rfl, ?_⟩⟩
   ·first | exact Recs.of_own (f := tkF) (s := 5) (fun _ => rfl) (by decide) (ne_set (ne_set HO.out (by omega)) (by omega)) | exact Recs.of_own (f := tkF) (s := 5) (fun _ => rfl) (by decide) HO.out
   ·rcases HG.out hu with h | h | h
    ·omega
    ·omega
    ·exact h.2
  have r1 : decide ((i : Int) ≤ (s.size : Int)) = true := decide_eq_true (by omega)
  by_cases hend : i = s.size
  ·have r3 : ((i : Int) == (s.size : Int)) = true := beq_iff_eq.2 (by omega)
   have r3' : (i == s.size) = true := beq_iff_eq.2 hend
   have HE := Lib.hid (fun _ : Vd.unit s = true => hend)
   clear hend
   cases sm
   ·have HG2 : Hid (GhU s (i + 1) (ln + 1) false l) := Lib.hid (fun hu => by
     exfalso
     have h1 := HE.out hu
     rcases HG.out hu with h | h | h
     ·omega
     ·have := h.2.2.1; cases this
     ·omega)
    go_wp2
    go_roundw
    case rel => exact ⟨A, n, c, l, ln + 1, i + 1, false, by omega, by omega, by omega, HL, HO, HT, HG2, by first | rfl | trivial, by go_num, by first | rfl | trivial, by go_num, hbr⟩
    case measure => simp [RowKit.intOf]; omega
   ·have bal : Below xr.val.heap.size xr.val (xr.val.alloc (.cells #[.int .u8 4, .string ⟨#[]⟩, .int .i64 0, .int .u8 0, .int .i64 (ln : Int)] 99)) := bel_alloc (Below.refl _ _) _
    have HO2 := Lib.hid (own_to HO.out bal)
    have RN := Lib.hid (recs_one1 (f := tkF) (a := tok4 ln) (RowAt.new' xr.val xr.val.heap.size 99 (tkF (tok4 ln)) rfl) (show xr.val.heap.size < xr.val.heap.size + 1 by omega) rfl)
    go_wp2_with (at_builtin; go_loud (refine wpList_append_recs (f := tkF) (s := 5) _ rfl (.tmp 33) (.tmp 36) 95 rfl (fun _ => rfl) (by decide) tkF_one (w.heap.size + 1) 99 iT _ 48 Try.underlying95 hifT ht0_ ht1_ ht2_ (by decide) rfl (.slice A n c) l rfl (by rw [HL.out]; exact HO2.out) (xr.val.heap.size + 1) (some ⟨xr.val.heap.size, 0, none⟩) [tok4 ln] 1 1 rfl rfl RN.out (by simp) (by rw [HL.out]; omega) (by simp; omega) ?_; intro A2 c2 w2 o2 g2 b2; have O2 := Lib.hid o2; have B2 := Lib.hid b2; clear o2 g2 b2))
    have HG2 : Hid (GhU s (i + 1) (ln + 1) false (l ++ [tok4 ln])) := Lib.hid (fun hu => by
     have h1 := HE.out hu
     rcases HG.out hu with h | h | h
     ·omega
     ·right; right
      obtain ⟨_, rfl, _, h5⟩ := h
      exact ⟨by omega, by rw [h5]; rfl⟩
     ·omega)
    have hl2 : (l ++ [tok4 ln]).length = n + 1 := by rw [List.length_append, HL.out]; rfl
    rw [hl2] at O2
    try rw [hl2]
    have HL2 := Lib.hid hl2
    have HT2 := Lib.hid (HT.out.snoc (t := tok4 ln) (fun h => by cases h))
    have bfin : Below (w.heap.size + 1) w0 w2 := (hbr.trans (bal.mono (by omega))).trans B2.out
    clear hl2
    go_wp2
    go_roundw
    case rel => exact ⟨A2, n + 1, c2, _, ln + 1, i + 1, false, by omega, by omega, by omega, HL2, O2, HT2, HG2, by first | rfl | trivial | (rw [HL.out]), by go_num, by first | rfl | trivial, by go_num, bfin⟩
    case measure => simp [RowKit.intOf]; omega
  have hil : i < s.size := by omega
  have hilI : (i : Int) < (s.size : Int) := by omega
  have r3 : ((i : Int) == (s.size : Int)) = false := beq_eq_false_iff_ne.2 (by omega)
  have r3' : (i == s.size) = false := beq_eq_false_iff_ne.2 hend
  obtain ⟨k, hk⟩ : ∃ k, s[i].toNat = k := ⟨_, rfl⟩
  have HU : Hid (Vd.unit s = true → i = 0 ∧ ln = 1 ∧ l = [] ∧ letN k) := Lib.hid (fun hu => by
   rcases HG.out hu with h | h | h
   ·refine ⟨h.1, h.2.1, h.2.2.2, ?_⟩
    have := (UO.out hu).2.1 h0
    rw [← hk]
    obtain ⟨h9, _⟩ := h
    subst h9
    exact this
   ·omega
   ·omega)
  clear hend hlast
  by_cases k10 : k = 10
  ·have r4 : ((k : Int) == 10) = true := beq_iff_eq.2 (by omega)
   have HE : Hid (Vd.unit s = true → i = s.size) := Lib.hid (fun hu => by have := (HU.out hu).2.2.2; unfold letN at this; omega)
   clear k10
   cases sm
   ·have HG2 : Hid (GhU s (i + 1) (ln + 1) false l) := Lib.hid (fun hu => by
     exfalso
     have h1 := HE.out hu
     rcases HG.out hu with h | h | h
     ·omega
     ·have := h.2.2.1; cases this
     ·omega)
    go_wp2
    go_roundw
    case rel => exact ⟨A, n, c, l, ln + 1, i + 1, false, by omega, by omega, by omega, HL, HO, HT, HG2, by first | rfl | trivial, by go_num, by first | rfl | trivial, by go_num, hbr⟩
    case measure => simp [RowKit.intOf]; omega
   ·have bal : Below xr.val.heap.size xr.val (xr.val.alloc (.cells #[.int .u8 4, .string ⟨#[]⟩, .int .i64 0, .int .u8 0, .int .i64 (ln : Int)] 99)) := bel_alloc (Below.refl _ _) _
    have HO2 := Lib.hid (own_to HO.out bal)
    have RN := Lib.hid (recs_one1 (f := tkF) (a := tok4 ln) (RowAt.new' xr.val xr.val.heap.size 99 (tkF (tok4 ln)) rfl) (show xr.val.heap.size < xr.val.heap.size + 1 by omega) rfl)
    go_wp2_with (at_builtin; go_loud (refine wpList_append_recs (f := tkF) (s := 5) _ rfl (.tmp 33) (.tmp 36) 95 rfl (fun _ => rfl) (by decide) tkF_one (w.heap.size + 1) 99 iT _ 48 Try.underlying95 hifT ht0_ ht1_ ht2_ (by decide) rfl (.slice A n c) l rfl (by rw [HL.out]; exact HO2.out) (xr.val.heap.size + 1) (some ⟨xr.val.heap.size, 0, none⟩) [tok4 ln] 1 1 rfl rfl RN.out (by simp) (by rw [HL.out]; omega) (by simp; omega) ?_; intro A2 c2 w2 o2 g2 b2; have O2 := Lib.hid o2; have B2 := Lib.hid b2; clear o2 g2 b2))
    have HG2 : Hid (GhU s (i + 1) (ln + 1) false (l ++ [tok4 ln])) := Lib.hid (fun hu => by
     have h1 := HE.out hu
     rcases HG.out hu with h | h | h
     ·omega
     ·right; right
      obtain ⟨_, rfl, _, h5⟩ := h
      exact ⟨by omega, by rw [h5]; rfl⟩
     ·omega)
    have hl2 : (l ++ [tok4 ln]).length = n + 1 := by rw [List.length_append, HL.out]; rfl
    rw [hl2] at O2
    try rw [hl2]
    have HL2 := Lib.hid hl2
    have HT2 := Lib.hid (HT.out.snoc (t := tok4 ln) (fun h => by cases h))
    have bfin : Below (w.heap.size + 1) w0 w2 := (hbr.trans (bal.mono (by omega))).trans B2.out
    clear hl2
    go_wp2
    go_roundw
    case rel => exact ⟨A2, n + 1, c2, _, ln + 1, i + 1, false, by omega, by omega, by omega, HL2, O2, HT2, HG2, by first | rfl | trivial | (rw [HL.out]), by go_num, by first | rfl | trivial, by go_num, bfin⟩
    case measure => simp [RowKit.intOf]; omega
  have r4 : ((k : Int) == 10) = false := beq_eq_false_iff_ne.2 (by omega)
  by_cases k35 : k = 35
  ·have r5 : ((k : Int) == 35) = true := beq_iff_eq.2 (by omega)
   have HNU : Hid (¬ Vd.unit s = true) := Lib.hid (fun hu => by have := (HU.out hu).2.2.2; unfold letN at this; omega)
   clear k10 k35
   go_wp2
   go_loopw [7] (fun xi wz => ∃ i2 : Nat, i ≤ i2 ∧ i2 < s.size ∧ xi = .int .i64 (i2 : Int) ∧ wz = xr.val) (fun xi _ => s.size - (RowKit.intOf xi).toNat)
   case atStart => exact ⟨i, Nat.le_refl _, hil, rfl, rfl⟩
   case round =>
    rename World => wz
    obtain ⟨i2, hi2, hi2s, rfl, rfl⟩ := hrel
    have iw2 : IntKind.i64.wrap ((i2 : Int) + 1) = (i2 : Int) + 1 := IntWalk.i64_in _ (by omega)
    have HG2 : Hid (GhU s (i2 + 1) ln sm l) := Lib.hid (fun hu => absurd hu HNU.out)
    by_cases hx : i2 + 1 < s.size
    ·have p1 : decide ((i2 : Int) + 1 < (s.size : Int)) = true := decide_eq_true (by omega)
     have p1' : (i2 : Int) + 1 < (s.size : Int) := by omega
     obtain ⟨k2, hk2⟩ : ∃ k, s[i2 + 1].toNat = k := ⟨_, rfl⟩
     by_cases hk3 : k2 = 10
     ·have p2 : ((k2 : Int) != 10) = false := by simp [hk3]
      clear hk3
      go_wp2
      go_roundw
      case rel => exact ⟨A, n, c, l, ln, i2 + 1, sm, by omega, by omega, by omega, HL, HO, HT, HG2, by first | rfl | trivial, by first | rfl | trivial, by first | rfl | trivial, by go_num, hbr⟩
      case measure => simp [RowKit.intOf]; omega
     ·have p2 : ((k2 : Int) != 10) = true := bne_iff_ne.2 (by omega)
      clear hk3
      go_wp2
      go_roundw
      case rel => exact ⟨i2 + 1, by omega, hx, by go_num, by first | rfl | trivial⟩
      case measure => simp [RowKit.intOf]; omega
    ·have p1 : decide ((i2 : Int) + 1 < (s.size : Int)) = false := decide_eq_false (by omega)
     go_wp2
     go_roundw
     case rel => exact ⟨A, n, c, l, ln, i2 + 1, sm, by omega, by omega, by omega, HL, HO, HT, HG2, by first | rfl | trivial, by first | rfl | trivial, by first | rfl | trivial, by go_num, hbr⟩
     case measure => simp [RowKit.intOf]; omega
  have r5 : ((k : Int) == 35) = false := beq_eq_false_iff_ne.2 (by omega)
  by_cases k9 : k = 9
  ·have r6 : ((k : Int) == 9) = true := beq_iff_eq.2 (by omega)
   have HG2 : Hid (GhU s (i + 1) ln sm l) := Lib.hid (fun hu => by have := (HU.out hu).2.2.2; unfold letN at this; omega)
   go_wp2
   go_roundw
   case rel => exact ⟨A, n, c, l, ln, i + 1, sm, by omega, by omega, by omega, HL, HO, HT, HG2, by first | rfl | trivial, by first | rfl | trivial, by first | rfl | trivial, by go_num, hbr⟩
   case measure => simp [RowKit.intOf]; omega
  have r6 : ((k : Int) == 9) = false := beq_eq_false_iff_ne.2 (by omega)
  by_cases k13 : k = 13
  ·have r7 : ((k : Int) == 13) = true := beq_iff_eq.2 (by omega)
   have HG2 : Hid (GhU s (i + 1) ln sm l) := Lib.hid (fun hu => by have := (HU.out hu).2.2.2; unfold letN at this; omega)
   go_wp2
   go_roundw
   case rel => exact ⟨A, n, c, l, ln, i + 1, sm, by omega, by omega, by omega, HL, HO, HT, HG2, by first | rfl | trivial, by first | rfl | trivial, by first | rfl | trivial, by go_num, hbr⟩
   case measure => simp [RowKit.intOf]; omega
  have r7 : ((k : Int) == 13) = false := beq_eq_false_iff_ne.2 (by omega)
  by_cases k32 : k = 32
  ·have r8 : ((k : Int) == 32) = true := beq_iff_eq.2 (by omega)
   have HG2 : Hid (GhU s (i + 1) ln sm l) := Lib.hid (fun hu => by have := (HU.out hu).2.2.2; unfold letN at this; omega)
   go_wp2
   go_roundw
   case rel => exact ⟨A, n, c, l, ln, i + 1, sm, by omega, by omega, by omega, HL, HO, HT, HG2, by first | rfl | trivial, by first | rfl | trivial, by first | rfl | trivial, by go_num, hbr⟩
   case measure => simp [RowKit.intOf]; omega
  have r8 : ((k : Int) == 32) = false := beq_eq_false_iff_ne.2 (by omega)
  clear k9 k13 k32 k10 k35
  have LT := Lib.hid (fun w => letter_any k _ rfl w)
  have DG := Lib.hid (fun w => rdigit_any k _ rfl w)
  by_cases q1 : letN k
  ·rw [decide_eq_true q1] at LT
   have HLN := Lib.hid q1
   clear q1
   go_wp2_with fail
   (with_reducible refine (LT.out _).mono ?_)
   rintro e_ w_ ⟨rfl, rfl⟩
   have hpc : (i : Int) ≤ (i : Int) + 1 := by omega
   have hpc2 : (i : Int) + 1 ≤ (s.size : Int) := by omega
   go_upto_region 28 with fail
   obtain ⟨wt, hwt⟩ : ∃ w_q_, w_q_ = xr.val.alloc (.cells #[.int .u8 1, .string (s.extract i (i + 1)), .int .i64 0, .int .u8 0, .int .i64 (ln : Int)] 99) := ⟨_, rfl⟩
   rw [← hwt]
   have hbt : Below xr.val.heap.size xr.val wt := by rw [hwt]; exact bel_alloc (Below.refl _ _) _
   have RT : Hid (RowAt wt xr.val.heap.size 99 [.int .u8 1, .string (s.extract i (i + 1)), .int .i64 0, .int .u8 0, .int .i64 (ln : Int)]) := Lib.hid (by rw [hwt]; exact RowAt.new' _ _ _ _ rfl)
   clear hwt
   go_loopw [7] (fun xi wz => ∃ i2 : Nat, i ≤ i2 ∧ i2 < s.size ∧ xi = .int .i64 (i2 : Int) ∧ Hid (RowAt wz xr.val.heap.size 99 [.int .u8 1, .string (s.extract i (i2 + 1)), .int .i64 0, .int .u8 0, .int .i64 (ln : Int)]) ∧ Hid (∀ (j : Nat) (hj : i < j) (hj2 : j ≤ i2) (hjs : j < s.size), goesN 1 (s[j]'hjs).toNat = true) ∧ Below xr.val.heap.size xr.val wz) (fun xi _ => s.size - (RowKit.intOf xi).toNat)
   case atStart => exact ⟨i, Nat.le_refl _, hil, rfl, RT, Lib.hid (fun j h1 h2 => by omega), hbt⟩
   case round =>
    clear RT hbt
    rename World => wz
    obtain ⟨i2, hi2, hi2s, rfl, RT, HGO, hbz⟩ := hrel
    obtain ⟨ix, hix⟩ : ∃ ix, i2 + 1 = ix := ⟨_, rfl⟩
    have iw1 : (i2 : Int) + 1 = (ix : Int) := by omega
    have iw2 : IntKind.i64.wrap (ix : Int) = (ix : Int) := IntWalk.i64_in _ (by omega)
    rw [hix] at RT
    have HIX := Lib.hid hix
    have hixi : i < ix ∧ ix ≤ s.size := by omega
    have hbw : Below w.heap.size w wz := hbe.trans (hbz.mono hbe.size)
    have lgt : xr.val.heap.size < wz.heap.size := RT.out.lt
    have t0 : wz.cell? ⟨xr.val.heap.size, 0, none⟩ = some (.int .u8 1) := RT.out.cells 0
    have t1 : wz.cell? ⟨xr.val.heap.size, 1, none⟩ = some (.string (s.extract i ix)) := RT.out.cells 1
    obtain ⟨xz, hxz⟩ := later_is hbz
    obtain rfl := hxz
    have lfv : w.heap.size < xz.val.heap.size := by omega
    have lfx : w.heap.size < xr.val.heap.size := by omega
    have hmz : (s.extract i ix).size = ix - i := by rw [ByteArray.size_extract]; omega
    clear hix
    by_cases hx : ix < s.size
    rotate_left
    ·have p1 : decide ((ix : Int) < (s.size : Int)) = false := decide_eq_false (by omega)
     have p2 : decide (ix < s.size) = false := decide_eq_false hx
     have HX : Hid (Vd.unit s = true → ix = s.size) := Lib.hid (fun _ => by omega)
     go_upto_region 28 with fail
     refine wp_region_lat (by kernel_rfl) (by kernel_rfl) ?_
     repeat (go_big_quiet_step (fail))
     refine wpQuiet_nil ?_
     rintro _ ⟨xq, rfl⟩
     have hz_xq := xq.bel.size
     try simp at hz_xq
     obtain ⟨tx, htx⟩ : ∃ tx, s.extract i ix = tx := ⟨_, rfl⟩
     clear t0 t1
     rw [htx] at RT hmz
     have HTX := Lib.hid htx
     have HMZ := Lib.hid hmz
     clear htx hmz
     have x0 : xq.val.cell? ⟨xr.val.heap.size, 0, none⟩ = some (.int .u8 1) := (RT.out.to xq.bel).cells 0
     have x1 : xq.val.cell? ⟨xr.val.heap.size, 1, none⟩ = some (.string tx) := (RT.out.to xq.bel).cells 1
     have x2 : xq.val.cell? ⟨xr.val.heap.size, 2, none⟩ = some (.int .i64 0) := (RT.out.to xq.bel).cells 2
     have x3 : xq.val.cell? ⟨xr.val.heap.size, 3, none⟩ = some (.int .u8 0) := (RT.out.to xq.bel).cells 3
     have x4 : xq.val.cell? ⟨xr.val.heap.size, 4, none⟩ = some (.int .i64 (ln : Int)) := (RT.out.to xq.bel).cells 4
     have xz2 : xq.val.frozen? ⟨xr.val.heap.size, 2, none⟩ = false := (RT.out.to xq.bel).frozen 2
     have xz3 : xq.val.frozen? ⟨xr.val.heap.size, 3, none⟩ = false := (RT.out.to xq.bel).frozen 3
     have lxq : xr.val.heap.size < xq.val.heap.size := by omega
     have hbq : Below xr.val.heap.size xr.val xq.val := hbz.trans (xq.bel.mono (by omega))
     have hbqw : Below w.heap.size w xq.val := hbw.trans (xq.bel.mono hbw.size)
     have f0 : xq.val.cell? ⟨w.heap.size, 0, none⟩ = some (.int .i64 0) := (hbq.cell (p := ⟨w.heap.size, 0, none⟩) lfx).trans c_xr_0_0
     have f1 : xq.val.cell? ⟨w.heap.size, 1, none⟩ = some (.int .i64 0) := (hbq.cell (p := ⟨w.heap.size, 1, none⟩) lfx).trans c_xr_0_1
     have y0 : xq.val.frozen? ⟨w.heap.size, 0, none⟩ = false := (hbq.frozen (p := ⟨w.heap.size, 0, none⟩) lfx).trans z_xr_0_0
     have y1 : xq.val.frozen? ⟨w.heap.size, 1, none⟩ = false := (hbq.frozen (p := ⟨w.heap.size, 1, none⟩) lfx).trans z_xr_0_1
     have lfq : w.heap.size < xq.val.heap.size := by omega
     by_cases h20 : 20 < tx.size
     ·have v1 : decide ((20 : Int) < (tx.size : Int)) = true := decide_eq_true (by omega)
      have HNU : Hid (¬ Vd.unit s = true) := Lib.hid (fun hu => by have h1 := (UO.out hu).1; have h2 := (HU.out hu).1; have h3 := HMZ.out; omega)
      clear h20
      go_wp2
      refine bodyPost_ret (v := .tuple #[.slice none 0 0, .agg #[.int .i64 133, .int .i64 (ln : Int)]]) (by simp [results, Try.results58, go_sem, *]) rfl ⟨none, 0, 0, [], 133, (ln : Int), rfl, belo, rfl, Recs.nil, TokOk.nil, fun hu => absurd hu HNU.out⟩
     have v1 : decide ((20 : Int) < (tx.size : Int)) = false := decide_eq_false (by omega)
     have HT2 := Lib.hid (HT.out.snoc (t := ⟨1, tx, ⟨0, 0⟩, (ln : Int)⟩) (fun _ => by rw [← HTX.out]; exact unit_piece (a := i) (b := ix) (by omega) (by omega) (by have h3 := HMZ.out; omega) (by rw [hk]; exact HLN.out) (fun j h1 h2 => HGO.out j h1 (by have := HIX.out; omega) (by omega))))
     have HG2 : Hid (GhU s ix ln true (l ++ [⟨1, tx, ⟨0, 0⟩, (ln : Int)⟩])) := Lib.hid (fun hu => by
      obtain ⟨rfl, rfl, rfl, _⟩ := HU.out hu
      right; left
      have h1 := HX.out hu
      refine ⟨h1, rfl, rfl, ?_⟩
      rw [← HTX.out, h1, extract_whole]
      rfl)
     have HBX := hbq
     clear h20
     have bal : Below xq.val.heap.size xq.val (xq.val.alloc (.cells (tkF ((⟨1, tx, ⟨0, 0⟩, (ln : Int)⟩ : Tk))).toArray 99)) := bel_alloc (Below.refl _ _) _
     have HO2 := Lib.hid (own_to (own_to HO.out HBX) bal)
     have RN := Lib.hid (recs_one1 (f := tkF) (a := (⟨1, tx, ⟨0, 0⟩, (ln : Int)⟩ : Tk)) (RowAt.new' xq.val xq.val.heap.size 99 (tkF ((⟨1, tx, ⟨0, 0⟩, (ln : Int)⟩ : Tk))) rfl) (show xq.val.heap.size < xq.val.heap.size + 1 by omega) rfl)
     have hbase : w.heap.size + 1 ≤ xq.val.heap.size + 1 := by omega
     go_upto_region 38 with fail
     go_wp2_with (at_builtin; go_loud (refine wpList_append_recs (f := tkF) (s := 5) _ rfl (.tmp 148) (.tmp 150) 95 rfl (fun _ => rfl) (by decide) tkF_one (w.heap.size + 1) 99 iT _ 48 Try.underlying95 hifT ht0_ ht1_ ht2_ (by decide) rfl (.slice A n c) l rfl (by rw [HL.out]; exact HO2.out) (xq.val.heap.size + 1) (some ⟨xq.val.heap.size, 0, none⟩) [(⟨1, tx, ⟨0, 0⟩, (ln : Int)⟩ : Tk)] 1 1 rfl rfl RN.out (by simp) (by rw [HL.out]; omega) (by simp; omega) ?_; intro A2 c2 w2 o2 g2 b2; have O2 := Lib.hid o2; have B2 := Lib.hid b2; clear o2 g2 b2))
     have hl2 : (l ++ [(⟨1, tx, ⟨0, 0⟩, (ln : Int)⟩ : Tk)]).length = n + 1 := by rw [List.length_append, HL.out]; rfl
     rw [hl2] at O2
     try rw [hl2]
     have HL2 := Lib.hid hl2
     have bfin : Below (w.heap.size + 1) w0 w2 := ((hbr.trans (HBX.mono (by omega))).trans (bal.mono (by omega))).trans B2.out
     clear hl2
     go_wp2
     go_roundw
     case rel => exact ⟨A2, n + 1, c2, _, ln, ix, true, by omega, by omega, by omega, HL2, O2, HT2, HG2, by first | rfl | trivial | (rw [HL.out]), by first | rfl | trivial, by first | rfl | trivial, by first | rfl | go_num, bfin⟩
     case measure => (have := HIX.out); simp [RowKit.intOf]; omega
    have p1 : decide ((ix : Int) < (s.size : Int)) = true := decide_eq_true (by omega)
    have p2 : decide (ix < s.size) = true := decide_eq_true hx
    have p1' : (ix : Int) < (s.size : Int) := by omega
    obtain ⟨k2, hk2⟩ : ∃ k, s[ix].toNat = k := ⟨_, rfl⟩
    obtain ⟨bg, hbg⟩ : ∃ b, goesN 1 k2 = b := ⟨_, rfl⟩
    have GO := Lib.hid (fun w => (show Calls Try.prog 64 #[.int .u8 1, .int .u8 (k2 : Int)] w _ from goes_any 1 k2 bg hbg w))
    cases bg
    ·have HX : Hid (Vd.unit s = true → ix = s.size) := Lib.hid (fun hu => by
      exfalso
      have h1 := (UO.out hu).2.2 ix hx
      rw [hk2, hbg] at h1
      cases h1)
     clear hbg
     go_upto_region 28 with fail
     refine wp_region_lat (by kernel_rfl) (by kernel_rfl) ?_
     repeat (go_big_quiet_step (fail))
     go_big_quiet_step (exact later_same (GO.out _))
     repeat (go_big_quiet_step (fail))
     refine wpQuiet_nil ?_
     rintro _ ⟨xq, rfl⟩
     have hz_xq := xq.bel.size
     try simp at hz_xq
     obtain ⟨tx, htx⟩ : ∃ tx, s.extract i ix = tx := ⟨_, rfl⟩
     clear t0 t1
     rw [htx] at RT hmz
     have HTX := Lib.hid htx
     have HMZ := Lib.hid hmz
     clear htx hmz
     have x0 : xq.val.cell? ⟨xr.val.heap.size, 0, none⟩ = some (.int .u8 1) := (RT.out.to xq.bel).cells 0
     have x1 : xq.val.cell? ⟨xr.val.heap.size, 1, none⟩ = some (.string tx) := (RT.out.to xq.bel).cells 1
     have x2 : xq.val.cell? ⟨xr.val.heap.size, 2, none⟩ = some (.int .i64 0) := (RT.out.to xq.bel).cells 2
     have x3 : xq.val.cell? ⟨xr.val.heap.size, 3, none⟩ = some (.int .u8 0) := (RT.out.to xq.bel).cells 3
     have x4 : xq.val.cell? ⟨xr.val.heap.size, 4, none⟩ = some (.int .i64 (ln : Int)) := (RT.out.to xq.bel).cells 4
     have xz2 : xq.val.frozen? ⟨xr.val.heap.size, 2, none⟩ = false := (RT.out.to xq.bel).frozen 2
     have xz3 : xq.val.frozen? ⟨xr.val.heap.size, 3, none⟩ = false := (RT.out.to xq.bel).frozen 3
     have lxq : xr.val.heap.size < xq.val.heap.size := by omega
     have hbq : Below xr.val.heap.size xr.val xq.val := hbz.trans (xq.bel.mono (by omega))
     have hbqw : Below w.heap.size w xq.val := hbw.trans (xq.bel.mono hbw.size)
     have f0 : xq.val.cell? ⟨w.heap.size, 0, none⟩ = some (.int .i64 0) := (hbq.cell (p := ⟨w.heap.size, 0, none⟩) lfx).trans c_xr_0_0
     have f1 : xq.val.cell? ⟨w.heap.size, 1, none⟩ = some (.int .i64 0) := (hbq.cell (p := ⟨w.heap.size, 1, none⟩) lfx).trans c_xr_0_1
     have y0 : xq.val.frozen? ⟨w.heap.size, 0, none⟩ = false := (hbq.frozen (p := ⟨w.heap.size, 0, none⟩) lfx).trans z_xr_0_0
     have y1 : xq.val.frozen? ⟨w.heap.size, 1, none⟩ = false := (hbq.frozen (p := ⟨w.heap.size, 1, none⟩) lfx).trans z_xr_0_1
     have lfq : w.heap.size < xq.val.heap.size := by omega
     by_cases h20 : 20 < tx.size
     ·have v1 : decide ((20 : Int) < (tx.size : Int)) = true := decide_eq_true (by omega)
      have HNU : Hid (¬ Vd.unit s = true) := Lib.hid (fun hu => by have h1 := (UO.out hu).1; have h2 := (HU.out hu).1; have h3 := HMZ.out; omega)
      clear h20
      go_wp2
      refine bodyPost_ret (v := .tuple #[.slice none 0 0, .agg #[.int .i64 133, .int .i64 (ln : Int)]]) (by simp [results, Try.results58, go_sem, *]) rfl ⟨none, 0, 0, [], 133, (ln : Int), rfl, belo, rfl, Recs.nil, TokOk.nil, fun hu => absurd hu HNU.out⟩
     have v1 : decide ((20 : Int) < (tx.size : Int)) = false := decide_eq_false (by omega)
     have HT2 := Lib.hid (HT.out.snoc (t := ⟨1, tx, ⟨0, 0⟩, (ln : Int)⟩) (fun _ => by rw [← HTX.out]; exact unit_piece (a := i) (b := ix) (by omega) (by omega) (by have h3 := HMZ.out; omega) (by rw [hk]; exact HLN.out) (fun j h1 h2 => HGO.out j h1 (by have := HIX.out; omega) (by omega))))
     have HG2 : Hid (GhU s ix ln true (l ++ [⟨1, tx, ⟨0, 0⟩, (ln : Int)⟩])) := Lib.hid (fun hu => by
      obtain ⟨rfl, rfl, rfl, _⟩ := HU.out hu
      right; left
      have h1 := HX.out hu
      refine ⟨h1, rfl, rfl, ?_⟩
      rw [← HTX.out, h1, extract_whole]
      rfl)
     have HBX := hbq
     clear h20
     have bal : Below xq.val.heap.size xq.val (xq.val.alloc (.cells (tkF ((⟨1, tx, ⟨0, 0⟩, (ln : Int)⟩ : Tk))).toArray 99)) := bel_alloc (Below.refl _ _) _
     have HO2 := Lib.hid (own_to (own_to HO.out HBX) bal)
     have RN := Lib.hid (recs_one1 (f := tkF) (a := (⟨1, tx, ⟨0, 0⟩, (ln : Int)⟩ : Tk)) (RowAt.new' xq.val xq.val.heap.size 99 (tkF ((⟨1, tx, ⟨0, 0⟩, (ln : Int)⟩ : Tk))) rfl) (show xq.val.heap.size < xq.val.heap.size + 1 by omega) rfl)
     have hbase : w.heap.size + 1 ≤ xq.val.heap.size + 1 := by omega
     go_upto_region 38 with fail
     go_wp2_with (at_builtin; go_loud (refine wpList_append_recs (f := tkF) (s := 5) _ rfl (.tmp 148) (.tmp 150) 95 rfl (fun _ => rfl) (by decide) tkF_one (w.heap.size + 1) 99 iT _ 48 Try.underlying95 hifT ht0_ ht1_ ht2_ (by decide) rfl (.slice A n c) l rfl (by rw [HL.out]; exact HO2.out) (xq.val.heap.size + 1) (some ⟨xq.val.heap.size, 0, none⟩) [(⟨1, tx, ⟨0, 0⟩, (ln : Int)⟩ : Tk)] 1 1 rfl rfl RN.out (by simp) (by rw [HL.out]; omega) (by simp; omega) ?_; intro A2 c2 w2 o2 g2 b2; have O2 := Lib.hid o2; have B2 := Lib.hid b2; clear o2 g2 b2))
     have hl2 : (l ++ [(⟨1, tx, ⟨0, 0⟩, (ln : Int)⟩ : Tk)]).length = n + 1 := by rw [List.length_append, HL.out]; rfl
     rw [hl2] at O2
     try rw [hl2]
     have HL2 := Lib.hid hl2
     have bfin : Below (w.heap.size + 1) w0 w2 := ((hbr.trans (HBX.mono (by omega))).trans (bal.mono (by omega))).trans B2.out
     clear hl2
     go_wp2
     go_roundw
     case rel => exact ⟨A2, n + 1, c2, _, ln, ix, true, by omega, by omega, by omega, HL2, O2, HT2, HG2, by first | rfl | trivial | (rw [HL.out]), by first | rfl | trivial, by first | rfl | trivial, by first | rfl | go_num, bfin⟩
     case measure => (have := HIX.out); simp [RowKit.intOf]; omega
    ·have HGO2 : Hid (∀ (j : Nat) (hj : i < j) (hj2 : j ≤ ix) (hjs : j < s.size), goesN 1 (s[j]'hjs).toNat = true) := Lib.hid (fun j h1 h2 h3 => by
      rcases Nat.lt_or_ge i2 j with h4 | h4
      ·obtain rfl : j = ix := by have := HIX.out; omega
       rw [hk2]; exact hbg
      ·exact HGO.out j h1 h4 h3)
     have pc1 : (ix : Int) ≤ (ix : Int) + 1 := by omega
     have pc2 : (ix : Int) + 1 ≤ (s.size : Int) := by omega
     have iw3 : IntKind.i64.wrap ((ix : Int) + 1) = (ix : Int) + 1 := IntWalk.i64_in _ (by omega)
     have hsn : s.extract i ix ++ s.extract ix (ix + 1) = s.extract i (ix + 1) := extract_snoc s i ix (by omega) hx
     have hcat : ¬ (9223372036854775807 < ix - i + (min (ix + 1) s.size - ix)) := by omega
     clear hbg
     go_upto_region 28 with fail
     refine wp_region_lat (by kernel_rfl) (by kernel_rfl) ?_
     repeat (go_big_quiet_step (fail))
     go_big_quiet_step (exact later_same (GO.out _))
     repeat (go_big_quiet_step (fail))
     refine wpQuiet_nil ?_
     rintro _ ⟨xq, rfl⟩
     have hz_xq := xq.bel.size
     try simp at hz_xq
     have x0 : xq.val.cell? ⟨xr.val.heap.size, 0, none⟩ = some (.int .u8 1) := (RT.out.to xq.bel).cells 0
     have x1 : xq.val.cell? ⟨xr.val.heap.size, 1, none⟩ = some (.string (s.extract i ix)) := (RT.out.to xq.bel).cells 1
     have xz1 : xq.val.frozen? ⟨xr.val.heap.size, 1, none⟩ = false := (RT.out.to xq.bel).frozen 1
     have lxq : xr.val.heap.size < xq.val.heap.size := by omega
     have hbq : Below xr.val.heap.size xr.val xq.val := hbz.trans (xq.bel.mono (by omega))
     have RT2 : Hid (RowAt (xq.val.setCell ⟨xr.val.heap.size, 1, none⟩ (.string (s.extract i (ix + 1)))).drew xr.val.heap.size 99 [.int .u8 1, .string (s.extract i (ix + 1)), .int .i64 0, .int .u8 0, .int .i64 (ln : Int)]) := Lib.hid (((RT.out.to xq.bel).set 1 _).drew)
     have bfin : Below xr.val.heap.size xr.val (xq.val.setCell ⟨xr.val.heap.size, 1, none⟩ (.string (s.extract i (ix + 1)))).drew := (bel_set hbq (Nat.le_refl _) _).drew
     go_upto_region 30 with fail
     refine wp_region_held_drew (S := (fun _ => True)) (by kernel_rfl) ?_ (fun hHeld => ?_)
     ·trivial
     refine takeD (i := 0) (oi := _) (v := ?vv28) (d := some 113) rfl (by kernel_rfl) (by kernel_rfl) (by kernel_rfl) (by kernel_rfl) (fun _ _ _ h => h) (Or.inl ⟨by kernel_rfl, ?_⟩) (by assumption) ?_
     rotate_left 1
     ·intro W_ hSw; (try dsimp only at hSw); go_simp; (first | done | with_reducible rfl)
     try simp only [Act.put, List.setIfInBounds_toArray, List.set_cons_zero, List.set_cons_succ]
     refine takeD (i := 2) (oi := _) (v := ?vv29) (d := some 115) rfl (by kernel_rfl) (by kernel_rfl) (by kernel_rfl) (by kernel_rfl) (fun _ _ _ h => h) (Or.inl ⟨by kernel_rfl, ?_⟩) (by assumption) ?_
     rotate_left 1
     ·intro W_ hSw; (try dsimp only at hSw); go_simp; (first | done | with_reducible rfl)
     try simp only [Act.put, List.setIfInBounds_toArray, List.set_cons_zero, List.set_cons_succ]
     refine takeD (i := 3) (oi := _) (v := ?vv30) (d := some 116) rfl (by kernel_rfl) (by kernel_rfl) (by kernel_rfl) (by kernel_rfl) (fun _ _ _ h => h) (Or.inl ⟨by kernel_rfl, ?_⟩) (by assumption) ?_
     rotate_left 1
     ·intro W_ hSw; (try dsimp only at hSw); go_simp; (first | done | with_reducible rfl)
     try simp only [Act.put, List.setIfInBounds_toArray, List.set_cons_zero, List.set_cons_succ]
     refine takeD (i := 4) (oi := _) (v := ?vv31) (d := some 117) rfl (by kernel_rfl) (by kernel_rfl) (by kernel_rfl) (by kernel_rfl) (fun _ _ _ h => h) (Or.inl ⟨by kernel_rfl, ?_⟩) (by assumption) ?_
     rotate_left 1
     ·intro W_ hSw; (try dsimp only at hSw); go_simp; (first | done | with_reducible rfl)
     try simp only [Act.put, List.setIfInBounds_toArray, List.set_cons_zero, List.set_cons_succ]
     refine takeD (i := 5) (oi := _) (v := ?vv32) (d := some 118) rfl (by kernel_rfl) (by kernel_rfl) (by kernel_rfl) (by kernel_rfl) (fun _ _ _ h => h) (Or.inl ⟨by kernel_rfl, ?_⟩) (by assumption) ?_
     rotate_left 1
     ·intro W_ hSw; (try dsimp only at hSw); go_simp; (first | done | with_reducible rfl)
     try simp only [Act.put, List.setIfInBounds_toArray, List.set_cons_zero, List.set_cons_succ]
     refine takeD (i := 6) (oi := _) (v := ?vv33) (d := some 119) rfl (by kernel_rfl) (by kernel_rfl) (by kernel_rfl) (by kernel_rfl) (fun _ _ _ h => h) (Or.inl ⟨by kernel_rfl, ?_⟩) (by assumption) ?_
     rotate_left 1
     ·intro W_ hSw; (try dsimp only at hSw); go_simp; (first | done | with_reducible rfl)
     try simp only [Act.put, List.setIfInBounds_toArray, List.set_cons_zero, List.set_cons_succ]
     refine wpAnyH_ready (rs := [1]) (by kernel_rfl) (by simp) ?_
     refine AllReadyH.cons (o := _) rfl (fun K hK => ?_) AllReadyH.nil
     go_simp
     refine hK.out _ _ ?_ (fun hHeld => ?_)
     ·trivial
     clear hK K
     try simp only [Act.put]
     try simp only [List.setIfInBounds_toArray]
     try simp only [List.set_cons_succ]
     try simp only [List.set_cons_zero]
     refine takeD (i := 7) (oi := _) (v := ?vv34) (d := some 120) rfl (by kernel_rfl) (by kernel_rfl) (by kernel_rfl) (by kernel_rfl) (fun _ _ _ h => h) (Or.inl ⟨by kernel_rfl, ?_⟩) (by assumption) ?_
     rotate_left 1
     ·intro W_ hSw; (try dsimp only at hSw); go_simp; (first | done | with_reducible rfl)
     try simp only [Act.put, List.setIfInBounds_toArray, List.set_cons_zero, List.set_cons_succ]
     refine takeD (i := 8) (oi := _) (v := ?vv35) (d := some 121) rfl (by kernel_rfl) (by kernel_rfl) (by kernel_rfl) (by kernel_rfl) (fun _ _ _ h => h) (Or.inl ⟨by kernel_rfl, ?_⟩) (by assumption) ?_
     rotate_left 1
     ·intro W_ hSw; (try dsimp only at hSw); go_simp; (first | done | with_reducible rfl)
     try simp only [Act.put, List.setIfInBounds_toArray, List.set_cons_zero, List.set_cons_succ]
     refine wpAnyH_ready (rs := [9]) (by kernel_rfl) (by simp) ?_
     refine AllReadyH.cons (o := _) rfl (fun K hK => ?_) AllReadyH.nil
     go_simp
     refine hK.out _ _ ?_ (fun hHeld => ?_)
     ·trivial
     clear hK K
     try simp only [Act.put]
     try simp only [List.setIfInBounds_toArray]
     try simp only [List.set_cons_succ]
     try simp only [List.set_cons_zero]
     refine wpAnyH_done (by kernel_rfl) ?_ _
     go_wp2
     go_roundw
     case rel => exact ⟨ix, by omega, hx, by first | rfl | go_num, RT2, HGO2, bfin⟩
     case measure => (have := HIX.out); simp [RowKit.intOf]; omega
  rw [decide_eq_false q1] at LT
  have HNU : Hid (¬ Vd.unit s = true) := Lib.hid (fun hu => q1 (HU.out hu).2.2.2)
  clear q1
  by_cases q2 : digN k
  ·rw [decide_eq_true q2] at DG
   clear q2
   go_wp2_with fail
   (with_reducible refine (LT.out _).mono ?_)
   rintro e_ w_ ⟨rfl, rfl⟩
   go_wp2_with fail
   (with_reducible refine (DG.out _).mono ?_)
   rintro e_ w_ ⟨rfl, rfl⟩
   have hpc : (i : Int) ≤ (i : Int) + 1 := by omega
   have hpc2 : (i : Int) + 1 ≤ (s.size : Int) := by omega
   go_upto_region 28 with fail
   obtain ⟨wt, hwt⟩ : ∃ w_q_, w_q_ = xr.val.alloc (.cells #[.int .u8 2, .string (s.extract i (i + 1)), .int .i64 0, .int .u8 0, .int .i64 (ln : Int)] 99) := ⟨_, rfl⟩
   rw [← hwt]
   have hbt : Below xr.val.heap.size xr.val wt := by rw [hwt]; exact bel_alloc (Below.refl _ _) _
   have RT : Hid (RowAt wt xr.val.heap.size 99 [.int .u8 2, .string (s.extract i (i + 1)), .int .i64 0, .int .u8 0, .int .i64 (ln : Int)]) := Lib.hid (by rw [hwt]; exact RowAt.new' _ _ _ _ rfl)
   clear hwt
   go_loopw [7] (fun xi wz => ∃ i2 : Nat, i ≤ i2 ∧ i2 < s.size ∧ xi = .int .i64 (i2 : Int) ∧ Hid (RowAt wz xr.val.heap.size 99 [.int .u8 2, .string (s.extract i (i2 + 1)), .int .i64 0, .int .u8 0, .int .i64 (ln : Int)]) ∧ Hid (∀ (j : Nat) (hj : i < j) (hj2 : j ≤ i2) (hjs : j < s.size), goesN 2 (s[j]'hjs).toNat = true) ∧ Below xr.val.heap.size xr.val wz) (fun xi _ => s.size - (RowKit.intOf xi).toNat)
   case atStart => exact ⟨i, Nat.le_refl _, hil, rfl, RT, Lib.hid (fun j h1 h2 => by omega), hbt⟩
   case round =>
    clear RT hbt
    rename World => wz
    obtain ⟨i2, hi2, hi2s, rfl, RT, HGO, hbz⟩ := hrel
    obtain ⟨ix, hix⟩ : ∃ ix, i2 + 1 = ix := ⟨_, rfl⟩
    have iw1 : (i2 : Int) + 1 = (ix : Int) := by omega
    have iw2 : IntKind.i64.wrap (ix : Int) = (ix : Int) := IntWalk.i64_in _ (by omega)
    rw [hix] at RT
    have HIX := Lib.hid hix
    have hixi : i < ix ∧ ix ≤ s.size := by omega
    have hbw : Below w.heap.size w wz := hbe.trans (hbz.mono hbe.size)
    have lgt : xr.val.heap.size < wz.heap.size := RT.out.lt
    have t0 : wz.cell? ⟨xr.val.heap.size, 0, none⟩ = some (.int .u8 2) := RT.out.cells 0
    have t1 : wz.cell? ⟨xr.val.heap.size, 1, none⟩ = some (.string (s.extract i ix)) := RT.out.cells 1
    obtain ⟨xz, hxz⟩ := later_is hbz
    obtain rfl := hxz
    have lfv : w.heap.size < xz.val.heap.size := by omega
    have lfx : w.heap.size < xr.val.heap.size := by omega
    have hmz : (s.extract i ix).size = ix - i := by rw [ByteArray.size_extract]; omega
    clear hix
    by_cases hx : ix < s.size
    rotate_left
    ·have p1 : decide ((ix : Int) < (s.size : Int)) = false := decide_eq_false (by omega)
     have p2 : decide (ix < s.size) = false := decide_eq_false hx
     have HX : Hid (Vd.unit s = true → ix = s.size) := Lib.hid (fun _ => by omega)
     go_upto_region 28 with fail
     refine wp_region_lat (by kernel_rfl) (by kernel_rfl) ?_
     repeat (go_big_quiet_step (fail))
     refine wpQuiet_nil ?_
     rintro _ ⟨xq, rfl⟩
     have hz_xq := xq.bel.size
     try simp at hz_xq
     obtain ⟨tx, htx⟩ : ∃ tx, s.extract i ix = tx := ⟨_, rfl⟩
     clear t0 t1
     rw [htx] at RT hmz
     have HTX := Lib.hid htx
     have HMZ := Lib.hid hmz
     clear htx hmz
     have x0 : xq.val.cell? ⟨xr.val.heap.size, 0, none⟩ = some (.int .u8 2) := (RT.out.to xq.bel).cells 0
     have x1 : xq.val.cell? ⟨xr.val.heap.size, 1, none⟩ = some (.string tx) := (RT.out.to xq.bel).cells 1
     have x2 : xq.val.cell? ⟨xr.val.heap.size, 2, none⟩ = some (.int .i64 0) := (RT.out.to xq.bel).cells 2
     have x3 : xq.val.cell? ⟨xr.val.heap.size, 3, none⟩ = some (.int .u8 0) := (RT.out.to xq.bel).cells 3
     have x4 : xq.val.cell? ⟨xr.val.heap.size, 4, none⟩ = some (.int .i64 (ln : Int)) := (RT.out.to xq.bel).cells 4
     have xz2 : xq.val.frozen? ⟨xr.val.heap.size, 2, none⟩ = false := (RT.out.to xq.bel).frozen 2
     have xz3 : xq.val.frozen? ⟨xr.val.heap.size, 3, none⟩ = false := (RT.out.to xq.bel).frozen 3
     have lxq : xr.val.heap.size < xq.val.heap.size := by omega
     have hbq : Below xr.val.heap.size xr.val xq.val := hbz.trans (xq.bel.mono (by omega))
     have hbqw : Below w.heap.size w xq.val := hbw.trans (xq.bel.mono hbw.size)
     have f0 : xq.val.cell? ⟨w.heap.size, 0, none⟩ = some (.int .i64 0) := (hbq.cell (p := ⟨w.heap.size, 0, none⟩) lfx).trans c_xr_0_0
     have f1 : xq.val.cell? ⟨w.heap.size, 1, none⟩ = some (.int .i64 0) := (hbq.cell (p := ⟨w.heap.size, 1, none⟩) lfx).trans c_xr_0_1
     have y0 : xq.val.frozen? ⟨w.heap.size, 0, none⟩ = false := (hbq.frozen (p := ⟨w.heap.size, 0, none⟩) lfx).trans z_xr_0_0
     have y1 : xq.val.frozen? ⟨w.heap.size, 1, none⟩ = false := (hbq.frozen (p := ⟨w.heap.size, 1, none⟩) lfx).trans z_xr_0_1
     have lfq : w.heap.size < xq.val.heap.size := by omega
     have PA := Lib.hid (fun w => rparse_any tx w (by have := HMZ.out; omega))
     go_wp2_with fail
     (with_reducible refine (PA.out _).mono ?_)
     rintro e_ w_ ⟨rn, rd, ok, rfl, hbp⟩
     obtain ⟨xp, rfl⟩ := later_is hbp
     have hz_xp := xp.bel.size
     have lxp : xr.val.heap.size < xp.val.heap.size := by omega
     have lfp : w.heap.size < xp.val.heap.size := by omega
     have hbpw : Below w.heap.size w xp.val := hbqw.trans (hbp.mono hbqw.size)
     cases ok
     ·clear hbp
      go_wp2
      refine bodyPost_ret (v := .tuple #[.slice none 0 0, .agg #[.int .i64 132, .int .i64 (ln : Int)]]) (by simp [results, Try.results58, go_sem, *]) rfl ⟨none, 0, 0, [], 132, (ln : Int), rfl, belo, rfl, Recs.nil, TokOk.nil, fun hu => absurd hu HNU.out⟩
     have RP := Lib.hid ((RT.out.to xq.bel).to hbp)
     have xp0 : xp.val.cell? ⟨xr.val.heap.size, 0, none⟩ = some (.int .u8 2) := RP.out.cells 0
     have xp1 : xp.val.cell? ⟨xr.val.heap.size, 1, none⟩ = some (.string tx) := RP.out.cells 1
     have xp2 : xp.val.cell? ⟨xr.val.heap.size, 2, none⟩ = some (.int .i64 0) := RP.out.cells 2
     have xp3 : xp.val.cell? ⟨xr.val.heap.size, 3, none⟩ = some (.int .u8 0) := RP.out.cells 3
     have xp4 : xp.val.cell? ⟨xr.val.heap.size, 4, none⟩ = some (.int .i64 (ln : Int)) := RP.out.cells 4
     have xpz2 : xp.val.frozen? ⟨xr.val.heap.size, 2, none⟩ = false := RP.out.frozen 2
     have xpz3 : xp.val.frozen? ⟨xr.val.heap.size, 3, none⟩ = false := RP.out.frozen 3
     have HBP : Below xr.val.heap.size xr.val xp.val := hbq.trans (hbp.mono hbq.size)
     go_upto_region 38 with fail
     obtain ⟨wn, hwn⟩ : ∃ q, (((xp.val.setCell ⟨xr.val.heap.size, 2, none⟩ (.int .i64 rn)).setCell ⟨xr.val.heap.size, 3, none⟩ (.int .u8 (rd : Int))).alloc (.cells #[.int .i64 rn, .int .u8 (rd : Int)] 41)) = q := ⟨_, rfl⟩
     try rw [hwn]
     have HBX : Below xr.val.heap.size xr.val wn := by
      rw [← hwn]
      exact bel_alloc (bel_set (bel_set HBP (Nat.le_refl _) _) (Nat.le_refl _) _) _
     have RW : Hid (RowAt wn xr.val.heap.size 99 [.int .u8 2, .string tx, .int .i64 rn, .int .u8 (rd : Int), .int .i64 (ln : Int)]) := Lib.hid (by
      rw [← hwn]
      exact ((RP.out.set 2 _).set 3 _).alloc _)
     have n0 : wn.cell? ⟨xr.val.heap.size, 0, none⟩ = some (.int .u8 2) := RW.out.cells 0
     have n1 : wn.cell? ⟨xr.val.heap.size, 1, none⟩ = some (.string tx) := RW.out.cells 1
     have n2 : wn.cell? ⟨xr.val.heap.size, 2, none⟩ = some (.int .i64 rn) := RW.out.cells 2
     have n3 : wn.cell? ⟨xr.val.heap.size, 3, none⟩ = some (.int .u8 (rd : Int)) := RW.out.cells 3
     have n4 : wn.cell? ⟨xr.val.heap.size, 4, none⟩ = some (.int .i64 (ln : Int)) := RW.out.cells 4
     have lwn : xr.val.heap.size < wn.heap.size := RW.out.lt
     have hszn : xr.val.heap.size ≤ wn.heap.size := HBX.size
     clear hwn hbp
     have HT2 := Lib.hid (HT.out.snoc (t := ⟨2, tx, ⟨rn, rd⟩, (ln : Int)⟩) (fun h => by cases h))
     have HG2 : Hid (GhU s ix ln true (l ++ [⟨2, tx, ⟨rn, rd⟩, (ln : Int)⟩])) := Lib.hid (fun hu => absurd hu HNU.out)
     have bal : Below wn.heap.size wn (wn.alloc (.cells (tkF ((⟨2, tx, ⟨rn, rd⟩, (ln : Int)⟩ : Tk))).toArray 99)) := bel_alloc (Below.refl _ _) _
     have HO2 := Lib.hid (own_to (own_to HO.out HBX) bal)
     have RN := Lib.hid (recs_one1 (f := tkF) (a := (⟨2, tx, ⟨rn, rd⟩, (ln : Int)⟩ : Tk)) (RowAt.new' wn wn.heap.size 99 (tkF ((⟨2, tx, ⟨rn, rd⟩, (ln : Int)⟩ : Tk))) rfl) (show wn.heap.size < wn.heap.size + 1 by omega) rfl)
     have hbase : w.heap.size + 1 ≤ wn.heap.size + 1 := by omega
     go_upto_region 38 with fail
     go_wp2_with (at_builtin; go_loud (refine wpList_append_recs (f := tkF) (s := 5) _ rfl (.tmp 148) (.tmp 150) 95 rfl (fun _ => rfl) (by decide) tkF_one (w.heap.size + 1) 99 iT _ 48 Try.underlying95 hifT ht0_ ht1_ ht2_ (by decide) rfl (.slice A n c) l rfl (by rw [HL.out]; exact HO2.out) (wn.heap.size + 1) (some ⟨wn.heap.size, 0, none⟩) [(⟨2, tx, ⟨rn, rd⟩, (ln : Int)⟩ : Tk)] 1 1 rfl rfl RN.out (by simp) (by rw [HL.out]; omega) (by simp; omega) ?_; intro A2 c2 w2 o2 g2 b2; have O2 := Lib.hid o2; have B2 := Lib.hid b2; clear o2 g2 b2))
     have hl2 : (l ++ [(⟨2, tx, ⟨rn, rd⟩, (ln : Int)⟩ : Tk)]).length = n + 1 := by rw [List.length_append, HL.out]; rfl
     rw [hl2] at O2
     try rw [hl2]
     have HL2 := Lib.hid hl2
     have bfin : Below (w.heap.size + 1) w0 w2 := ((hbr.trans (HBX.mono (by omega))).trans (bal.mono (by omega))).trans B2.out
     clear hl2
     go_wp2
     go_roundw
     case rel => exact ⟨A2, n + 1, c2, _, ln, ix, true, by omega, by omega, by omega, HL2, O2, HT2, HG2, by first | rfl | trivial | (rw [HL.out]), by first | rfl | trivial, by first | rfl | trivial, by first | rfl | go_num, bfin⟩
     case measure => (have := HIX.out); simp [RowKit.intOf]; omega
    have p1 : decide ((ix : Int) < (s.size : Int)) = true := decide_eq_true (by omega)
    have p2 : decide (ix < s.size) = true := decide_eq_true hx
    have p1' : (ix : Int) < (s.size : Int) := by omega
    obtain ⟨k2, hk2⟩ : ∃ k, s[ix].toNat = k := ⟨_, rfl⟩
    obtain ⟨bg, hbg⟩ : ∃ b, goesN 2 k2 = b := ⟨_, rfl⟩
    have GO := Lib.hid (fun w => (show Calls Try.prog 64 #[.int .u8 2, .int .u8 (k2 : Int)] w _ from goes_any 2 k2 bg hbg w))
    cases bg
    ·have HX : Hid (Vd.unit s = true → ix = s.size) := Lib.hid (fun hu => by
      exact absurd hu HNU.out)
     clear hbg
     go_upto_region 28 with fail
     refine wp_region_lat (by kernel_rfl) (by kernel_rfl) ?_
     repeat (go_big_quiet_step (fail))
     go_big_quiet_step (exact later_same (GO.out _))
     repeat (go_big_quiet_step (fail))
     refine wpQuiet_nil ?_
     rintro _ ⟨xq, rfl⟩
     have hz_xq := xq.bel.size
     try simp at hz_xq
     obtain ⟨tx, htx⟩ : ∃ tx, s.extract i ix = tx := ⟨_, rfl⟩
     clear t0 t1
     rw [htx] at RT hmz
     have HTX := Lib.hid htx
     have HMZ := Lib.hid hmz
     clear htx hmz
     have x0 : xq.val.cell? ⟨xr.val.heap.size, 0, none⟩ = some (.int .u8 2) := (RT.out.to xq.bel).cells 0
     have x1 : xq.val.cell? ⟨xr.val.heap.size, 1, none⟩ = some (.string tx) := (RT.out.to xq.bel).cells 1
     have x2 : xq.val.cell? ⟨xr.val.heap.size, 2, none⟩ = some (.int .i64 0) := (RT.out.to xq.bel).cells 2
     have x3 : xq.val.cell? ⟨xr.val.heap.size, 3, none⟩ = some (.int .u8 0) := (RT.out.to xq.bel).cells 3
     have x4 : xq.val.cell? ⟨xr.val.heap.size, 4, none⟩ = some (.int .i64 (ln : Int)) := (RT.out.to xq.bel).cells 4
     have xz2 : xq.val.frozen? ⟨xr.val.heap.size, 2, none⟩ = false := (RT.out.to xq.bel).frozen 2
     have xz3 : xq.val.frozen? ⟨xr.val.heap.size, 3, none⟩ = false := (RT.out.to xq.bel).frozen 3
     have lxq : xr.val.heap.size < xq.val.heap.size := by omega
     have hbq : Below xr.val.heap.size xr.val xq.val := hbz.trans (xq.bel.mono (by omega))
     have hbqw : Below w.heap.size w xq.val := hbw.trans (xq.bel.mono hbw.size)
     have f0 : xq.val.cell? ⟨w.heap.size, 0, none⟩ = some (.int .i64 0) := (hbq.cell (p := ⟨w.heap.size, 0, none⟩) lfx).trans c_xr_0_0
     have f1 : xq.val.cell? ⟨w.heap.size, 1, none⟩ = some (.int .i64 0) := (hbq.cell (p := ⟨w.heap.size, 1, none⟩) lfx).trans c_xr_0_1
     have y0 : xq.val.frozen? ⟨w.heap.size, 0, none⟩ = false := (hbq.frozen (p := ⟨w.heap.size, 0, none⟩) lfx).trans z_xr_0_0
     have y1 : xq.val.frozen? ⟨w.heap.size, 1, none⟩ = false := (hbq.frozen (p := ⟨w.heap.size, 1, none⟩) lfx).trans z_xr_0_1
     have lfq : w.heap.size < xq.val.heap.size := by omega
     have PA := Lib.hid (fun w => rparse_any tx w (by have := HMZ.out; omega))
     go_wp2_with fail
     (with_reducible refine (PA.out _).mono ?_)
     rintro e_ w_ ⟨rn, rd, ok, rfl, hbp⟩
     obtain ⟨xp, rfl⟩ := later_is hbp
     have hz_xp := xp.bel.size
     have lxp : xr.val.heap.size < xp.val.heap.size := by omega
     have lfp : w.heap.size < xp.val.heap.size := by omega
     have hbpw : Below w.heap.size w xp.val := hbqw.trans (hbp.mono hbqw.size)
     cases ok
     ·clear hbp
      go_wp2
      refine bodyPost_ret (v := .tuple #[.slice none 0 0, .agg #[.int .i64 132, .int .i64 (ln : Int)]]) (by simp [results, Try.results58, go_sem, *]) rfl ⟨none, 0, 0, [], 132, (ln : Int), rfl, belo, rfl, Recs.nil, TokOk.nil, fun hu => absurd hu HNU.out⟩
     have RP := Lib.hid ((RT.out.to xq.bel).to hbp)
     have xp0 : xp.val.cell? ⟨xr.val.heap.size, 0, none⟩ = some (.int .u8 2) := RP.out.cells 0
     have xp1 : xp.val.cell? ⟨xr.val.heap.size, 1, none⟩ = some (.string tx) := RP.out.cells 1
     have xp2 : xp.val.cell? ⟨xr.val.heap.size, 2, none⟩ = some (.int .i64 0) := RP.out.cells 2
     have xp3 : xp.val.cell? ⟨xr.val.heap.size, 3, none⟩ = some (.int .u8 0) := RP.out.cells 3
     have xp4 : xp.val.cell? ⟨xr.val.heap.size, 4, none⟩ = some (.int .i64 (ln : Int)) := RP.out.cells 4
     have xpz2 : xp.val.frozen? ⟨xr.val.heap.size, 2, none⟩ = false := RP.out.frozen 2
     have xpz3 : xp.val.frozen? ⟨xr.val.heap.size, 3, none⟩ = false := RP.out.frozen 3
     have HBP : Below xr.val.heap.size xr.val xp.val := hbq.trans (hbp.mono hbq.size)
     go_upto_region 38 with fail
     obtain ⟨wn, hwn⟩ : ∃ q, (((xp.val.setCell ⟨xr.val.heap.size, 2, none⟩ (.int .i64 rn)).setCell ⟨xr.val.heap.size, 3, none⟩ (.int .u8 (rd : Int))).alloc (.cells #[.int .i64 rn, .int .u8 (rd : Int)] 41)) = q := ⟨_, rfl⟩
     try rw [hwn]
     have HBX : Below xr.val.heap.size xr.val wn := by
      rw [← hwn]
      exact bel_alloc (bel_set (bel_set HBP (Nat.le_refl _) _) (Nat.le_refl _) _) _
     have RW : Hid (RowAt wn xr.val.heap.size 99 [.int .u8 2, .string tx, .int .i64 rn, .int .u8 (rd : Int), .int .i64 (ln : Int)]) := Lib.hid (by
      rw [← hwn]
      exact ((RP.out.set 2 _).set 3 _).alloc _)
     have n0 : wn.cell? ⟨xr.val.heap.size, 0, none⟩ = some (.int .u8 2) := RW.out.cells 0
     have n1 : wn.cell? ⟨xr.val.heap.size, 1, none⟩ = some (.string tx) := RW.out.cells 1
     have n2 : wn.cell? ⟨xr.val.heap.size, 2, none⟩ = some (.int .i64 rn) := RW.out.cells 2
     have n3 : wn.cell? ⟨xr.val.heap.size, 3, none⟩ = some (.int .u8 (rd : Int)) := RW.out.cells 3
     have n4 : wn.cell? ⟨xr.val.heap.size, 4, none⟩ = some (.int .i64 (ln : Int)) := RW.out.cells 4
     have lwn : xr.val.heap.size < wn.heap.size := RW.out.lt
     have hszn : xr.val.heap.size ≤ wn.heap.size := HBX.size
     clear hwn hbp
     have HT2 := Lib.hid (HT.out.snoc (t := ⟨2, tx, ⟨rn, rd⟩, (ln : Int)⟩) (fun h => by cases h))
     have HG2 : Hid (GhU s ix ln true (l ++ [⟨2, tx, ⟨rn, rd⟩, (ln : Int)⟩])) := Lib.hid (fun hu => absurd hu HNU.out)
     have bal : Below wn.heap.size wn (wn.alloc (.cells (tkF ((⟨2, tx, ⟨rn, rd⟩, (ln : Int)⟩ : Tk))).toArray 99)) := bel_alloc (Below.refl _ _) _
     have HO2 := Lib.hid (own_to (own_to HO.out HBX) bal)
     have RN := Lib.hid (recs_one1 (f := tkF) (a := (⟨2, tx, ⟨rn, rd⟩, (ln : Int)⟩ : Tk)) (RowAt.new' wn wn.heap.size 99 (tkF ((⟨2, tx, ⟨rn, rd⟩, (ln : Int)⟩ : Tk))) rfl) (show wn.heap.size < wn.heap.size + 1 by omega) rfl)
     have hbase : w.heap.size + 1 ≤ wn.heap.size + 1 := by omega
     go_upto_region 38 with fail
     go_wp2_with (at_builtin; go_loud (refine wpList_append_recs (f := tkF) (s := 5) _ rfl (.tmp 148) (.tmp 150) 95 rfl (fun _ => rfl) (by decide) tkF_one (w.heap.size + 1) 99 iT _ 48 Try.underlying95 hifT ht0_ ht1_ ht2_ (by decide) rfl (.slice A n c) l rfl (by rw [HL.out]; exact HO2.out) (wn.heap.size + 1) (some ⟨wn.heap.size, 0, none⟩) [(⟨2, tx, ⟨rn, rd⟩, (ln : Int)⟩ : Tk)] 1 1 rfl rfl RN.out (by simp) (by rw [HL.out]; omega) (by simp; omega) ?_; intro A2 c2 w2 o2 g2 b2; have O2 := Lib.hid o2; have B2 := Lib.hid b2; clear o2 g2 b2))
     have hl2 : (l ++ [(⟨2, tx, ⟨rn, rd⟩, (ln : Int)⟩ : Tk)]).length = n + 1 := by rw [List.length_append, HL.out]; rfl
     rw [hl2] at O2
     try rw [hl2]
     have HL2 := Lib.hid hl2
     have bfin : Below (w.heap.size + 1) w0 w2 := ((hbr.trans (HBX.mono (by omega))).trans (bal.mono (by omega))).trans B2.out
     clear hl2
     go_wp2
     go_roundw
     case rel => exact ⟨A2, n + 1, c2, _, ln, ix, true, by omega, by omega, by omega, HL2, O2, HT2, HG2, by first | rfl | trivial | (rw [HL.out]), by first | rfl | trivial, by first | rfl | trivial, by first | rfl | go_num, bfin⟩
     case measure => (have := HIX.out); simp [RowKit.intOf]; omega
    ·have HGO2 : Hid (∀ (j : Nat) (hj : i < j) (hj2 : j ≤ ix) (hjs : j < s.size), goesN 2 (s[j]'hjs).toNat = true) := Lib.hid (fun j h1 h2 h3 => by
      rcases Nat.lt_or_ge i2 j with h4 | h4
      ·obtain rfl : j = ix := by have := HIX.out; omega
       rw [hk2]; exact hbg
      ·exact HGO.out j h1 h4 h3)
     have pc1 : (ix : Int) ≤ (ix : Int) + 1 := by omega
     have pc2 : (ix : Int) + 1 ≤ (s.size : Int) := by omega
     have iw3 : IntKind.i64.wrap ((ix : Int) + 1) = (ix : Int) + 1 := IntWalk.i64_in _ (by omega)
     have hsn : s.extract i ix ++ s.extract ix (ix + 1) = s.extract i (ix + 1) := extract_snoc s i ix (by omega) hx
     have hcat : ¬ (9223372036854775807 < ix - i + (min (ix + 1) s.size - ix)) := by omega
     clear hbg
     go_upto_region 28 with fail
     refine wp_region_lat (by kernel_rfl) (by kernel_rfl) ?_
     repeat (go_big_quiet_step (fail))
     go_big_quiet_step (exact later_same (GO.out _))
     repeat (go_big_quiet_step (fail))
     refine wpQuiet_nil ?_
     rintro _ ⟨xq, rfl⟩
     have hz_xq := xq.bel.size
     try simp at hz_xq
     have x0 : xq.val.cell? ⟨xr.val.heap.size, 0, none⟩ = some (.int .u8 2) := (RT.out.to xq.bel).cells 0
     have x1 : xq.val.cell? ⟨xr.val.heap.size, 1, none⟩ = some (.string (s.extract i ix)) := (RT.out.to xq.bel).cells 1
     have xz1 : xq.val.frozen? ⟨xr.val.heap.size, 1, none⟩ = false := (RT.out.to xq.bel).frozen 1
     have lxq : xr.val.heap.size < xq.val.heap.size := by omega
     have hbq : Below xr.val.heap.size xr.val xq.val := hbz.trans (xq.bel.mono (by omega))
     have RT2 : Hid (RowAt (xq.val.setCell ⟨xr.val.heap.size, 1, none⟩ (.string (s.extract i (ix + 1)))).drew xr.val.heap.size 99 [.int .u8 2, .string (s.extract i (ix + 1)), .int .i64 0, .int .u8 0, .int .i64 (ln : Int)]) := Lib.hid (((RT.out.to xq.bel).set 1 _).drew)
     have bfin : Below xr.val.heap.size xr.val (xq.val.setCell ⟨xr.val.heap.size, 1, none⟩ (.string (s.extract i (ix + 1)))).drew := (bel_set hbq (Nat.le_refl _) _).drew
     go_upto_region 30 with fail
     refine wp_region_held_drew (S := (fun _ => True)) (by kernel_rfl) ?_ (fun hHeld => ?_)
     ·trivial
     refine takeD (i := 0) (oi := _) (v := ?vv36) (d := some 113) rfl (by kernel_rfl) (by kernel_rfl) (by kernel_rfl) (by kernel_rfl) (fun _ _ _ h => h) (Or.inl ⟨by kernel_rfl, ?_⟩) (by assumption) ?_
     rotate_left 1
     ·intro W_ hSw; (try dsimp only at hSw); go_simp; (first | done | with_reducible rfl)
     try simp only [Act.put, List.setIfInBounds_toArray, List.set_cons_zero, List.set_cons_succ]
     refine takeD (i := 2) (oi := _) (v := ?vv37) (d := some 115) rfl (by kernel_rfl) (by kernel_rfl) (by kernel_rfl) (by kernel_rfl) (fun _ _ _ h => h) (Or.inl ⟨by kernel_rfl, ?_⟩) (by assumption) ?_
     rotate_left 1
     ·intro W_ hSw; (try dsimp only at hSw); go_simp; (first | done | with_reducible rfl)
     try simp only [Act.put, List.setIfInBounds_toArray, List.set_cons_zero, List.set_cons_succ]
     refine takeD (i := 3) (oi := _) (v := ?vv38) (d := some 116) rfl (by kernel_rfl) (by kernel_rfl) (by kernel_rfl) (by kernel_rfl) (fun _ _ _ h => h) (Or.inl ⟨by kernel_rfl, ?_⟩) (by assumption) ?_
     rotate_left 1
     ·intro W_ hSw; (try dsimp only at hSw); go_simp; (first | done | with_reducible rfl)
     try simp only [Act.put, List.setIfInBounds_toArray, List.set_cons_zero, List.set_cons_succ]
     refine takeD (i := 4) (oi := _) (v := ?vv39) (d := some 117) rfl (by kernel_rfl) (by kernel_rfl) (by kernel_rfl) (by kernel_rfl) (fun _ _ _ h => h) (Or.inl ⟨by kernel_rfl, ?_⟩) (by assumption) ?_
     rotate_left 1
     ·intro W_ hSw; (try dsimp only at hSw); go_simp; (first | done | with_reducible rfl)
     try simp only [Act.put, List.setIfInBounds_toArray, List.set_cons_zero, List.set_cons_succ]
     refine takeD (i := 5) (oi := _) (v := ?vv40) (d := some 118) rfl (by kernel_rfl) (by kernel_rfl) (by kernel_rfl) (by kernel_rfl) (fun _ _ _ h => h) (Or.inl ⟨by kernel_rfl, ?_⟩) (by assumption) ?_
     rotate_left 1
     ·intro W_ hSw; (try dsimp only at hSw); go_simp; (first | done | with_reducible rfl)
     try simp only [Act.put, List.setIfInBounds_toArray, List.set_cons_zero, List.set_cons_succ]
     refine takeD (i := 6) (oi := _) (v := ?vv41) (d := some 119) rfl (by kernel_rfl) (by kernel_rfl) (by kernel_rfl) (by kernel_rfl) (fun _ _ _ h => h) (Or.inl ⟨by kernel_rfl, ?_⟩) (by assumption) ?_
     rotate_left 1
     ·intro W_ hSw; (try dsimp only at hSw); go_simp; (first | done | with_reducible rfl)
     try simp only [Act.put, List.setIfInBounds_toArray, List.set_cons_zero, List.set_cons_succ]
     refine wpAnyH_ready (rs := [1]) (by kernel_rfl) (by simp) ?_
     refine AllReadyH.cons (o := _) rfl (fun K hK => ?_) AllReadyH.nil
     go_simp
     refine hK.out _ _ ?_ (fun hHeld => ?_)
     ·trivial
     clear hK K
     try simp only [Act.put]
     try simp only [List.setIfInBounds_toArray]
     try simp only [List.set_cons_succ]
     try simp only [List.set_cons_zero]
     refine takeD (i := 7) (oi := _) (v := ?vv42) (d := some 120) rfl (by kernel_rfl) (by kernel_rfl) (by kernel_rfl) (by kernel_rfl) (fun _ _ _ h => h) (Or.inl ⟨by kernel_rfl, ?_⟩) (by assumption) ?_
     rotate_left 1
     ·intro W_ hSw; (try dsimp only at hSw); go_simp; (first | done | with_reducible rfl)
     try simp only [Act.put, List.setIfInBounds_toArray, List.set_cons_zero, List.set_cons_succ]
     refine takeD (i := 8) (oi := _) (v := ?vv43) (d := some 121) rfl (by kernel_rfl) (by kernel_rfl) (by kernel_rfl) (by kernel_rfl) (fun _ _ _ h => h) (Or.inl ⟨by kernel_rfl, ?_⟩) (by assumption) ?_
     rotate_left 1
     ·intro W_ hSw; (try dsimp only at hSw); go_simp; (first | done | with_reducible rfl)
     try simp only [Act.put, List.setIfInBounds_toArray, List.set_cons_zero, List.set_cons_succ]
     refine wpAnyH_ready (rs := [9]) (by kernel_rfl) (by simp) ?_
     refine AllReadyH.cons (o := _) rfl (fun K hK => ?_) AllReadyH.nil
     go_simp
     refine hK.out _ _ ?_ (fun hHeld => ?_)
     ·trivial
     clear hK K
     try simp only [Act.put]
     try simp only [List.setIfInBounds_toArray]
     try simp only [List.set_cons_succ]
     try simp only [List.set_cons_zero]
     refine wpAnyH_done (by kernel_rfl) ?_ _
     go_wp2
     go_roundw
     case rel => exact ⟨ix, by omega, hx, by first | rfl | go_num, RT2, HGO2, bfin⟩
     case measure => (have := HIX.out); simp [RowKit.intOf]; omega
  rw [decide_eq_false q2] at DG
  clear q2
  by_cases q3 : k = 45
  ·have r9 : ((k : Int) == 45) = true := beq_iff_eq.2 (by omega)
   clear q3
   go_wp2_with fail
   (with_reducible refine (LT.out _).mono ?_)
   rintro e_ w_ ⟨rfl, rfl⟩
   go_wp2_with fail
   (with_reducible refine (DG.out _).mono ?_)
   rintro e_ w_ ⟨rfl, rfl⟩
   have hpc : (i : Int) ≤ (i : Int) + 1 := by omega
   have hpc2 : (i : Int) + 1 ≤ (s.size : Int) := by omega
   go_upto_region 28 with fail
   obtain ⟨wt, hwt⟩ : ∃ w_q_, w_q_ = xr.val.alloc (.cells #[.int .u8 2, .string (s.extract i (i + 1)), .int .i64 0, .int .u8 0, .int .i64 (ln : Int)] 99) := ⟨_, rfl⟩
   rw [← hwt]
   have hbt : Below xr.val.heap.size xr.val wt := by rw [hwt]; exact bel_alloc (Below.refl _ _) _
   have RT : Hid (RowAt wt xr.val.heap.size 99 [.int .u8 2, .string (s.extract i (i + 1)), .int .i64 0, .int .u8 0, .int .i64 (ln : Int)]) := Lib.hid (by rw [hwt]; exact RowAt.new' _ _ _ _ rfl)
   clear hwt
   go_loopw [7] (fun xi wz => ∃ i2 : Nat, i ≤ i2 ∧ i2 < s.size ∧ xi = .int .i64 (i2 : Int) ∧ Hid (RowAt wz xr.val.heap.size 99 [.int .u8 2, .string (s.extract i (i2 + 1)), .int .i64 0, .int .u8 0, .int .i64 (ln : Int)]) ∧ Hid (∀ (j : Nat) (hj : i < j) (hj2 : j ≤ i2) (hjs : j < s.size), goesN 2 (s[j]'hjs).toNat = true) ∧ Below xr.val.heap.size xr.val wz) (fun xi _ => s.size - (RowKit.intOf xi).toNat)
   case atStart => exact ⟨i, Nat.le_refl _, hil, rfl, RT, Lib.hid (fun j h1 h2 => by omega), hbt⟩
   case round =>
    clear RT hbt
    rename World => wz
    obtain ⟨i2, hi2, hi2s, rfl, RT, HGO, hbz⟩ := hrel
    obtain ⟨ix, hix⟩ : ∃ ix, i2 + 1 = ix := ⟨_, rfl⟩
    have iw1 : (i2 : Int) + 1 = (ix : Int) := by omega
    have iw2 : IntKind.i64.wrap (ix : Int) = (ix : Int) := IntWalk.i64_in _ (by omega)
    rw [hix] at RT
    have HIX := Lib.hid hix
    have hixi : i < ix ∧ ix ≤ s.size := by omega
    have hbw : Below w.heap.size w wz := hbe.trans (hbz.mono hbe.size)
    have lgt : xr.val.heap.size < wz.heap.size := RT.out.lt
    have t0 : wz.cell? ⟨xr.val.heap.size, 0, none⟩ = some (.int .u8 2) := RT.out.cells 0
    have t1 : wz.cell? ⟨xr.val.heap.size, 1, none⟩ = some (.string (s.extract i ix)) := RT.out.cells 1
    obtain ⟨xz, hxz⟩ := later_is hbz
    obtain rfl := hxz
    have lfv : w.heap.size < xz.val.heap.size := by omega
    have lfx : w.heap.size < xr.val.heap.size := by omega
    have hmz : (s.extract i ix).size = ix - i := by rw [ByteArray.size_extract]; omega
    clear hix
    by_cases hx : ix < s.size
    rotate_left
    ·have p1 : decide ((ix : Int) < (s.size : Int)) = false := decide_eq_false (by omega)
     have p2 : decide (ix < s.size) = false := decide_eq_false hx
     have HX : Hid (Vd.unit s = true → ix = s.size) := Lib.hid (fun _ => by omega)
     go_upto_region 28 with fail
     refine wp_region_lat (by kernel_rfl) (by kernel_rfl) ?_
     repeat (go_big_quiet_step (fail))
     refine wpQuiet_nil ?_
     rintro _ ⟨xq, rfl⟩
     have hz_xq := xq.bel.size
     try simp at hz_xq
     obtain ⟨tx, htx⟩ : ∃ tx, s.extract i ix = tx := ⟨_, rfl⟩
     clear t0 t1
     rw [htx] at RT hmz
     have HTX := Lib.hid htx
     have HMZ := Lib.hid hmz
     clear htx hmz
     have x0 : xq.val.cell? ⟨xr.val.heap.size, 0, none⟩ = some (.int .u8 2) := (RT.out.to xq.bel).cells 0
     have x1 : xq.val.cell? ⟨xr.val.heap.size, 1, none⟩ = some (.string tx) := (RT.out.to xq.bel).cells 1
     have x2 : xq.val.cell? ⟨xr.val.heap.size, 2, none⟩ = some (.int .i64 0) := (RT.out.to xq.bel).cells 2
     have x3 : xq.val.cell? ⟨xr.val.heap.size, 3, none⟩ = some (.int .u8 0) := (RT.out.to xq.bel).cells 3
     have x4 : xq.val.cell? ⟨xr.val.heap.size, 4, none⟩ = some (.int .i64 (ln : Int)) := (RT.out.to xq.bel).cells 4
     have xz2 : xq.val.frozen? ⟨xr.val.heap.size, 2, none⟩ = false := (RT.out.to xq.bel).frozen 2
     have xz3 : xq.val.frozen? ⟨xr.val.heap.size, 3, none⟩ = false := (RT.out.to xq.bel).frozen 3
     have lxq : xr.val.heap.size < xq.val.heap.size := by omega
     have hbq : Below xr.val.heap.size xr.val xq.val := hbz.trans (xq.bel.mono (by omega))
     have hbqw : Below w.heap.size w xq.val := hbw.trans (xq.bel.mono hbw.size)
     have f0 : xq.val.cell? ⟨w.heap.size, 0, none⟩ = some (.int .i64 0) := (hbq.cell (p := ⟨w.heap.size, 0, none⟩) lfx).trans c_xr_0_0
     have f1 : xq.val.cell? ⟨w.heap.size, 1, none⟩ = some (.int .i64 0) := (hbq.cell (p := ⟨w.heap.size, 1, none⟩) lfx).trans c_xr_0_1
     have y0 : xq.val.frozen? ⟨w.heap.size, 0, none⟩ = false := (hbq.frozen (p := ⟨w.heap.size, 0, none⟩) lfx).trans z_xr_0_0
     have y1 : xq.val.frozen? ⟨w.heap.size, 1, none⟩ = false := (hbq.frozen (p := ⟨w.heap.size, 1, none⟩) lfx).trans z_xr_0_1
     have lfq : w.heap.size < xq.val.heap.size := by omega
     have PA := Lib.hid (fun w => rparse_any tx w (by have := HMZ.out; omega))
     go_wp2_with fail
     (with_reducible refine (PA.out _).mono ?_)
     rintro e_ w_ ⟨rn, rd, ok, rfl, hbp⟩
     obtain ⟨xp, rfl⟩ := later_is hbp
     have hz_xp := xp.bel.size
     have lxp : xr.val.heap.size < xp.val.heap.size := by omega
     have lfp : w.heap.size < xp.val.heap.size := by omega
     have hbpw : Below w.heap.size w xp.val := hbqw.trans (hbp.mono hbqw.size)
     cases ok
     ·clear hbp
      go_wp2
      refine bodyPost_ret (v := .tuple #[.slice none 0 0, .agg #[.int .i64 132, .int .i64 (ln : Int)]]) (by simp [results, Try.results58, go_sem, *]) rfl ⟨none, 0, 0, [], 132, (ln : Int), rfl, belo, rfl, Recs.nil, TokOk.nil, fun hu => absurd hu HNU.out⟩
     have RP := Lib.hid ((RT.out.to xq.bel).to hbp)
     have xp0 : xp.val.cell? ⟨xr.val.heap.size, 0, none⟩ = some (.int .u8 2) := RP.out.cells 0
     have xp1 : xp.val.cell? ⟨xr.val.heap.size, 1, none⟩ = some (.string tx) := RP.out.cells 1
     have xp2 : xp.val.cell? ⟨xr.val.heap.size, 2, none⟩ = some (.int .i64 0) := RP.out.cells 2
     have xp3 : xp.val.cell? ⟨xr.val.heap.size, 3, none⟩ = some (.int .u8 0) := RP.out.cells 3
     have xp4 : xp.val.cell? ⟨xr.val.heap.size, 4, none⟩ = some (.int .i64 (ln : Int)) := RP.out.cells 4
     have xpz2 : xp.val.frozen? ⟨xr.val.heap.size, 2, none⟩ = false := RP.out.frozen 2
     have xpz3 : xp.val.frozen? ⟨xr.val.heap.size, 3, none⟩ = false := RP.out.frozen 3
     have HBP : Below xr.val.heap.size xr.val xp.val := hbq.trans (hbp.mono hbq.size)
     go_upto_region 38 with fail
     obtain ⟨wn, hwn⟩ : ∃ q, (((xp.val.setCell ⟨xr.val.heap.size, 2, none⟩ (.int .i64 rn)).setCell ⟨xr.val.heap.size, 3, none⟩ (.int .u8 (rd : Int))).alloc (.cells #[.int .i64 rn, .int .u8 (rd : Int)] 41)) = q := ⟨_, rfl⟩
     try rw [hwn]
     have HBX : Below xr.val.heap.size xr.val wn := by
      rw [← hwn]
      exact bel_alloc (bel_set (bel_set HBP (Nat.le_refl _) _) (Nat.le_refl _) _) _
     have RW : Hid (RowAt wn xr.val.heap.size 99 [.int .u8 2, .string tx, .int .i64 rn, .int .u8 (rd : Int), .int .i64 (ln : Int)]) := Lib.hid (by
      rw [← hwn]
      exact ((RP.out.set 2 _).set 3 _).alloc _)
     have n0 : wn.cell? ⟨xr.val.heap.size, 0, none⟩ = some (.int .u8 2) := RW.out.cells 0
     have n1 : wn.cell? ⟨xr.val.heap.size, 1, none⟩ = some (.string tx) := RW.out.cells 1
     have n2 : wn.cell? ⟨xr.val.heap.size, 2, none⟩ = some (.int .i64 rn) := RW.out.cells 2
     have n3 : wn.cell? ⟨xr.val.heap.size, 3, none⟩ = some (.int .u8 (rd : Int)) := RW.out.cells 3
     have n4 : wn.cell? ⟨xr.val.heap.size, 4, none⟩ = some (.int .i64 (ln : Int)) := RW.out.cells 4
     have lwn : xr.val.heap.size < wn.heap.size := RW.out.lt
     have hszn : xr.val.heap.size ≤ wn.heap.size := HBX.size
     clear hwn hbp
     have HT2 := Lib.hid (HT.out.snoc (t := ⟨2, tx, ⟨rn, rd⟩, (ln : Int)⟩) (fun h => by cases h))
     have HG2 : Hid (GhU s ix ln true (l ++ [⟨2, tx, ⟨rn, rd⟩, (ln : Int)⟩])) := Lib.hid (fun hu => absurd hu HNU.out)
     have bal : Below wn.heap.size wn (wn.alloc (.cells (tkF ((⟨2, tx, ⟨rn, rd⟩, (ln : Int)⟩ : Tk))).toArray 99)) := bel_alloc (Below.refl _ _) _
     have HO2 := Lib.hid (own_to (own_to HO.out HBX) bal)
     have RN := Lib.hid (recs_one1 (f := tkF) (a := (⟨2, tx, ⟨rn, rd⟩, (ln : Int)⟩ : Tk)) (RowAt.new' wn wn.heap.size 99 (tkF ((⟨2, tx, ⟨rn, rd⟩, (ln : Int)⟩ : Tk))) rfl) (show wn.heap.size < wn.heap.size + 1 by omega) rfl)
     have hbase : w.heap.size + 1 ≤ wn.heap.size + 1 := by omega
     go_upto_region 38 with fail
     go_wp2_with (at_builtin; go_loud (refine wpList_append_recs (f := tkF) (s := 5) _ rfl (.tmp 148) (.tmp 150) 95 rfl (fun _ => rfl) (by decide) tkF_one (w.heap.size + 1) 99 iT _ 48 Try.underlying95 hifT ht0_ ht1_ ht2_ (by decide) rfl (.slice A n c) l rfl (by rw [HL.out]; exact HO2.out) (wn.heap.size + 1) (some ⟨wn.heap.size, 0, none⟩) [(⟨2, tx, ⟨rn, rd⟩, (ln : Int)⟩ : Tk)] 1 1 rfl rfl RN.out (by simp) (by rw [HL.out]; omega) (by simp; omega) ?_; intro A2 c2 w2 o2 g2 b2; have O2 := Lib.hid o2; have B2 := Lib.hid b2; clear o2 g2 b2))
     have hl2 : (l ++ [(⟨2, tx, ⟨rn, rd⟩, (ln : Int)⟩ : Tk)]).length = n + 1 := by rw [List.length_append, HL.out]; rfl
     rw [hl2] at O2
     try rw [hl2]
     have HL2 := Lib.hid hl2
     have bfin : Below (w.heap.size + 1) w0 w2 := ((hbr.trans (HBX.mono (by omega))).trans (bal.mono (by omega))).trans B2.out
     clear hl2
     go_wp2
     go_roundw
     case rel => exact ⟨A2, n + 1, c2, _, ln, ix, true, by omega, by omega, by omega, HL2, O2, HT2, HG2, by first | rfl | trivial | (rw [HL.out]), by first | rfl | trivial, by first | rfl | trivial, by first | rfl | go_num, bfin⟩
     case measure => (have := HIX.out); simp [RowKit.intOf]; omega
    have p1 : decide ((ix : Int) < (s.size : Int)) = true := decide_eq_true (by omega)
    have p2 : decide (ix < s.size) = true := decide_eq_true hx
    have p1' : (ix : Int) < (s.size : Int) := by omega
    obtain ⟨k2, hk2⟩ : ∃ k, s[ix].toNat = k := ⟨_, rfl⟩
    obtain ⟨bg, hbg⟩ : ∃ b, goesN 2 k2 = b := ⟨_, rfl⟩
    have GO := Lib.hid (fun w => (show Calls Try.prog 64 #[.int .u8 2, .int .u8 (k2 : Int)] w _ from goes_any 2 k2 bg hbg w))
    cases bg
    ·have HX : Hid (Vd.unit s = true → ix = s.size) := Lib.hid (fun hu => by
      exact absurd hu HNU.out)
     clear hbg
     go_upto_region 28 with fail
     refine wp_region_lat (by kernel_rfl) (by kernel_rfl) ?_
     repeat (go_big_quiet_step (fail))
     go_big_quiet_step (exact later_same (GO.out _))
     repeat (go_big_quiet_step (fail))
     refine wpQuiet_nil ?_
     rintro _ ⟨xq, rfl⟩
     have hz_xq := xq.bel.size
     try simp at hz_xq
     obtain ⟨tx, htx⟩ : ∃ tx, s.extract i ix = tx := ⟨_, rfl⟩
     clear t0 t1
     rw [htx] at RT hmz
     have HTX := Lib.hid htx
     have HMZ := Lib.hid hmz
     clear htx hmz
     have x0 : xq.val.cell? ⟨xr.val.heap.size, 0, none⟩ = some (.int .u8 2) := (RT.out.to xq.bel).cells 0
     have x1 : xq.val.cell? ⟨xr.val.heap.size, 1, none⟩ = some (.string tx) := (RT.out.to xq.bel).cells 1
     have x2 : xq.val.cell? ⟨xr.val.heap.size, 2, none⟩ = some (.int .i64 0) := (RT.out.to xq.bel).cells 2
     have x3 : xq.val.cell? ⟨xr.val.heap.size, 3, none⟩ = some (.int .u8 0) := (RT.out.to xq.bel).cells 3
     have x4 : xq.val.cell? ⟨xr.val.heap.size, 4, none⟩ = some (.int .i64 (ln : Int)) := (RT.out.to xq.bel).cells 4
     have xz2 : xq.val.frozen? ⟨xr.val.heap.size, 2, none⟩ = false := (RT.out.to xq.bel).frozen 2
     have xz3 : xq.val.frozen? ⟨xr.val.heap.size, 3, none⟩ = false := (RT.out.to xq.bel).frozen 3
     have lxq : xr.val.heap.size < xq.val.heap.size := by omega
     have hbq : Below xr.val.heap.size xr.val xq.val := hbz.trans (xq.bel.mono (by omega))
     have hbqw : Below w.heap.size w xq.val := hbw.trans (xq.bel.mono hbw.size)
     have f0 : xq.val.cell? ⟨w.heap.size, 0, none⟩ = some (.int .i64 0) := (hbq.cell (p := ⟨w.heap.size, 0, none⟩) lfx).trans c_xr_0_0
     have f1 : xq.val.cell? ⟨w.heap.size, 1, none⟩ = some (.int .i64 0) := (hbq.cell (p := ⟨w.heap.size, 1, none⟩) lfx).trans c_xr_0_1
     have y0 : xq.val.frozen? ⟨w.heap.size, 0, none⟩ = false := (hbq.frozen (p := ⟨w.heap.size, 0, none⟩) lfx).trans z_xr_0_0
     have y1 : xq.val.frozen? ⟨w.heap.size, 1, none⟩ = false := (hbq.frozen (p := ⟨w.heap.size, 1, none⟩) lfx).trans z_xr_0_1
     have lfq : w.heap.size < xq.val.heap.size := by omega
     have PA := Lib.hid (fun w => rparse_any tx w (by have := HMZ.out; omega))
     go_wp2_with fail
     (with_reducible refine (PA.out _).mono ?_)
     rintro e_ w_ ⟨rn, rd, ok, rfl, hbp⟩
     obtain ⟨xp, rfl⟩ := later_is hbp
     have hz_xp := xp.bel.size
     have lxp : xr.val.heap.size < xp.val.heap.size := by omega
     have lfp : w.heap.size < xp.val.heap.size := by omega
     have hbpw : Below w.heap.size w xp.val := hbqw.trans (hbp.mono hbqw.size)
     cases ok
     ·clear hbp
      go_wp2
      refine bodyPost_ret (v := .tuple #[.slice none 0 0, .agg #[.int .i64 132, .int .i64 (ln : Int)]]) (by simp [results, Try.results58, go_sem, *]) rfl ⟨none, 0, 0, [], 132, (ln : Int), rfl, belo, rfl, Recs.nil, TokOk.nil, fun hu => absurd hu HNU.out⟩
     have RP := Lib.hid ((RT.out.to xq.bel).to hbp)
     have xp0 : xp.val.cell? ⟨xr.val.heap.size, 0, none⟩ = some (.int .u8 2) := RP.out.cells 0
     have xp1 : xp.val.cell? ⟨xr.val.heap.size, 1, none⟩ = some (.string tx) := RP.out.cells 1
     have xp2 : xp.val.cell? ⟨xr.val.heap.size, 2, none⟩ = some (.int .i64 0) := RP.out.cells 2
     have xp3 : xp.val.cell? ⟨xr.val.heap.size, 3, none⟩ = some (.int .u8 0) := RP.out.cells 3
     have xp4 : xp.val.cell? ⟨xr.val.heap.size, 4, none⟩ = some (.int .i64 (ln : Int)) := RP.out.cells 4
     have xpz2 : xp.val.frozen? ⟨xr.val.heap.size, 2, none⟩ = false := RP.out.frozen 2
     have xpz3 : xp.val.frozen? ⟨xr.val.heap.size, 3, none⟩ = false := RP.out.frozen 3
     have HBP : Below xr.val.heap.size xr.val xp.val := hbq.trans (hbp.mono hbq.size)
     go_upto_region 38 with fail
     obtain ⟨wn, hwn⟩ : ∃ q, (((xp.val.setCell ⟨xr.val.heap.size, 2, none⟩ (.int .i64 rn)).setCell ⟨xr.val.heap.size, 3, none⟩ (.int .u8 (rd : Int))).alloc (.cells #[.int .i64 rn, .int .u8 (rd : Int)] 41)) = q := ⟨_, rfl⟩
     try rw [hwn]
     have HBX : Below xr.val.heap.size xr.val wn := by
      rw [← hwn]
      exact bel_alloc (bel_set (bel_set HBP (Nat.le_refl _) _) (Nat.le_refl _) _) _
     have RW : Hid (RowAt wn xr.val.heap.size 99 [.int .u8 2, .string tx, .int .i64 rn, .int .u8 (rd : Int), .int .i64 (ln : Int)]) := Lib.hid (by
      rw [← hwn]
      exact ((RP.out.set 2 _).set 3 _).alloc _)
     have n0 : wn.cell? ⟨xr.val.heap.size, 0, none⟩ = some (.int .u8 2) := RW.out.cells 0
     have n1 : wn.cell? ⟨xr.val.heap.size, 1, none⟩ = some (.string tx) := RW.out.cells 1
     have n2 : wn.cell? ⟨xr.val.heap.size, 2, none⟩ = some (.int .i64 rn) := RW.out.cells 2
     have n3 : wn.cell? ⟨xr.val.heap.size, 3, none⟩ = some (.int .u8 (rd : Int)) := RW.out.cells 3
     have n4 : wn.cell? ⟨xr.val.heap.size, 4, none⟩ = some (.int .i64 (ln : Int)) := RW.out.cells 4
     have lwn : xr.val.heap.size < wn.heap.size := RW.out.lt
     have hszn : xr.val.heap.size ≤ wn.heap.size := HBX.size
     clear hwn hbp
     have HT2 := Lib.hid (HT.out.snoc (t := ⟨2, tx, ⟨rn, rd⟩, (ln : Int)⟩) (fun h => by cases h))
     have HG2 : Hid (GhU s ix ln true (l ++ [⟨2, tx, ⟨rn, rd⟩, (ln : Int)⟩])) := Lib.hid (fun hu => absurd hu HNU.out)
     have bal : Below wn.heap.size wn (wn.alloc (.cells (tkF ((⟨2, tx, ⟨rn, rd⟩, (ln : Int)⟩ : Tk))).toArray 99)) := bel_alloc (Below.refl _ _) _
     have HO2 := Lib.hid (own_to (own_to HO.out HBX) bal)
     have RN := Lib.hid (recs_one1 (f := tkF) (a := (⟨2, tx, ⟨rn, rd⟩, (ln : Int)⟩ : Tk)) (RowAt.new' wn wn.heap.size 99 (tkF ((⟨2, tx, ⟨rn, rd⟩, (ln : Int)⟩ : Tk))) rfl) (show wn.heap.size < wn.heap.size + 1 by omega) rfl)
     have hbase : w.heap.size + 1 ≤ wn.heap.size + 1 := by omega
     go_upto_region 38 with fail
     go_wp2_with (at_builtin; go_loud (refine wpList_append_recs (f := tkF) (s := 5) _ rfl (.tmp 148) (.tmp 150) 95 rfl (fun _ => rfl) (by decide) tkF_one (w.heap.size + 1) 99 iT _ 48 Try.underlying95 hifT ht0_ ht1_ ht2_ (by decide) rfl (.slice A n c) l rfl (by rw [HL.out]; exact HO2.out) (wn.heap.size + 1) (some ⟨wn.heap.size, 0, none⟩) [(⟨2, tx, ⟨rn, rd⟩, (ln : Int)⟩ : Tk)] 1 1 rfl rfl RN.out (by simp) (by rw [HL.out]; omega) (by simp; omega) ?_; intro A2 c2 w2 o2 g2 b2; have O2 := Lib.hid o2; have B2 := Lib.hid b2; clear o2 g2 b2))
     have hl2 : (l ++ [(⟨2, tx, ⟨rn, rd⟩, (ln : Int)⟩ : Tk)]).length = n + 1 := by rw [List.length_append, HL.out]; rfl
     rw [hl2] at O2
     try rw [hl2]
     have HL2 := Lib.hid hl2
     have bfin : Below (w.heap.size + 1) w0 w2 := ((hbr.trans (HBX.mono (by omega))).trans (bal.mono (by omega))).trans B2.out
     clear hl2
     go_wp2
     go_roundw
     case rel => exact ⟨A2, n + 1, c2, _, ln, ix, true, by omega, by omega, by omega, HL2, O2, HT2, HG2, by first | rfl | trivial | (rw [HL.out]), by first | rfl | trivial, by first | rfl | trivial, by first | rfl | go_num, bfin⟩
     case measure => (have := HIX.out); simp [RowKit.intOf]; omega
    ·have HGO2 : Hid (∀ (j : Nat) (hj : i < j) (hj2 : j ≤ ix) (hjs : j < s.size), goesN 2 (s[j]'hjs).toNat = true) := Lib.hid (fun j h1 h2 h3 => by
      rcases Nat.lt_or_ge i2 j with h4 | h4
      ·obtain rfl : j = ix := by have := HIX.out; omega
       rw [hk2]; exact hbg
      ·exact HGO.out j h1 h4 h3)
     have pc1 : (ix : Int) ≤ (ix : Int) + 1 := by omega
     have pc2 : (ix : Int) + 1 ≤ (s.size : Int) := by omega
     have iw3 : IntKind.i64.wrap ((ix : Int) + 1) = (ix : Int) + 1 := IntWalk.i64_in _ (by omega)
     have hsn : s.extract i ix ++ s.extract ix (ix + 1) = s.extract i (ix + 1) := extract_snoc s i ix (by omega) hx
     have hcat : ¬ (9223372036854775807 < ix - i + (min (ix + 1) s.size - ix)) := by omega
     clear hbg
     go_upto_region 28 with fail
     refine wp_region_lat (by kernel_rfl) (by kernel_rfl) ?_
     repeat (go_big_quiet_step (fail))
     go_big_quiet_step (exact later_same (GO.out _))
     repeat (go_big_quiet_step (fail))
     refine wpQuiet_nil ?_
     rintro _ ⟨xq, rfl⟩
     have hz_xq := xq.bel.size
     try simp at hz_xq
     have x0 : xq.val.cell? ⟨xr.val.heap.size, 0, none⟩ = some (.int .u8 2) := (RT.out.to xq.bel).cells 0
     have x1 : xq.val.cell? ⟨xr.val.heap.size, 1, none⟩ = some (.string (s.extract i ix)) := (RT.out.to xq.bel).cells 1
     have xz1 : xq.val.frozen? ⟨xr.val.heap.size, 1, none⟩ = false := (RT.out.to xq.bel).frozen 1
     have lxq : xr.val.heap.size < xq.val.heap.size := by omega
     have hbq : Below xr.val.heap.size xr.val xq.val := hbz.trans (xq.bel.mono (by omega))
     have RT2 : Hid (RowAt (xq.val.setCell ⟨xr.val.heap.size, 1, none⟩ (.string (s.extract i (ix + 1)))).drew xr.val.heap.size 99 [.int .u8 2, .string (s.extract i (ix + 1)), .int .i64 0, .int .u8 0, .int .i64 (ln : Int)]) := Lib.hid (((RT.out.to xq.bel).set 1 _).drew)
     have bfin : Below xr.val.heap.size xr.val (xq.val.setCell ⟨xr.val.heap.size, 1, none⟩ (.string (s.extract i (ix + 1)))).drew := (bel_set hbq (Nat.le_refl _) _).drew
     go_upto_region 30 with fail
     refine wp_region_held_drew (S := (fun _ => True)) (by kernel_rfl) ?_ (fun hHeld => ?_)
     ·trivial
     refine takeD (i := 0) (oi := _) (v := ?vv44) (d := some 113) rfl (by kernel_rfl) (by kernel_rfl) (by kernel_rfl) (by kernel_rfl) (fun _ _ _ h => h) (Or.inl ⟨by kernel_rfl, ?_⟩) (by assumption) ?_
     rotate_left 1
     ·intro W_ hSw; (try dsimp only at hSw); go_simp; (first | done | with_reducible rfl)
     try simp only [Act.put, List.setIfInBounds_toArray, List.set_cons_zero, List.set_cons_succ]
     refine takeD (i := 2) (oi := _) (v := ?vv45) (d := some 115) rfl (by kernel_rfl) (by kernel_rfl) (by kernel_rfl) (by kernel_rfl) (fun _ _ _ h => h) (Or.inl ⟨by kernel_rfl, ?_⟩) (by assumption) ?_
     rotate_left 1
     ·intro W_ hSw; (try dsimp only at hSw); go_simp; (first | done | with_reducible rfl)
     try simp only [Act.put, List.setIfInBounds_toArray, List.set_cons_zero, List.set_cons_succ]
     refine takeD (i := 3) (oi := _) (v := ?vv46) (d := some 116) rfl (by kernel_rfl) (by kernel_rfl) (by kernel_rfl) (by kernel_rfl) (fun _ _ _ h => h) (Or.inl ⟨by kernel_rfl, ?_⟩) (by assumption) ?_
     rotate_left 1
     ·intro W_ hSw; (try dsimp only at hSw); go_simp; (first | done | with_reducible rfl)
     try simp only [Act.put, List.setIfInBounds_toArray, List.set_cons_zero, List.set_cons_succ]
     refine takeD (i := 4) (oi := _) (v := ?vv47) (d := some 117) rfl (by kernel_rfl) (by kernel_rfl) (by kernel_rfl) (by kernel_rfl) (fun _ _ _ h => h) (Or.inl ⟨by kernel_rfl, ?_⟩) (by assumption) ?_
     rotate_left 1
     ·intro W_ hSw; (try dsimp only at hSw); go_simp; (first | done | with_reducible rfl)
     try simp only [Act.put, List.setIfInBounds_toArray, List.set_cons_zero, List.set_cons_succ]
     refine takeD (i := 5) (oi := _) (v := ?vv48) (d := some 118) rfl (by kernel_rfl) (by kernel_rfl) (by kernel_rfl) (by kernel_rfl) (fun _ _ _ h => h) (Or.inl ⟨by kernel_rfl, ?_⟩) (by assumption) ?_
     rotate_left 1
     ·intro W_ hSw; (try dsimp only at hSw); go_simp; (first | done | with_reducible rfl)
     try simp only [Act.put, List.setIfInBounds_toArray, List.set_cons_zero, List.set_cons_succ]
     refine takeD (i := 6) (oi := _) (v := ?vv49) (d := some 119) rfl (by kernel_rfl) (by kernel_rfl) (by kernel_rfl) (by kernel_rfl) (fun _ _ _ h => h) (Or.inl ⟨by kernel_rfl, ?_⟩) (by assumption) ?_
     rotate_left 1
     ·intro W_ hSw; (try dsimp only at hSw); go_simp; (first | done | with_reducible rfl)
     try simp only [Act.put, List.setIfInBounds_toArray, List.set_cons_zero, List.set_cons_succ]
     refine wpAnyH_ready (rs := [1]) (by kernel_rfl) (by simp) ?_
     refine AllReadyH.cons (o := _) rfl (fun K hK => ?_) AllReadyH.nil
     go_simp
     refine hK.out _ _ ?_ (fun hHeld => ?_)
     ·trivial
     clear hK K
     try simp only [Act.put]
     try simp only [List.setIfInBounds_toArray]
     try simp only [List.set_cons_succ]
     try simp only [List.set_cons_zero]
     refine takeD (i := 7) (oi := _) (v := ?vv50) (d := some 120) rfl (by kernel_rfl) (by kernel_rfl) (by kernel_rfl) (by kernel_rfl) (fun _ _ _ h => h) (Or.inl ⟨by kernel_rfl, ?_⟩) (by assumption) ?_
     rotate_left 1
     ·intro W_ hSw; (try dsimp only at hSw); go_simp; (first | done | with_reducible rfl)
     try simp only [Act.put, List.setIfInBounds_toArray, List.set_cons_zero, List.set_cons_succ]
     refine takeD (i := 8) (oi := _) (v := ?vv51) (d := some 121) rfl (by kernel_rfl) (by kernel_rfl) (by kernel_rfl) (by kernel_rfl) (fun _ _ _ h => h) (Or.inl ⟨by kernel_rfl, ?_⟩) (by assumption) ?_
     rotate_left 1
     ·intro W_ hSw; (try dsimp only at hSw); go_simp; (first | done | with_reducible rfl)
     try simp only [Act.put, List.setIfInBounds_toArray, List.set_cons_zero, List.set_cons_succ]
     refine wpAnyH_ready (rs := [9]) (by kernel_rfl) (by simp) ?_
     refine AllReadyH.cons (o := _) rfl (fun K hK => ?_) AllReadyH.nil
     go_simp
     refine hK.out _ _ ?_ (fun hHeld => ?_)
     ·trivial
     clear hK K
     try simp only [Act.put]
     try simp only [List.setIfInBounds_toArray]
     try simp only [List.set_cons_succ]
     try simp only [List.set_cons_zero]
     refine wpAnyH_done (by kernel_rfl) ?_ _
     go_wp2
     go_roundw
     case rel => exact ⟨ix, by omega, hx, by first | rfl | go_num, RT2, HGO2, bfin⟩
     case measure => (have := HIX.out); simp [RowKit.intOf]; omega
  have r9 : ((k : Int) == 45) = false := beq_eq_false_iff_ne.2 (by omega)
  by_cases q4 : k = 61
  ·have r10 : ((k : Int) == 61) = true := beq_iff_eq.2 (by omega)
   clear q3 q4
   go_wp2_with fail
   (with_reducible refine (LT.out _).mono ?_)
   rintro e_ w_ ⟨rfl, rfl⟩
   go_wp2_with fail
   (with_reducible refine (DG.out _).mono ?_)
   rintro e_ w_ ⟨rfl, rfl⟩
   have hpc : (i : Int) ≤ (i : Int) + 1 := by omega
   have hpc2 : (i : Int) + 1 ≤ (s.size : Int) := by omega
   go_upto_region 28 with fail
   obtain ⟨wt, hwt⟩ : ∃ w_q_, w_q_ = xr.val.alloc (.cells #[.int .u8 3, .string (s.extract i (i + 1)), .int .i64 0, .int .u8 0, .int .i64 (ln : Int)] 99) := ⟨_, rfl⟩
   rw [← hwt]
   have hbt : Below xr.val.heap.size xr.val wt := by rw [hwt]; exact bel_alloc (Below.refl _ _) _
   have RT : Hid (RowAt wt xr.val.heap.size 99 [.int .u8 3, .string (s.extract i (i + 1)), .int .i64 0, .int .u8 0, .int .i64 (ln : Int)]) := Lib.hid (by rw [hwt]; exact RowAt.new' _ _ _ _ rfl)
   clear hwt
   go_loopw [7] (fun xi wz => ∃ i2 : Nat, i ≤ i2 ∧ i2 < s.size ∧ xi = .int .i64 (i2 : Int) ∧ Hid (RowAt wz xr.val.heap.size 99 [.int .u8 3, .string (s.extract i (i2 + 1)), .int .i64 0, .int .u8 0, .int .i64 (ln : Int)]) ∧ Hid (∀ (j : Nat) (hj : i < j) (hj2 : j ≤ i2) (hjs : j < s.size), goesN 3 (s[j]'hjs).toNat = true) ∧ Below xr.val.heap.size xr.val wz) (fun xi _ => s.size - (RowKit.intOf xi).toNat)
   case atStart => exact ⟨i, Nat.le_refl _, hil, rfl, RT, Lib.hid (fun j h1 h2 => by omega), hbt⟩
   case round =>
    clear RT hbt
    rename World => wz
    obtain ⟨i2, hi2, hi2s, rfl, RT, HGO, hbz⟩ := hrel
    obtain ⟨ix, hix⟩ : ∃ ix, i2 + 1 = ix := ⟨_, rfl⟩
    have iw1 : (i2 : Int) + 1 = (ix : Int) := by omega
    have iw2 : IntKind.i64.wrap (ix : Int) = (ix : Int) := IntWalk.i64_in _ (by omega)
    rw [hix] at RT
    have HIX := Lib.hid hix
    have hixi : i < ix ∧ ix ≤ s.size := by omega
    have hbw : Below w.heap.size w wz := hbe.trans (hbz.mono hbe.size)
    have lgt : xr.val.heap.size < wz.heap.size := RT.out.lt
    have t0 : wz.cell? ⟨xr.val.heap.size, 0, none⟩ = some (.int .u8 3) := RT.out.cells 0
    have t1 : wz.cell? ⟨xr.val.heap.size, 1, none⟩ = some (.string (s.extract i ix)) := RT.out.cells 1
    obtain ⟨xz, hxz⟩ := later_is hbz
    obtain rfl := hxz
    have lfv : w.heap.size < xz.val.heap.size := by omega
    have lfx : w.heap.size < xr.val.heap.size := by omega
    have hmz : (s.extract i ix).size = ix - i := by rw [ByteArray.size_extract]; omega
    clear hix
    go_upto_region 28 with fail
    refine wp_region_lat (by kernel_rfl) (by kernel_rfl) ?_
    repeat (go_big_quiet_step (fail))
    refine wpQuiet_nil ?_
    rintro _ ⟨xq, rfl⟩
    have hz_xq := xq.bel.size
    try simp at hz_xq
    have HX : Hid True := Lib.hid trivial
    obtain ⟨tx, htx⟩ : ∃ tx, s.extract i ix = tx := ⟨_, rfl⟩
    clear t0 t1
    rw [htx] at RT hmz
    have HTX := Lib.hid htx
    have HMZ := Lib.hid hmz
    clear htx hmz
    have x0 : xq.val.cell? ⟨xr.val.heap.size, 0, none⟩ = some (.int .u8 3) := (RT.out.to xq.bel).cells 0
    have x1 : xq.val.cell? ⟨xr.val.heap.size, 1, none⟩ = some (.string tx) := (RT.out.to xq.bel).cells 1
    have x2 : xq.val.cell? ⟨xr.val.heap.size, 2, none⟩ = some (.int .i64 0) := (RT.out.to xq.bel).cells 2
    have x3 : xq.val.cell? ⟨xr.val.heap.size, 3, none⟩ = some (.int .u8 0) := (RT.out.to xq.bel).cells 3
    have x4 : xq.val.cell? ⟨xr.val.heap.size, 4, none⟩ = some (.int .i64 (ln : Int)) := (RT.out.to xq.bel).cells 4
    have xz2 : xq.val.frozen? ⟨xr.val.heap.size, 2, none⟩ = false := (RT.out.to xq.bel).frozen 2
    have xz3 : xq.val.frozen? ⟨xr.val.heap.size, 3, none⟩ = false := (RT.out.to xq.bel).frozen 3
    have lxq : xr.val.heap.size < xq.val.heap.size := by omega
    have hbq : Below xr.val.heap.size xr.val xq.val := hbz.trans (xq.bel.mono (by omega))
    have hbqw : Below w.heap.size w xq.val := hbw.trans (xq.bel.mono hbw.size)
    have f0 : xq.val.cell? ⟨w.heap.size, 0, none⟩ = some (.int .i64 0) := (hbq.cell (p := ⟨w.heap.size, 0, none⟩) lfx).trans c_xr_0_0
    have f1 : xq.val.cell? ⟨w.heap.size, 1, none⟩ = some (.int .i64 0) := (hbq.cell (p := ⟨w.heap.size, 1, none⟩) lfx).trans c_xr_0_1
    have y0 : xq.val.frozen? ⟨w.heap.size, 0, none⟩ = false := (hbq.frozen (p := ⟨w.heap.size, 0, none⟩) lfx).trans z_xr_0_0
    have y1 : xq.val.frozen? ⟨w.heap.size, 1, none⟩ = false := (hbq.frozen (p := ⟨w.heap.size, 1, none⟩) lfx).trans z_xr_0_1
    have lfq : w.heap.size < xq.val.heap.size := by omega
    have HT2 := Lib.hid (HT.out.snoc (t := ⟨3, tx, ⟨0, 0⟩, (ln : Int)⟩) (fun h => by cases h))
    have HG2 : Hid (GhU s ix ln true (l ++ [⟨3, tx, ⟨0, 0⟩, (ln : Int)⟩])) := Lib.hid (fun hu => absurd hu HNU.out)
    have HBX := hbq
    have bal : Below xq.val.heap.size xq.val (xq.val.alloc (.cells (tkF ((⟨3, tx, ⟨0, 0⟩, (ln : Int)⟩ : Tk))).toArray 99)) := bel_alloc (Below.refl _ _) _
    have HO2 := Lib.hid (own_to (own_to HO.out HBX) bal)
    have RN := Lib.hid (recs_one1 (f := tkF) (a := (⟨3, tx, ⟨0, 0⟩, (ln : Int)⟩ : Tk)) (RowAt.new' xq.val xq.val.heap.size 99 (tkF ((⟨3, tx, ⟨0, 0⟩, (ln : Int)⟩ : Tk))) rfl) (show xq.val.heap.size < xq.val.heap.size + 1 by omega) rfl)
    have hbase : w.heap.size + 1 ≤ xq.val.heap.size + 1 := by omega
    go_upto_region 38 with fail
    go_wp2_with (at_builtin; go_loud (refine wpList_append_recs (f := tkF) (s := 5) _ rfl (.tmp 148) (.tmp 150) 95 rfl (fun _ => rfl) (by decide) tkF_one (w.heap.size + 1) 99 iT _ 48 Try.underlying95 hifT ht0_ ht1_ ht2_ (by decide) rfl (.slice A n c) l rfl (by rw [HL.out]; exact HO2.out) (xq.val.heap.size + 1) (some ⟨xq.val.heap.size, 0, none⟩) [(⟨3, tx, ⟨0, 0⟩, (ln : Int)⟩ : Tk)] 1 1 rfl rfl RN.out (by simp) (by rw [HL.out]; omega) (by simp; omega) ?_; intro A2 c2 w2 o2 g2 b2; have O2 := Lib.hid o2; have B2 := Lib.hid b2; clear o2 g2 b2))
    have hl2 : (l ++ [(⟨3, tx, ⟨0, 0⟩, (ln : Int)⟩ : Tk)]).length = n + 1 := by rw [List.length_append, HL.out]; rfl
    rw [hl2] at O2
    try rw [hl2]
    have HL2 := Lib.hid hl2
    have bfin : Below (w.heap.size + 1) w0 w2 := ((hbr.trans (HBX.mono (by omega))).trans (bal.mono (by omega))).trans B2.out
    clear hl2
    go_wp2
    go_roundw
    case rel => exact ⟨A2, n + 1, c2, _, ln, ix, true, by omega, by omega, by omega, HL2, O2, HT2, HG2, by first | rfl | trivial | (rw [HL.out]), by first | rfl | trivial, by first | rfl | trivial, by first | rfl | go_num, bfin⟩
    case measure => (have := HIX.out); simp [RowKit.intOf]; omega
  have r10 : ((k : Int) == 61) = false := beq_eq_false_iff_ne.2 (by omega)
  clear q3 q4
  go_wp2_with fail
  (with_reducible refine (LT.out _).mono ?_)
  rintro e_ w_ ⟨rfl, rfl⟩
  go_wp2_with fail
  (with_reducible refine (DG.out _).mono ?_)
  rintro e_ w_ ⟨rfl, rfl⟩
  go_wp2
  refine bodyPost_ret (v := .tuple #[.slice none 0 0, .agg #[.int .i64 131, .int .i64 (ln : Int)]]) (by simp [results, Try.results58, go_sem, *]) rfl ⟨none, 0, 0, [], 131, (ln : Int), rfl, belo, rfl, Recs.nil, TokOk.nil, fun hu => absurd hu HNU.out⟩
end Go.Proofs.Ythhokpaidekmnaa
