/- The chapter's examples (awake), and contracts at known answers. -/
import Derived.Test.YtfdbajalhnenhaaWords2
namespace Go.Proofs.Ytfdbajalhnenhaa
open Go.RowKit
set_option linter.unusedVariables false
attribute [local go_sem] Later.cell Later.frozen setCell_twice
theorem Sq.to {α : Type} {f : α → Value} {w w' : World} {A : Option Addr} {l : List α} (h : Sq f w w.heap.size A l) (hb : Below w.heap.size w w') : Sq f w' w'.heap.size A l := (h.below hb).more hb.size
theorem Sq.all {α : Type} {f : α → Value} {w w' : World} {B : Nat} {A : Option Addr} {l : List α} (h : Sq f w B A l) (hB : B ≤ w.heap.size) : Sq f w w.heap.size A l := h.more hB
abbrev u8v (x : Nat) : Value := .int .u8 (x : Int)
abbrev u16v (x : Nat) : Value := .int .u16 (x : Int)
theorem packBits_eq (A : Option Addr) (c m : Nat) (l : List Bool) (r : List Nat) (w : World) (hm : l.length = m) (h : Sq Value.bool w w.heap.size A l) (hn : l.length ≤ 35184372088832) (he : Bt.packBits l = r) :
    Calls Try.prog 14 #[.slice A m c] w (Gives u8v w r) := by subst hm he; exact packBits_any A c l w h hn
theorem bits_eq (A : Option Addr) (c m : Nat) (b : List Nat) (n : Int) (r : List Bool) (w : World) (hm : b.length = m) (hb : Sq u8v w w.heap.size A b) (hbb : ∀ x ∈ b, x < 256) (hl : b.length ≤ 35184372088832) (h : -9223372036854775808 ≤ n ∧ n ≤ 9223372036854775807) (he : Bt.bits b n = r) :
    Calls Try.prog 11 #[.slice A m c, .int .i64 n] w (Gives Value.bool w r) := by subst hm he; exact bits_any A c b n w hb hbb hl h.1 h.2
theorem packRegs_eq (A : Option Addr) (c m : Nat) (l r : List Nat) (w : World) (hm : l.length = m) (h : Sq u16v w w.heap.size A l) (hl : ∀ b ∈ l, b < 65536) (hn : l.length ≤ 35184372088832) (he : packRegs l = r) :
    Calls Try.prog 16 #[.slice A m c] w (Gives u8v w r) := by
  subst hm he
  exact (packRegs_any A c l w h hl hn).mono fun e w' ⟨A', c', he, ho, hb⟩ => by subst he; exact Gives.of_own rfl ho hb
theorem regs_eq (A : Option Addr) (c m : Nat) (b r : List Nat) (w : World) (hm : b.length = m) (hb : Sq u8v w w.heap.size A b) (hbb : ∀ x ∈ b, x < 256) (h : b.length % 2 = 0) (hl : b.length ≤ 35184372088832) (he : regsOf b = r) :
    Calls Try.prog 8 #[.slice A m c] w (GivesR w r true) := by subst hm he; exact regs_even A c b w hb hbb h hl
theorem same_eq (A B : Option Addr) (la lb : List Nat) (ca cb ma mb : Nat) (r : Bool) (w : World) (hma : la.length = ma) (hmb : lb.length = mb) (ha : Sq u8v w w.heap.size A la) (hb : Sq u8v w w.heap.size B lb) (ba : ∀ x ∈ la, x < 256) (bb : ∀ x ∈ lb, x < 256) (he : decide (la = lb) = r) :
    Calls Try.prog 13 #[.slice A ma ca, .slice B mb cb] w fun e w' => e = .returned (.bool r) ∧ w = w' := by subst hma hmb he; exact same_any A B la lb ca cb w _ _ ha hb ba bb
theorem bools_eq (A B : Option Addr) (la lb : List Bool) (ca cb ma mb : Nat) (r : Bool) (w : World) (hma : la.length = ma) (hmb : lb.length = mb) (ha : Sq Value.bool w w.heap.size A la) (hb : Sq Value.bool w w.heap.size B lb) (hn : la.length ≤ 140737488355328) (he : decide (la = lb) = r) :
    Calls Try.prog 10 #[.slice A ma ca, .slice B mb cb] w fun e w' => e = .returned (.bool r) ∧ Below w.heap.size w w' := by subst hma hmb he; exact bools_any A B la lb ca cb w ha hb hn
theorem cmpRegs_eq (A B : Option Addr) (la lb : List Nat) (ca cb ma mb : Nat) (r : Bool) (w : World) (hma : la.length = ma) (hmb : lb.length = mb) (ha : Sq u16v w w.heap.size A la) (hb : Sq u16v w w.heap.size B lb) (hn : la.length ≤ 140737488355328) (he : decide (la = lb) = r) :
    Calls Try.prog 18 #[.slice A ma ca, .slice B mb cb] w fun e w' => e = .returned (.bool r) ∧ Below w.heap.size w w' := by subst hma hmb he; exact cmpRegs_any A B la lb ca cb w ha hb hn
theorem parts_eq (x a b : Nat) (X P Q : Int) (w : World) (hx : x < 4294967296) (hX : (x : Int) = X) (ha : ((x / 65536 : Nat) : Int) = P) (hb : ((x % 65536 : Nat) : Int) = Q) :
    Calls Try.prog 20 #[.int .u32 X] w fun e w' => e = .returned (.tuple #[.int .u16 P, .int .u16 Q]) ∧ w = w' := by subst hX ha hb; exact parts_any x w hx

set_option maxRecDepth 100000 in
set_option maxHeartbeats 4000000 in
theorem awake_any (w : World) : Calls Try.prog 7 #[] w fun e w' => e = .returned (.bool true) ∧ Below w.heap.size w w' := by
  have sl : ∀ (w : World), Sq Value.bool (w.alloc (.cells #[.bool true, .bool false, .bool true, .bool true, .bool false, .bool false, .bool false, .bool false, .bool true] 4)) (w.alloc (.cells #[.bool true, .bool false, .bool true, .bool true, .bool false, .bool false, .bool false, .bool false, .bool true] 4)).heap.size (some ⟨w.heap.size, 0, none⟩) [true, false, true, true, false, false, false, false, true] := fun w => Sq.lits w _ _ _ _ _ _ rfl rfl (by simp)
  have SL := Lib.hid sl
  clear sl
  go_enter Try.func7, Try.ntmps7
  go_wp2_with fail
  refine (regs_eq _ 4 4 [0, 1, 1, 2] [1, 258] _ rfl (Sq.lits _ _ _ _ _ _ _ rfl (by simp) (by simp)) (by decide) (by decide) (by decide) (by decide +kernel)).mono ?_
  rintro e1 w1 ⟨Ar, cr, rfl, sr, nr, mr, hb1⟩
  obtain ⟨x1, rfl⟩ := later_is hb1
  clear hb1
  go_wp2_with fail
  refine (parts_eq 65538 1 2 65538 1 2 _ (by decide) rfl rfl rfl).mono ?_
  rintro e_ w_ ⟨rfl, rfl⟩
  go_wp2_with fail
  refine (word_any (-2) _ (by decide) (by decide)).mono ?_
  rintro e_ w_ ⟨rfl, rfl⟩
  go_wp2_with fail
  refine (word_no 40000 _ (by decide)).mono ?_
  rintro e_ w_ ⟨rfl, rfl⟩
  go_wp2_with fail
  refine (packBits_eq _ _ 9 [true, false, true, true, false, false, false, false, true] [13, 1] _ rfl ((SL.out w).to (by repeat (first | exact Below.refl _ _ | refine bel_later _ ?_ | refine bel_alloc ?_ _ | refine bel_set ?_ (by first | omega | (simp; done) | (simp; omega)) _ | refine Below.drew ?_ | assumption))) (by decide) (by decide +kernel)).mono ?_
  rintro e_x2 w_x2 ⟨Ax2, cx2, rfl, sx2, nx2, mx2, hb_x2⟩
  obtain ⟨x2, rfl⟩ := later_is hb_x2
  clear hb_x2
  have hz_x2 := x2.bel.size
  try simp at hz_x2
  go_wp2_with fail
  refine (same_eq _ _ [13, 1] [13, 1] _ 2 2 2 true _ rfl rfl (sx2.to (by repeat (first | exact Below.refl _ _ | refine bel_later _ ?_ | refine bel_alloc ?_ _ | refine bel_set ?_ (by first | omega | (simp; done) | (simp; omega)) _ | refine Below.drew ?_ | assumption))) (Sq.lits _ _ _ _ _ _ _ rfl (by simp) (by simp)) (by decide) (by decide) (by decide)).mono ?_
  rintro e_ w_ ⟨rfl, rfl⟩
  go_wp2_with fail
  refine (bits_eq _ 2 2 [13, 1] 9 [true, false, true, true, false, false, false, false, true] _ rfl (Sq.lits _ _ _ _ _ _ _ rfl (by simp) (by simp)) (by decide) (by decide) (by decide) (by decide +kernel)).mono ?_
  rintro e3 w3 ⟨Ax3, cx3, rfl, sx3, nx3, mx3, hb3⟩
  obtain ⟨x3, rfl⟩ := later_is hb3
  clear hb3
  go_wp2_with fail
  refine (bools_eq _ _ [true, false, true, true, false, false, false, false, true] [true, false, true, true, false, false, false, false, true] _ _ 9 9 true _ rfl rfl (sx3.to (by repeat (first | exact Below.refl _ _ | refine bel_later _ ?_ | refine bel_alloc ?_ _ | refine bel_set ?_ (by first | omega | (simp; done) | (simp; omega)) _ | refine Below.drew ?_ | assumption))) ((SL.out w).to (by repeat (first | exact Below.refl _ _ | refine bel_later _ ?_ | refine bel_alloc ?_ _ | refine bel_set ?_ (by first | omega | (simp; done) | (simp; omega)) _ | refine Below.drew ?_ | assumption))) (by decide) (by decide)).mono ?_
  rintro e4 w4 ⟨rfl, hb4⟩
  obtain ⟨x4, rfl⟩ := later_is hb4
  clear hb4
  go_wp2_with fail
  refine (bits_eq _ 2 2 [13, 3] 9 [] _ rfl (Sq.lits _ _ _ _ _ _ _ rfl (by simp) (by simp)) (by decide) (by decide) (by decide) (by decide +kernel)).mono ?_
  rintro e5 w5 ⟨Ax5, cx5, rfl, sx5, nx5, mx5, hb5⟩
  obtain ⟨x5, rfl⟩ := later_is hb5
  clear hb5
  go_wp2_with fail
  refine (packRegs_eq _ 2 2 [1, 258] [0, 1, 1, 2] _ rfl (Sq.lits _ _ _ _ _ _ _ rfl (by simp) (by simp)) (by decide) (by decide) (by decide +kernel)).mono ?_
  rintro e6 w6 ⟨Ax6, cx6, rfl, sx6, nx6, mx6, hb6⟩
  obtain ⟨x6, rfl⟩ := later_is hb6
  clear hb6
  go_wp2_with fail
  refine (same_eq _ _ [0, 1, 1, 2] [0, 1, 1, 2] _ 4 4 4 true _ rfl rfl (sx6.to (by repeat (first | exact Below.refl _ _ | refine bel_later _ ?_ | refine bel_alloc ?_ _ | refine bel_set ?_ (by first | omega | (simp; done) | (simp; omega)) _ | refine Below.drew ?_ | assumption))) (Sq.lits _ _ _ _ _ _ _ rfl (by simp) (by simp)) (by decide) (by decide) (by decide)).mono ?_
  rintro e_ w_ ⟨rfl, rfl⟩
  go_wp2_with fail
  refine (cmpRegs_eq _ _ [1, 258] [1, 258] _ 2 2 2 true _ rfl rfl (sr.to (by repeat (first | exact Below.refl _ _ | refine bel_later _ ?_ | refine bel_alloc ?_ _ | refine bel_set ?_ (by first | omega | (simp; done) | (simp; omega)) _ | refine Below.drew ?_ | assumption))) (Sq.lits _ _ _ _ _ _ _ rfl (by simp) (by simp)) (by decide) (by decide)).mono ?_
  rintro e7 w7 ⟨rfl, hb7⟩
  obtain ⟨x7, rfl⟩ := later_is hb7
  clear hb7
  go_wp2_with fail
  refine (wide_any 1 2 _ (by decide) (by decide)).mono ?_
  rintro e_ w_ ⟨rfl, rfl⟩
  go_wp2_with fail
  refine (signed_any 65535 _ (by decide)).mono ?_
  rintro e_ w_ ⟨rfl, rfl⟩
  go_wp2
  go_ret
  exact ⟨rfl, (by repeat (first | exact Below.refl _ _ | refine bel_later _ ?_ | refine bel_alloc ?_ _ | refine bel_set ?_ (by first | omega | (simp; done) | (simp; omega)) _ | refine Below.drew ?_ | assumption))⟩
end Go.Proofs.Ytfdbajalhnenhaa
