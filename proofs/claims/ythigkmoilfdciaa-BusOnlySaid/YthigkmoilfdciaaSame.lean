/- Rows of bytes held against each other: saucierlaw06.Same. -/
import Derived.Test.YthigkmoilfdciaaProg
import Derived.Test.YthigkmoilfdciaaSq
import Derived.Test.YthigkmoilfdciaaStr
import Derived.WalkLawsBesides
import Derived.WalkSpells
import Derived.Outline
namespace Go.Proofs.Ythigkmoilfdciaa
open Go.RowKit
set_option linter.unusedVariables false
attribute [local go_sem] Later.cell Later.frozen setCell_twice
theorem same_any (A B : Option Addr) (la lb : List Nat) (ca cb : Nat) (w : World) (Ba Bb : Nat) (ha : Nums .u8 w Ba A la) (hb : Nums .u8 w Bb B lb) (ba : ∀ x ∈ la, x < 256) (bb : ∀ x ∈ lb, x < 256) :
    Calls Try.prog 21 #[.slice A la.length ca, .slice B lb.length cb] w fun e w' => e = .returned (.bool (decide (la = lb))) ∧ w = w' := by
  have sA := conv_nums (P := Try.prog) ha 34 9 5 ca la.length Try.underlying34 Try.underlying5 Try.underlying9 rfl
  have sB := conv_nums (P := Try.prog) hb 34 9 5 cb lb.length Try.underlying34 Try.underlying5 Try.underlying9 rfl
  by_cases h : la = lb
  · subst h
    have hd : decide (la = la) = true := by simp
    rw [hd]
    clear hd
    go_enter Try.func21, Try.ntmps21
    go_wp2
    go_ret
    exact ⟨rfl, rfl⟩
  · have hd : decide (la = lb) = false := by simpa using h
    have hne := str_ne ba bb h
    rw [hd]
    clear hd h
    go_enter Try.func21, Try.ntmps21
    go_wp2
    go_ret
    exact ⟨rfl, rfl⟩
theorem same_by (A B : Option Addr) (la lb : List Nat) (ca cb n m : Nat) (r : Bool) (w : World) (hn : la.length = n) (hm : lb.length = m) (ha : Sq (fun x : Nat => .int .u8 (x : Int)) w w.heap.size A la) (hb : Sq (fun x : Nat => .int .u8 (x : Int)) w w.heap.size B lb) (ba : ∀ x ∈ la, x < 256) (bb : ∀ x ∈ lb, x < 256) (hr : decide (la = lb) = r) :
    Calls Try.prog 21 #[.slice A n ca, .slice B m cb] w fun e w' => e = .returned (.bool r) ∧ w = w' := by
  subst hn hm hr
  exact same_any A B la lb ca cb w _ _ ha hb ba bb
end Go.Proofs.Ythigkmoilfdciaa
