/- Layer 15: the plain law: decimals, units, names, tables, recipes. No program in sight. -/
import Derived.Test.YthhokpaidekmnaaBase
namespace Go.Proofs.Ythhokpaidekmnaa
set_option linter.unusedVariables false
/-- a decimal: n, with d digits behind the point -/
structure Dc where
  n : Int
  d : Nat
  deriving DecidableEq
/-- a unit: so many times its base -/
structure Un where
  base : ByteArray
  num : Nat
  den : Nat
/-- a point of a device -/
structure Pt where
  name : ByteArray
  at_ : Int
  digits : Int
  signed : Bool
  low : Dc
  high : Dc
  unit : ByteArray
/-- a value of a recipe -/
structure St where
  point : ByteArray
  value : Dc
  unit : ByteArray
  line : Int
namespace Vd
def rightD (x : Dc) : Bool := decide (-1000000000000 ≤ x.n ∧ x.n ≤ 1000000000000 ∧ x.d ≤ 6 ∧ (x.d = 0 ∨ x.n % 10 ≠ 0))
def mil (x : Dc) : Int := x.n * 10 ^ (6 - x.d)
def cmp (x y : Dc) : Int := if (rightD x && rightD y) = true then (if mil x < mil y then -1 else if mil y < mil x then 1 else 0) else 0
/-- noughts behind the point fall away -/
def strip : Nat → Nat → Nat × Nat
  | q, 0 => (q, 0)
  | q, p + 1 => if q % 10 = 0 then strip (q / 10) p else (q, p + 1)
def stripI : Int → Nat → Int × Nat
  | n, 0 => (n, 0)
  | n, p + 1 => if n % 10 = 0 then stripI (n / 10) p else (n, p + 1)
def facOk (x : Dc) (num den : Nat) : Bool := rightD x && decide (1 ≤ num ∧ num ≤ 1000000000 ∧ 1 ≤ den ∧ den ≤ 1000000000)
def ofQ (x : Dc) (q : Nat) : Option Dc := if 1000000000000 < (strip q 6).1 then none else some ⟨if x.n < 0 then -((strip q 6).1 : Int) else ((strip q 6).1 : Int), (strip q 6).2⟩
def times (x : Dc) (num den : Nat) : Option Dc :=
  if facOk x num den = true then (if (mil x).natAbs * num % den = 0 then ofQ x ((mil x).natAbs * num / den) else none) else none
def unitTab : List (ByteArray × Un) := [
  (⟨#[]⟩, ⟨⟨#[]⟩, 1, 1⟩), (⟨#[37]⟩, ⟨⟨#[]⟩, 1, 1⟩), (⟨#[109]⟩, ⟨⟨#[109]⟩, 1, 1⟩), (⟨#[99, 109]⟩, ⟨⟨#[109]⟩, 1, 100⟩), (⟨#[109, 109]⟩, ⟨⟨#[109]⟩, 1, 1000⟩),
  (⟨#[115]⟩, ⟨⟨#[115]⟩, 1, 1⟩), (⟨#[109, 115]⟩, ⟨⟨#[115]⟩, 1, 1000⟩), (⟨#[109, 105, 110]⟩, ⟨⟨#[115]⟩, 60, 1⟩), (⟨#[104]⟩, ⟨⟨#[115]⟩, 3600, 1⟩),
  (⟨#[98, 97, 114]⟩, ⟨⟨#[98, 97, 114]⟩, 1, 1⟩), (⟨#[109, 98, 97, 114]⟩, ⟨⟨#[98, 97, 114]⟩, 1, 1000⟩), (⟨#[107, 80, 97]⟩, ⟨⟨#[98, 97, 114]⟩, 1, 100⟩),
  (⟨#[107, 103]⟩, ⟨⟨#[107, 103]⟩, 1, 1⟩), (⟨#[103]⟩, ⟨⟨#[107, 103]⟩, 1, 1000⟩), (⟨#[116]⟩, ⟨⟨#[107, 103]⟩, 1000, 1⟩), (⟨#[108]⟩, ⟨⟨#[108]⟩, 1, 1⟩), (⟨#[109, 108]⟩, ⟨⟨#[108]⟩, 1, 1000⟩), (⟨#[67]⟩, ⟨⟨#[67]⟩, 1, 1⟩)]
def look (s : ByteArray) : List (ByteArray × Un) → Option Un
  | [] => none
  | p :: l => if s = p.1 then some p.2 else look s l
def known (s : ByteArray) : Option Un := look s unitTab
def to_ (x : Dc) (a b : ByteArray) : Option Dc :=
  match known a, known b with
  | some u, some v => if u.base = v.base then times x (u.num * v.den) (u.den * v.num) else none
  | _, _ => none
def scaled (x : Dc) (k : Nat) : Int := x.n * 10 ^ (k - x.d)
def word (x : Dc) (digits : Int) (signed : Bool) : Option Nat :=
  if rightD x = true ∧ (x.d : Int) ≤ digits ∧ digits ≤ 6 then
    (if signed = true then (if -32768 ≤ scaled x digits.toNat ∧ scaled x digits.toNat ≤ 32767 then some (scaled x digits.toNat % 65536).toNat else none)
     else (if 0 ≤ scaled x digits.toNat ∧ scaled x digits.toNat ≤ 65535 then some (scaled x digits.toNat).toNat else none))
  else none
def regI (w : Nat) (signed : Bool) : Int := if signed = true ∧ 32768 ≤ w then (w : Int) - 65536 else (w : Int)
def worth (w : Nat) (digits : Int) (signed : Bool) : Option Dc :=
  if 0 ≤ digits ∧ digits ≤ 6 then some ⟨(stripI (regI w signed) digits.toNat).1, (stripI (regI w signed) digits.toNat).2⟩ else none
/-- bytes of names -/
def lowc (c : UInt8) : Bool := decide (97 ≤ c.toNat ∧ c.toNat ≤ 122)
def digc (c : UInt8) : Bool := decide (48 ≤ c.toNat ∧ c.toNat ≤ 57)
def nameC (c : UInt8) : Bool := lowc c || digc c || decide (c.toNat = 95)
def letC (c : UInt8) : Bool := lowc c || decide (65 ≤ c.toNat ∧ c.toNat ≤ 90) || decide (c.toNat = 37)
def unitC (c : UInt8) : Bool := letC c || digc c || decide (c.toNat = 95)
def name (s : ByteArray) : Bool :=
  match s.data.toList with
  | [] => false
  | c :: l => decide (l.length ≤ 19) && lowc c && l.all nameC && decide (s ≠ ⟨#[114, 101, 99, 105, 112, 101]⟩ ∧ s ≠ ⟨#[115, 108, 97, 118, 101]⟩ ∧ s ≠ ⟨#[101, 110, 100]⟩)
def unit (s : ByteArray) : Bool :=
  match s.data.toList with
  | [] => true
  | c :: l => decide (l.length ≤ 19) && letC c && l.all unitC
def rightSt (s : St) : Bool := name s.point && rightD s.value && unit s.unit
def rightPt (p : Pt) : Bool := name p.name && decide (0 ≤ p.at_ ∧ p.at_ < 64 ∧ 0 ≤ p.digits ∧ p.digits ≤ 6) && rightD p.low && rightD p.high && decide (mil p.low ≤ mil p.high) && (known p.unit).isSome
/-- no key twice -/
def uniq {α : Type} [DecidableEq α] : List α → Bool
  | [] => true
  | a :: l => !(l.contains a) && uniq l
end Vd
end Go.Proofs.Ythhokpaidekmnaa
