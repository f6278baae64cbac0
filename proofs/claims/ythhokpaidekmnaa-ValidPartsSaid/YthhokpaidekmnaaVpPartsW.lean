/- Layer 15: the walk of ValidParts. -/
import Derived.Test.YthhokpaidekmnaaVdSmall
import Derived.Test.YthhokpaidekmnaaVdFew
import Derived.Test.YthhokpaidekmnaaVdAwk
import Derived.Test.YthhokpaidekmnaaVpMem
import Derived.Deep.DeepCutAuto
namespace Go.Proofs.Ythhokpaidekmnaa
open Go.RowKit
set_option linter.unusedVariables false
set_option linter.unusedSimpArgs false
set_option maxRecDepth 100000
attribute [local go_sem] Later.cell Later.frozen setCell_twice
/-- the first loop: what is made of the first j parts -/
structure Ren (W0 wr : World) (lb : List Pb) (j nn : Nat) (A : Option Addr) (c : Nat) (pl : List Pa) : Prop where
 nn : nn = Vd.cnt (lb.take j)
 map : pl.map Pa.b = Vd.renP 0 (lb.take j)
 own : PL wr W0.heap.size A j c pl
 bel : Below W0.heap.size W0 wr
structure RenS (wq wv : World) (gq : Nat) (slave : ByteArray) (n0 : Nat) (sets : List St) (b : Nat) (A : Option Addr) (c : Nat) (sl : List St) : Prop where
 eq : sl = Vd.renS n0 (sets.take b)
 row : SL wv (gq + 1) A b c sl
 var : RowAt wv gq 46 [.string slave, .int .i64 (n0 : Int), .slice A b c]
 bel : Below gq wq wv
 size : gq < wv.heap.size
theorem RenS.step {wq wv w3 : World} {gq n0 b c2 c3 t1 : Nat} {slave : ByteArray} {sets sl : List St} {A2 A3 : Option Addr} {s : St} (h : RenS wq wv gq slave n0 sets b A2 c2 sl) (hs : sets[b]? = some s) (ht : t1 = n0 + b + 1)
  (ho : SL w3 (gq + 1) A3 (b + 1) c3 (sl ++ [Vd.lineS s t1])) (hr : RowAt w3 gq 46 [.string slave, .int .i64 (n0 : Int), .slice A2 b c2]) (hb : Below gq wq w3) :
  RenS wq (w3.setCell ⟨gq, 2, none⟩ (.slice A3 (b + 1) c3)) gq slave n0 sets (b + 1) A3 c3 (sl ++ [Vd.lineS s t1]) := by
 have k : Only gq w3 (w3.setCell ⟨gq, 2, none⟩ (.slice A3 (b + 1) c3)) := (Only.refl gq w3).set _
 have hlt : b < sets.length := (List.getElem?_eq_some_iff.1 hs).1
 refine ⟨?_, ho.only k (by omega), hr.set 2 _, hb.trans (k.below (Nat.le_refl _)), by rw [k.size]; exact hr.lt⟩
 rw [List.take_add_one, hs, Option.toList_some, Vd.renS_snoc, List.length_take, Nat.min_eq_left (by omega), ← ht, ← h.eq]
theorem Ren.step {W0 wr w' : World} {lb : List Pb} {j nn n0 n1 c1 c2 c4 : Nat} {A1 A2 A4 : Option Addr} {pl : List Pa} {sl : List St} {p : Pb} (h : Ren W0 wr lb j nn A1 c1 pl) (hp : lb[j]? = some p) (hn0 : nn + 1 = n0) (hn1 : n1 = n0 + p.sets.length)
  (hsl : sl = Vd.renS n0 p.sets) (ho : PL w' W0.heap.size A4 (j + 1) c4 (pl ++ [⟨p.slave, (n0 : Int), sl, A2, c2⟩])) (hb : Below W0.heap.size W0 w') :
  Ren W0 w' lb (j + 1) n1 A4 c4 (pl ++ [⟨p.slave, (n0 : Int), sl, A2, c2⟩]) := by
 have e : lb.take (j + 1) = lb.take j ++ [p] := by rw [List.take_add_one, hp, Option.toList_some]
 refine ⟨?_, ?_, ho, hb⟩
 ·rw [e, Vd.cnt_snoc, ← h.nn]
  omega
 ·rw [e, Vd.renP_snoc, List.map_append, h.map, ← h.nn, Nat.zero_add]
  subst hsl hn0
  rfl
/-- the third loop: what is left of the first i parts -/
structure Less (W0 wr : World) (lb : List Pb) (ln : Int) (i : Nat) (A : Option Addr) (c : Nat) (ql : List Pa) : Prop where
 map : ql.map Pa.b = (lb.take i).map (Vd.lessB ln)
 ahead : ∀ p ∈ lb.take i, p.line < ln
 own : PL wr W0.heap.size A i c ql
 bel : Below W0.heap.size W0 wr
structure LessS (wq wv : World) (gq : Nat) (slave : ByteArray) (line ln : Int) (sets : List St) (b : Nat) (A : Option Addr) (bn c : Nat) (sl : List St) : Prop where
 eq : sl = Vd.lessS ln (sets.take b)
 row : SL wv (gq + 1) A bn c sl
 var : RowAt wv gq 46 [.string slave, .int .i64 line, .slice A bn c]
 bel : Below gq wq wv
 size : gq < wv.heap.size
theorem lessS_take {ln : Int} {sets : List St} {b : Nat} {s : St} (hs : sets[b]? = some s) : Vd.lessS ln (sets.take (b + 1)) = Vd.lessS ln (sets.take b) ++ (if s.line < ln then [s] else []) := by
 rw [List.take_add_one, hs, Option.toList_some]
 unfold Vd.lessS
 rw [List.filter_append, List.filter_cons, List.filter_nil]
 by_cases h : s.line < ln
 ·rw [if_pos (decide_eq_true h), if_pos h]
 ·rw [if_neg (by simpa using h), if_neg h]
theorem LessS.step {wq wv w3 : World} {gq b bn c2 c3 : Nat} {line ln : Int} {slave : ByteArray} {sets sl : List St} {A2 A3 : Option Addr} {s : St} (h : LessS wq wv gq slave line ln sets b A2 bn c2 sl) (hs : sets[b]? = some s) (hl : s.line < ln)
  (ho : SL w3 (gq + 1) A3 (bn + 1) c3 (sl ++ [s])) (hr : RowAt w3 gq 46 [.string slave, .int .i64 line, .slice A2 bn c2]) (hb : Below gq wq w3) :
  LessS wq (w3.setCell ⟨gq, 2, none⟩ (.slice A3 (bn + 1) c3)) gq slave line ln sets (b + 1) A3 (bn + 1) c3 (sl ++ [s]) := by
 have k : Only gq w3 (w3.setCell ⟨gq, 2, none⟩ (.slice A3 (bn + 1) c3)) := (Only.refl gq w3).set _
 exact ⟨by rw [lessS_take hs, if_pos hl, h.eq], ho.only k (by omega), hr.set 2 _, hb.trans (k.below (Nat.le_refl _)), by rw [k.size]; exact hr.lt⟩
theorem LessS.skip {wq wv w3 : World} {gq b bn c2 : Nat} {line ln : Int} {slave : ByteArray} {sets sl : List St} {A2 : Option Addr} {s : St} (h : LessS wq wv gq slave line ln sets b A2 bn c2 sl) (hs : sets[b]? = some s) (hl : ¬ s.line < ln)
  (hb : Below wv.heap.size wv w3) : LessS wq w3 gq slave line ln sets (b + 1) A2 bn c2 sl :=
 ⟨by rw [lessS_take hs, if_neg hl, List.append_nil, h.eq], h.row.to hb, h.var.to hb, h.bel.trans (hb.mono (Nat.le_of_lt h.size)), Nat.lt_of_lt_of_le h.size hb.size⟩
theorem Less.step {W0 wr w' : World} {lb : List Pb} {i c1 c2 c4 : Nat} {ln : Int} {A1 A2 A4 : Option Addr} {ql : List Pa} {sl : List St} {p : Pb} (h : Less W0 wr lb ln i A1 c1 ql) (hp : lb[i]? = some p) (hl : p.line < ln)
  (hsl : sl = Vd.lessS ln p.sets) (ho : PL w' W0.heap.size A4 (i + 1) c4 (ql ++ [⟨p.slave, p.line, sl, A2, c2⟩])) (hb : Below W0.heap.size W0 w') :
  Less W0 w' lb ln (i + 1) A4 c4 (ql ++ [⟨p.slave, p.line, sl, A2, c2⟩]) := by
 have e : lb.take (i + 1) = lb.take i ++ [p] := by rw [List.take_add_one, hp, Option.toList_some]
 refine ⟨?_, fun q hq => ?_, ho, hb⟩
 ·rw [e, List.map_append, List.map_append, h.map]
  subst hsl
  rfl
 ·rw [e] at hq
  rcases List.mem_append.1 hq with hq | hq
  ·exact h.ahead q hq
  ·obtain rfl := List.mem_singleton.1 hq
   exact hl
set_option maxHeartbeats 8000000 in
theorem parts_walk (A : Option Addr) (l : List Dv) (n c : Nat) (nm : ByteArray) (B : Option Addr) (lp : List Pa) (np cp : Nat) (at_ of_ : Nat) (w : World) (hn : l.length = n) (h : Tab w w.heap.size A l) (hs : Shp A n c)
  (hnp : lp.length = np) (hP : Pas w w.heap.size B lp) (hsp : Shp B np cp) (ha : at_ < 256) (ho : of_ < 256)
  (WH : ∀ (A1 : Option Addr) (pl : List Pa) (n1 c1 : Nat) (x : World), pl.length = n1 → Below w.heap.size w x → Pas x x.heap.size A1 pl → Shp A1 n1 c1 → (Vd.chk l nm (pl.map Pa.b)).1 = 0 → Calls Try.prog 19 #[.slice A n c, .agg #[.string nm, .slice A1 n1 c1], .int .i64 (at_ : Int), .int .i64 (of_ : Int)] x fun e w' => e = .returned (.bool true) ∧ Below x.heap.size x w') :
  Calls Try.prog 4 #[.slice A n c, .agg #[.string nm, .slice B np cp], .int .u8 (at_ : Int), .int .u8 (of_ : Int)] w fun e w' => e = .returned (.bool true) ∧ Below w.heap.size w w' := by
 have HN := Lib.hid hn
 have HH := Lib.hid h
 have HNP := Lib.hid hnp
 have HPP := Lib.hid hP
 have hcap : n ≤ 9223372036854775807 := Nat.le_trans hs.le hs.cap
 have hcapp : np ≤ 9223372036854775807 := Nat.le_trans hsp.le hsp.cap
 have hlep : np ≤ cp := hsp.le
 have SM := Lib.hid (fun (x : World) (hx : Below w.heap.size w x) => small_any A l n c x hn (h.to hx) hs)
 have FW := Lib.hid (fun (x : World) (hx : Below w.heap.size w x) => few_any nm B lp np cp x hnp (hP.to hx) hsp)
 have TR := Lib.hid (fun (x : World) (hx : Below w.heap.size w x) => tabright_any A l n c x hn (h.to hx) hs)
 have RR := Lib.hid (fun (x : World) (hx : Below w.heap.size w x) => rcpright_any nm B lp np cp x hnp (hP.to hx) hsp)
 have AW := Lib.hid awake_any
 have CK := Lib.hid (fun (A1 : Option Addr) (pl : List Pa) (n1 c1 : Nat) (x : World) (hl : pl.length = n1) (hx : Below w.heap.size w x) (hp : Pas x x.heap.size A1 pl) (h1 : Shp A1 n1 c1) => check_any A l n c nm A1 pl n1 c1 x hn (h.to hx) hs hl hp h1)
 have WHH := Lib.hid WH
 clear WH
 cases q1 : Vd.small l
 ·rw [q1] at SM
  clear q1 hn h hs hnp hP hsp
  go_enter Try.func4, Try.ntmps4
  go_wp2_with fail
  with_reducible refine (SM.out _ belo).mono ?_
  rintro e_x1 w_x1 ⟨rfl, hb_x1⟩
  obtain ⟨x1, rfl⟩ := later_is hb_x1
  clear hb_x1
  have hz_x1 := x1.bel.size
  try simp at hz_x1
  have l_x1_0 : w.heap.size < x1.val.heap.size := by omega
  have m_x1_0 : w.heap.size < x1.val.heap.size + 1 := by omega
  have q_ := x1.cq (w.heap.size) 0
  generalize c_x1_0_0 : x1.val.cell? ⟨w.heap.size, 0, none⟩ = q at q_
  first | (have q2_ : q = some _ := q_; subst q2_) | (simp [go_sem] at q_; have q2_ : q = some _ := q_; subst q2_) | (simp [go_sem, *] at q_; have q2_ : q = some _ := q_; subst q2_)
  have q_ := x1.zq (w.heap.size) 0
  generalize z_x1_0_0 : x1.val.frozen? ⟨w.heap.size, 0, none⟩ = q at q_
  first | (have q2_ : q = false := q_; subst q2_) | (simp [go_sem] at q_; have q2_ : q = false := q_; subst q2_) | (simp [go_sem, *] at q_; have q2_ : q = false := q_; subst q2_)
  have q_ := x1.cq (w.heap.size) 1
  generalize c_x1_0_1 : x1.val.cell? ⟨w.heap.size, 1, none⟩ = q at q_
  first | (have q2_ : q = some _ := q_; subst q2_) | (simp [go_sem] at q_; have q2_ : q = some _ := q_; subst q2_) | (simp [go_sem, *] at q_; have q2_ : q = some _ := q_; subst q2_)
  have q_ := x1.zq (w.heap.size) 1
  generalize z_x1_0_1 : x1.val.frozen? ⟨w.heap.size, 1, none⟩ = q at q_
  first | (have q2_ : q = false := q_; subst q2_) | (simp [go_sem] at q_; have q2_ : q = false := q_; subst q2_) | (simp [go_sem, *] at q_; have q2_ : q = false := q_; subst q2_)
  go_wp2_with fail
  with_reducible refine (AW.out _).mono ?_
  rintro e_xa w_xa ⟨rfl, hb_xa⟩
  obtain ⟨xa, rfl⟩ := later_is hb_xa
  clear hb_xa
  have hz_xa := xa.bel.size
  try simp at hz_xa
  go_wp2
  go_ret
  exact ⟨rfl, belo⟩
 rw [q1] at SM
 clear q1
 cases q2 : Vd.few nm lp
 ·rw [q2] at FW
  clear q2 hn h hs hnp hP hsp
  go_enter Try.func4, Try.ntmps4
  go_wp2_with fail
  with_reducible refine (SM.out _ belo).mono ?_
  rintro e_x1 w_x1 ⟨rfl, hb_x1⟩
  obtain ⟨x1, rfl⟩ := later_is hb_x1
  clear hb_x1
  have hz_x1 := x1.bel.size
  try simp at hz_x1
  have l_x1_0 : w.heap.size < x1.val.heap.size := by omega
  have m_x1_0 : w.heap.size < x1.val.heap.size + 1 := by omega
  have q_ := x1.cq (w.heap.size) 0
  generalize c_x1_0_0 : x1.val.cell? ⟨w.heap.size, 0, none⟩ = q at q_
  first | (have q2_ : q = some _ := q_; subst q2_) | (simp [go_sem] at q_; have q2_ : q = some _ := q_; subst q2_) | (simp [go_sem, *] at q_; have q2_ : q = some _ := q_; subst q2_)
  have q_ := x1.zq (w.heap.size) 0
  generalize z_x1_0_0 : x1.val.frozen? ⟨w.heap.size, 0, none⟩ = q at q_
  first | (have q2_ : q = false := q_; subst q2_) | (simp [go_sem] at q_; have q2_ : q = false := q_; subst q2_) | (simp [go_sem, *] at q_; have q2_ : q = false := q_; subst q2_)
  have q_ := x1.cq (w.heap.size) 1
  generalize c_x1_0_1 : x1.val.cell? ⟨w.heap.size, 1, none⟩ = q at q_
  first | (have q2_ : q = some _ := q_; subst q2_) | (simp [go_sem] at q_; have q2_ : q = some _ := q_; subst q2_) | (simp [go_sem, *] at q_; have q2_ : q = some _ := q_; subst q2_)
  have q_ := x1.zq (w.heap.size) 1
  generalize z_x1_0_1 : x1.val.frozen? ⟨w.heap.size, 1, none⟩ = q at q_
  first | (have q2_ : q = false := q_; subst q2_) | (simp [go_sem] at q_; have q2_ : q = false := q_; subst q2_) | (simp [go_sem, *] at q_; have q2_ : q = false := q_; subst q2_)
  go_wp2_with fail
  with_reducible refine (FW.out _ belo).mono ?_
  rintro e_x2 w_x2 ⟨rfl, hb_x2⟩
  obtain ⟨x2, rfl⟩ := later_is hb_x2
  clear hb_x2
  have hz_x2 := x2.bel.size
  try simp at hz_x2
  have l_x2_0 : w.heap.size < x2.val.heap.size := by omega
  have m_x2_0 : w.heap.size < x2.val.heap.size + 1 := by omega
  have q_ := x2.cq (w.heap.size) 0
  generalize c_x2_0_0 : x2.val.cell? ⟨w.heap.size, 0, none⟩ = q at q_
  first | (have q2_ : q = some _ := q_; subst q2_) | (simp [go_sem] at q_; have q2_ : q = some _ := q_; subst q2_) | (simp [go_sem, *] at q_; have q2_ : q = some _ := q_; subst q2_)
  have q_ := x2.zq (w.heap.size) 0
  generalize z_x2_0_0 : x2.val.frozen? ⟨w.heap.size, 0, none⟩ = q at q_
  first | (have q2_ : q = false := q_; subst q2_) | (simp [go_sem] at q_; have q2_ : q = false := q_; subst q2_) | (simp [go_sem, *] at q_; have q2_ : q = false := q_; subst q2_)
  have q_ := x2.cq (w.heap.size) 1
  generalize c_x2_0_1 : x2.val.cell? ⟨w.heap.size, 1, none⟩ = q at q_
  first | (have q2_ : q = some _ := q_; subst q2_) | (simp [go_sem] at q_; have q2_ : q = some _ := q_; subst q2_) | (simp [go_sem, *] at q_; have q2_ : q = some _ := q_; subst q2_)
  have q_ := x2.zq (w.heap.size) 1
  generalize z_x2_0_1 : x2.val.frozen? ⟨w.heap.size, 1, none⟩ = q at q_
  first | (have q2_ : q = false := q_; subst q2_) | (simp [go_sem] at q_; have q2_ : q = false := q_; subst q2_) | (simp [go_sem, *] at q_; have q2_ : q = false := q_; subst q2_)
  go_wp2_with fail
  with_reducible refine (AW.out _).mono ?_
  rintro e_xa w_xa ⟨rfl, hb_xa⟩
  obtain ⟨xa, rfl⟩ := later_is hb_xa
  clear hb_xa
  have hz_xa := xa.bel.size
  try simp at hz_xa
  go_wp2
  go_ret
  exact ⟨rfl, belo⟩
 rw [q2] at FW
 clear q2
 cases q3 : Vd.rightTab l
 ·rw [q3] at TR
  clear q3 hn h hs hnp hP hsp
  go_enter Try.func4, Try.ntmps4
  go_wp2_with fail
  with_reducible refine (SM.out _ belo).mono ?_
  rintro e_x1 w_x1 ⟨rfl, hb_x1⟩
  obtain ⟨x1, rfl⟩ := later_is hb_x1
  clear hb_x1
  have hz_x1 := x1.bel.size
  try simp at hz_x1
  have l_x1_0 : w.heap.size < x1.val.heap.size := by omega
  have m_x1_0 : w.heap.size < x1.val.heap.size + 1 := by omega
  have q_ := x1.cq (w.heap.size) 0
  generalize c_x1_0_0 : x1.val.cell? ⟨w.heap.size, 0, none⟩ = q at q_
  first | (have q2_ : q = some _ := q_; subst q2_) | (simp [go_sem] at q_; have q2_ : q = some _ := q_; subst q2_) | (simp [go_sem, *] at q_; have q2_ : q = some _ := q_; subst q2_)
  have q_ := x1.zq (w.heap.size) 0
  generalize z_x1_0_0 : x1.val.frozen? ⟨w.heap.size, 0, none⟩ = q at q_
  first | (have q2_ : q = false := q_; subst q2_) | (simp [go_sem] at q_; have q2_ : q = false := q_; subst q2_) | (simp [go_sem, *] at q_; have q2_ : q = false := q_; subst q2_)
  have q_ := x1.cq (w.heap.size) 1
  generalize c_x1_0_1 : x1.val.cell? ⟨w.heap.size, 1, none⟩ = q at q_
  first | (have q2_ : q = some _ := q_; subst q2_) | (simp [go_sem] at q_; have q2_ : q = some _ := q_; subst q2_) | (simp [go_sem, *] at q_; have q2_ : q = some _ := q_; subst q2_)
  have q_ := x1.zq (w.heap.size) 1
  generalize z_x1_0_1 : x1.val.frozen? ⟨w.heap.size, 1, none⟩ = q at q_
  first | (have q2_ : q = false := q_; subst q2_) | (simp [go_sem] at q_; have q2_ : q = false := q_; subst q2_) | (simp [go_sem, *] at q_; have q2_ : q = false := q_; subst q2_)
  go_wp2_with fail
  with_reducible refine (FW.out _ belo).mono ?_
  rintro e_x2 w_x2 ⟨rfl, hb_x2⟩
  obtain ⟨x2, rfl⟩ := later_is hb_x2
  clear hb_x2
  have hz_x2 := x2.bel.size
  try simp at hz_x2
  have l_x2_0 : w.heap.size < x2.val.heap.size := by omega
  have m_x2_0 : w.heap.size < x2.val.heap.size + 1 := by omega
  have q_ := x2.cq (w.heap.size) 0
  generalize c_x2_0_0 : x2.val.cell? ⟨w.heap.size, 0, none⟩ = q at q_
  first | (have q2_ : q = some _ := q_; subst q2_) | (simp [go_sem] at q_; have q2_ : q = some _ := q_; subst q2_) | (simp [go_sem, *] at q_; have q2_ : q = some _ := q_; subst q2_)
  have q_ := x2.zq (w.heap.size) 0
  generalize z_x2_0_0 : x2.val.frozen? ⟨w.heap.size, 0, none⟩ = q at q_
  first | (have q2_ : q = false := q_; subst q2_) | (simp [go_sem] at q_; have q2_ : q = false := q_; subst q2_) | (simp [go_sem, *] at q_; have q2_ : q = false := q_; subst q2_)
  have q_ := x2.cq (w.heap.size) 1
  generalize c_x2_0_1 : x2.val.cell? ⟨w.heap.size, 1, none⟩ = q at q_
  first | (have q2_ : q = some _ := q_; subst q2_) | (simp [go_sem] at q_; have q2_ : q = some _ := q_; subst q2_) | (simp [go_sem, *] at q_; have q2_ : q = some _ := q_; subst q2_)
  have q_ := x2.zq (w.heap.size) 1
  generalize z_x2_0_1 : x2.val.frozen? ⟨w.heap.size, 1, none⟩ = q at q_
  first | (have q2_ : q = false := q_; subst q2_) | (simp [go_sem] at q_; have q2_ : q = false := q_; subst q2_) | (simp [go_sem, *] at q_; have q2_ : q = false := q_; subst q2_)
  go_wp2_with fail
  with_reducible refine (TR.out _ belo).mono ?_
  rintro e_x3 w_x3 ⟨rfl, hb_x3⟩
  obtain ⟨x3, rfl⟩ := later_is hb_x3
  clear hb_x3
  have hz_x3 := x3.bel.size
  try simp at hz_x3
  have l_x3_0 : w.heap.size < x3.val.heap.size := by omega
  have m_x3_0 : w.heap.size < x3.val.heap.size + 1 := by omega
  have q_ := x3.cq (w.heap.size) 0
  generalize c_x3_0_0 : x3.val.cell? ⟨w.heap.size, 0, none⟩ = q at q_
  first | (have q2_ : q = some _ := q_; subst q2_) | (simp [go_sem] at q_; have q2_ : q = some _ := q_; subst q2_) | (simp [go_sem, *] at q_; have q2_ : q = some _ := q_; subst q2_)
  have q_ := x3.zq (w.heap.size) 0
  generalize z_x3_0_0 : x3.val.frozen? ⟨w.heap.size, 0, none⟩ = q at q_
  first | (have q2_ : q = false := q_; subst q2_) | (simp [go_sem] at q_; have q2_ : q = false := q_; subst q2_) | (simp [go_sem, *] at q_; have q2_ : q = false := q_; subst q2_)
  have q_ := x3.cq (w.heap.size) 1
  generalize c_x3_0_1 : x3.val.cell? ⟨w.heap.size, 1, none⟩ = q at q_
  first | (have q2_ : q = some _ := q_; subst q2_) | (simp [go_sem] at q_; have q2_ : q = some _ := q_; subst q2_) | (simp [go_sem, *] at q_; have q2_ : q = some _ := q_; subst q2_)
  have q_ := x3.zq (w.heap.size) 1
  generalize z_x3_0_1 : x3.val.frozen? ⟨w.heap.size, 1, none⟩ = q at q_
  first | (have q2_ : q = false := q_; subst q2_) | (simp [go_sem] at q_; have q2_ : q = false := q_; subst q2_) | (simp [go_sem, *] at q_; have q2_ : q = false := q_; subst q2_)
  go_wp2_with fail
  with_reducible refine (AW.out _).mono ?_
  rintro e_xa w_xa ⟨rfl, hb_xa⟩
  obtain ⟨xa, rfl⟩ := later_is hb_xa
  clear hb_xa
  have hz_xa := xa.bel.size
  try simp at hz_xa
  go_wp2
  go_ret
  exact ⟨rfl, belo⟩
 rw [q3] at TR
 have HRT := Lib.hid q3
 clear q3
 cases q4 : Vd.rightR nm lp
 ·rw [q4] at RR
  clear q4 hn h hs hnp hP hsp
  go_enter Try.func4, Try.ntmps4
  go_wp2_with fail
  with_reducible refine (SM.out _ belo).mono ?_
  rintro e_x1 w_x1 ⟨rfl, hb_x1⟩
  obtain ⟨x1, rfl⟩ := later_is hb_x1
  clear hb_x1
  have hz_x1 := x1.bel.size
  try simp at hz_x1
  have l_x1_0 : w.heap.size < x1.val.heap.size := by omega
  have m_x1_0 : w.heap.size < x1.val.heap.size + 1 := by omega
  have q_ := x1.cq (w.heap.size) 0
  generalize c_x1_0_0 : x1.val.cell? ⟨w.heap.size, 0, none⟩ = q at q_
  first | (have q2_ : q = some _ := q_; subst q2_) | (simp [go_sem] at q_; have q2_ : q = some _ := q_; subst q2_) | (simp [go_sem, *] at q_; have q2_ : q = some _ := q_; subst q2_)
  have q_ := x1.zq (w.heap.size) 0
  generalize z_x1_0_0 : x1.val.frozen? ⟨w.heap.size, 0, none⟩ = q at q_
  first | (have q2_ : q = false := q_; subst q2_) | (simp [go_sem] at q_; have q2_ : q = false := q_; subst q2_) | (simp [go_sem, *] at q_; have q2_ : q = false := q_; subst q2_)
  have q_ := x1.cq (w.heap.size) 1
  generalize c_x1_0_1 : x1.val.cell? ⟨w.heap.size, 1, none⟩ = q at q_
  first | (have q2_ : q = some _ := q_; subst q2_) | (simp [go_sem] at q_; have q2_ : q = some _ := q_; subst q2_) | (simp [go_sem, *] at q_; have q2_ : q = some _ := q_; subst q2_)
  have q_ := x1.zq (w.heap.size) 1
  generalize z_x1_0_1 : x1.val.frozen? ⟨w.heap.size, 1, none⟩ = q at q_
  first | (have q2_ : q = false := q_; subst q2_) | (simp [go_sem] at q_; have q2_ : q = false := q_; subst q2_) | (simp [go_sem, *] at q_; have q2_ : q = false := q_; subst q2_)
  go_wp2_with fail
  with_reducible refine (FW.out _ belo).mono ?_
  rintro e_x2 w_x2 ⟨rfl, hb_x2⟩
  obtain ⟨x2, rfl⟩ := later_is hb_x2
  clear hb_x2
  have hz_x2 := x2.bel.size
  try simp at hz_x2
  have l_x2_0 : w.heap.size < x2.val.heap.size := by omega
  have m_x2_0 : w.heap.size < x2.val.heap.size + 1 := by omega
  have q_ := x2.cq (w.heap.size) 0
  generalize c_x2_0_0 : x2.val.cell? ⟨w.heap.size, 0, none⟩ = q at q_
  first | (have q2_ : q = some _ := q_; subst q2_) | (simp [go_sem] at q_; have q2_ : q = some _ := q_; subst q2_) | (simp [go_sem, *] at q_; have q2_ : q = some _ := q_; subst q2_)
  have q_ := x2.zq (w.heap.size) 0
  generalize z_x2_0_0 : x2.val.frozen? ⟨w.heap.size, 0, none⟩ = q at q_
  first | (have q2_ : q = false := q_; subst q2_) | (simp [go_sem] at q_; have q2_ : q = false := q_; subst q2_) | (simp [go_sem, *] at q_; have q2_ : q = false := q_; subst q2_)
  have q_ := x2.cq (w.heap.size) 1
  generalize c_x2_0_1 : x2.val.cell? ⟨w.heap.size, 1, none⟩ = q at q_
  first | (have q2_ : q = some _ := q_; subst q2_) | (simp [go_sem] at q_; have q2_ : q = some _ := q_; subst q2_) | (simp [go_sem, *] at q_; have q2_ : q = some _ := q_; subst q2_)
  have q_ := x2.zq (w.heap.size) 1
  generalize z_x2_0_1 : x2.val.frozen? ⟨w.heap.size, 1, none⟩ = q at q_
  first | (have q2_ : q = false := q_; subst q2_) | (simp [go_sem] at q_; have q2_ : q = false := q_; subst q2_) | (simp [go_sem, *] at q_; have q2_ : q = false := q_; subst q2_)
  go_wp2_with fail
  with_reducible refine (TR.out _ belo).mono ?_
  rintro e_x3 w_x3 ⟨rfl, hb_x3⟩
  obtain ⟨x3, rfl⟩ := later_is hb_x3
  clear hb_x3
  have hz_x3 := x3.bel.size
  try simp at hz_x3
  have l_x3_0 : w.heap.size < x3.val.heap.size := by omega
  have m_x3_0 : w.heap.size < x3.val.heap.size + 1 := by omega
  have q_ := x3.cq (w.heap.size) 0
  generalize c_x3_0_0 : x3.val.cell? ⟨w.heap.size, 0, none⟩ = q at q_
  first | (have q2_ : q = some _ := q_; subst q2_) | (simp [go_sem] at q_; have q2_ : q = some _ := q_; subst q2_) | (simp [go_sem, *] at q_; have q2_ : q = some _ := q_; subst q2_)
  have q_ := x3.zq (w.heap.size) 0
  generalize z_x3_0_0 : x3.val.frozen? ⟨w.heap.size, 0, none⟩ = q at q_
  first | (have q2_ : q = false := q_; subst q2_) | (simp [go_sem] at q_; have q2_ : q = false := q_; subst q2_) | (simp [go_sem, *] at q_; have q2_ : q = false := q_; subst q2_)
  have q_ := x3.cq (w.heap.size) 1
  generalize c_x3_0_1 : x3.val.cell? ⟨w.heap.size, 1, none⟩ = q at q_
  first | (have q2_ : q = some _ := q_; subst q2_) | (simp [go_sem] at q_; have q2_ : q = some _ := q_; subst q2_) | (simp [go_sem, *] at q_; have q2_ : q = some _ := q_; subst q2_)
  have q_ := x3.zq (w.heap.size) 1
  generalize z_x3_0_1 : x3.val.frozen? ⟨w.heap.size, 1, none⟩ = q at q_
  first | (have q2_ : q = false := q_; subst q2_) | (simp [go_sem] at q_; have q2_ : q = false := q_; subst q2_) | (simp [go_sem, *] at q_; have q2_ : q = false := q_; subst q2_)
  go_wp2_with fail
  with_reducible refine (RR.out _ belo).mono ?_
  rintro e_x4 w_x4 ⟨rfl, hb_x4⟩
  obtain ⟨x4, rfl⟩ := later_is hb_x4
  clear hb_x4
  have hz_x4 := x4.bel.size
  try simp at hz_x4
  have l_x4_0 : w.heap.size < x4.val.heap.size := by omega
  have m_x4_0 : w.heap.size < x4.val.heap.size + 1 := by omega
  have q_ := x4.cq (w.heap.size) 0
  generalize c_x4_0_0 : x4.val.cell? ⟨w.heap.size, 0, none⟩ = q at q_
  first | (have q2_ : q = some _ := q_; subst q2_) | (simp [go_sem] at q_; have q2_ : q = some _ := q_; subst q2_) | (simp [go_sem, *] at q_; have q2_ : q = some _ := q_; subst q2_)
  have q_ := x4.zq (w.heap.size) 0
  generalize z_x4_0_0 : x4.val.frozen? ⟨w.heap.size, 0, none⟩ = q at q_
  first | (have q2_ : q = false := q_; subst q2_) | (simp [go_sem] at q_; have q2_ : q = false := q_; subst q2_) | (simp [go_sem, *] at q_; have q2_ : q = false := q_; subst q2_)
  have q_ := x4.cq (w.heap.size) 1
  generalize c_x4_0_1 : x4.val.cell? ⟨w.heap.size, 1, none⟩ = q at q_
  first | (have q2_ : q = some _ := q_; subst q2_) | (simp [go_sem] at q_; have q2_ : q = some _ := q_; subst q2_) | (simp [go_sem, *] at q_; have q2_ : q = some _ := q_; subst q2_)
  have q_ := x4.zq (w.heap.size) 1
  generalize z_x4_0_1 : x4.val.frozen? ⟨w.heap.size, 1, none⟩ = q at q_
  first | (have q2_ : q = false := q_; subst q2_) | (simp [go_sem] at q_; have q2_ : q = false := q_; subst q2_) | (simp [go_sem, *] at q_; have q2_ : q = false := q_; subst q2_)
  go_wp2_with fail
  with_reducible refine (AW.out _).mono ?_
  rintro e_xa w_xa ⟨rfl, hb_xa⟩
  obtain ⟨xa, rfl⟩ := later_is hb_xa
  clear hb_xa
  have hz_xa := xa.bel.size
  try simp at hz_xa
  go_wp2
  go_ret
  exact ⟨rfl, belo⟩
 rw [q4] at RR
 have HRR : Hid (Vd.rightB nm (lp.map Pa.b) = true) := Lib.hid (by rw [← Vd.rightR_b]; exact q4)
 have hn8 : np ≤ 8 := by
  have := q4
  unfold Vd.rightR at this
  rw [Bool.and_eq_true, Bool.and_eq_true, decide_eq_true_iff] at this
  omega
 have HM64 : Hid (∀ p ∈ lp, p.sets.length ≤ 64) := Lib.hid (fun p hp => by
  have := q4
  unfold Vd.rightR at this
  rw [Bool.and_eq_true, Bool.and_eq_true, List.all_eq_true] at this
  have h2 := this.2 p hp
  unfold Vd.rightPa at h2
  rw [Bool.and_eq_true, Bool.and_eq_true, decide_eq_true_iff] at h2
  exact h2.1.2)
 clear q4 hn h hs hnp hP hsp
 obtain ⟨iS, hifS, hs0, hs1, hs2⟩ := info_three info_set
 obtain ⟨iP, hifP, hp0, hp1, hp2'⟩ := info_three info_part
 go_enter Try.func4, Try.ntmps4
 go_wp2_with fail
 with_reducible refine (SM.out _ belo).mono ?_
 rintro e_x1 w_x1 ⟨rfl, hb_x1⟩
 obtain ⟨x1, rfl⟩ := later_is hb_x1
 clear hb_x1
 have hz_x1 := x1.bel.size
 try simp at hz_x1
 have R1 : RowAt x1.val w.heap.size 26 [.string nm, .slice B np cp] := (RowAt.new' w w.heap.size 26 [.string nm, .slice B np cp] rfl).to x1.bel
 have HR1 := Lib.hid R1
 have ralt : w.heap.size < (x1.val).heap.size := HR1.out.lt
 have ralu : w.heap.size < (x1.val).heap.size + 1 := Nat.lt_succ_of_lt HR1.out.lt
 have ra0 : (x1.val).cell? ⟨w.heap.size, 0, none⟩ = some (.string nm) := HR1.out.cells 0
 have raz0 : (x1.val).frozen? ⟨w.heap.size, 0, none⟩ = false := HR1.out.frozen 0
 have ra1 : (x1.val).cell? ⟨w.heap.size, 1, none⟩ = some (.slice B np cp) := HR1.out.cells 1
 have raz1 : (x1.val).frozen? ⟨w.heap.size, 1, none⟩ = false := HR1.out.frozen 1
 go_wp2_with fail
 with_reducible refine (FW.out _ belo).mono ?_
 rintro e_x2 w_x2 ⟨rfl, hb_x2⟩
 obtain ⟨x2, rfl⟩ := later_is hb_x2
 clear hb_x2
 have hz_x2 := x2.bel.size
 try simp at hz_x2
 clear ra0 ra1 raz0 raz1 ralt ralu R1
 go_wp2_with fail
 with_reducible refine (TR.out _ belo).mono ?_
 rintro e_x3 w_x3 ⟨rfl, hb_x3⟩
 obtain ⟨x3, rfl⟩ := later_is hb_x3
 clear hb_x3
 have hz_x3 := x3.bel.size
 try simp at hz_x3
 have HR3 := Lib.hid ((HR1.out.to x2.bel).to x3.bel)
 have rclt : w.heap.size < (x3.val).heap.size := HR3.out.lt
 have rclu : w.heap.size < (x3.val).heap.size + 1 := Nat.lt_succ_of_lt HR3.out.lt
 have rc0 : (x3.val).cell? ⟨w.heap.size, 0, none⟩ = some (.string nm) := HR3.out.cells 0
 have rcz0 : (x3.val).frozen? ⟨w.heap.size, 0, none⟩ = false := HR3.out.frozen 0
 have rc1 : (x3.val).cell? ⟨w.heap.size, 1, none⟩ = some (.slice B np cp) := HR3.out.cells 1
 have rcz1 : (x3.val).frozen? ⟨w.heap.size, 1, none⟩ = false := HR3.out.frozen 1
 go_wp2_with fail
 with_reducible refine (RR.out _ belo).mono ?_
 rintro e_x4 w_x4 ⟨rfl, hb_x4⟩
 obtain ⟨x4, rfl⟩ := later_is hb_x4
 clear hb_x4
 have hz_x4 := x4.bel.size
 try simp at hz_x4
 have HR4 := Lib.hid (HR3.out.to x4.bel)
 have hb4 : Below w.heap.size w x4.val := belo
 obtain ⟨W0, hW0⟩ : ∃ W, x4.val = W := ⟨_, rfl⟩
 rw [hW0] at HR4 hb4 ⊢
 have HB4 := Lib.hid hb4
 have hz4 : w.heap.size < W0.heap.size := HR4.out.lt
 clear hW0 hb4 rc0 rc1 rcz0 rcz1 rclt rclu HR1 HR3 hz_x1 hz_x2 hz_x3 hz_x4
 clear x1 x2 x3 x4
 have rdlt : w.heap.size < (W0).heap.size := HR4.out.lt
 have rdlu : w.heap.size < (W0).heap.size + 1 := Nat.lt_succ_of_lt HR4.out.lt
 have rd0 : (W0).cell? ⟨w.heap.size, 0, none⟩ = some (.string nm) := HR4.out.cells 0
 have rdz0 : (W0).frozen? ⟨w.heap.size, 0, none⟩ = false := HR4.out.frozen 0
 have rd1 : (W0).cell? ⟨w.heap.size, 1, none⟩ = some (.slice B np cp) := HR4.out.cells 1
 have rdz1 : (W0).frozen? ⟨w.heap.size, 1, none⟩ = false := HR4.out.frozen 1
 go_wp2
 go_loopw [9, 10, 45] (fun v9 v10 v45 wr => ∃ (j nn : Nat) (A1 : Option Addr) (c1 : Nat) (pl : List Pa), j ≤ np ∧ v9 = .int .i64 (nn : Int) ∧ v10 = .slice A1 j c1 ∧ v45 = .int .i64 (j : Int) ∧ Hid (Ren W0 wr (lp.map Pa.b) j nn A1 c1 pl)) (fun _ _ i _ => np - (RowKit.intOf i).toNat)
 case atStart => exact ⟨0, 0, none, 0, [], by omega, rfl, rfl, rfl, Lib.hid ⟨rfl, rfl, PL.nil _ _, Below.refl _ _⟩⟩
 case round =>
  rename World => wr
  obtain ⟨j, nn, A1, c1, pl, hj, rfl, rfl, rfl, HI⟩ := hrel
  have hnn : nn ≤ 65 * j := by
   have h1 := HI.out.nn
   have h2 := Vd.cnt_le (m := 64) ((lp.map Pa.b).take j) (fun p hp => by
    obtain ⟨q, hq, rfl⟩ := List.mem_map.1 (List.mem_of_mem_take hp)
    exact HM64.out q hq)
   have h3 : ((lp.map Pa.b).take j).length ≤ j := List.length_take_le _ _
   rw [h1]
   exact Nat.le_trans h2 (Nat.mul_le_mul_left _ h3)
  have hbw : Below w.heap.size w wr := HB4.out.trans (HI.out.bel.mono (by omega))
  have hzr := HI.out.bel.size
  have HRr := Lib.hid (HR4.out.below HI.out.bel hz4)
  by_cases hlt : j < np
  rotate_left
  ·obtain rfl : j = np := by omega
   have HPB : Hid (pl.map Pa.b = Vd.renP 0 (lp.map Pa.b)) := Lib.hid (by
    have h1 := HI.out.map
    rw [List.take_of_length_le (by rw [List.length_map, HNP.out]; exact Nat.le_refl _)] at h1
    exact h1)
   have HNC : Hid (nn = Vd.cnt (lp.map Pa.b)) := Lib.hid (by
    have h1 := HI.out.nn
    rw [List.take_of_length_le (by rw [List.length_map, HNP.out]; exact Nat.le_refl _)] at h1
    exact h1)
   obtain ⟨⟨r1, r2⟩, hck⟩ : ∃ r, Vd.chk l nm (pl.map Pa.b) = r := ⟨_, rfl⟩
   have HCK := Lib.hid hck
   clear hck hlt hj
   have relt : w.heap.size < (wr).heap.size := HRr.out.lt
   have relu : w.heap.size < (wr).heap.size + 1 := Nat.lt_succ_of_lt HRr.out.lt
   have re0 : (wr).cell? ⟨w.heap.size, 0, none⟩ = some (.string nm) := HRr.out.cells 0
   have rez0 : (wr).frozen? ⟨w.heap.size, 0, none⟩ = false := HRr.out.frozen 0
   have re1 : (wr).cell? ⟨w.heap.size, 1, none⟩ = some (.slice B j cp) := HRr.out.cells 1
   have rez1 : (wr).frozen? ⟨w.heap.size, 1, none⟩ = false := HRr.out.frozen 1
   go_upto_region 20 with fail
   obtain ⟨ws, hws⟩ : ∃ w_q_, w_q_ = wr.setCell ⟨w.heap.size, 1, none⟩ (.slice A1 j c1) := ⟨_, rfl⟩
   rw [← hws]
   have ks : Only w.heap.size wr ws := by rw [hws]; exact (Only.refl _ _).set _
   have HRs : Hid (RowAt ws w.heap.size 26 [.string nm, .slice A1 j c1]) := Lib.hid (by rw [hws]; exact HRr.out.set 1 _)
   have HPLs := Lib.hid (HI.out.own.only ks (by omega))
   have HBs : Hid (Below w.heap.size w ws) := Lib.hid (hbw.trans (ks.below (Nat.le_refl _)))
   clear hws ks re0 re1 rez0 rez1 relt relu
   have CKs := Lib.hid (CK.out A1 pl j c1 ws HPLs.out.len HBs.out HPLs.out.pas HPLs.out.shp)
   rw [Vd.check_b, HCK.out] at CKs
   have rflt : w.heap.size < (ws).heap.size := HRs.out.lt
   have rflu : w.heap.size < (ws).heap.size + 1 := Nat.lt_succ_of_lt HRs.out.lt
   have rf0 : (ws).cell? ⟨w.heap.size, 0, none⟩ = some (.string nm) := HRs.out.cells 0
   have rfz0 : (ws).frozen? ⟨w.heap.size, 0, none⟩ = false := HRs.out.frozen 0
   have rf1 : (ws).cell? ⟨w.heap.size, 1, none⟩ = some (.slice A1 j c1) := HRs.out.cells 1
   have rfz1 : (ws).frozen? ⟨w.heap.size, 1, none⟩ = false := HRs.out.frozen 1
   go_wp2_with fail
   with_reducible refine (CKs.out).mono ?_
   rintro e_x5 w_x5 ⟨rfl, hb_x5⟩
   obtain ⟨x5, rfl⟩ := later_is hb_x5
   clear hb_x5
   have hz_x5 := x5.bel.size
   try simp at hz_x5
   have HR5 := Lib.hid (HRs.out.to x5.bel)
   have HPL5 := Lib.hid (HPLs.out.to x5.bel)
   have hb5 : Below w.heap.size w x5.val := HBs.out.trans (x5.bel.mono HBs.out.size)
   have hz5 : w.heap.size < x5.val.heap.size := HR5.out.lt
   clear rf0 rf1 rfz0 rfz1 rflt rflu
   go_upto_region 21 with fail
   obtain ⟨w6, hw6⟩ : ∃ w_q_, w_q_ = x5.val.alloc (.cells #[.int .i64 (r1 : Int), .int .i64 r2] 32) := ⟨_, rfl⟩
   rw [← hw6]
   have b56 : Below x5.val.heap.size x5.val w6 := by rw [hw6]; exact belo
   have HR6 := Lib.hid (HR5.out.to b56)
   have HPL6 := Lib.hid (HPL5.out.to b56)
   have HB6 : Hid (Below w.heap.size w w6) := Lib.hid (hb5.trans (b56.mono (by omega)))
   have HF6 : Hid (RowAt w6 x5.val.heap.size 32 [.int .i64 (r1 : Int), .int .i64 r2]) := Lib.hid (by rw [hw6]; exact RowAt.new' _ _ _ _ rfl)
   obtain ⟨gf, hgf⟩ : ∃ g, x5.val.heap.size = g := ⟨_, rfl⟩
   rw [hgf] at HF6 hz5 ⊢
   have hgf6 : gf < w6.heap.size := HF6.out.lt
   clear hw6 b56 HR5 HPL5 hb5 CKs HPLs HRs HBs hz_x5 hgf HRr hbw hzr
   clear x5
   have rglt : w.heap.size < (w6).heap.size := HR6.out.lt
   have rglu : w.heap.size < (w6).heap.size + 1 := Nat.lt_succ_of_lt HR6.out.lt
   have rg0 : (w6).cell? ⟨w.heap.size, 0, none⟩ = some (.string nm) := HR6.out.cells 0
   have rgz0 : (w6).frozen? ⟨w.heap.size, 0, none⟩ = false := HR6.out.frozen 0
   have rg1 : (w6).cell? ⟨w.heap.size, 1, none⟩ = some (.slice A1 j c1) := HR6.out.cells 1
   have rgz1 : (w6).frozen? ⟨w.heap.size, 1, none⟩ = false := HR6.out.frozen 1
   have rf0 : w6.cell? ⟨gf, 0, none⟩ = some (.int .i64 (r1 : Int)) := HF6.out.cells 0
   have rf1 : w6.cell? ⟨gf, 1, none⟩ = some (.int .i64 r2) := HF6.out.cells 1
   by_cases hr1 : r1 = 0
   ·have ge : ((r1 : Int) == 0) = true := by simp [hr1]
    have ge2 : ((r1 : Int) != 0) = false := by simp [hr1]
    have WH6 := Lib.hid (WHH.out A1 pl j c1 w6 HPL6.out.len HB6.out HPL6.out.pas HPL6.out.shp (by rw [HCK.out, hr1]))
    have hb6 := HB6.out
    clear hr1
    go_wp2_with fail
    with_reducible refine (WH6.out).mono ?_
    rintro e_x7 w_x7 ⟨rfl, hb_x7⟩
    obtain ⟨x7, rfl⟩ := later_is hb_x7
    clear hb_x7
    have hz_x7 := x7.bel.size
    try simp at hz_x7
    have hb7 : Below w.heap.size w x7.val := hb6.trans (x7.bel.mono hb6.size)
    clear rg0 rg1 rgz0 rgz1 rf0 rf1 hb6
    go_wp2_with fail
    with_reducible refine (AW.out _).mono ?_
    rintro e_xa w_xa ⟨rfl, hb_xa⟩
    obtain ⟨xa, rfl⟩ := later_is hb_xa
    clear hb_xa
    have hz_xa := xa.bel.size
    try simp at hz_xa
    go_wp2
    go_ret
    exact ⟨rfl, belo⟩
   have ge : ((r1 : Int) == 0) = false := beq_eq_false_iff_ne.2 (by omega)
   have ge2 : ((r1 : Int) != 0) = true := bne_iff_ne.2 (by omega)
   obtain ⟨hf1, hf2, hf3⟩ := Vd.fault_ren HRT.out HRR.out (by rw [← HPB.out]; exact HCK.out) hr1
   rw [← HNC.out] at hf2
   rw [← HPB.out] at hf3
   have HF3 := Lib.hid hf3
   have gl1 : decide (r2 < 1) = false := decide_eq_false (by omega)
   have gl2 : decide ((nn : Int) < r2) = false := decide_eq_false (by omega)
   clear hr1 hf3
   go_upto_region 26 with fail
   go_wp2
   go_loopw [17, 107] (fun v17 v107 wx => ∃ (i : Nat) (A5 : Option Addr) (c5 : Nat) (ql : List Pa), i ≤ j ∧ v17 = .slice A5 i c5 ∧ v107 = .int .i64 (i : Int) ∧ Hid (Less w6 wx (pl.map Pa.b) r2 i A5 c5 ql)) (fun _ i _ => j - (RowKit.intOf i).toNat)
   case atStart => exact ⟨0, none, 0, [], by omega, rfl, rfl, Lib.hid ⟨rfl, fun _ h => by simp at h, PL.nil _ _, Below.refl _ _⟩⟩
   case round =>
    clear rf0 rf1 rg0 rg1 rgz0 rgz1
    rename World => wx
    obtain ⟨i, A5, c5, ql, hi, rfl, rfl, HL⟩ := hrel
    have hbx : Below w.heap.size w wx := HB6.out.trans (HL.out.bel.mono HB6.out.size)
    have hzx := HL.out.bel.size
    obtain ⟨v1, HRx⟩ : ∃ v1, Hid (RowAt wx w.heap.size 26 [.string nm, v1]) := ⟨_, Lib.hid (HR6.out.to HL.out.bel)⟩
    have HFx := Lib.hid (HF6.out.to HL.out.bel)
    have HPLx := Lib.hid (HPL6.out.to HL.out.bel)
    by_cases hlt : i < j
    rotate_left
    ·obtain rfl : i = j := by omega
     have HOKz : Hid ((Vd.chk l nm (ql.map Pa.b)).1 = 0) := Lib.hid (by
      rw [HL.out.map, ← Vd.lessP_take HL.out.ahead (fun p hp => by
       rw [List.getElem?_eq_none (by rw [List.length_map, HPLx.out.len]; exact Nat.le_refl _)] at hp; cases hp)]
      exact HF3.out)
     have HRy := HRx
     have HQy := Lib.hid HL.out.own
     have HBy := Lib.hid hbx
     obtain ⟨wy, hwy⟩ : ∃ W, wx = W := ⟨_, rfl⟩
     rw [hwy] at HRy HQy HBy ⊢
     clear hwy hlt hi
     have rhlt : w.heap.size < (wy).heap.size := HRy.out.lt
     have rhlu : w.heap.size < (wy).heap.size + 1 := Nat.lt_succ_of_lt HRy.out.lt
     have rh0 : (wy).cell? ⟨w.heap.size, 0, none⟩ = some (.string nm) := HRy.out.cells 0
     have rhz0 : (wy).frozen? ⟨w.heap.size, 0, none⟩ = false := HRy.out.frozen 0
     have rh1 : (wy).cell? ⟨w.heap.size, 1, none⟩ = some (v1) := HRy.out.cells 1
     have rhz1 : (wy).frozen? ⟨w.heap.size, 1, none⟩ = false := HRy.out.frozen 1
     go_upto_region 40 with fail
     obtain ⟨wz, hwz⟩ : ∃ w_q_, w_q_ = wy.setCell ⟨w.heap.size, 1, none⟩ (.slice A5 i c5) := ⟨_, rfl⟩
     rw [← hwz]
     have kz : Only w.heap.size wy wz := by rw [hwz]; exact (Only.refl _ _).set _
     have HRz : Hid (RowAt wz w.heap.size 26 [.string nm, .slice A5 i c5]) := Lib.hid (by rw [hwz]; exact HRy.out.set 1 _)
     have HQz := Lib.hid (HQy.out.only kz (by have := HR6.out.lt; omega))
     have HBz : Hid (Below w.heap.size w wz) := Lib.hid (HBy.out.trans (kz.below (Nat.le_refl _)))
     clear hwz kz rh0 rh1 rhz0 rhz1 rhlt rhlu
     have CKz := Lib.hid (CK.out A5 ql i c5 wz HQz.out.len HBz.out HQz.out.pas HQz.out.shp)
     obtain ⟨⟨s1, s2⟩, hcz⟩ : ∃ r, Vd.chk l nm (ql.map Pa.b) = r := ⟨_, rfl⟩
     rw [Vd.check_b, hcz] at CKz
     obtain rfl : s1 = 0 := by have h1 := HOKz.out; rw [hcz] at h1; exact h1
     clear hcz
     have rklt : w.heap.size < (wz).heap.size := HRz.out.lt
     have rklu : w.heap.size < (wz).heap.size + 1 := Nat.lt_succ_of_lt HRz.out.lt
     have rk0 : (wz).cell? ⟨w.heap.size, 0, none⟩ = some (.string nm) := HRz.out.cells 0
     have rkz0 : (wz).frozen? ⟨w.heap.size, 0, none⟩ = false := HRz.out.frozen 0
     have rk1 : (wz).cell? ⟨w.heap.size, 1, none⟩ = some (.slice A5 i c5) := HRz.out.cells 1
     have rkz1 : (wz).frozen? ⟨w.heap.size, 1, none⟩ = false := HRz.out.frozen 1
     go_wp2_with fail
     with_reducible refine (CKz.out).mono ?_
     rintro e_x9 w_x9 ⟨rfl, hb_x9⟩
     obtain ⟨x9, rfl⟩ := later_is hb_x9
     clear hb_x9
     have hz_x9 := x9.bel.size
     try simp at hz_x9
     have hb9 : Below w.heap.size w x9.val := HBz.out.trans (x9.bel.mono HBz.out.size)
     clear rk0 rk1 rkz0 rkz1
     have kfl : ∀ W, (Instr.field 32 (faultV (0, s2)) 0).run Try.prog W = .ok (.int .i64 0) W := fun W => fault_fld0 _ _ W
     go_wp2_with fail
     with_reducible refine (AW.out _).mono ?_
     rintro e_xa w_xa ⟨rfl, hb_xa⟩
     obtain ⟨xa, rfl⟩ := later_is hb_xa
     clear hb_xa
     have hz_xa := xa.bel.size
     try simp at hz_xa
     go_wp2
     go_ret
     exact ⟨rfl, belo⟩
    have hltI : (i : Int) < (j : Int) := by omega
    obtain ⟨g1, o1, p, hA1, hg, hp, hok, d0, d1, d2⟩ := HPLx.out.pas.at_ (k := i) (by rw [HPLx.out.len]; exact hlt)
    subst hA1
    have hgl : g1 < wx.heap.size := hg
    have HPi := Lib.hid hp
    have HOK := Lib.hid hok
    obtain ⟨slave, line, sets, PA, pc⟩ := p
    obtain ⟨m, hm⟩ : ∃ m, sets.length = m := ⟨_, rfl⟩
    have HM := Lib.hid hm
    dsimp only at d0 d1 d2
    rw [hm] at d2
    have fx1 : wx.cell? ⟨gf, 1, none⟩ = some (.int .i64 r2) := HFx.out.cells 1
    have hgfx : gf < wx.heap.size := HFx.out.lt
    clear hp hg hok hm
    by_cases hbrk : r2 ≤ line
    ·have gb : decide (r2 ≤ line) = true := decide_eq_true hbrk
     have HOKz : Hid ((Vd.chk l nm (ql.map Pa.b)).1 = 0) := Lib.hid (by
      rw [HL.out.map, ← Vd.lessP_take HL.out.ahead (fun p hp => by
       rw [List.getElem?_map, HPi.out] at hp
       obtain rfl := Option.some.inj hp
       show ¬ line < r2
       omega)]
      exact HF3.out)
     go_upto_region 39 with fail
     obtain ⟨wy, hwy⟩ : ∃ w_q_, w_q_ = wx.alloc (.cells #[.string slave, .int .i64 line, .slice PA m pc] 46) := ⟨_, rfl⟩
     rw [← hwy]
     have bxy : Below wx.heap.size wx wy := by rw [hwy]; exact belo
     have HRy := Lib.hid (HRx.out.to bxy)
     have HQy := Lib.hid (HL.out.own.to bxy)
     have HBy : Hid (Below w.heap.size w wy) := Lib.hid (hbx.trans (bxy.mono hbx.size))
     clear hwy bxy hlt hi d0 d1 d2 fx1
     have rhlt : w.heap.size < (wy).heap.size := HRy.out.lt
     have rhlu : w.heap.size < (wy).heap.size + 1 := Nat.lt_succ_of_lt HRy.out.lt
     have rh0 : (wy).cell? ⟨w.heap.size, 0, none⟩ = some (.string nm) := HRy.out.cells 0
     have rhz0 : (wy).frozen? ⟨w.heap.size, 0, none⟩ = false := HRy.out.frozen 0
     have rh1 : (wy).cell? ⟨w.heap.size, 1, none⟩ = some (v1) := HRy.out.cells 1
     have rhz1 : (wy).frozen? ⟨w.heap.size, 1, none⟩ = false := HRy.out.frozen 1
     go_upto_region 40 with fail
     obtain ⟨wz, hwz⟩ : ∃ w_q_, w_q_ = wy.setCell ⟨w.heap.size, 1, none⟩ (.slice A5 i c5) := ⟨_, rfl⟩
     rw [← hwz]
     have kz : Only w.heap.size wy wz := by rw [hwz]; exact (Only.refl _ _).set _
     have HRz : Hid (RowAt wz w.heap.size 26 [.string nm, .slice A5 i c5]) := Lib.hid (by rw [hwz]; exact HRy.out.set 1 _)
     have HQz := Lib.hid (HQy.out.only kz (by have := HR6.out.lt; omega))
     have HBz : Hid (Below w.heap.size w wz) := Lib.hid (HBy.out.trans (kz.below (Nat.le_refl _)))
     clear hwz kz rh0 rh1 rhz0 rhz1 rhlt rhlu
     have CKz := Lib.hid (CK.out A5 ql i c5 wz HQz.out.len HBz.out HQz.out.pas HQz.out.shp)
     obtain ⟨⟨s1, s2⟩, hcz⟩ : ∃ r, Vd.chk l nm (ql.map Pa.b) = r := ⟨_, rfl⟩
     rw [Vd.check_b, hcz] at CKz
     obtain rfl : s1 = 0 := by have h1 := HOKz.out; rw [hcz] at h1; exact h1
     clear hcz
     have rklt : w.heap.size < (wz).heap.size := HRz.out.lt
     have rklu : w.heap.size < (wz).heap.size + 1 := Nat.lt_succ_of_lt HRz.out.lt
     have rk0 : (wz).cell? ⟨w.heap.size, 0, none⟩ = some (.string nm) := HRz.out.cells 0
     have rkz0 : (wz).frozen? ⟨w.heap.size, 0, none⟩ = false := HRz.out.frozen 0
     have rk1 : (wz).cell? ⟨w.heap.size, 1, none⟩ = some (.slice A5 i c5) := HRz.out.cells 1
     have rkz1 : (wz).frozen? ⟨w.heap.size, 1, none⟩ = false := HRz.out.frozen 1
     go_wp2_with fail
     with_reducible refine (CKz.out).mono ?_
     rintro e_x9 w_x9 ⟨rfl, hb_x9⟩
     obtain ⟨x9, rfl⟩ := later_is hb_x9
     clear hb_x9
     have hz_x9 := x9.bel.size
     try simp at hz_x9
     have hb9 : Below w.heap.size w x9.val := HBz.out.trans (x9.bel.mono HBz.out.size)
     clear rk0 rk1 rkz0 rkz1
     have kfl : ∀ W, (Instr.field 32 (faultV (0, s2)) 0).run Try.prog W = .ok (.int .i64 0) W := fun W => fault_fld0 _ _ W
     go_wp2_with fail
     with_reducible refine (AW.out _).mono ?_
     rintro e_xa w_xa ⟨rfl, hb_xa⟩
     obtain ⟨xa, rfl⟩ := later_is hb_xa
     clear hb_xa
     have hz_xa := xa.bel.size
     try simp at hz_xa
     go_wp2
     go_ret
     exact ⟨rfl, belo⟩
    have gb : decide (r2 ≤ line) = false := decide_eq_false hbrk
    have HLN := Lib.hid (Int.not_le.1 hbrk)
    have hm64 : m ≤ 64 := by
     have h1 : (pl.map Pa.b)[i]? = some ⟨slave, line, sets⟩ := by rw [List.getElem?_map, HPi.out]; rfl
     rw [HPB.out] at h1
     have h2 := Vd.renP_sets (m := 64) (l := lp.map Pa.b) (n := 0) (fun p hp => by
      obtain ⟨q, hq, rfl⟩ := List.mem_map.1 hp
      exact HM64.out q hq) _ (List.mem_of_getElem? h1)
     rw [← HM.out]
     exact h2
    clear hbrk
    go_upto_region 31 with fail
    obtain ⟨wq, hwq⟩ : ∃ w_q_, w_q_ = (wx.alloc (.cells #[.string slave, .int .i64 line, .slice PA m pc] 46)).alloc (.cells #[.string slave, .int .i64 line, .slice none 0 0] 46) := ⟨_, rfl⟩
    rw [← hwq]
    have hbq : Below wx.heap.size wx wq := by rw [hwq]; exact belo
    have hzq : wx.heap.size + 2 ≤ wq.heap.size := by rw [hwq]; simp
    have HRP : Hid (RowAt wq wx.heap.size 46 [.string slave, .int .i64 line, .slice PA m pc]) := Lib.hid (by rw [hwq]; exact (RowAt.new' wx wx.heap.size _ _ rfl).alloc _)
    have HRQ : Hid (RowAt wq (wx.heap.size + 1) 46 [.string slave, .int .i64 line, .slice none 0 0]) := Lib.hid (by rw [hwq]; exact RowAt.new' _ _ _ _ (by simp))
    have hp2 : wq.cell? ⟨wx.heap.size, 2, none⟩ = some (.slice PA m pc) := HRP.out.cells 2
    have hbqw : Below w.heap.size w wq := hbx.trans (hbq.mono (by omega))
    have HBQ := Lib.hid hbq
    clear hwq hbq d0 d1 d2 fx1
    go_wp2
    go_loopw [124] (fun v124 wv => ∃ (b bn : Nat) (A2 : Option Addr) (c2 : Nat) (sl : List St), b ≤ m ∧ bn ≤ b ∧ v124 = .int .i64 (b : Int) ∧ Hid (LessS wq wv (wx.heap.size + 1) slave line r2 sets b A2 bn c2 sl)) (fun i _ => m - (RowKit.intOf i).toNat)
    case atStart => exact ⟨0, 0, none, 0, [], by omega, by omega, rfl, Lib.hid ⟨rfl, SL.nil _ _, HRQ.out, Below.refl _ _, by omega⟩⟩
    case round =>
     clear hp2
     rename World => wv
     obtain ⟨b, bn, A2, c2, sl, hb, hbn, rfl, HJ⟩ := hrel
     have hbv := HJ.out.bel
     have hbvx : Below wx.heap.size wx wv := HBQ.out.trans (hbv.mono (by omega))
     have hzv := hbv.size
     have hbne : bn ≤ 1000 := by omega
     by_cases hlb : b < m
     rotate_left
     ·obtain rfl : b = m := by omega
      have HSL : Hid (sl = Vd.lessS r2 sets) := Lib.hid (by have h1 := HJ.out.eq; rw [← HM.out, List.take_length] at h1; exact h1)
      have HPv : Hid (PL wv w6.heap.size A5 i c5 ql) := Lib.hid (HL.out.own.to hbvx)
      have f0 : wv.cell? ⟨wx.heap.size + 1, 0, none⟩ = some (.string slave) := HJ.out.var.cells 0
      have f1 : wv.cell? ⟨wx.heap.size + 1, 1, none⟩ = some (.int .i64 line) := HJ.out.var.cells 1
      have f2 : wv.cell? ⟨wx.heap.size + 1, 2, none⟩ = some (.slice A2 bn c2) := HJ.out.var.cells 2
      have hn1000 : i ≤ 1000 := by omega
      have HCS : Hid (paF ⟨slave, line, sl, A2, c2⟩ = [.string slave, .int .i64 line, .slice A2 bn c2]) := Lib.hid (by rw [← HJ.out.row.len])
      have HOKp : Hid ((Pa.mk slave line sl A2 c2).Ok wv wv.heap.size) := Lib.hid (HJ.out.row.part (fun s hs => by
       rw [HSL.out] at hs
       exact HOK.out.fit s (List.mem_filter.1 hs).1) slave _ HOK.out.line)
      have HOFF : Hid (0 < sl.length → ∀ a q, A2 = some a → A5 = some q → q.block ≠ a.block) := Lib.hid (fun _ a q ha hq => by
       have h1 := (own_at_s HJ.out.row a ha).1
       have h2 := (own_at_s HL.out.own.own q hq).2.1
       omega)
      have HLOW : Hid (∀ a, A2 = some a → w6.heap.size ≤ a.block) := Lib.hid (fun a ha => by
       have h1 := (own_at_s HJ.out.row a ha).1
       omega)
      have hW : w6.heap.size ≤ wv.heap.size := by omega
      have BV : Hid (Below w6.heap.size w6 wv) := Lib.hid (HL.out.bel.trans (hbvx.mono (by omega)))
      clear hlb hb
      go_wp2_with (at_builtin; go_loud (refine wpList_append_part wv rfl (.tmp 140) (.tmp 142) 24 rfl w6.heap.size iP _ Try.underlying24 hifP hp0 hp1 hp2' rfl A5 i c5 ql rfl 46 ⟨slave, line, sl, A2, c2⟩ _ HCS.out wv.heap.size rfl HPv.out rfl HOKp.out HOFF.out HLOW.out hn1000 hW ?_; intro A4 c4 w4 o4 b4; have O4 := Lib.hid o4; have B4 : Hid (Below w6.heap.size w6 w4) := Lib.hid (BV.out.trans b4); clear o4 b4))
      have HL2 := Lib.hid (HL.out.step (p := ⟨slave, line, sets⟩) (by rw [List.getElem?_map, HPi.out]; rfl) HLN.out HSL.out O4.out B4.out)
      go_roundw
      case rel => exact ⟨i + 1, A4, c4, _, by omega, rfl, by go_num, HL2⟩
      case measure => simp [RowKit.intOf]; omega
     have hlbI : (b : Int) < (m : Int) := by omega
     obtain ⟨g3, o3, s, hA3, hg3, hs3, e0, e1, e2, e3, e4⟩ := St.at_ (HOK.out.to hbvx).rc (k := b) (by dsimp only; rw [HM.out]; exact hlb)
     have hgl3 : g3 < wv.heap.size := hg3
     dsimp only at hA3
     subst hA3
     have HS3 := Lib.hid hs3
     obtain ⟨sp, ⟨vn, vd⟩, su, sn⟩ := s
     dsimp only at e0 e1 e2 e3 e4
     clear hs3 hg3
     have HFv := Lib.hid (HFx.out.to hbvx)
     have fv1 : wv.cell? ⟨gf, 1, none⟩ = some (.int .i64 r2) := HFv.out.cells 1
     have hgfv : gf < wv.heap.size := HFv.out.lt
     by_cases hln : sn < r2
     rotate_left
     ·have gs : decide (sn < r2) = false := decide_eq_false hln
      have HJ2 : Hid (LessS wq (wv.alloc (.cells #[.string sp, .int .i64 vn, .int .u8 (vd : Int), .string su, .int .i64 sn] 48)) (wx.heap.size + 1) slave line r2 sets (b + 1) A2 bn c2 sl) := Lib.hid (HJ.out.skip HS3.out hln belo)
      clear hln
      go_wp2
      go_roundw
      case rel => exact ⟨b + 1, bn, A2, c2, sl, by omega, by omega, by go_num, HJ2⟩
      case measure => simp [RowKit.intOf]; omega
     have gs : decide (sn < r2) = true := decide_eq_true hln
     have HLI := Lib.hid hln
     clear hln
     go_upto_region 35 with fail
     obtain ⟨ws, hws⟩ : ∃ w_q_, w_q_ = wv.alloc (.cells #[.string sp, .int .i64 vn, .int .u8 (vd : Int), .string su, .int .i64 sn] 48) := ⟨_, rfl⟩
     rw [← hws]
     have hbs : Below wv.heap.size wv ws := by rw [hws]; exact belo
     have hzs : wv.heap.size + 1 ≤ ws.heap.size := by rw [hws]; simp
     have HRS : Hid (RowAt ws wv.heap.size 48 (stF ⟨sp, ⟨vn, vd⟩, su, sn⟩)) := Lib.hid (by rw [hws]; exact RowAt.new' _ _ _ _ rfl)
     have HRQ2 := Lib.hid (HJ.out.var.to hbs)
     have hzq2 := HJ.out.size
     have HSLs := Lib.hid (HJ.out.row.to hbs)
     have f0 : ws.cell? ⟨wv.heap.size, 0, none⟩ = some (.string sp) := HRS.out.cells 0
     have f1 : ws.cell? ⟨wv.heap.size, 1, none⟩ = some (.int .i64 vn) := HRS.out.cells 1
     have f2 : ws.cell? ⟨wv.heap.size, 2, none⟩ = some (.int .u8 (vd : Int)) := HRS.out.cells 2
     have f3 : ws.cell? ⟨wv.heap.size, 3, none⟩ = some (.string su) := HRS.out.cells 3
     have f4 : ws.cell? ⟨wv.heap.size, 4, none⟩ = some (.int .i64 sn) := HRS.out.cells 4
     have f5 : ws.cell? ⟨wx.heap.size + 1, 2, none⟩ = some (.slice A2 bn c2) := HRQ2.out.cells 2
     have HBS : Hid (Below (wx.heap.size + 1) wq ws) := Lib.hid (hbv.trans (hbs.mono (by omega)))
     clear hws hbs e0 e1 e2 e3 e4 fv1
     go_wp2_with (at_builtin; go_loud (refine wpList_append_set ws rfl (.tmp 134) (.tmp 136) 44 rfl (wx.heap.size + 2) iS _ Try.underlying44 hifS hs0 hs1 hs2 rfl A2 bn c2 sl rfl 48 ⟨sp, ⟨vn, vd⟩, su, sn⟩ ws.heap.size rfl HSLs.out rfl hbne (by omega) ?_; intro A3 c3 w3 o3 b3; have O3 := Lib.hid o3; have R3 : Hid (RowAt w3 (wx.heap.size + 1) 46 [.string slave, .int .i64 line, .slice A2 bn c2]) := Lib.hid (HRQ2.out.below b3 (by omega)); have B3 : Hid (Below (wx.heap.size + 1) wq w3) := Lib.hid (HBS.out.trans (b3.mono (by omega))); have l3 : wx.heap.size + 1 < w3.heap.size := R3.out.lt; have q3 : w3.cell? ⟨wx.heap.size + 1, 2, none⟩ = some (.slice A2 bn c2) := R3.out.cells 2; have z3 : w3.frozen? ⟨wx.heap.size + 1, 2, none⟩ = false := R3.out.frozen 2; clear o3 b3))
     have HJ2 := Lib.hid (HJ.out.step HS3.out HLI.out O3.out R3.out B3.out)
     go_roundw
     case rel => exact ⟨b + 1, bn + 1, A3, c3, _, by omega, by omega, by go_num, HJ2⟩
     case measure => simp [RowKit.intOf]; omega
  have hltI : (j : Int) < (np : Int) := by omega
  obtain ⟨g1, o1, p, rfl, hg, hp, hok, d0, d1, d2⟩ := (HPP.out.to hbw).at_ (k := j) (by rw [HNP.out]; exact hlt)
  have hgl : g1 < wr.heap.size := hg
  have hm64 := HM64.out p (List.mem_of_getElem? hp)
  have HOK := Lib.hid (HPP.out.ok p (List.mem_of_getElem? hp))
  have HPj := Lib.hid hp
  obtain ⟨slave, line, sets, PA, pc⟩ := p
  obtain ⟨m, hm⟩ : ∃ m, sets.length = m := ⟨_, rfl⟩
  have HM := Lib.hid hm
  dsimp only at d0 d1 d2 hm64
  rw [hm] at d2 hm64
  have HSN : Hid ((lp.map Pa.b).take (j + 1) = (lp.map Pa.b).take j ++ [⟨slave, line, sets⟩]) := Lib.hid (by
   rw [List.take_add_one, List.getElem?_map, HPj.out]
   rfl)
  clear hp hg hok hm
  obtain ⟨n0, hn0⟩ : ∃ q, nn + 1 = q := ⟨_, rfl⟩
  have hn0I : (nn : Int) + 1 = (n0 : Int) := by omega
  go_upto_region 10 with fail
  obtain ⟨wq, hwq⟩ : ∃ w_q_, w_q_ = (wr.alloc (.cells #[.string slave, .int .i64 line, .slice PA m pc] 46)).alloc (.cells #[.string slave, .int .i64 (n0 : Int), .slice none 0 0] 46) := ⟨_, rfl⟩
  rw [← hwq]
  have hbq : Below wr.heap.size wr wq := by rw [hwq]; exact belo
  have hzq : wr.heap.size + 2 ≤ wq.heap.size := by rw [hwq]; simp
  have HRP : Hid (RowAt wq wr.heap.size 46 [.string slave, .int .i64 line, .slice PA m pc]) := Lib.hid (by rw [hwq]; exact (RowAt.new' wr wr.heap.size _ _ rfl).alloc _)
  have HRQ : Hid (RowAt wq (wr.heap.size + 1) 46 [.string slave, .int .i64 (n0 : Int), .slice none 0 0]) := Lib.hid (by rw [hwq]; exact RowAt.new' _ _ _ _ (by simp))
  have hp2 : wq.cell? ⟨wr.heap.size, 2, none⟩ = some (.slice PA m pc) := HRP.out.cells 2
  have hbqw : Below w.heap.size w wq := hbw.trans (hbq.mono (by omega))
  have HPq := Lib.hid (HOK.out.to hbqw)
  have HLq := Lib.hid (HI.out.own.to hbq)
  have HBQ := Lib.hid hbq
  clear hwq hbq d0 d1 d2
  go_wp2
  go_loopw [9, 58] (fun v9 v58 wv => ∃ (b t : Nat) (A2 : Option Addr) (c2 : Nat) (sl : List St), b ≤ m ∧ t = n0 + b ∧ v9 = .int .i64 (t : Int) ∧ v58 = .int .i64 (b : Int) ∧ Hid (RenS wq wv (wr.heap.size + 1) slave n0 sets b A2 c2 sl)) (fun _ i _ => m - (RowKit.intOf i).toNat)
  case atStart => exact ⟨0, n0, none, 0, [], by omega, by omega, rfl, rfl, Lib.hid ⟨rfl, SL.nil _ _, HRQ.out, Below.refl _ _, by omega⟩⟩
  case round =>
   clear hp2
   rename World => wv
   obtain ⟨b, t, A2, c2, sl, hb, ht, rfl, rfl, HJ⟩ := hrel
   have hbv := HJ.out.bel
   have hbvw : Below w.heap.size w wv := hbqw.trans (hbv.mono (by omega))
   have hzv := hbv.size
   have HT := Lib.hid ht
   have htle : t ≤ 1000 := by omega
   clear ht
   by_cases hlb : b < m
   rotate_left
   ·obtain rfl : b = m := by omega
    have HSL : Hid (sl = Vd.renS n0 sets) := Lib.hid (by have h1 := HJ.out.eq; rw [← HM.out, List.take_length] at h1; exact h1)
    have HPv : Hid (PL wv W0.heap.size A1 j c1 pl) := Lib.hid (HI.out.own.to (HBQ.out.trans (hbv.mono (by omega))))
    have HQ5 := Lib.hid (HJ.out.var.cells 0)
    have f0 : wv.cell? ⟨wr.heap.size + 1, 0, none⟩ = some (.string slave) := HJ.out.var.cells 0
    have f1 : wv.cell? ⟨wr.heap.size + 1, 1, none⟩ = some (.int .i64 (n0 : Int)) := HJ.out.var.cells 1
    have f2 : wv.cell? ⟨wr.heap.size + 1, 2, none⟩ = some (.slice A2 b c2) := HJ.out.var.cells 2
    have hn1000 : j ≤ 1000 := by omega
    clear hlb hb
    have HCS : Hid (paF ⟨slave, (n0 : Int), sl, A2, c2⟩ = [.string slave, .int .i64 (n0 : Int), .slice A2 b c2]) := Lib.hid (by rw [← HJ.out.row.len])
    have HOKp : Hid ((Pa.mk slave (n0 : Int) sl A2 c2).Ok wv wv.heap.size) := Lib.hid (HJ.out.row.part (fun s hs => by
     rw [HSL.out] at hs
     exact Vd.renS_fit (by rw [HM.out]; omega) (fun x hx => HOK.out.fit x hx) s hs) slave _ (by omega))
    have HOFF : Hid (0 < sl.length → ∀ a q, A2 = some a → A1 = some q → q.block ≠ a.block) := Lib.hid (fun _ a q ha hq => by
     have h1 := (own_at_s HJ.out.row a ha).1
     have h2 := (own_at_s HI.out.own.own q hq).2.1
     omega)
    have HLOW : Hid (∀ a, A2 = some a → W0.heap.size ≤ a.block) := Lib.hid (fun a ha => by
     have h1 := (own_at_s HJ.out.row a ha).1
     omega)
    have hW : W0.heap.size ≤ wv.heap.size := by omega
    have BV : Hid (Below W0.heap.size W0 wv) := Lib.hid (HI.out.bel.trans ((HBQ.out.trans (hbv.mono (by omega))).mono (by omega)))
    go_wp2_with (at_builtin; go_loud (refine wpList_append_part wv rfl (.tmp 73) (.tmp 75) 24 rfl W0.heap.size iP _ Try.underlying24 hifP hp0 hp1 hp2' rfl A1 j c1 pl rfl 46 ⟨slave, (n0 : Int), sl, A2, c2⟩ _ HCS.out wv.heap.size rfl HPv.out rfl HOKp.out HOFF.out HLOW.out hn1000 hW ?_; intro A4 c4 w4 o4 b4; have O4 := Lib.hid o4; have B4 : Hid (Below W0.heap.size W0 w4) := Lib.hid (BV.out.trans b4); clear o4 b4))
    have HI2 := Lib.hid (HI.out.step (n1 := t) (p := ⟨slave, line, sets⟩) (by rw [List.getElem?_map, HPj.out]; rfl) hn0 (by dsimp only; rw [HM.out]; exact HT.out) HSL.out O4.out B4.out)
    go_roundw
    case rel => exact ⟨j + 1, t, A4, c4, _, by omega, rfl, rfl, by go_num, HI2⟩
    case measure => simp [RowKit.intOf]; omega
   have hlbI : (b : Int) < (m : Int) := by omega
   obtain ⟨g3, o3, s, hA3, hg3, hs3, e0, e1, e2, e3, e4⟩ := St.at_ (HOK.out.to hbvw).rc (k := b) (by dsimp only; rw [HM.out]; exact hlb)
   have hgl3 : g3 < wv.heap.size := hg3
   dsimp only at hA3
   subst hA3
   have HS3 := Lib.hid hs3
   obtain ⟨t1, ht1⟩ : ∃ q, t + 1 = q := ⟨_, rfl⟩
   have ht1I : (t : Int) + 1 = (t1 : Int) := by omega
   obtain ⟨sp, ⟨vn, vd⟩, su, sn⟩ := s
   dsimp only at e0 e1 e2 e3 e4
   clear hs3 hg3
   go_upto_region 15 with fail
   obtain ⟨ws, hws⟩ : ∃ w_q_, w_q_ = wv.alloc (.cells #[.string sp, .int .i64 vn, .int .u8 (vd : Int), .string su, .int .i64 (t1 : Int)] 48) := ⟨_, rfl⟩
   rw [← hws]
   have hbs : Below wv.heap.size wv ws := by rw [hws]; exact belo
   have hzs : wv.heap.size + 1 ≤ ws.heap.size := by rw [hws]; simp
   have HRS : Hid (RowAt ws wv.heap.size 48 (stF (Vd.lineS ⟨sp, ⟨vn, vd⟩, su, sn⟩ t1))) := Lib.hid (by rw [hws]; exact RowAt.new' _ _ _ _ rfl)
   have HRQ2 := Lib.hid (HJ.out.var.to hbs)
   have hzq2 := HJ.out.size
   have HSLs := Lib.hid (HJ.out.row.to hbs)
   have f0 : ws.cell? ⟨wv.heap.size, 0, none⟩ = some (.string sp) := HRS.out.cells 0
   have f1 : ws.cell? ⟨wv.heap.size, 1, none⟩ = some (.int .i64 vn) := HRS.out.cells 1
   have f2 : ws.cell? ⟨wv.heap.size, 2, none⟩ = some (.int .u8 (vd : Int)) := HRS.out.cells 2
   have f3 : ws.cell? ⟨wv.heap.size, 3, none⟩ = some (.string su) := HRS.out.cells 3
   have f4 : ws.cell? ⟨wv.heap.size, 4, none⟩ = some (.int .i64 (t1 : Int)) := HRS.out.cells 4
   have f5 : ws.cell? ⟨wr.heap.size + 1, 2, none⟩ = some (.slice A2 b c2) := HRQ2.out.cells 2
   have HBS : Hid (Below (wr.heap.size + 1) wq ws) := Lib.hid (hbv.trans (hbs.mono (by omega)))
   have hn1000 : b ≤ 1000 := by omega
   have HTT : Hid (t1 = n0 + b + 1) := Lib.hid (by have := HT.out; omega)
   clear hws hbs e0 e1 e2 e3 e4
   go_wp2_with (at_builtin; go_loud (refine wpList_append_set ws rfl (.tmp 67) (.tmp 69) 44 rfl (wr.heap.size + 2) iS _ Try.underlying44 hifS hs0 hs1 hs2 rfl A2 b c2 sl rfl 48 (Vd.lineS ⟨sp, ⟨vn, vd⟩, su, sn⟩ t1) ws.heap.size rfl HSLs.out rfl hn1000 (by omega) ?_; intro A3 c3 w3 o3 b3; have O3 := Lib.hid o3; have R3 : Hid (RowAt w3 (wr.heap.size + 1) 46 [.string slave, .int .i64 (n0 : Int), .slice A2 b c2]) := Lib.hid (HRQ2.out.below b3 (by omega)); have B3 : Hid (Below (wr.heap.size + 1) wq w3) := Lib.hid (HBS.out.trans (b3.mono (by omega))); have l3 : wr.heap.size + 1 < w3.heap.size := R3.out.lt; have q3 : w3.cell? ⟨wr.heap.size + 1, 2, none⟩ = some (.slice A2 b c2) := R3.out.cells 2; have z3 : w3.frozen? ⟨wr.heap.size + 1, 2, none⟩ = false := R3.out.frozen 2; clear o3 b3))
   have HJ2 := Lib.hid (HJ.out.step HS3.out HTT.out O3.out R3.out B3.out)
   go_roundw
   case rel => exact ⟨b + 1, t1, A3, c3, _, by omega, by have := HTT.out; omega, rfl, by go_num, HJ2⟩
   case measure => simp [RowKit.intOf]; omega
end Go.Proofs.Ythhokpaidekmnaa
