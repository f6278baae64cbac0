/- Layer 15: units.To, units.Known. -/
import Derived.Test.YthhokpaidekmnaaVdKnown
namespace Go.Proofs.Ythhokpaidekmnaa
open Go.RowKit
set_option linter.unusedVariables false
set_option linter.unusedSimpArgs false
attribute [local go_sem] Later.cell Later.frozen setCell_twice
theorem MapIs.to {w w' : World} {g clock : Nat} {es : Array MapEntry} (h : MapIs w g es clock) (hb : Below w.heap.size w w') : MapIs w' g es clock := (hb.block g h.lt).trans h
theorem look_mem : ∀ (l : List (ByteArray × Un)) (s : ByteArray) (u : Un), Vd.look s l = some u → (s, u) ∈ l
 | [], s, u, h => by cases h
 | q :: l, s, u, h => by
  rw [Vd.look] at h
  split at h
  ·rename_i he
   obtain rfl : q.2 = u := by simpa using h
   subst he
   exact .head _
  ·exact .tail _ (look_mem l s u h)
theorem tab_bound : ∀ p ∈ Vd.unitTab, 1 ≤ p.2.num ∧ p.2.num ≤ 3600 ∧ 1 ≤ p.2.den ∧ p.2.den ≤ 1000 := by decide
theorem known_bound {s : ByteArray} {u : Un} (h : Vd.known s = some u) : 1 ≤ u.num ∧ u.num ≤ 3600 ∧ 1 ≤ u.den ∧ u.den ≤ 1000 := tab_bound _ (look_mem _ _ _ h)
theorem str_ne {a b : ByteArray} (h : a ≠ b) : (a.toList == b.toList) = false := by
 rw [ByteArray.toList_eq, ByteArray.toList_eq]
 refine beq_eq_false_iff_ne.2 fun e => h ?_
 obtain ⟨⟨a⟩⟩ := a
 obtain ⟨⟨b⟩⟩ := b
 simp at e
 rw [e]
theorem str_eq {a b : ByteArray} (h : a = b) : (a.toList == b.toList) = true := by rw [h]; simp
/-- the unit, and whether there is one -/
theorem unit_look_at {w : World} {g : Nat} {s : ByteArray} (b n d : Value) (ok : Bool) (hu : unV ((Vd.known s).getD un0) = .agg #[b, n, d]) (hk : (Vd.known s).isSome = ok) (hb : MapIs w g unE 18) :
  (Instr.lookup 75 (.map (some g)) (.string s) true).run Try.prog w = .ok (.tuple #[.agg #[b, n, d], .bool ok]) w := by
 have := unit_look w g s hb
 rw [hu, hk] at this
 exact this
abbrev unF (s : ByteArray) (okv : Bool) (b : ByteArray) (n d : Nat) : Prop := (Vd.known s).isSome = okv ∧ (Vd.known s).getD un0 = ⟨b, n, d⟩
set_option maxHeartbeats 1000000 in
set_option maxRecDepth 100000 in
theorem to_walk (n : Int) (d : Nat) (a b : ByteArray) (w : World) (h1 : Dc.Fit ⟨n, d⟩) (ba : ByteArray) (na da : Nat) (oka : Bool) (bb : ByteArray) (nb db : Nat) (okb : Bool) (ha : unF a oka ba na da) (hb : unF b okb bb nb db)
  (num den : Nat) (hnum : na * db = num) (hden : da * nb = den) (hm : num < 9223372036854775808) (hd : den < 9223372036854775808) (rv : Value)
  (hrv : decV (if (oka && okb && decide (ba = bb)) = true then Vd.times ⟨n, d⟩ num den else none) = rv) :
  Calls Try.prog 21 #[dcV n d, .string a, .string b] w fun e w' => e = .returned rv ∧ Below w.heap.size w w' := by
 have LA := Lib.hid (fun (w : World) (g : Nat) (hM : MapIs w g unE 18) => unit_look_at (s := a) (.string ba) (.int .i64 (na : Int)) (.int .i64 (da : Int)) oka (by rw [ha.2]) ha.1 hM)
 have LB := Lib.hid (fun (w : World) (g : Nat) (hM : MapIs w g unE 18) => unit_look_at (s := b) (.string bb) (.int .i64 (nb : Int)) (.int .i64 (db : Int)) okb (by rw [hb.2]) hb.1 hM)
 have TM := Lib.hid (fun w => times_any n d num den w h1 hm hd)
 have RV := Lib.hid hrv
 have m1 : (na : Int) * (db : Int) = (num : Int) := by rw [← hnum]; simp
 have m2 : (da : Int) * (nb : Int) = (den : Int) := by rw [← hden]; simp
 have m3 : IntKind.i64.wrap (num : Int) = (num : Int) := IntWalk.i64_in _ (by omega)
 have m4 : IntKind.i64.wrap (den : Int) = (den : Int) := IntWalk.i64_in _ (by omega)
 clear ha hb hrv hnum hden h1
 unfold dcV
 cases oka
 ·obtain rfl : decV none = rv := RV.out
  go_enter Try.func21, Try.ntmps21
  go_wp2_with fail
  (with_reducible refine (known_map _).mono ?_)
  rintro e_ w_ ⟨rfl, M1, hb1⟩
  obtain ⟨x1, rfl⟩ := later_is hb1
  replace M1 := Lib.hid M1
  clear hb1
  have hz_x1 := x1.bel.size
  try simp at hz_x1
  have hz_x1 := x1.bel.size
  try simp at hz_x1
  have l_x1_0 : w.heap.size < x1.val.heap.size := by omega
  have m_x1_0 : w.heap.size < x1.val.heap.size + 1 := by omega
  have q_ := x1.cq (w.heap.size) 0
  generalize c_x1_0_0 : x1.val.cell? ⟨w.heap.size, 0, none⟩ = q at q_
  first | (have q2_ : q = some _ := q_; subst q2_) | (simp [go_sem] at q_; have q2_ : q = some _ := q_; subst q2_) | (simp [go_sem, *] at q_; have q2_ : q = some _ := q_; subst q2_)
  have q_ := x1.zq (w.heap.size) 0
  generalize z_x1_0_0 : x1.val.frozen? ⟨w.heap.size, 0, none⟩ = q at q_
  first | (have q2_ : q = false := q_; subst q2_) | (simp [go_sem] at q_; have q2_ : q = false := q_; subst q2_) | (simp [go_sem, *] at q_; have q2_ : q = false := q_; subst q2_)
  have q_ := x1.cq (w.heap.size) 1
  generalize c_x1_0_1 : x1.val.cell? ⟨w.heap.size, 1, none⟩ = q at q_
  first | (have q2_ : q = some _ := q_; subst q2_) | (simp [go_sem] at q_; have q2_ : q = some _ := q_; subst q2_) | (simp [go_sem, *] at q_; have q2_ : q = some _ := q_; subst q2_)
  have q_ := x1.zq (w.heap.size) 1
  generalize z_x1_0_1 : x1.val.frozen? ⟨w.heap.size, 1, none⟩ = q at q_
  first | (have q2_ : q = false := q_; subst q2_) | (simp [go_sem] at q_; have q2_ : q = false := q_; subst q2_) | (simp [go_sem, *] at q_; have q2_ : q = false := q_; subst q2_)
  have l_x1_1 : (w.heap.size+1) < x1.val.heap.size := by omega
  have m_x1_1 : (w.heap.size+1) < x1.val.heap.size + 1 := by omega
  have q_ := x1.cq ((w.heap.size+1)) 0
  generalize c_x1_1_0 : x1.val.cell? ⟨(w.heap.size+1), 0, none⟩ = q at q_
  first | (have q2_ : q = some _ := q_; subst q2_) | (simp [go_sem] at q_; have q2_ : q = some _ := q_; subst q2_) | (simp [go_sem, *] at q_; have q2_ : q = some _ := q_; subst q2_)
  have q_ := x1.zq ((w.heap.size+1)) 0
  generalize z_x1_1_0 : x1.val.frozen? ⟨(w.heap.size+1), 0, none⟩ = q at q_
  first | (have q2_ : q = false := q_; subst q2_) | (simp [go_sem] at q_; have q2_ : q = false := q_; subst q2_) | (simp [go_sem, *] at q_; have q2_ : q = false := q_; subst q2_)
  have q_ := x1.cq ((w.heap.size+1)) 1
  generalize c_x1_1_1 : x1.val.cell? ⟨(w.heap.size+1), 1, none⟩ = q at q_
  first | (have q2_ : q = some _ := q_; subst q2_) | (simp [go_sem] at q_; have q2_ : q = some _ := q_; subst q2_) | (simp [go_sem, *] at q_; have q2_ : q = some _ := q_; subst q2_)
  have q_ := x1.zq ((w.heap.size+1)) 1
  generalize z_x1_1_1 : x1.val.frozen? ⟨(w.heap.size+1), 1, none⟩ = q at q_
  first | (have q2_ : q = false := q_; subst q2_) | (simp [go_sem] at q_; have q2_ : q = false := q_; subst q2_) | (simp [go_sem, *] at q_; have q2_ : q = false := q_; subst q2_)
  have M2 := Lib.hid (show MapIs x1.val (w.heap.size + 1 + 1) unE 18 by simpa using M1.out)
  have lM : w.heap.size + 1 + 1 < x1.val.heap.size := M2.out.lt
  go_wp2_with (first | (refine wpList_look rfl 75 (.tmp 15) (.tmp 16) rfl (w.heap.size + 1 + 1) (.string a) (.agg #[.string ba, .int .i64 (na : Int), .int .i64 (da : Int)]) _ rfl rfl (LA.out _ _ M2.out) ?_) | (refine wpList_look rfl 75 (.tmp 21) (.tmp 22) rfl (w.heap.size + 1 + 1) (.string b) (.agg #[.string bb, .int .i64 (nb : Int), .int .i64 (db : Int)]) _ rfl rfl (LB.out _ _ (M2.out.to (bel_alloc (Below.refl _ _) _))) ?_))
  refine bodyPost_ret (v := .tuple #[dcV 0 0, .bool false]) (by simp [results, Try.results21, go_sem, *]) rfl ⟨rfl, belo⟩
 cases okb
 ·obtain rfl : decV none = rv := RV.out
  go_enter Try.func21, Try.ntmps21
  go_wp2_with fail
  (with_reducible refine (known_map _).mono ?_)
  rintro e_ w_ ⟨rfl, M1, hb1⟩
  obtain ⟨x1, rfl⟩ := later_is hb1
  replace M1 := Lib.hid M1
  clear hb1
  have hz_x1 := x1.bel.size
  try simp at hz_x1
  have hz_x1 := x1.bel.size
  try simp at hz_x1
  have l_x1_0 : w.heap.size < x1.val.heap.size := by omega
  have m_x1_0 : w.heap.size < x1.val.heap.size + 1 := by omega
  have q_ := x1.cq (w.heap.size) 0
  generalize c_x1_0_0 : x1.val.cell? ⟨w.heap.size, 0, none⟩ = q at q_
  first | (have q2_ : q = some _ := q_; subst q2_) | (simp [go_sem] at q_; have q2_ : q = some _ := q_; subst q2_) | (simp [go_sem, *] at q_; have q2_ : q = some _ := q_; subst q2_)
  have q_ := x1.zq (w.heap.size) 0
  generalize z_x1_0_0 : x1.val.frozen? ⟨w.heap.size, 0, none⟩ = q at q_
  first | (have q2_ : q = false := q_; subst q2_) | (simp [go_sem] at q_; have q2_ : q = false := q_; subst q2_) | (simp [go_sem, *] at q_; have q2_ : q = false := q_; subst q2_)
  have q_ := x1.cq (w.heap.size) 1
  generalize c_x1_0_1 : x1.val.cell? ⟨w.heap.size, 1, none⟩ = q at q_
  first | (have q2_ : q = some _ := q_; subst q2_) | (simp [go_sem] at q_; have q2_ : q = some _ := q_; subst q2_) | (simp [go_sem, *] at q_; have q2_ : q = some _ := q_; subst q2_)
  have q_ := x1.zq (w.heap.size) 1
  generalize z_x1_0_1 : x1.val.frozen? ⟨w.heap.size, 1, none⟩ = q at q_
  first | (have q2_ : q = false := q_; subst q2_) | (simp [go_sem] at q_; have q2_ : q = false := q_; subst q2_) | (simp [go_sem, *] at q_; have q2_ : q = false := q_; subst q2_)
  have l_x1_1 : (w.heap.size+1) < x1.val.heap.size := by omega
  have m_x1_1 : (w.heap.size+1) < x1.val.heap.size + 1 := by omega
  have q_ := x1.cq ((w.heap.size+1)) 0
  generalize c_x1_1_0 : x1.val.cell? ⟨(w.heap.size+1), 0, none⟩ = q at q_
  first | (have q2_ : q = some _ := q_; subst q2_) | (simp [go_sem] at q_; have q2_ : q = some _ := q_; subst q2_) | (simp [go_sem, *] at q_; have q2_ : q = some _ := q_; subst q2_)
  have q_ := x1.zq ((w.heap.size+1)) 0
  generalize z_x1_1_0 : x1.val.frozen? ⟨(w.heap.size+1), 0, none⟩ = q at q_
  first | (have q2_ : q = false := q_; subst q2_) | (simp [go_sem] at q_; have q2_ : q = false := q_; subst q2_) | (simp [go_sem, *] at q_; have q2_ : q = false := q_; subst q2_)
  have q_ := x1.cq ((w.heap.size+1)) 1
  generalize c_x1_1_1 : x1.val.cell? ⟨(w.heap.size+1), 1, none⟩ = q at q_
  first | (have q2_ : q = some _ := q_; subst q2_) | (simp [go_sem] at q_; have q2_ : q = some _ := q_; subst q2_) | (simp [go_sem, *] at q_; have q2_ : q = some _ := q_; subst q2_)
  have q_ := x1.zq ((w.heap.size+1)) 1
  generalize z_x1_1_1 : x1.val.frozen? ⟨(w.heap.size+1), 1, none⟩ = q at q_
  first | (have q2_ : q = false := q_; subst q2_) | (simp [go_sem] at q_; have q2_ : q = false := q_; subst q2_) | (simp [go_sem, *] at q_; have q2_ : q = false := q_; subst q2_)
  have M2 := Lib.hid (show MapIs x1.val (w.heap.size + 1 + 1) unE 18 by simpa using M1.out)
  have lM : w.heap.size + 1 + 1 < x1.val.heap.size := M2.out.lt
  go_wp2_with (first | (refine wpList_look rfl 75 (.tmp 15) (.tmp 16) rfl (w.heap.size + 1 + 1) (.string a) (.agg #[.string ba, .int .i64 (na : Int), .int .i64 (da : Int)]) _ rfl rfl (LA.out _ _ M2.out) ?_) | (refine wpList_look rfl 75 (.tmp 21) (.tmp 22) rfl (w.heap.size + 1 + 1) (.string b) (.agg #[.string bb, .int .i64 (nb : Int), .int .i64 (db : Int)]) _ rfl rfl (LB.out _ _ (M2.out.to (bel_alloc (Below.refl _ _) _))) ?_))
  refine bodyPost_ret (v := .tuple #[dcV 0 0, .bool false]) (by simp [results, Try.results21, go_sem, *]) rfl ⟨rfl, belo⟩
 by_cases c : ba = bb
 ·have e1 : decV (Vd.times ⟨n, d⟩ num den) = rv := by rw [← RV.out, if_pos (by simp [c])]
  have hS : (ba.toList == bb.toList) = true := str_eq c
  clear RV c
  cases hT : Vd.times ⟨n, d⟩ num den with
  | none =>
   rw [hT] at TM e1
   subst e1
   have TN := Lib.hid (fun w => (show Calls Try.prog 41 #[dcV n d, .int .i64 (num : Int), .int .i64 (den : Int)] w fun e w' => e = .returned (.tuple #[.agg #[.int .i64 0, .int .u8 0], .bool false]) ∧ Below w.heap.size w w' from TM.out w))
   clear hT
   go_enter Try.func21, Try.ntmps21
   go_wp2_with fail
   (with_reducible refine (known_map _).mono ?_)
   rintro e_ w_ ⟨rfl, M1, hb1⟩
   obtain ⟨x1, rfl⟩ := later_is hb1
   replace M1 := Lib.hid M1
   clear hb1
   have hz_x1 := x1.bel.size
   try simp at hz_x1
   have hz_x1 := x1.bel.size
   try simp at hz_x1
   have l_x1_0 : w.heap.size < x1.val.heap.size := by omega
   have m_x1_0 : w.heap.size < x1.val.heap.size + 1 := by omega
   have q_ := x1.cq (w.heap.size) 0
   generalize c_x1_0_0 : x1.val.cell? ⟨w.heap.size, 0, none⟩ = q at q_
   first | (have q2_ : q = some _ := q_; subst q2_) | (simp [go_sem] at q_; have q2_ : q = some _ := q_; subst q2_) | (simp [go_sem, *] at q_; have q2_ : q = some _ := q_; subst q2_)
   have q_ := x1.zq (w.heap.size) 0
   generalize z_x1_0_0 : x1.val.frozen? ⟨w.heap.size, 0, none⟩ = q at q_
   first | (have q2_ : q = false := q_; subst q2_) | (simp [go_sem] at q_; have q2_ : q = false := q_; subst q2_) | (simp [go_sem, *] at q_; have q2_ : q = false := q_; subst q2_)
   have q_ := x1.cq (w.heap.size) 1
   generalize c_x1_0_1 : x1.val.cell? ⟨w.heap.size, 1, none⟩ = q at q_
   first | (have q2_ : q = some _ := q_; subst q2_) | (simp [go_sem] at q_; have q2_ : q = some _ := q_; subst q2_) | (simp [go_sem, *] at q_; have q2_ : q = some _ := q_; subst q2_)
   have q_ := x1.zq (w.heap.size) 1
   generalize z_x1_0_1 : x1.val.frozen? ⟨w.heap.size, 1, none⟩ = q at q_
   first | (have q2_ : q = false := q_; subst q2_) | (simp [go_sem] at q_; have q2_ : q = false := q_; subst q2_) | (simp [go_sem, *] at q_; have q2_ : q = false := q_; subst q2_)
   have l_x1_1 : (w.heap.size+1) < x1.val.heap.size := by omega
   have m_x1_1 : (w.heap.size+1) < x1.val.heap.size + 1 := by omega
   have q_ := x1.cq ((w.heap.size+1)) 0
   generalize c_x1_1_0 : x1.val.cell? ⟨(w.heap.size+1), 0, none⟩ = q at q_
   first | (have q2_ : q = some _ := q_; subst q2_) | (simp [go_sem] at q_; have q2_ : q = some _ := q_; subst q2_) | (simp [go_sem, *] at q_; have q2_ : q = some _ := q_; subst q2_)
   have q_ := x1.zq ((w.heap.size+1)) 0
   generalize z_x1_1_0 : x1.val.frozen? ⟨(w.heap.size+1), 0, none⟩ = q at q_
   first | (have q2_ : q = false := q_; subst q2_) | (simp [go_sem] at q_; have q2_ : q = false := q_; subst q2_) | (simp [go_sem, *] at q_; have q2_ : q = false := q_; subst q2_)
   have q_ := x1.cq ((w.heap.size+1)) 1
   generalize c_x1_1_1 : x1.val.cell? ⟨(w.heap.size+1), 1, none⟩ = q at q_
   first | (have q2_ : q = some _ := q_; subst q2_) | (simp [go_sem] at q_; have q2_ : q = some _ := q_; subst q2_) | (simp [go_sem, *] at q_; have q2_ : q = some _ := q_; subst q2_)
   have q_ := x1.zq ((w.heap.size+1)) 1
   generalize z_x1_1_1 : x1.val.frozen? ⟨(w.heap.size+1), 1, none⟩ = q at q_
   first | (have q2_ : q = false := q_; subst q2_) | (simp [go_sem] at q_; have q2_ : q = false := q_; subst q2_) | (simp [go_sem, *] at q_; have q2_ : q = false := q_; subst q2_)
   have M2 := Lib.hid (show MapIs x1.val (w.heap.size + 1 + 1) unE 18 by simpa using M1.out)
   have lM : w.heap.size + 1 + 1 < x1.val.heap.size := M2.out.lt
   go_wp2_with (first | (refine wpList_look rfl 75 (.tmp 15) (.tmp 16) rfl (w.heap.size + 1 + 1) (.string a) (.agg #[.string ba, .int .i64 (na : Int), .int .i64 (da : Int)]) _ rfl rfl (LA.out _ _ M2.out) ?_) | (refine wpList_look rfl 75 (.tmp 21) (.tmp 22) rfl (w.heap.size + 1 + 1) (.string b) (.agg #[.string bb, .int .i64 (nb : Int), .int .i64 (db : Int)]) _ rfl rfl (LB.out _ _ (M2.out.to (bel_alloc (Below.refl _ _) _))) ?_))
   go_wp2_with fail
   with_reducible refine (TN.out _).mono ?_
   rintro e_x2 w_x2 ⟨rfl, hb_x2⟩
   obtain ⟨x2, rfl⟩ := later_is hb_x2
   clear hb_x2
   have hz_x2 := x2.bel.size
   try simp at hz_x2
   replace c_x1_0_0 := x2.carry c_x1_0_0
   replace c_x1_0_1 := x2.carry c_x1_0_1
   replace c_x1_1_0 := x2.carry c_x1_1_0
   replace c_x1_1_1 := x2.carry c_x1_1_1
   have lc_x2_0 : w.heap.size < x2.val.heap.size := by omega
   have mc_x2_0 : w.heap.size < x2.val.heap.size + 1 := by omega
   have lc_x2_1 : (w.heap.size+1) < x2.val.heap.size := by omega
   have mc_x2_1 : (w.heap.size+1) < x2.val.heap.size + 1 := by omega
   go_wp2
   refine bodyPost_ret (v := .tuple #[dcV 0 0, .bool false]) (by simp [results, Try.results21, go_sem, *]) rfl ⟨rfl, belo⟩
  | some r =>
   obtain ⟨n', d'⟩ := r
   rw [hT] at TM e1
   subst e1
   have TN := Lib.hid (fun w => (show Calls Try.prog 41 #[dcV n d, .int .i64 (num : Int), .int .i64 (den : Int)] w fun e w' => e = .returned (.tuple #[.agg #[.int .i64 n', .int .u8 (d' : Int)], .bool true]) ∧ Below w.heap.size w w' from TM.out w))
   clear hT
   go_enter Try.func21, Try.ntmps21
   go_wp2_with fail
   (with_reducible refine (known_map _).mono ?_)
   rintro e_ w_ ⟨rfl, M1, hb1⟩
   obtain ⟨x1, rfl⟩ := later_is hb1
   replace M1 := Lib.hid M1
   clear hb1
   have hz_x1 := x1.bel.size
   try simp at hz_x1
   have hz_x1 := x1.bel.size
   try simp at hz_x1
   have l_x1_0 : w.heap.size < x1.val.heap.size := by omega
   have m_x1_0 : w.heap.size < x1.val.heap.size + 1 := by omega
   have q_ := x1.cq (w.heap.size) 0
   generalize c_x1_0_0 : x1.val.cell? ⟨w.heap.size, 0, none⟩ = q at q_
   first | (have q2_ : q = some _ := q_; subst q2_) | (simp [go_sem] at q_; have q2_ : q = some _ := q_; subst q2_) | (simp [go_sem, *] at q_; have q2_ : q = some _ := q_; subst q2_)
   have q_ := x1.zq (w.heap.size) 0
   generalize z_x1_0_0 : x1.val.frozen? ⟨w.heap.size, 0, none⟩ = q at q_
   first | (have q2_ : q = false := q_; subst q2_) | (simp [go_sem] at q_; have q2_ : q = false := q_; subst q2_) | (simp [go_sem, *] at q_; have q2_ : q = false := q_; subst q2_)
   have q_ := x1.cq (w.heap.size) 1
   generalize c_x1_0_1 : x1.val.cell? ⟨w.heap.size, 1, none⟩ = q at q_
   first | (have q2_ : q = some _ := q_; subst q2_) | (simp [go_sem] at q_; have q2_ : q = some _ := q_; subst q2_) | (simp [go_sem, *] at q_; have q2_ : q = some _ := q_; subst q2_)
   have q_ := x1.zq (w.heap.size) 1
   generalize z_x1_0_1 : x1.val.frozen? ⟨w.heap.size, 1, none⟩ = q at q_
   first | (have q2_ : q = false := q_; subst q2_) | (simp [go_sem] at q_; have q2_ : q = false := q_; subst q2_) | (simp [go_sem, *] at q_; have q2_ : q = false := q_; subst q2_)
   have l_x1_1 : (w.heap.size+1) < x1.val.heap.size := by omega
   have m_x1_1 : (w.heap.size+1) < x1.val.heap.size + 1 := by omega
   have q_ := x1.cq ((w.heap.size+1)) 0
   generalize c_x1_1_0 : x1.val.cell? ⟨(w.heap.size+1), 0, none⟩ = q at q_
   first | (have q2_ : q = some _ := q_; subst q2_) | (simp [go_sem] at q_; have q2_ : q = some _ := q_; subst q2_) | (simp [go_sem, *] at q_; have q2_ : q = some _ := q_; subst q2_)
   have q_ := x1.zq ((w.heap.size+1)) 0
   generalize z_x1_1_0 : x1.val.frozen? ⟨(w.heap.size+1), 0, none⟩ = q at q_
   first | (have q2_ : q = false := q_; subst q2_) | (simp [go_sem] at q_; have q2_ : q = false := q_; subst q2_) | (simp [go_sem, *] at q_; have q2_ : q = false := q_; subst q2_)
   have q_ := x1.cq ((w.heap.size+1)) 1
   generalize c_x1_1_1 : x1.val.cell? ⟨(w.heap.size+1), 1, none⟩ = q at q_
   first | (have q2_ : q = some _ := q_; subst q2_) | (simp [go_sem] at q_; have q2_ : q = some _ := q_; subst q2_) | (simp [go_sem, *] at q_; have q2_ : q = some _ := q_; subst q2_)
   have q_ := x1.zq ((w.heap.size+1)) 1
   generalize z_x1_1_1 : x1.val.frozen? ⟨(w.heap.size+1), 1, none⟩ = q at q_
   first | (have q2_ : q = false := q_; subst q2_) | (simp [go_sem] at q_; have q2_ : q = false := q_; subst q2_) | (simp [go_sem, *] at q_; have q2_ : q = false := q_; subst q2_)
   have M2 := Lib.hid (show MapIs x1.val (w.heap.size + 1 + 1) unE 18 by simpa using M1.out)
   have lM : w.heap.size + 1 + 1 < x1.val.heap.size := M2.out.lt
   go_wp2_with (first | (refine wpList_look rfl 75 (.tmp 15) (.tmp 16) rfl (w.heap.size + 1 + 1) (.string a) (.agg #[.string ba, .int .i64 (na : Int), .int .i64 (da : Int)]) _ rfl rfl (LA.out _ _ M2.out) ?_) | (refine wpList_look rfl 75 (.tmp 21) (.tmp 22) rfl (w.heap.size + 1 + 1) (.string b) (.agg #[.string bb, .int .i64 (nb : Int), .int .i64 (db : Int)]) _ rfl rfl (LB.out _ _ (M2.out.to (bel_alloc (Below.refl _ _) _))) ?_))
   go_wp2_with fail
   with_reducible refine (TN.out _).mono ?_
   rintro e_x2 w_x2 ⟨rfl, hb_x2⟩
   obtain ⟨x2, rfl⟩ := later_is hb_x2
   clear hb_x2
   have hz_x2 := x2.bel.size
   try simp at hz_x2
   replace c_x1_0_0 := x2.carry c_x1_0_0
   replace c_x1_0_1 := x2.carry c_x1_0_1
   replace c_x1_1_0 := x2.carry c_x1_1_0
   replace c_x1_1_1 := x2.carry c_x1_1_1
   have lc_x2_0 : w.heap.size < x2.val.heap.size := by omega
   have mc_x2_0 : w.heap.size < x2.val.heap.size + 1 := by omega
   have lc_x2_1 : (w.heap.size+1) < x2.val.heap.size := by omega
   have mc_x2_1 : (w.heap.size+1) < x2.val.heap.size + 1 := by omega
   go_wp2
   refine bodyPost_ret (v := .tuple #[dcV n' d', .bool true]) (by simp [results, Try.results21, go_sem, *]) rfl ⟨rfl, belo⟩
 ·obtain rfl : decV none = rv := by rw [← RV.out, if_neg (by simp [c])]
  have hS : (ba.toList == bb.toList) = false := str_ne c
  clear RV c
  go_enter Try.func21, Try.ntmps21
  go_wp2_with fail
  (with_reducible refine (known_map _).mono ?_)
  rintro e_ w_ ⟨rfl, M1, hb1⟩
  obtain ⟨x1, rfl⟩ := later_is hb1
  replace M1 := Lib.hid M1
  clear hb1
  have hz_x1 := x1.bel.size
  try simp at hz_x1
  have hz_x1 := x1.bel.size
  try simp at hz_x1
  have l_x1_0 : w.heap.size < x1.val.heap.size := by omega
  have m_x1_0 : w.heap.size < x1.val.heap.size + 1 := by omega
  have q_ := x1.cq (w.heap.size) 0
  generalize c_x1_0_0 : x1.val.cell? ⟨w.heap.size, 0, none⟩ = q at q_
  first | (have q2_ : q = some _ := q_; subst q2_) | (simp [go_sem] at q_; have q2_ : q = some _ := q_; subst q2_) | (simp [go_sem, *] at q_; have q2_ : q = some _ := q_; subst q2_)
  have q_ := x1.zq (w.heap.size) 0
  generalize z_x1_0_0 : x1.val.frozen? ⟨w.heap.size, 0, none⟩ = q at q_
  first | (have q2_ : q = false := q_; subst q2_) | (simp [go_sem] at q_; have q2_ : q = false := q_; subst q2_) | (simp [go_sem, *] at q_; have q2_ : q = false := q_; subst q2_)
  have q_ := x1.cq (w.heap.size) 1
  generalize c_x1_0_1 : x1.val.cell? ⟨w.heap.size, 1, none⟩ = q at q_
  first | (have q2_ : q = some _ := q_; subst q2_) | (simp [go_sem] at q_; have q2_ : q = some _ := q_; subst q2_) | (simp [go_sem, *] at q_; have q2_ : q = some _ := q_; subst q2_)
  have q_ := x1.zq (w.heap.size) 1
  generalize z_x1_0_1 : x1.val.frozen? ⟨w.heap.size, 1, none⟩ = q at q_
  first | (have q2_ : q = false := q_; subst q2_) | (simp [go_sem] at q_; have q2_ : q = false := q_; subst q2_) | (simp [go_sem, *] at q_; have q2_ : q = false := q_; subst q2_)
  have l_x1_1 : (w.heap.size+1) < x1.val.heap.size := by omega
  have m_x1_1 : (w.heap.size+1) < x1.val.heap.size + 1 := by omega
  have q_ := x1.cq ((w.heap.size+1)) 0
  generalize c_x1_1_0 : x1.val.cell? ⟨(w.heap.size+1), 0, none⟩ = q at q_
  first | (have q2_ : q = some _ := q_; subst q2_) | (simp [go_sem] at q_; have q2_ : q = some _ := q_; subst q2_) | (simp [go_sem, *] at q_; have q2_ : q = some _ := q_; subst q2_)
  have q_ := x1.zq ((w.heap.size+1)) 0
  generalize z_x1_1_0 : x1.val.frozen? ⟨(w.heap.size+1), 0, none⟩ = q at q_
  first | (have q2_ : q = false := q_; subst q2_) | (simp [go_sem] at q_; have q2_ : q = false := q_; subst q2_) | (simp [go_sem, *] at q_; have q2_ : q = false := q_; subst q2_)
  have q_ := x1.cq ((w.heap.size+1)) 1
  generalize c_x1_1_1 : x1.val.cell? ⟨(w.heap.size+1), 1, none⟩ = q at q_
  first | (have q2_ : q = some _ := q_; subst q2_) | (simp [go_sem] at q_; have q2_ : q = some _ := q_; subst q2_) | (simp [go_sem, *] at q_; have q2_ : q = some _ := q_; subst q2_)
  have q_ := x1.zq ((w.heap.size+1)) 1
  generalize z_x1_1_1 : x1.val.frozen? ⟨(w.heap.size+1), 1, none⟩ = q at q_
  first | (have q2_ : q = false := q_; subst q2_) | (simp [go_sem] at q_; have q2_ : q = false := q_; subst q2_) | (simp [go_sem, *] at q_; have q2_ : q = false := q_; subst q2_)
  have M2 := Lib.hid (show MapIs x1.val (w.heap.size + 1 + 1) unE 18 by simpa using M1.out)
  have lM : w.heap.size + 1 + 1 < x1.val.heap.size := M2.out.lt
  go_wp2_with (first | (refine wpList_look rfl 75 (.tmp 15) (.tmp 16) rfl (w.heap.size + 1 + 1) (.string a) (.agg #[.string ba, .int .i64 (na : Int), .int .i64 (da : Int)]) _ rfl rfl (LA.out _ _ M2.out) ?_) | (refine wpList_look rfl 75 (.tmp 21) (.tmp 22) rfl (w.heap.size + 1 + 1) (.string b) (.agg #[.string bb, .int .i64 (nb : Int), .int .i64 (db : Int)]) _ rfl rfl (LB.out _ _ (M2.out.to (bel_alloc (Below.refl _ _) _))) ?_))
  refine bodyPost_ret (v := .tuple #[dcV 0 0, .bool false]) (by simp [results, Try.results21, go_sem, *]) rfl ⟨rfl, belo⟩
/-- a value in another unit -/
theorem to_any (n : Int) (d : Nat) (a b : ByteArray) (w : World) (h1 : Dc.Fit ⟨n, d⟩) :
  Calls Try.prog 21 #[dcV n d, .string a, .string b] w fun e w' => e = .returned (decV (Vd.to_ ⟨n, d⟩ a b)) ∧ Below w.heap.size w w' := by
 unfold Vd.to_
 cases ha : Vd.known a with
 | none =>
  obtain ⟨bb, hbb⟩ : ∃ x, (Vd.known b).getD un0 = x := ⟨_, rfl⟩
  by_cases hz : bb.num = 0 ∨ bb.den = 0 ∨ True
  ·exact to_walk n d a b w h1 ⟨#[]⟩ 0 0 false bb.base bb.num bb.den (Vd.known b).isSome ⟨by rw [ha]; rfl, by rw [ha]; rfl⟩ ⟨rfl, hbb⟩ 0 0 (by simp) (by simp) (by decide) (by decide) _ rfl
  ·exact absurd (.inr (.inr trivial)) hz
 | some u =>
  obtain ⟨a1, a2, a3, a4⟩ := known_bound ha
  cases hb : Vd.known b with
  | none => exact to_walk n d a b w h1 u.base u.num u.den true ⟨#[]⟩ 0 0 false ⟨by rw [ha]; rfl, by rw [ha]; rfl⟩ ⟨by rw [hb]; rfl, by rw [hb]; rfl⟩ 0 0 (by simp) (by simp) (by decide) (by decide) _ rfl
  | some v =>
   obtain ⟨b1, b2, b3, b4⟩ := known_bound hb
   have p1 : u.num * v.den ≤ 3600 * 1000 := Nat.mul_le_mul a2 b4
   have p2 : u.den * v.num ≤ 1000 * 3600 := Nat.mul_le_mul a4 b2
   have := to_walk n d a b w h1 u.base u.num u.den true v.base v.num v.den true ⟨by rw [ha]; rfl, by rw [ha]; rfl⟩ ⟨by rw [hb]; rfl, by rw [hb]; rfl⟩ (u.num * v.den) (u.den * v.num) rfl rfl (by omega) (by omega) _ rfl
   simpa using this
/-- what Known answers -/
def unV2 (s : ByteArray) : Value := .tuple #[unV ((Vd.known s).getD un0), .bool (Vd.known s).isSome]
set_option maxHeartbeats 1000000 in
set_option maxRecDepth 100000 in
theorem known_any (s : ByteArray) (w : World) : Calls Try.prog 57 #[.string s] w fun e w' => e = .returned (unV2 s) ∧ Below w.heap.size w w' := by
 unfold unV2
 obtain ⟨u, hu⟩ : ∃ u, (Vd.known s).getD un0 = u := ⟨_, rfl⟩
 obtain ⟨ok, hok⟩ : ∃ u, (Vd.known s).isSome = u := ⟨_, rfl⟩
 obtain ⟨b, n, d⟩ := u
 have LA := Lib.hid (fun (w : World) (g : Nat) (hM : MapIs w g unE 18) => unit_look_at (s := s) (.string b) (.int .i64 (n : Int)) (.int .i64 (d : Int)) ok (by rw [hu]) hok hM)
 rw [hu, hok]
 clear hu hok
 go_enter Try.func57, Try.ntmps57
 go_wp2_with fail
 (with_reducible refine (known_map _).mono ?_)
 rintro e_ w_ ⟨rfl, M1, hb1⟩
 obtain ⟨x1, rfl⟩ := later_is hb1
 replace M1 := Lib.hid M1
 clear hb1
 have hz_x1 := x1.bel.size
 try simp at hz_x1
 have hz_x1 := x1.bel.size
 try simp at hz_x1
 have l_x1_0 : w.heap.size < x1.val.heap.size := by omega
 have m_x1_0 : w.heap.size < x1.val.heap.size + 1 := by omega
 have q_ := x1.cq (w.heap.size) 0
 generalize c_x1_0_0 : x1.val.cell? ⟨w.heap.size, 0, none⟩ = q at q_
 first | (have q2_ : q = some _ := q_; subst q2_) | (simp [go_sem] at q_; have q2_ : q = some _ := q_; subst q2_) | (simp [go_sem, *] at q_; have q2_ : q = some _ := q_; subst q2_)
 have q_ := x1.zq (w.heap.size) 0
 generalize z_x1_0_0 : x1.val.frozen? ⟨w.heap.size, 0, none⟩ = q at q_
 first | (have q2_ : q = false := q_; subst q2_) | (simp [go_sem] at q_; have q2_ : q = false := q_; subst q2_) | (simp [go_sem, *] at q_; have q2_ : q = false := q_; subst q2_)
 have q_ := x1.cq (w.heap.size) 1
 generalize c_x1_0_1 : x1.val.cell? ⟨w.heap.size, 1, none⟩ = q at q_
 first | (have q2_ : q = some _ := q_; subst q2_) | (simp [go_sem] at q_; have q2_ : q = some _ := q_; subst q2_) | (simp [go_sem, *] at q_; have q2_ : q = some _ := q_; subst q2_)
 have q_ := x1.zq (w.heap.size) 1
 generalize z_x1_0_1 : x1.val.frozen? ⟨w.heap.size, 1, none⟩ = q at q_
 first | (have q2_ : q = false := q_; subst q2_) | (simp [go_sem] at q_; have q2_ : q = false := q_; subst q2_) | (simp [go_sem, *] at q_; have q2_ : q = false := q_; subst q2_)
 have q_ := x1.cq (w.heap.size) 2
 generalize c_x1_0_2 : x1.val.cell? ⟨w.heap.size, 2, none⟩ = q at q_
 first | (have q2_ : q = some _ := q_; subst q2_) | (simp [go_sem] at q_; have q2_ : q = some _ := q_; subst q2_) | (simp [go_sem, *] at q_; have q2_ : q = some _ := q_; subst q2_)
 have q_ := x1.zq (w.heap.size) 2
 generalize z_x1_0_2 : x1.val.frozen? ⟨w.heap.size, 2, none⟩ = q at q_
 first | (have q2_ : q = false := q_; subst q2_) | (simp [go_sem] at q_; have q2_ : q = false := q_; subst q2_) | (simp [go_sem, *] at q_; have q2_ : q = false := q_; subst q2_)
 have M2 := Lib.hid (show MapIs x1.val (w.heap.size + 1) unE 18 by simpa using M1.out)
 have lM : w.heap.size + 1 < x1.val.heap.size := M2.out.lt
 go_wp2_with (first | (refine wpList_look rfl 75 (.tmp 7) (.tmp 8) rfl (w.heap.size + 1) (.string s) (.agg #[.string b, .int .i64 (n : Int), .int .i64 (d : Int)]) ok rfl rfl (LA.out _ _ M2.out) ?_))
 refine bodyPost_ret (v := .tuple #[.agg #[.string b, .int .i64 (n : Int), .int .i64 (d : Int)], .bool ok]) (by simp [results, Try.results57, go_sem, *]) rfl ⟨rfl, belo⟩
end Go.Proofs.Ythhokpaidekmnaa
