/- Layer 15: valid.Find, point, Word. -/
import Derived.Test.YthhokpaidekmnaaVdPt
namespace Go.Proofs.Ythhokpaidekmnaa
open Go.RowKit
set_option linter.unusedVariables false
set_option linter.unusedSimpArgs false
set_option maxRecDepth 100000
attribute [local go_sem] Later.cell Later.frozen setCell_twice
/-- the first that has a name -/
def firstAt {α : Type} (f : α → ByteArray) (s : ByteArray) : List α → Option Nat
 | [] => none
 | a :: l => if f a = s then some 0 else (firstAt f s l).map (· + 1)
theorem firstAt_none {α : Type} {f : α → ByteArray} {s : ByteArray} : ∀ {l : List α}, (∀ a ∈ l, f a ≠ s) → firstAt f s l = none
 | [], _ => rfl
 | a :: l, h => by rw [firstAt, if_neg (h a (.head _)), firstAt_none (fun b hb => h b (.tail _ hb))]; rfl
theorem firstAt_some {α : Type} {f : α → ByteArray} {s : ByteArray} : ∀ {l : List α} {j : Nat} {a : α}, l[j]? = some a → f a = s → (∀ b ∈ l.take j, f b ≠ s) → firstAt f s l = some j
 | [], j, a, h, _, _ => by simp at h
 | b :: l, 0, a, h, hf, _ => by
  obtain rfl : b = a := by simpa using h
  rw [firstAt, if_pos hf]
 | b :: l, j + 1, a, h, hf, hn => by
  rw [firstAt, if_neg (hn b (by simp)), firstAt_some (l := l) (j := j) (by simpa using h) hf (fun c hc => hn c (by simp [hc]))]
  rfl
theorem firstAt_is {α : Type} {f : α → ByteArray} {s : ByteArray} : ∀ {l : List α} {j : Nat}, firstAt f s l = some j → ∃ a, l[j]? = some a ∧ f a = s
 | [], j, h => by cases h
 | b :: l, j, h => by
  rw [firstAt] at h
  split at h
  ·rename_i hb
   obtain rfl : 0 = j := by simpa using h
   exact ⟨b, rfl, hb⟩
  ·cases hk : firstAt f s l with
   | none => rw [hk] at h; cases h
   | some k =>
    rw [hk] at h
    obtain rfl : k + 1 = j := by simpa using h
    obtain ⟨a, ha, hf⟩ := firstAt_is hk
    exact ⟨a, by simpa using ha, hf⟩
theorem take_not {α : Type} {l : List α} {f : α → ByteArray} {s : ByteArray} {j : Nat} {c : α} (h : ∀ b ∈ l.take j, f b ≠ s) (hc : l[j]? = some c) (hp : f c ≠ s) : ∀ b ∈ l.take (j + 1), f b ≠ s := fun b hb => by
 rw [List.take_add_one, hc] at hb
 rcases List.mem_append.1 hb with hb | hb
 ·exact h b hb
 ·obtain rfl : b = c := by simpa using hb
  exact hp
/-- a place, or none -/
def atV : Option Nat → Value
 | some j => .tuple #[.int .i64 (j : Int), .bool true]
 | none => .tuple #[.int .i64 0, .bool false]
set_option maxHeartbeats 1000000 in
theorem find_any (s : ByteArray) (A : Option Addr) (l : List Dv) (n c : Nat) (w : World) (hn : l.length = n) (h : Tab w w.heap.size A l) (hs : Shp A n c) :
  Calls Try.prog 14 #[.slice A n c, .string s] w fun e w' => e = .returned (atV (firstAt Dv.name s l)) ∧ Below w.heap.size w w' := by
 have HN := Lib.hid hn
 have HH := Lib.hid h
 have hcap : n ≤ 9223372036854775807 := Nat.le_trans hs.le hs.cap
 obtain ⟨rv, hrv⟩ : ∃ rv, firstAt Dv.name s l = rv := ⟨_, rfl⟩
 rw [hrv]
 have RV := Lib.hid hrv
 clear hn h hs hrv
 go_enter Try.func14, Try.ntmps14
 go_wp2
 go_loopw [10] (fun x wr => ∃ j : Nat, j ≤ n ∧ Hid (∀ b ∈ l.take j, b.name ≠ s) ∧ x = .int .i64 (j : Int) ∧ Below w.heap.size w wr) (fun i _ => n - (RowKit.intOf i).toNat)
 case atStart => exact ⟨0, by omega, Lib.hid (by simp), rfl, belo⟩
 case round =>
  rename World => wr
  obtain ⟨j, hj, HA, rfl, hbe⟩ := hrel
  by_cases hlt : j < n
  rotate_left
  ·obtain rfl : j = n := by omega
   obtain rfl : none = rv := by
    rw [← RV.out, firstAt_none]
    have := HA.out
    rwa [← HN.out, List.take_length] at this
   clear hlt hj
   go_wp2
   go_ret2
   exact ⟨rfl, belo⟩
  have hltI : (j : Int) < (n : Int) := by omega
  obtain ⟨g1, o1, d, rfl, hg, hd, hok, c0, c1⟩ := (HH.out.to hbe).at_ (k := j) (by rw [HN.out]; exact hlt)
  have hgl : g1 < wr.heap.size := hg
  obtain ⟨dn, pts, PA, pc⟩ := d
  have HD := Lib.hid hd
  dsimp only at c0 c1
  obtain ⟨m, hm⟩ : ∃ m, pts.length = m := ⟨_, rfl⟩
  rw [hm] at c1
  clear hd hok hg hm
  by_cases he : dn = s
  ·have e1 : (dn.toList == s.toList) = true := str_eq he
   obtain rfl : some j = rv := by rw [← RV.out, firstAt_some HD.out he HA.out]
   clear he RV
   go_wp2
   go_ret2
   exact ⟨rfl, belo⟩
  ·have e1 : (dn.toList == s.toList) = false := str_ne he
   have HA2 := Lib.hid (take_not HA.out HD.out he)
   clear he
   go_wp2
   go_roundw
   case rel => exact ⟨j + 1, by omega, HA2, by go_num, belo⟩
   case measure => simp [RowKit.intOf]; omega
abbrev pt0 : Pt := ⟨⟨#[]⟩, 0, 0, false, ⟨0, 0⟩, ⟨0, 0⟩, ⟨#[]⟩⟩
abbrev ptV (p : Pt) : Value := .agg #[.string p.name, .int .i64 p.at_, .int .i64 p.digits, .bool p.signed, .int .i64 p.low.n, .int .u8 (p.low.d : Int), .int .i64 p.high.n, .int .u8 (p.high.d : Int), .string p.unit]
abbrev stV (s : St) : Value := .agg #[.string s.point, .int .i64 s.value.n, .int .u8 (s.value.d : Int), .string s.unit, .int .i64 s.line]
/-- the first point of a name -/
def Vd.point (l : List Pt) (s : ByteArray) : Option Pt := (firstAt Pt.name s l).bind (l[·]?)
def ptV2 : Option Pt → Value
 | some p => .tuple #[ptV p, .bool true]
 | none => .tuple #[ptV pt0, .bool false]
set_option maxHeartbeats 2000000 in
theorem point_any (s nm : ByteArray) (A : Option Addr) (l : List Pt) (n c : Nat) (w : World) (hn : l.length = n) (h : Recs ptF 9 w w.heap.size A l) (hs : Shp A n c) :
  Calls Try.prog 32 #[.agg #[.string nm, .slice A n c], .string s] w fun e w' => e = .returned (ptV2 (Vd.point l s)) ∧ Below w.heap.size w w' := by
 have HN := Lib.hid hn
 have HH := Lib.hid h
 have hcap : n ≤ 9223372036854775807 := Nat.le_trans hs.le hs.cap
 obtain ⟨rv, hrv⟩ : ∃ rv, Vd.point l s = rv := ⟨_, rfl⟩
 rw [hrv]
 have RV := Lib.hid hrv
 clear hn h hs hrv
 go_enter Try.func32, Try.ntmps32
 go_wp2
 go_loopw [11] (fun x wr => ∃ j : Nat, j ≤ n ∧ Hid (∀ b ∈ l.take j, b.name ≠ s) ∧ x = .int .i64 (j : Int) ∧ Hid (Below (w.heap.size + 2) ((w.alloc (.cells #[.string nm, .slice A n c] 39)).alloc (.cells #[.string ⟨#[]⟩, .int .i64 0, .int .i64 0, .bool false, .int .i64 0, .int .u8 0, .int .i64 0, .int .u8 0, .string ⟨#[]⟩] 43)) wr)) (fun i _ => n - (RowKit.intOf i).toNat)
 case atStart => exact ⟨0, by omega, Lib.hid (by simp), rfl, Lib.hid (Below.refl _ _)⟩
 case round =>
  rename World => wr
  obtain ⟨j, hj, HA, rfl, HB⟩ := hrel
  obtain ⟨x1, hx1⟩ := later_is HB.out
  have hz_x1 := x1.bel.size
  try simp at hz_x1
  obtain rfl := hx1
  have hz_x1 := x1.bel.size
  try simp at hz_x1
  have l_x1_0 : (w.heap.size+1) < x1.val.heap.size := by omega
  have m_x1_0 : (w.heap.size+1) < x1.val.heap.size + 1 := by omega
  have q_ := x1.cq ((w.heap.size+1)) 0
  generalize c_x1_0_0 : x1.val.cell? ⟨(w.heap.size+1), 0, none⟩ = q at q_
  first | (have q2_ : q = some _ := q_; subst q2_) | (simp [go_sem] at q_; have q2_ : q = some _ := q_; subst q2_) | (simp [go_sem, *] at q_; have q2_ : q = some _ := q_; subst q2_)
  have q_ := x1.zq ((w.heap.size+1)) 0
  generalize z_x1_0_0 : x1.val.frozen? ⟨(w.heap.size+1), 0, none⟩ = q at q_
  first | (have q2_ : q = false := q_; subst q2_) | (simp [go_sem] at q_; have q2_ : q = false := q_; subst q2_) | (simp [go_sem, *] at q_; have q2_ : q = false := q_; subst q2_)
  have q_ := x1.cq ((w.heap.size+1)) 1
  generalize c_x1_0_1 : x1.val.cell? ⟨(w.heap.size+1), 1, none⟩ = q at q_
  first | (have q2_ : q = some _ := q_; subst q2_) | (simp [go_sem] at q_; have q2_ : q = some _ := q_; subst q2_) | (simp [go_sem, *] at q_; have q2_ : q = some _ := q_; subst q2_)
  have q_ := x1.zq ((w.heap.size+1)) 1
  generalize z_x1_0_1 : x1.val.frozen? ⟨(w.heap.size+1), 1, none⟩ = q at q_
  first | (have q2_ : q = false := q_; subst q2_) | (simp [go_sem] at q_; have q2_ : q = false := q_; subst q2_) | (simp [go_sem, *] at q_; have q2_ : q = false := q_; subst q2_)
  have q_ := x1.cq ((w.heap.size+1)) 2
  generalize c_x1_0_2 : x1.val.cell? ⟨(w.heap.size+1), 2, none⟩ = q at q_
  first | (have q2_ : q = some _ := q_; subst q2_) | (simp [go_sem] at q_; have q2_ : q = some _ := q_; subst q2_) | (simp [go_sem, *] at q_; have q2_ : q = some _ := q_; subst q2_)
  have q_ := x1.zq ((w.heap.size+1)) 2
  generalize z_x1_0_2 : x1.val.frozen? ⟨(w.heap.size+1), 2, none⟩ = q at q_
  first | (have q2_ : q = false := q_; subst q2_) | (simp [go_sem] at q_; have q2_ : q = false := q_; subst q2_) | (simp [go_sem, *] at q_; have q2_ : q = false := q_; subst q2_)
  have q_ := x1.cq ((w.heap.size+1)) 3
  generalize c_x1_0_3 : x1.val.cell? ⟨(w.heap.size+1), 3, none⟩ = q at q_
  first | (have q2_ : q = some _ := q_; subst q2_) | (simp [go_sem] at q_; have q2_ : q = some _ := q_; subst q2_) | (simp [go_sem, *] at q_; have q2_ : q = some _ := q_; subst q2_)
  have q_ := x1.zq ((w.heap.size+1)) 3
  generalize z_x1_0_3 : x1.val.frozen? ⟨(w.heap.size+1), 3, none⟩ = q at q_
  first | (have q2_ : q = false := q_; subst q2_) | (simp [go_sem] at q_; have q2_ : q = false := q_; subst q2_) | (simp [go_sem, *] at q_; have q2_ : q = false := q_; subst q2_)
  have q_ := x1.cq ((w.heap.size+1)) 4
  generalize c_x1_0_4 : x1.val.cell? ⟨(w.heap.size+1), 4, none⟩ = q at q_
  first | (have q2_ : q = some _ := q_; subst q2_) | (simp [go_sem] at q_; have q2_ : q = some _ := q_; subst q2_) | (simp [go_sem, *] at q_; have q2_ : q = some _ := q_; subst q2_)
  have q_ := x1.zq ((w.heap.size+1)) 4
  generalize z_x1_0_4 : x1.val.frozen? ⟨(w.heap.size+1), 4, none⟩ = q at q_
  first | (have q2_ : q = false := q_; subst q2_) | (simp [go_sem] at q_; have q2_ : q = false := q_; subst q2_) | (simp [go_sem, *] at q_; have q2_ : q = false := q_; subst q2_)
  have q_ := x1.cq ((w.heap.size+1)) 5
  generalize c_x1_0_5 : x1.val.cell? ⟨(w.heap.size+1), 5, none⟩ = q at q_
  first | (have q2_ : q = some _ := q_; subst q2_) | (simp [go_sem] at q_; have q2_ : q = some _ := q_; subst q2_) | (simp [go_sem, *] at q_; have q2_ : q = some _ := q_; subst q2_)
  have q_ := x1.zq ((w.heap.size+1)) 5
  generalize z_x1_0_5 : x1.val.frozen? ⟨(w.heap.size+1), 5, none⟩ = q at q_
  first | (have q2_ : q = false := q_; subst q2_) | (simp [go_sem] at q_; have q2_ : q = false := q_; subst q2_) | (simp [go_sem, *] at q_; have q2_ : q = false := q_; subst q2_)
  have q_ := x1.cq ((w.heap.size+1)) 6
  generalize c_x1_0_6 : x1.val.cell? ⟨(w.heap.size+1), 6, none⟩ = q at q_
  first | (have q2_ : q = some _ := q_; subst q2_) | (simp [go_sem] at q_; have q2_ : q = some _ := q_; subst q2_) | (simp [go_sem, *] at q_; have q2_ : q = some _ := q_; subst q2_)
  have q_ := x1.zq ((w.heap.size+1)) 6
  generalize z_x1_0_6 : x1.val.frozen? ⟨(w.heap.size+1), 6, none⟩ = q at q_
  first | (have q2_ : q = false := q_; subst q2_) | (simp [go_sem] at q_; have q2_ : q = false := q_; subst q2_) | (simp [go_sem, *] at q_; have q2_ : q = false := q_; subst q2_)
  have q_ := x1.cq ((w.heap.size+1)) 7
  generalize c_x1_0_7 : x1.val.cell? ⟨(w.heap.size+1), 7, none⟩ = q at q_
  first | (have q2_ : q = some _ := q_; subst q2_) | (simp [go_sem] at q_; have q2_ : q = some _ := q_; subst q2_) | (simp [go_sem, *] at q_; have q2_ : q = some _ := q_; subst q2_)
  have q_ := x1.zq ((w.heap.size+1)) 7
  generalize z_x1_0_7 : x1.val.frozen? ⟨(w.heap.size+1), 7, none⟩ = q at q_
  first | (have q2_ : q = false := q_; subst q2_) | (simp [go_sem] at q_; have q2_ : q = false := q_; subst q2_) | (simp [go_sem, *] at q_; have q2_ : q = false := q_; subst q2_)
  have q_ := x1.cq ((w.heap.size+1)) 8
  generalize c_x1_0_8 : x1.val.cell? ⟨(w.heap.size+1), 8, none⟩ = q at q_
  first | (have q2_ : q = some _ := q_; subst q2_) | (simp [go_sem] at q_; have q2_ : q = some _ := q_; subst q2_) | (simp [go_sem, *] at q_; have q2_ : q = some _ := q_; subst q2_)
  have q_ := x1.zq ((w.heap.size+1)) 8
  generalize z_x1_0_8 : x1.val.frozen? ⟨(w.heap.size+1), 8, none⟩ = q at q_
  first | (have q2_ : q = false := q_; subst q2_) | (simp [go_sem] at q_; have q2_ : q = false := q_; subst q2_) | (simp [go_sem, *] at q_; have q2_ : q = false := q_; subst q2_)
  have hbe : Below w.heap.size w x1.val := (bel_alloc (bel_alloc (Below.refl _ _) _) _).trans (x1.bel.mono (by omega))
  by_cases hlt : j < n
  rotate_left
  ·obtain rfl : j = n := by omega
   obtain rfl : none = rv := by
    rw [← RV.out]
    unfold Vd.point
    rw [firstAt_none]
    ·rfl
    ·have := HA.out
     rwa [← HN.out, List.take_length] at this
   clear hlt hj
   go_wp2
   refine bodyPost_ret (v := .tuple #[ptV pt0, .bool false]) (by simp [results, Try.results32, go_sem, *]) rfl ⟨rfl, belo⟩
  have hltI : (j : Int) < (n : Int) := by omega
  obtain ⟨g1, o1, p, rfl, hg, hp, d0, d1, d2, d3, d4, d5, d6, d7, d8⟩ := Pt.at_cells ((HH.out.below hbe).more hbe.size) (k := j) (by rw [HN.out]; exact hlt)
  have hgl : g1 < x1.val.heap.size := hg
  obtain ⟨pn, at_, dg, sg, ⟨ln, ld⟩, ⟨hn, hd⟩, un⟩ := p
  have HP := Lib.hid hp
  dsimp only at d0 d1 d2 d3 d4 d5 d6 d7 d8
  clear hp hg
  by_cases he : pn = s
  ·have e1 : (pn.toList == s.toList) = true := str_eq he
   obtain rfl : some ⟨pn, at_, dg, sg, ⟨ln, ld⟩, ⟨hn, hd⟩, un⟩ = rv := by
    rw [← RV.out]
    unfold Vd.point
    rw [firstAt_some HP.out he HA.out]
    exact HP.out.symm
   clear he RV
   go_wp2
   refine bodyPost_ret (v := .tuple #[ptV ⟨pn, at_, dg, sg, ⟨ln, ld⟩, ⟨hn, hd⟩, un⟩, .bool true]) (by simp [results, Try.results32, go_sem, *]) rfl ⟨rfl, belo⟩
  ·have e1 : (pn.toList == s.toList) = false := str_ne he
   have HA2 := Lib.hid (take_not HA.out HP.out he)
   clear he
   go_wp2
   go_roundw
   case rel => exact ⟨j + 1, by omega, HA2, by go_num, Lib.hid (x1.bel.trans ((bel_alloc (Below.refl _ _) _).mono (by omega)))⟩
   case measure => simp [RowKit.intOf]; omega
/-- the register of a value, or an error -/
def Vd.vword (p : Pt) (s : St) : Nat × Nat :=
 match Vd.to_ s.value s.unit p.unit with
 | none => (0, 152)
 | some d => if Vd.cmp d p.low < 0 ∨ 0 < Vd.cmp d p.high then (0, 153) else
  match Vd.word d p.digits p.signed with
  | none => (0, 153)
  | some r => (r, 0)
theorem strip_right : ∀ (p q : Nat), (Vd.strip q p).2 ≤ p ∧ ((Vd.strip q p).2 = 0 ∨ (Vd.strip q p).1 % 10 ≠ 0)
 | 0, q => by simp [Vd.strip]
 | p + 1, q => by
  by_cases h : q % 10 = 0
  ·rw [strip_step h]
   have := strip_right p (q / 10)
   exact ⟨by omega, this.2⟩
  ·rw [strip_stop (.inr h)]
   exact ⟨Nat.le_refl _, .inr h⟩
theorem ofQ_right {x r : Dc} {q : Nat} (h : Vd.ofQ x q = some r) : Vd.rightD r = true := by
 unfold Vd.ofQ at h
 split at h
 ·cases h
 ·rename_i hn
  have := strip_right 6 q
  obtain rfl : _ = r := by simpa using h
  rw [Vd.rightD, decide_eq_true_iff]
  dsimp only
  refine ⟨by split <;> omega, by split <;> omega, this.1, ?_⟩
  rcases this.2 with h0 | h0
  ·exact .inl h0
  ·right
   split
   ·omega
   ·omega
theorem times_right {x r : Dc} {a b : Nat} (h : Vd.times x a b = some r) : Vd.rightD r = true := by
 unfold Vd.times at h
 split at h
 ·split at h
  ·exact ofQ_right h
  ·cases h
 ·cases h
theorem to_right {x r : Dc} {a b : ByteArray} (h : Vd.to_ x a b = some r) : Vd.rightD r = true := by
 unfold Vd.to_ at h
 split at h
 ·split at h
  ·exact times_right h
  ·cases h
 ·cases h
theorem right_fit {x : Dc} (h : Vd.rightD x = true) : x.Fit := by
 obtain ⟨n, d⟩ := x
 obtain ⟨h1, h2, h3, _⟩ := rightD_out h
 exact ⟨by dsimp only; omega, by dsimp only; omega, by dsimp only; omega⟩
abbrev regE (r : Nat × Nat) : Value := .tuple #[.int .u16 (r.1 : Int), .int .i64 (r.2 : Int)]
set_option maxHeartbeats 4000000 in
theorem vword_any (p : Pt) (s : St) (w : World) (hp : p.Fit) (hs : s.value.Fit) : Calls Try.prog 16 #[ptV p, stV s] w fun e w' => e = .returned (regE (Vd.vword p s)) ∧ Below w.heap.size w w' := by
 obtain ⟨nm, at_, dg, sg, ⟨ln, ld⟩, ⟨hn, hd⟩, un⟩ := p
 obtain ⟨sp, ⟨vn, vd⟩, su, sl⟩ := s
 dsimp only at hs ⊢
 unfold Vd.vword
 dsimp only
 have TO := Lib.hid (fun w => to_any vn vd su un w hs)
 cases hT : Vd.to_ ⟨vn, vd⟩ su un with
 | none =>
  rw [hT] at TO
  unfold decV at TO
  clear hT hp hs
  go_enter Try.func16, Try.ntmps16
  go_wp2_with fail
  with_reducible refine (TO.out _).mono ?_
  rintro e_x1 w_x1 ⟨rfl, hb_x1⟩
  obtain ⟨x1, rfl⟩ := later_is hb_x1
  clear hb_x1
  have hz_x1 := x1.bel.size
  try simp at hz_x1
  have l_x1_0 : w.heap.size < x1.val.heap.size := by omega
  have m_x1_0 : w.heap.size < x1.val.heap.size + 1 := by omega
  have q_ := x1.cq (w.heap.size) 0
  generalize c_x1_0_0 : x1.val.cell? ⟨w.heap.size, 0, none⟩ = q at q_
  first | (have q2_ : q = some _ := q_; subst q2_) | (simp [go_sem] at q_; have q2_ : q = some _ := q_; subst q2_) | (simp [go_sem, *] at q_; have q2_ : q = some _ := q_; subst q2_)
  have q_ := x1.cq (w.heap.size) 1
  generalize c_x1_0_1 : x1.val.cell? ⟨w.heap.size, 1, none⟩ = q at q_
  first | (have q2_ : q = some _ := q_; subst q2_) | (simp [go_sem] at q_; have q2_ : q = some _ := q_; subst q2_) | (simp [go_sem, *] at q_; have q2_ : q = some _ := q_; subst q2_)
  have q_ := x1.cq (w.heap.size) 2
  generalize c_x1_0_2 : x1.val.cell? ⟨w.heap.size, 2, none⟩ = q at q_
  first | (have q2_ : q = some _ := q_; subst q2_) | (simp [go_sem] at q_; have q2_ : q = some _ := q_; subst q2_) | (simp [go_sem, *] at q_; have q2_ : q = some _ := q_; subst q2_)
  have q_ := x1.cq (w.heap.size) 3
  generalize c_x1_0_3 : x1.val.cell? ⟨w.heap.size, 3, none⟩ = q at q_
  first | (have q2_ : q = some _ := q_; subst q2_) | (simp [go_sem] at q_; have q2_ : q = some _ := q_; subst q2_) | (simp [go_sem, *] at q_; have q2_ : q = some _ := q_; subst q2_)
  have q_ := x1.cq (w.heap.size) 4
  generalize c_x1_0_4 : x1.val.cell? ⟨w.heap.size, 4, none⟩ = q at q_
  first | (have q2_ : q = some _ := q_; subst q2_) | (simp [go_sem] at q_; have q2_ : q = some _ := q_; subst q2_) | (simp [go_sem, *] at q_; have q2_ : q = some _ := q_; subst q2_)
  have q_ := x1.cq (w.heap.size) 5
  generalize c_x1_0_5 : x1.val.cell? ⟨w.heap.size, 5, none⟩ = q at q_
  first | (have q2_ : q = some _ := q_; subst q2_) | (simp [go_sem] at q_; have q2_ : q = some _ := q_; subst q2_) | (simp [go_sem, *] at q_; have q2_ : q = some _ := q_; subst q2_)
  have q_ := x1.cq (w.heap.size) 6
  generalize c_x1_0_6 : x1.val.cell? ⟨w.heap.size, 6, none⟩ = q at q_
  first | (have q2_ : q = some _ := q_; subst q2_) | (simp [go_sem] at q_; have q2_ : q = some _ := q_; subst q2_) | (simp [go_sem, *] at q_; have q2_ : q = some _ := q_; subst q2_)
  have q_ := x1.cq (w.heap.size) 7
  generalize c_x1_0_7 : x1.val.cell? ⟨w.heap.size, 7, none⟩ = q at q_
  first | (have q2_ : q = some _ := q_; subst q2_) | (simp [go_sem] at q_; have q2_ : q = some _ := q_; subst q2_) | (simp [go_sem, *] at q_; have q2_ : q = some _ := q_; subst q2_)
  have q_ := x1.cq (w.heap.size) 8
  generalize c_x1_0_8 : x1.val.cell? ⟨w.heap.size, 8, none⟩ = q at q_
  first | (have q2_ : q = some _ := q_; subst q2_) | (simp [go_sem] at q_; have q2_ : q = some _ := q_; subst q2_) | (simp [go_sem, *] at q_; have q2_ : q = some _ := q_; subst q2_)
  have l_x1_1 : (w.heap.size+1) < x1.val.heap.size := by omega
  have m_x1_1 : (w.heap.size+1) < x1.val.heap.size + 1 := by omega
  have q_ := x1.cq ((w.heap.size+1)) 0
  generalize c_x1_1_0 : x1.val.cell? ⟨(w.heap.size+1), 0, none⟩ = q at q_
  first | (have q2_ : q = some _ := q_; subst q2_) | (simp [go_sem] at q_; have q2_ : q = some _ := q_; subst q2_) | (simp [go_sem, *] at q_; have q2_ : q = some _ := q_; subst q2_)
  have q_ := x1.cq ((w.heap.size+1)) 1
  generalize c_x1_1_1 : x1.val.cell? ⟨(w.heap.size+1), 1, none⟩ = q at q_
  first | (have q2_ : q = some _ := q_; subst q2_) | (simp [go_sem] at q_; have q2_ : q = some _ := q_; subst q2_) | (simp [go_sem, *] at q_; have q2_ : q = some _ := q_; subst q2_)
  have q_ := x1.cq ((w.heap.size+1)) 2
  generalize c_x1_1_2 : x1.val.cell? ⟨(w.heap.size+1), 2, none⟩ = q at q_
  first | (have q2_ : q = some _ := q_; subst q2_) | (simp [go_sem] at q_; have q2_ : q = some _ := q_; subst q2_) | (simp [go_sem, *] at q_; have q2_ : q = some _ := q_; subst q2_)
  have q_ := x1.cq ((w.heap.size+1)) 3
  generalize c_x1_1_3 : x1.val.cell? ⟨(w.heap.size+1), 3, none⟩ = q at q_
  first | (have q2_ : q = some _ := q_; subst q2_) | (simp [go_sem] at q_; have q2_ : q = some _ := q_; subst q2_) | (simp [go_sem, *] at q_; have q2_ : q = some _ := q_; subst q2_)
  have q_ := x1.cq ((w.heap.size+1)) 4
  generalize c_x1_1_4 : x1.val.cell? ⟨(w.heap.size+1), 4, none⟩ = q at q_
  first | (have q2_ : q = some _ := q_; subst q2_) | (simp [go_sem] at q_; have q2_ : q = some _ := q_; subst q2_) | (simp [go_sem, *] at q_; have q2_ : q = some _ := q_; subst q2_)
  go_wp2
  go_ret2
  exact ⟨rfl, belo⟩
 | some r =>
  rw [hT] at TO
  unfold decV at TO
  have hf := right_fit (to_right hT)
  obtain ⟨rn, rd⟩ := r
  dsimp only at TO ⊢
  have CL := Lib.hid (fun w => cmp_any rn ln rd ld w hf hp.2.2.1)
  have CH := Lib.hid (fun w => cmp_any rn hn rd hd w hf hp.2.2.2)
  have WD := Lib.hid (fun w => unword_any rn rd dg sg w hf)
  obtain ⟨cl, hcl⟩ : ∃ c, Vd.cmp ⟨rn, rd⟩ ⟨ln, ld⟩ = c := ⟨_, rfl⟩
  obtain ⟨ch, hch⟩ : ∃ c, Vd.cmp ⟨rn, rd⟩ ⟨hn, hd⟩ = c := ⟨_, rfl⟩
  rw [hcl] at CL ⊢
  rw [hch] at CH ⊢
  clear hT hp hs hf hcl hch
  by_cases c1 : cl < 0
  ·have g1 : decide (cl < 0) = true := decide_eq_true c1
   rw [if_pos (.inl c1)]
   clear c1
   go_enter Try.func16, Try.ntmps16
   go_wp2_with fail
   with_reducible refine (TO.out _).mono ?_
   rintro e_x1 w_x1 ⟨rfl, hb_x1⟩
   obtain ⟨x1, rfl⟩ := later_is hb_x1
   clear hb_x1
   have hz_x1 := x1.bel.size
   try simp at hz_x1
   have l_x1_0 : w.heap.size < x1.val.heap.size := by omega
   have m_x1_0 : w.heap.size < x1.val.heap.size + 1 := by omega
   have q_ := x1.cq (w.heap.size) 0
   generalize c_x1_0_0 : x1.val.cell? ⟨w.heap.size, 0, none⟩ = q at q_
   first | (have q2_ : q = some _ := q_; subst q2_) | (simp [go_sem] at q_; have q2_ : q = some _ := q_; subst q2_) | (simp [go_sem, *] at q_; have q2_ : q = some _ := q_; subst q2_)
   have q_ := x1.cq (w.heap.size) 1
   generalize c_x1_0_1 : x1.val.cell? ⟨w.heap.size, 1, none⟩ = q at q_
   first | (have q2_ : q = some _ := q_; subst q2_) | (simp [go_sem] at q_; have q2_ : q = some _ := q_; subst q2_) | (simp [go_sem, *] at q_; have q2_ : q = some _ := q_; subst q2_)
   have q_ := x1.cq (w.heap.size) 2
   generalize c_x1_0_2 : x1.val.cell? ⟨w.heap.size, 2, none⟩ = q at q_
   first | (have q2_ : q = some _ := q_; subst q2_) | (simp [go_sem] at q_; have q2_ : q = some _ := q_; subst q2_) | (simp [go_sem, *] at q_; have q2_ : q = some _ := q_; subst q2_)
   have q_ := x1.cq (w.heap.size) 3
   generalize c_x1_0_3 : x1.val.cell? ⟨w.heap.size, 3, none⟩ = q at q_
   first | (have q2_ : q = some _ := q_; subst q2_) | (simp [go_sem] at q_; have q2_ : q = some _ := q_; subst q2_) | (simp [go_sem, *] at q_; have q2_ : q = some _ := q_; subst q2_)
   have q_ := x1.cq (w.heap.size) 4
   generalize c_x1_0_4 : x1.val.cell? ⟨w.heap.size, 4, none⟩ = q at q_
   first | (have q2_ : q = some _ := q_; subst q2_) | (simp [go_sem] at q_; have q2_ : q = some _ := q_; subst q2_) | (simp [go_sem, *] at q_; have q2_ : q = some _ := q_; subst q2_)
   have q_ := x1.cq (w.heap.size) 5
   generalize c_x1_0_5 : x1.val.cell? ⟨w.heap.size, 5, none⟩ = q at q_
   first | (have q2_ : q = some _ := q_; subst q2_) | (simp [go_sem] at q_; have q2_ : q = some _ := q_; subst q2_) | (simp [go_sem, *] at q_; have q2_ : q = some _ := q_; subst q2_)
   have q_ := x1.cq (w.heap.size) 6
   generalize c_x1_0_6 : x1.val.cell? ⟨w.heap.size, 6, none⟩ = q at q_
   first | (have q2_ : q = some _ := q_; subst q2_) | (simp [go_sem] at q_; have q2_ : q = some _ := q_; subst q2_) | (simp [go_sem, *] at q_; have q2_ : q = some _ := q_; subst q2_)
   have q_ := x1.cq (w.heap.size) 7
   generalize c_x1_0_7 : x1.val.cell? ⟨w.heap.size, 7, none⟩ = q at q_
   first | (have q2_ : q = some _ := q_; subst q2_) | (simp [go_sem] at q_; have q2_ : q = some _ := q_; subst q2_) | (simp [go_sem, *] at q_; have q2_ : q = some _ := q_; subst q2_)
   have q_ := x1.cq (w.heap.size) 8
   generalize c_x1_0_8 : x1.val.cell? ⟨w.heap.size, 8, none⟩ = q at q_
   first | (have q2_ : q = some _ := q_; subst q2_) | (simp [go_sem] at q_; have q2_ : q = some _ := q_; subst q2_) | (simp [go_sem, *] at q_; have q2_ : q = some _ := q_; subst q2_)
   have l_x1_1 : (w.heap.size+1) < x1.val.heap.size := by omega
   have m_x1_1 : (w.heap.size+1) < x1.val.heap.size + 1 := by omega
   have q_ := x1.cq ((w.heap.size+1)) 0
   generalize c_x1_1_0 : x1.val.cell? ⟨(w.heap.size+1), 0, none⟩ = q at q_
   first | (have q2_ : q = some _ := q_; subst q2_) | (simp [go_sem] at q_; have q2_ : q = some _ := q_; subst q2_) | (simp [go_sem, *] at q_; have q2_ : q = some _ := q_; subst q2_)
   have q_ := x1.cq ((w.heap.size+1)) 1
   generalize c_x1_1_1 : x1.val.cell? ⟨(w.heap.size+1), 1, none⟩ = q at q_
   first | (have q2_ : q = some _ := q_; subst q2_) | (simp [go_sem] at q_; have q2_ : q = some _ := q_; subst q2_) | (simp [go_sem, *] at q_; have q2_ : q = some _ := q_; subst q2_)
   have q_ := x1.cq ((w.heap.size+1)) 2
   generalize c_x1_1_2 : x1.val.cell? ⟨(w.heap.size+1), 2, none⟩ = q at q_
   first | (have q2_ : q = some _ := q_; subst q2_) | (simp [go_sem] at q_; have q2_ : q = some _ := q_; subst q2_) | (simp [go_sem, *] at q_; have q2_ : q = some _ := q_; subst q2_)
   have q_ := x1.cq ((w.heap.size+1)) 3
   generalize c_x1_1_3 : x1.val.cell? ⟨(w.heap.size+1), 3, none⟩ = q at q_
   first | (have q2_ : q = some _ := q_; subst q2_) | (simp [go_sem] at q_; have q2_ : q = some _ := q_; subst q2_) | (simp [go_sem, *] at q_; have q2_ : q = some _ := q_; subst q2_)
   have q_ := x1.cq ((w.heap.size+1)) 4
   generalize c_x1_1_4 : x1.val.cell? ⟨(w.heap.size+1), 4, none⟩ = q at q_
   first | (have q2_ : q = some _ := q_; subst q2_) | (simp [go_sem] at q_; have q2_ : q = some _ := q_; subst q2_) | (simp [go_sem, *] at q_; have q2_ : q = some _ := q_; subst q2_)
   go_wp2_with fail
   with_reducible refine (CL.out _).mono ?_
   rintro e_x2 w_x2 ⟨rfl, hb_x2⟩
   obtain ⟨x2, rfl⟩ := later_is hb_x2
   clear hb_x2
   have hz_x2 := x2.bel.size
   try simp at hz_x2
   replace c_x1_0_0 := x2.carry c_x1_0_0
   replace c_x1_0_1 := x2.carry c_x1_0_1
   replace c_x1_0_2 := x2.carry c_x1_0_2
   replace c_x1_0_3 := x2.carry c_x1_0_3
   replace c_x1_0_4 := x2.carry c_x1_0_4
   replace c_x1_0_5 := x2.carry c_x1_0_5
   replace c_x1_0_6 := x2.carry c_x1_0_6
   replace c_x1_0_7 := x2.carry c_x1_0_7
   replace c_x1_0_8 := x2.carry c_x1_0_8
   replace c_x1_1_0 := x2.carry c_x1_1_0
   replace c_x1_1_1 := x2.carry c_x1_1_1
   replace c_x1_1_2 := x2.carry c_x1_1_2
   replace c_x1_1_3 := x2.carry c_x1_1_3
   replace c_x1_1_4 := x2.carry c_x1_1_4
   have lc_x2_0 : w.heap.size < x2.val.heap.size := by omega
   have mc_x2_0 : w.heap.size < x2.val.heap.size + 1 := by omega
   have lc_x2_1 : (w.heap.size+1) < x2.val.heap.size := by omega
   have mc_x2_1 : (w.heap.size+1) < x2.val.heap.size + 1 := by omega
   have l_x2_0 : x1.val.heap.size < x2.val.heap.size := by omega
   have m_x2_0 : x1.val.heap.size < x2.val.heap.size + 1 := by omega
   have q_ := x2.cq (x1.val.heap.size) 0
   generalize c_x2_0_0 : x2.val.cell? ⟨x1.val.heap.size, 0, none⟩ = q at q_
   first | (have q2_ : q = some _ := q_; subst q2_) | (simp [go_sem] at q_; have q2_ : q = some _ := q_; subst q2_) | (simp [go_sem, *] at q_; have q2_ : q = some _ := q_; subst q2_)
   have q_ := x2.cq (x1.val.heap.size) 1
   generalize c_x2_0_1 : x2.val.cell? ⟨x1.val.heap.size, 1, none⟩ = q at q_
   first | (have q2_ : q = some _ := q_; subst q2_) | (simp [go_sem] at q_; have q2_ : q = some _ := q_; subst q2_) | (simp [go_sem, *] at q_; have q2_ : q = some _ := q_; subst q2_)
   go_wp2
   go_ret2
   exact ⟨rfl, belo⟩
  have g1 : decide (cl < 0) = false := decide_eq_false c1
  by_cases c2 : 0 < ch
  ·have g2 : decide (0 < ch) = true := decide_eq_true c2
   rw [if_pos (.inr c2)]
   clear c1 c2
   go_enter Try.func16, Try.ntmps16
   go_wp2_with fail
   with_reducible refine (TO.out _).mono ?_
   rintro e_x1 w_x1 ⟨rfl, hb_x1⟩
   obtain ⟨x1, rfl⟩ := later_is hb_x1
   clear hb_x1
   have hz_x1 := x1.bel.size
   try simp at hz_x1
   have l_x1_0 : w.heap.size < x1.val.heap.size := by omega
   have m_x1_0 : w.heap.size < x1.val.heap.size + 1 := by omega
   have q_ := x1.cq (w.heap.size) 0
   generalize c_x1_0_0 : x1.val.cell? ⟨w.heap.size, 0, none⟩ = q at q_
   first | (have q2_ : q = some _ := q_; subst q2_) | (simp [go_sem] at q_; have q2_ : q = some _ := q_; subst q2_) | (simp [go_sem, *] at q_; have q2_ : q = some _ := q_; subst q2_)
   have q_ := x1.cq (w.heap.size) 1
   generalize c_x1_0_1 : x1.val.cell? ⟨w.heap.size, 1, none⟩ = q at q_
   first | (have q2_ : q = some _ := q_; subst q2_) | (simp [go_sem] at q_; have q2_ : q = some _ := q_; subst q2_) | (simp [go_sem, *] at q_; have q2_ : q = some _ := q_; subst q2_)
   have q_ := x1.cq (w.heap.size) 2
   generalize c_x1_0_2 : x1.val.cell? ⟨w.heap.size, 2, none⟩ = q at q_
   first | (have q2_ : q = some _ := q_; subst q2_) | (simp [go_sem] at q_; have q2_ : q = some _ := q_; subst q2_) | (simp [go_sem, *] at q_; have q2_ : q = some _ := q_; subst q2_)
   have q_ := x1.cq (w.heap.size) 3
   generalize c_x1_0_3 : x1.val.cell? ⟨w.heap.size, 3, none⟩ = q at q_
   first | (have q2_ : q = some _ := q_; subst q2_) | (simp [go_sem] at q_; have q2_ : q = some _ := q_; subst q2_) | (simp [go_sem, *] at q_; have q2_ : q = some _ := q_; subst q2_)
   have q_ := x1.cq (w.heap.size) 4
   generalize c_x1_0_4 : x1.val.cell? ⟨w.heap.size, 4, none⟩ = q at q_
   first | (have q2_ : q = some _ := q_; subst q2_) | (simp [go_sem] at q_; have q2_ : q = some _ := q_; subst q2_) | (simp [go_sem, *] at q_; have q2_ : q = some _ := q_; subst q2_)
   have q_ := x1.cq (w.heap.size) 5
   generalize c_x1_0_5 : x1.val.cell? ⟨w.heap.size, 5, none⟩ = q at q_
   first | (have q2_ : q = some _ := q_; subst q2_) | (simp [go_sem] at q_; have q2_ : q = some _ := q_; subst q2_) | (simp [go_sem, *] at q_; have q2_ : q = some _ := q_; subst q2_)
   have q_ := x1.cq (w.heap.size) 6
   generalize c_x1_0_6 : x1.val.cell? ⟨w.heap.size, 6, none⟩ = q at q_
   first | (have q2_ : q = some _ := q_; subst q2_) | (simp [go_sem] at q_; have q2_ : q = some _ := q_; subst q2_) | (simp [go_sem, *] at q_; have q2_ : q = some _ := q_; subst q2_)
   have q_ := x1.cq (w.heap.size) 7
   generalize c_x1_0_7 : x1.val.cell? ⟨w.heap.size, 7, none⟩ = q at q_
   first | (have q2_ : q = some _ := q_; subst q2_) | (simp [go_sem] at q_; have q2_ : q = some _ := q_; subst q2_) | (simp [go_sem, *] at q_; have q2_ : q = some _ := q_; subst q2_)
   have q_ := x1.cq (w.heap.size) 8
   generalize c_x1_0_8 : x1.val.cell? ⟨w.heap.size, 8, none⟩ = q at q_
   first | (have q2_ : q = some _ := q_; subst q2_) | (simp [go_sem] at q_; have q2_ : q = some _ := q_; subst q2_) | (simp [go_sem, *] at q_; have q2_ : q = some _ := q_; subst q2_)
   have l_x1_1 : (w.heap.size+1) < x1.val.heap.size := by omega
   have m_x1_1 : (w.heap.size+1) < x1.val.heap.size + 1 := by omega
   have q_ := x1.cq ((w.heap.size+1)) 0
   generalize c_x1_1_0 : x1.val.cell? ⟨(w.heap.size+1), 0, none⟩ = q at q_
   first | (have q2_ : q = some _ := q_; subst q2_) | (simp [go_sem] at q_; have q2_ : q = some _ := q_; subst q2_) | (simp [go_sem, *] at q_; have q2_ : q = some _ := q_; subst q2_)
   have q_ := x1.cq ((w.heap.size+1)) 1
   generalize c_x1_1_1 : x1.val.cell? ⟨(w.heap.size+1), 1, none⟩ = q at q_
   first | (have q2_ : q = some _ := q_; subst q2_) | (simp [go_sem] at q_; have q2_ : q = some _ := q_; subst q2_) | (simp [go_sem, *] at q_; have q2_ : q = some _ := q_; subst q2_)
   have q_ := x1.cq ((w.heap.size+1)) 2
   generalize c_x1_1_2 : x1.val.cell? ⟨(w.heap.size+1), 2, none⟩ = q at q_
   first | (have q2_ : q = some _ := q_; subst q2_) | (simp [go_sem] at q_; have q2_ : q = some _ := q_; subst q2_) | (simp [go_sem, *] at q_; have q2_ : q = some _ := q_; subst q2_)
   have q_ := x1.cq ((w.heap.size+1)) 3
   generalize c_x1_1_3 : x1.val.cell? ⟨(w.heap.size+1), 3, none⟩ = q at q_
   first | (have q2_ : q = some _ := q_; subst q2_) | (simp [go_sem] at q_; have q2_ : q = some _ := q_; subst q2_) | (simp [go_sem, *] at q_; have q2_ : q = some _ := q_; subst q2_)
   have q_ := x1.cq ((w.heap.size+1)) 4
   generalize c_x1_1_4 : x1.val.cell? ⟨(w.heap.size+1), 4, none⟩ = q at q_
   first | (have q2_ : q = some _ := q_; subst q2_) | (simp [go_sem] at q_; have q2_ : q = some _ := q_; subst q2_) | (simp [go_sem, *] at q_; have q2_ : q = some _ := q_; subst q2_)
   go_wp2_with fail
   with_reducible refine (CL.out _).mono ?_
   rintro e_x2 w_x2 ⟨rfl, hb_x2⟩
   obtain ⟨x2, rfl⟩ := later_is hb_x2
   clear hb_x2
   have hz_x2 := x2.bel.size
   try simp at hz_x2
   replace c_x1_0_0 := x2.carry c_x1_0_0
   replace c_x1_0_1 := x2.carry c_x1_0_1
   replace c_x1_0_2 := x2.carry c_x1_0_2
   replace c_x1_0_3 := x2.carry c_x1_0_3
   replace c_x1_0_4 := x2.carry c_x1_0_4
   replace c_x1_0_5 := x2.carry c_x1_0_5
   replace c_x1_0_6 := x2.carry c_x1_0_6
   replace c_x1_0_7 := x2.carry c_x1_0_7
   replace c_x1_0_8 := x2.carry c_x1_0_8
   replace c_x1_1_0 := x2.carry c_x1_1_0
   replace c_x1_1_1 := x2.carry c_x1_1_1
   replace c_x1_1_2 := x2.carry c_x1_1_2
   replace c_x1_1_3 := x2.carry c_x1_1_3
   replace c_x1_1_4 := x2.carry c_x1_1_4
   have lc_x2_0 : w.heap.size < x2.val.heap.size := by omega
   have mc_x2_0 : w.heap.size < x2.val.heap.size + 1 := by omega
   have lc_x2_1 : (w.heap.size+1) < x2.val.heap.size := by omega
   have mc_x2_1 : (w.heap.size+1) < x2.val.heap.size + 1 := by omega
   have l_x2_0 : x1.val.heap.size < x2.val.heap.size := by omega
   have m_x2_0 : x1.val.heap.size < x2.val.heap.size + 1 := by omega
   have q_ := x2.cq (x1.val.heap.size) 0
   generalize c_x2_0_0 : x2.val.cell? ⟨x1.val.heap.size, 0, none⟩ = q at q_
   first | (have q2_ : q = some _ := q_; subst q2_) | (simp [go_sem] at q_; have q2_ : q = some _ := q_; subst q2_) | (simp [go_sem, *] at q_; have q2_ : q = some _ := q_; subst q2_)
   have q_ := x2.cq (x1.val.heap.size) 1
   generalize c_x2_0_1 : x2.val.cell? ⟨x1.val.heap.size, 1, none⟩ = q at q_
   first | (have q2_ : q = some _ := q_; subst q2_) | (simp [go_sem] at q_; have q2_ : q = some _ := q_; subst q2_) | (simp [go_sem, *] at q_; have q2_ : q = some _ := q_; subst q2_)
   go_wp2_with fail
   with_reducible refine (CH.out _).mono ?_
   rintro e_x3 w_x3 ⟨rfl, hb_x3⟩
   obtain ⟨x3, rfl⟩ := later_is hb_x3
   clear hb_x3
   have hz_x3 := x3.bel.size
   try simp at hz_x3
   replace c_x1_0_0 := x3.carry c_x1_0_0
   replace c_x1_0_1 := x3.carry c_x1_0_1
   replace c_x1_0_2 := x3.carry c_x1_0_2
   replace c_x1_0_3 := x3.carry c_x1_0_3
   replace c_x1_0_4 := x3.carry c_x1_0_4
   replace c_x1_0_5 := x3.carry c_x1_0_5
   replace c_x1_0_6 := x3.carry c_x1_0_6
   replace c_x1_0_7 := x3.carry c_x1_0_7
   replace c_x1_0_8 := x3.carry c_x1_0_8
   replace c_x1_1_0 := x3.carry c_x1_1_0
   replace c_x1_1_1 := x3.carry c_x1_1_1
   replace c_x1_1_2 := x3.carry c_x1_1_2
   replace c_x1_1_3 := x3.carry c_x1_1_3
   replace c_x1_1_4 := x3.carry c_x1_1_4
   replace c_x2_0_0 := x3.carry c_x2_0_0
   replace c_x2_0_1 := x3.carry c_x2_0_1
   have lc_x3_0 : w.heap.size < x3.val.heap.size := by omega
   have mc_x3_0 : w.heap.size < x3.val.heap.size + 1 := by omega
   have lc_x3_1 : (w.heap.size+1) < x3.val.heap.size := by omega
   have mc_x3_1 : (w.heap.size+1) < x3.val.heap.size + 1 := by omega
   have lc_x3_2 : x1.val.heap.size < x3.val.heap.size := by omega
   have mc_x3_2 : x1.val.heap.size < x3.val.heap.size + 1 := by omega
   go_wp2
   go_ret2
   exact ⟨rfl, belo⟩
  have g2 : decide (0 < ch) = false := decide_eq_false c2
  rw [if_neg (by omega)]
  clear c1 c2
  cases hW : Vd.word ⟨rn, rd⟩ dg sg with
  | none =>
   rw [hW] at WD
   unfold regV at WD
   clear hW
   go_enter Try.func16, Try.ntmps16
   go_wp2_with fail
   with_reducible refine (TO.out _).mono ?_
   rintro e_x1 w_x1 ⟨rfl, hb_x1⟩
   obtain ⟨x1, rfl⟩ := later_is hb_x1
   clear hb_x1
   have hz_x1 := x1.bel.size
   try simp at hz_x1
   have l_x1_0 : w.heap.size < x1.val.heap.size := by omega
   have m_x1_0 : w.heap.size < x1.val.heap.size + 1 := by omega
   have q_ := x1.cq (w.heap.size) 0
   generalize c_x1_0_0 : x1.val.cell? ⟨w.heap.size, 0, none⟩ = q at q_
   first | (have q2_ : q = some _ := q_; subst q2_) | (simp [go_sem] at q_; have q2_ : q = some _ := q_; subst q2_) | (simp [go_sem, *] at q_; have q2_ : q = some _ := q_; subst q2_)
   have q_ := x1.cq (w.heap.size) 1
   generalize c_x1_0_1 : x1.val.cell? ⟨w.heap.size, 1, none⟩ = q at q_
   first | (have q2_ : q = some _ := q_; subst q2_) | (simp [go_sem] at q_; have q2_ : q = some _ := q_; subst q2_) | (simp [go_sem, *] at q_; have q2_ : q = some _ := q_; subst q2_)
   have q_ := x1.cq (w.heap.size) 2
   generalize c_x1_0_2 : x1.val.cell? ⟨w.heap.size, 2, none⟩ = q at q_
   first | (have q2_ : q = some _ := q_; subst q2_) | (simp [go_sem] at q_; have q2_ : q = some _ := q_; subst q2_) | (simp [go_sem, *] at q_; have q2_ : q = some _ := q_; subst q2_)
   have q_ := x1.cq (w.heap.size) 3
   generalize c_x1_0_3 : x1.val.cell? ⟨w.heap.size, 3, none⟩ = q at q_
   first | (have q2_ : q = some _ := q_; subst q2_) | (simp [go_sem] at q_; have q2_ : q = some _ := q_; subst q2_) | (simp [go_sem, *] at q_; have q2_ : q = some _ := q_; subst q2_)
   have q_ := x1.cq (w.heap.size) 4
   generalize c_x1_0_4 : x1.val.cell? ⟨w.heap.size, 4, none⟩ = q at q_
   first | (have q2_ : q = some _ := q_; subst q2_) | (simp [go_sem] at q_; have q2_ : q = some _ := q_; subst q2_) | (simp [go_sem, *] at q_; have q2_ : q = some _ := q_; subst q2_)
   have q_ := x1.cq (w.heap.size) 5
   generalize c_x1_0_5 : x1.val.cell? ⟨w.heap.size, 5, none⟩ = q at q_
   first | (have q2_ : q = some _ := q_; subst q2_) | (simp [go_sem] at q_; have q2_ : q = some _ := q_; subst q2_) | (simp [go_sem, *] at q_; have q2_ : q = some _ := q_; subst q2_)
   have q_ := x1.cq (w.heap.size) 6
   generalize c_x1_0_6 : x1.val.cell? ⟨w.heap.size, 6, none⟩ = q at q_
   first | (have q2_ : q = some _ := q_; subst q2_) | (simp [go_sem] at q_; have q2_ : q = some _ := q_; subst q2_) | (simp [go_sem, *] at q_; have q2_ : q = some _ := q_; subst q2_)
   have q_ := x1.cq (w.heap.size) 7
   generalize c_x1_0_7 : x1.val.cell? ⟨w.heap.size, 7, none⟩ = q at q_
   first | (have q2_ : q = some _ := q_; subst q2_) | (simp [go_sem] at q_; have q2_ : q = some _ := q_; subst q2_) | (simp [go_sem, *] at q_; have q2_ : q = some _ := q_; subst q2_)
   have q_ := x1.cq (w.heap.size) 8
   generalize c_x1_0_8 : x1.val.cell? ⟨w.heap.size, 8, none⟩ = q at q_
   first | (have q2_ : q = some _ := q_; subst q2_) | (simp [go_sem] at q_; have q2_ : q = some _ := q_; subst q2_) | (simp [go_sem, *] at q_; have q2_ : q = some _ := q_; subst q2_)
   have l_x1_1 : (w.heap.size+1) < x1.val.heap.size := by omega
   have m_x1_1 : (w.heap.size+1) < x1.val.heap.size + 1 := by omega
   have q_ := x1.cq ((w.heap.size+1)) 0
   generalize c_x1_1_0 : x1.val.cell? ⟨(w.heap.size+1), 0, none⟩ = q at q_
   first | (have q2_ : q = some _ := q_; subst q2_) | (simp [go_sem] at q_; have q2_ : q = some _ := q_; subst q2_) | (simp [go_sem, *] at q_; have q2_ : q = some _ := q_; subst q2_)
   have q_ := x1.cq ((w.heap.size+1)) 1
   generalize c_x1_1_1 : x1.val.cell? ⟨(w.heap.size+1), 1, none⟩ = q at q_
   first | (have q2_ : q = some _ := q_; subst q2_) | (simp [go_sem] at q_; have q2_ : q = some _ := q_; subst q2_) | (simp [go_sem, *] at q_; have q2_ : q = some _ := q_; subst q2_)
   have q_ := x1.cq ((w.heap.size+1)) 2
   generalize c_x1_1_2 : x1.val.cell? ⟨(w.heap.size+1), 2, none⟩ = q at q_
   first | (have q2_ : q = some _ := q_; subst q2_) | (simp [go_sem] at q_; have q2_ : q = some _ := q_; subst q2_) | (simp [go_sem, *] at q_; have q2_ : q = some _ := q_; subst q2_)
   have q_ := x1.cq ((w.heap.size+1)) 3
   generalize c_x1_1_3 : x1.val.cell? ⟨(w.heap.size+1), 3, none⟩ = q at q_
   first | (have q2_ : q = some _ := q_; subst q2_) | (simp [go_sem] at q_; have q2_ : q = some _ := q_; subst q2_) | (simp [go_sem, *] at q_; have q2_ : q = some _ := q_; subst q2_)
   have q_ := x1.cq ((w.heap.size+1)) 4
   generalize c_x1_1_4 : x1.val.cell? ⟨(w.heap.size+1), 4, none⟩ = q at q_
   first | (have q2_ : q = some _ := q_; subst q2_) | (simp [go_sem] at q_; have q2_ : q = some _ := q_; subst q2_) | (simp [go_sem, *] at q_; have q2_ : q = some _ := q_; subst q2_)
   go_wp2_with fail
   with_reducible refine (CL.out _).mono ?_
   rintro e_x2 w_x2 ⟨rfl, hb_x2⟩
   obtain ⟨x2, rfl⟩ := later_is hb_x2
   clear hb_x2
   have hz_x2 := x2.bel.size
   try simp at hz_x2
   replace c_x1_0_0 := x2.carry c_x1_0_0
   replace c_x1_0_1 := x2.carry c_x1_0_1
   replace c_x1_0_2 := x2.carry c_x1_0_2
   replace c_x1_0_3 := x2.carry c_x1_0_3
   replace c_x1_0_4 := x2.carry c_x1_0_4
   replace c_x1_0_5 := x2.carry c_x1_0_5
   replace c_x1_0_6 := x2.carry c_x1_0_6
   replace c_x1_0_7 := x2.carry c_x1_0_7
   replace c_x1_0_8 := x2.carry c_x1_0_8
   replace c_x1_1_0 := x2.carry c_x1_1_0
   replace c_x1_1_1 := x2.carry c_x1_1_1
   replace c_x1_1_2 := x2.carry c_x1_1_2
   replace c_x1_1_3 := x2.carry c_x1_1_3
   replace c_x1_1_4 := x2.carry c_x1_1_4
   have lc_x2_0 : w.heap.size < x2.val.heap.size := by omega
   have mc_x2_0 : w.heap.size < x2.val.heap.size + 1 := by omega
   have lc_x2_1 : (w.heap.size+1) < x2.val.heap.size := by omega
   have mc_x2_1 : (w.heap.size+1) < x2.val.heap.size + 1 := by omega
   have l_x2_0 : x1.val.heap.size < x2.val.heap.size := by omega
   have m_x2_0 : x1.val.heap.size < x2.val.heap.size + 1 := by omega
   have q_ := x2.cq (x1.val.heap.size) 0
   generalize c_x2_0_0 : x2.val.cell? ⟨x1.val.heap.size, 0, none⟩ = q at q_
   first | (have q2_ : q = some _ := q_; subst q2_) | (simp [go_sem] at q_; have q2_ : q = some _ := q_; subst q2_) | (simp [go_sem, *] at q_; have q2_ : q = some _ := q_; subst q2_)
   have q_ := x2.cq (x1.val.heap.size) 1
   generalize c_x2_0_1 : x2.val.cell? ⟨x1.val.heap.size, 1, none⟩ = q at q_
   first | (have q2_ : q = some _ := q_; subst q2_) | (simp [go_sem] at q_; have q2_ : q = some _ := q_; subst q2_) | (simp [go_sem, *] at q_; have q2_ : q = some _ := q_; subst q2_)
   go_wp2_with fail
   with_reducible refine (CH.out _).mono ?_
   rintro e_x3 w_x3 ⟨rfl, hb_x3⟩
   obtain ⟨x3, rfl⟩ := later_is hb_x3
   clear hb_x3
   have hz_x3 := x3.bel.size
   try simp at hz_x3
   replace c_x1_0_0 := x3.carry c_x1_0_0
   replace c_x1_0_1 := x3.carry c_x1_0_1
   replace c_x1_0_2 := x3.carry c_x1_0_2
   replace c_x1_0_3 := x3.carry c_x1_0_3
   replace c_x1_0_4 := x3.carry c_x1_0_4
   replace c_x1_0_5 := x3.carry c_x1_0_5
   replace c_x1_0_6 := x3.carry c_x1_0_6
   replace c_x1_0_7 := x3.carry c_x1_0_7
   replace c_x1_0_8 := x3.carry c_x1_0_8
   replace c_x1_1_0 := x3.carry c_x1_1_0
   replace c_x1_1_1 := x3.carry c_x1_1_1
   replace c_x1_1_2 := x3.carry c_x1_1_2
   replace c_x1_1_3 := x3.carry c_x1_1_3
   replace c_x1_1_4 := x3.carry c_x1_1_4
   replace c_x2_0_0 := x3.carry c_x2_0_0
   replace c_x2_0_1 := x3.carry c_x2_0_1
   have lc_x3_0 : w.heap.size < x3.val.heap.size := by omega
   have mc_x3_0 : w.heap.size < x3.val.heap.size + 1 := by omega
   have lc_x3_1 : (w.heap.size+1) < x3.val.heap.size := by omega
   have mc_x3_1 : (w.heap.size+1) < x3.val.heap.size + 1 := by omega
   have lc_x3_2 : x1.val.heap.size < x3.val.heap.size := by omega
   have mc_x3_2 : x1.val.heap.size < x3.val.heap.size + 1 := by omega
   go_wp2_with fail
   with_reducible refine (WD.out _).mono ?_
   rintro e_x4 w_x4 ⟨rfl, hb_x4⟩
   obtain ⟨x4, rfl⟩ := later_is hb_x4
   clear hb_x4
   have hz_x4 := x4.bel.size
   try simp at hz_x4
   replace c_x1_0_0 := x4.carry c_x1_0_0
   replace c_x1_0_1 := x4.carry c_x1_0_1
   replace c_x1_0_2 := x4.carry c_x1_0_2
   replace c_x1_0_3 := x4.carry c_x1_0_3
   replace c_x1_0_4 := x4.carry c_x1_0_4
   replace c_x1_0_5 := x4.carry c_x1_0_5
   replace c_x1_0_6 := x4.carry c_x1_0_6
   replace c_x1_0_7 := x4.carry c_x1_0_7
   replace c_x1_0_8 := x4.carry c_x1_0_8
   replace c_x1_1_0 := x4.carry c_x1_1_0
   replace c_x1_1_1 := x4.carry c_x1_1_1
   replace c_x1_1_2 := x4.carry c_x1_1_2
   replace c_x1_1_3 := x4.carry c_x1_1_3
   replace c_x1_1_4 := x4.carry c_x1_1_4
   replace c_x2_0_0 := x4.carry c_x2_0_0
   replace c_x2_0_1 := x4.carry c_x2_0_1
   have lc_x4_0 : w.heap.size < x4.val.heap.size := by omega
   have mc_x4_0 : w.heap.size < x4.val.heap.size + 1 := by omega
   have lc_x4_1 : (w.heap.size+1) < x4.val.heap.size := by omega
   have mc_x4_1 : (w.heap.size+1) < x4.val.heap.size + 1 := by omega
   have lc_x4_2 : x1.val.heap.size < x4.val.heap.size := by omega
   have mc_x4_2 : x1.val.heap.size < x4.val.heap.size + 1 := by omega
   go_wp2
   go_ret2
   exact ⟨rfl, belo⟩
  | some q =>
   rw [hW] at WD
   unfold regV at WD
   dsimp only at WD ⊢
   clear hW
   go_enter Try.func16, Try.ntmps16
   go_wp2_with fail
   with_reducible refine (TO.out _).mono ?_
   rintro e_x1 w_x1 ⟨rfl, hb_x1⟩
   obtain ⟨x1, rfl⟩ := later_is hb_x1
   clear hb_x1
   have hz_x1 := x1.bel.size
   try simp at hz_x1
   have l_x1_0 : w.heap.size < x1.val.heap.size := by omega
   have m_x1_0 : w.heap.size < x1.val.heap.size + 1 := by omega
   have q_ := x1.cq (w.heap.size) 0
   generalize c_x1_0_0 : x1.val.cell? ⟨w.heap.size, 0, none⟩ = q at q_
   first | (have q2_ : q = some _ := q_; subst q2_) | (simp [go_sem] at q_; have q2_ : q = some _ := q_; subst q2_) | (simp [go_sem, *] at q_; have q2_ : q = some _ := q_; subst q2_)
   have q_ := x1.cq (w.heap.size) 1
   generalize c_x1_0_1 : x1.val.cell? ⟨w.heap.size, 1, none⟩ = q at q_
   first | (have q2_ : q = some _ := q_; subst q2_) | (simp [go_sem] at q_; have q2_ : q = some _ := q_; subst q2_) | (simp [go_sem, *] at q_; have q2_ : q = some _ := q_; subst q2_)
   have q_ := x1.cq (w.heap.size) 2
   generalize c_x1_0_2 : x1.val.cell? ⟨w.heap.size, 2, none⟩ = q at q_
   first | (have q2_ : q = some _ := q_; subst q2_) | (simp [go_sem] at q_; have q2_ : q = some _ := q_; subst q2_) | (simp [go_sem, *] at q_; have q2_ : q = some _ := q_; subst q2_)
   have q_ := x1.cq (w.heap.size) 3
   generalize c_x1_0_3 : x1.val.cell? ⟨w.heap.size, 3, none⟩ = q at q_
   first | (have q2_ : q = some _ := q_; subst q2_) | (simp [go_sem] at q_; have q2_ : q = some _ := q_; subst q2_) | (simp [go_sem, *] at q_; have q2_ : q = some _ := q_; subst q2_)
   have q_ := x1.cq (w.heap.size) 4
   generalize c_x1_0_4 : x1.val.cell? ⟨w.heap.size, 4, none⟩ = q at q_
   first | (have q2_ : q = some _ := q_; subst q2_) | (simp [go_sem] at q_; have q2_ : q = some _ := q_; subst q2_) | (simp [go_sem, *] at q_; have q2_ : q = some _ := q_; subst q2_)
   have q_ := x1.cq (w.heap.size) 5
   generalize c_x1_0_5 : x1.val.cell? ⟨w.heap.size, 5, none⟩ = q at q_
   first | (have q2_ : q = some _ := q_; subst q2_) | (simp [go_sem] at q_; have q2_ : q = some _ := q_; subst q2_) | (simp [go_sem, *] at q_; have q2_ : q = some _ := q_; subst q2_)
   have q_ := x1.cq (w.heap.size) 6
   generalize c_x1_0_6 : x1.val.cell? ⟨w.heap.size, 6, none⟩ = q at q_
   first | (have q2_ : q = some _ := q_; subst q2_) | (simp [go_sem] at q_; have q2_ : q = some _ := q_; subst q2_) | (simp [go_sem, *] at q_; have q2_ : q = some _ := q_; subst q2_)
   have q_ := x1.cq (w.heap.size) 7
   generalize c_x1_0_7 : x1.val.cell? ⟨w.heap.size, 7, none⟩ = q at q_
   first | (have q2_ : q = some _ := q_; subst q2_) | (simp [go_sem] at q_; have q2_ : q = some _ := q_; subst q2_) | (simp [go_sem, *] at q_; have q2_ : q = some _ := q_; subst q2_)
   have q_ := x1.cq (w.heap.size) 8
   generalize c_x1_0_8 : x1.val.cell? ⟨w.heap.size, 8, none⟩ = q at q_
   first | (have q2_ : q = some _ := q_; subst q2_) | (simp [go_sem] at q_; have q2_ : q = some _ := q_; subst q2_) | (simp [go_sem, *] at q_; have q2_ : q = some _ := q_; subst q2_)
   have l_x1_1 : (w.heap.size+1) < x1.val.heap.size := by omega
   have m_x1_1 : (w.heap.size+1) < x1.val.heap.size + 1 := by omega
   have q_ := x1.cq ((w.heap.size+1)) 0
   generalize c_x1_1_0 : x1.val.cell? ⟨(w.heap.size+1), 0, none⟩ = q at q_
   first | (have q2_ : q = some _ := q_; subst q2_) | (simp [go_sem] at q_; have q2_ : q = some _ := q_; subst q2_) | (simp [go_sem, *] at q_; have q2_ : q = some _ := q_; subst q2_)
   have q_ := x1.cq ((w.heap.size+1)) 1
   generalize c_x1_1_1 : x1.val.cell? ⟨(w.heap.size+1), 1, none⟩ = q at q_
   first | (have q2_ : q = some _ := q_; subst q2_) | (simp [go_sem] at q_; have q2_ : q = some _ := q_; subst q2_) | (simp [go_sem, *] at q_; have q2_ : q = some _ := q_; subst q2_)
   have q_ := x1.cq ((w.heap.size+1)) 2
   generalize c_x1_1_2 : x1.val.cell? ⟨(w.heap.size+1), 2, none⟩ = q at q_
   first | (have q2_ : q = some _ := q_; subst q2_) | (simp [go_sem] at q_; have q2_ : q = some _ := q_; subst q2_) | (simp [go_sem, *] at q_; have q2_ : q = some _ := q_; subst q2_)
   have q_ := x1.cq ((w.heap.size+1)) 3
   generalize c_x1_1_3 : x1.val.cell? ⟨(w.heap.size+1), 3, none⟩ = q at q_
   first | (have q2_ : q = some _ := q_; subst q2_) | (simp [go_sem] at q_; have q2_ : q = some _ := q_; subst q2_) | (simp [go_sem, *] at q_; have q2_ : q = some _ := q_; subst q2_)
   have q_ := x1.cq ((w.heap.size+1)) 4
   generalize c_x1_1_4 : x1.val.cell? ⟨(w.heap.size+1), 4, none⟩ = q at q_
   first | (have q2_ : q = some _ := q_; subst q2_) | (simp [go_sem] at q_; have q2_ : q = some _ := q_; subst q2_) | (simp [go_sem, *] at q_; have q2_ : q = some _ := q_; subst q2_)
   go_wp2_with fail
   with_reducible refine (CL.out _).mono ?_
   rintro e_x2 w_x2 ⟨rfl, hb_x2⟩
   obtain ⟨x2, rfl⟩ := later_is hb_x2
   clear hb_x2
   have hz_x2 := x2.bel.size
   try simp at hz_x2
   replace c_x1_0_0 := x2.carry c_x1_0_0
   replace c_x1_0_1 := x2.carry c_x1_0_1
   replace c_x1_0_2 := x2.carry c_x1_0_2
   replace c_x1_0_3 := x2.carry c_x1_0_3
   replace c_x1_0_4 := x2.carry c_x1_0_4
   replace c_x1_0_5 := x2.carry c_x1_0_5
   replace c_x1_0_6 := x2.carry c_x1_0_6
   replace c_x1_0_7 := x2.carry c_x1_0_7
   replace c_x1_0_8 := x2.carry c_x1_0_8
   replace c_x1_1_0 := x2.carry c_x1_1_0
   replace c_x1_1_1 := x2.carry c_x1_1_1
   replace c_x1_1_2 := x2.carry c_x1_1_2
   replace c_x1_1_3 := x2.carry c_x1_1_3
   replace c_x1_1_4 := x2.carry c_x1_1_4
   have lc_x2_0 : w.heap.size < x2.val.heap.size := by omega
   have mc_x2_0 : w.heap.size < x2.val.heap.size + 1 := by omega
   have lc_x2_1 : (w.heap.size+1) < x2.val.heap.size := by omega
   have mc_x2_1 : (w.heap.size+1) < x2.val.heap.size + 1 := by omega
   have l_x2_0 : x1.val.heap.size < x2.val.heap.size := by omega
   have m_x2_0 : x1.val.heap.size < x2.val.heap.size + 1 := by omega
   have q_ := x2.cq (x1.val.heap.size) 0
   generalize c_x2_0_0 : x2.val.cell? ⟨x1.val.heap.size, 0, none⟩ = q at q_
   first | (have q2_ : q = some _ := q_; subst q2_) | (simp [go_sem] at q_; have q2_ : q = some _ := q_; subst q2_) | (simp [go_sem, *] at q_; have q2_ : q = some _ := q_; subst q2_)
   have q_ := x2.cq (x1.val.heap.size) 1
   generalize c_x2_0_1 : x2.val.cell? ⟨x1.val.heap.size, 1, none⟩ = q at q_
   first | (have q2_ : q = some _ := q_; subst q2_) | (simp [go_sem] at q_; have q2_ : q = some _ := q_; subst q2_) | (simp [go_sem, *] at q_; have q2_ : q = some _ := q_; subst q2_)
   go_wp2_with fail
   with_reducible refine (CH.out _).mono ?_
   rintro e_x3 w_x3 ⟨rfl, hb_x3⟩
   obtain ⟨x3, rfl⟩ := later_is hb_x3
   clear hb_x3
   have hz_x3 := x3.bel.size
   try simp at hz_x3
   replace c_x1_0_0 := x3.carry c_x1_0_0
   replace c_x1_0_1 := x3.carry c_x1_0_1
   replace c_x1_0_2 := x3.carry c_x1_0_2
   replace c_x1_0_3 := x3.carry c_x1_0_3
   replace c_x1_0_4 := x3.carry c_x1_0_4
   replace c_x1_0_5 := x3.carry c_x1_0_5
   replace c_x1_0_6 := x3.carry c_x1_0_6
   replace c_x1_0_7 := x3.carry c_x1_0_7
   replace c_x1_0_8 := x3.carry c_x1_0_8
   replace c_x1_1_0 := x3.carry c_x1_1_0
   replace c_x1_1_1 := x3.carry c_x1_1_1
   replace c_x1_1_2 := x3.carry c_x1_1_2
   replace c_x1_1_3 := x3.carry c_x1_1_3
   replace c_x1_1_4 := x3.carry c_x1_1_4
   replace c_x2_0_0 := x3.carry c_x2_0_0
   replace c_x2_0_1 := x3.carry c_x2_0_1
   have lc_x3_0 : w.heap.size < x3.val.heap.size := by omega
   have mc_x3_0 : w.heap.size < x3.val.heap.size + 1 := by omega
   have lc_x3_1 : (w.heap.size+1) < x3.val.heap.size := by omega
   have mc_x3_1 : (w.heap.size+1) < x3.val.heap.size + 1 := by omega
   have lc_x3_2 : x1.val.heap.size < x3.val.heap.size := by omega
   have mc_x3_2 : x1.val.heap.size < x3.val.heap.size + 1 := by omega
   go_wp2_with fail
   with_reducible refine (WD.out _).mono ?_
   rintro e_x4 w_x4 ⟨rfl, hb_x4⟩
   obtain ⟨x4, rfl⟩ := later_is hb_x4
   clear hb_x4
   have hz_x4 := x4.bel.size
   try simp at hz_x4
   replace c_x1_0_0 := x4.carry c_x1_0_0
   replace c_x1_0_1 := x4.carry c_x1_0_1
   replace c_x1_0_2 := x4.carry c_x1_0_2
   replace c_x1_0_3 := x4.carry c_x1_0_3
   replace c_x1_0_4 := x4.carry c_x1_0_4
   replace c_x1_0_5 := x4.carry c_x1_0_5
   replace c_x1_0_6 := x4.carry c_x1_0_6
   replace c_x1_0_7 := x4.carry c_x1_0_7
   replace c_x1_0_8 := x4.carry c_x1_0_8
   replace c_x1_1_0 := x4.carry c_x1_1_0
   replace c_x1_1_1 := x4.carry c_x1_1_1
   replace c_x1_1_2 := x4.carry c_x1_1_2
   replace c_x1_1_3 := x4.carry c_x1_1_3
   replace c_x1_1_4 := x4.carry c_x1_1_4
   replace c_x2_0_0 := x4.carry c_x2_0_0
   replace c_x2_0_1 := x4.carry c_x2_0_1
   have lc_x4_0 : w.heap.size < x4.val.heap.size := by omega
   have mc_x4_0 : w.heap.size < x4.val.heap.size + 1 := by omega
   have lc_x4_1 : (w.heap.size+1) < x4.val.heap.size := by omega
   have mc_x4_1 : (w.heap.size+1) < x4.val.heap.size + 1 := by omega
   have lc_x4_2 : x1.val.heap.size < x4.val.heap.size := by omega
   have mc_x4_2 : x1.val.heap.size < x4.val.heap.size + 1 := by omega
   go_wp2
   go_ret2
   exact ⟨rfl, belo⟩
end Go.Proofs.Ythhokpaidekmnaa
