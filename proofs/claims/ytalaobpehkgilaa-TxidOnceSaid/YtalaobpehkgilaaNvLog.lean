/- Layer 10: a log: made, Append, Free. -/
import Derived.Test.YtalaobpehkgilaaNvRead
import Derived.Test.YtalaobpehkgilaaDkNo0
namespace Go.Proofs.Ytalaobpehkgilaa
open Go.RowKit
set_option linter.unusedVariables false
attribute [local go_sem] Later.cell Later.frozen setCell_twice
theorem Dur.trans {w w1 w2 : World} {B g : Nat} {A : Option Addr} {D2 : Dk} {A1 : Option Addr} (m1 : Moves g A w w1) (f1 : A1 = A ∨ ∀ p, A1 = some p → w.heap.size ≤ p.block) (h2 : Dur w1 B g A1 D2 w2) : Dur w B g A D2 w2 := by
  obtain ⟨A2, c2, k2, m2, f2⟩ := h2
  refine ⟨A2, c2, k2, m1.trans f1 m2, ?_⟩
  rcases f2 with f | f
  · rw [f]; exact f1
  · exact .inr (fun p hp => Nat.le_trans m1.size (f p hp))
/-- a log: itself, its disk -/
abbrev LogAt (w : World) (gl gd : Nat) : Prop := RowAt w gl 58 [.pointer (some ⟨gl, 0, none⟩), .pointer (some ⟨gd, 0, none⟩)]
theorem size_log : (Try.prog.info? 58).map (·.size) = some 2 := by kernel_rfl
theorem lptr_same (a : Addr) (w : World) : (binOp .eql 28 (.pointer (some a)) (.pointer (some a))).run Try.prog w = .ok (.bool true) w := by
  obtain ⟨j, hj, _⟩ := Option.map_eq_some_iff.1 size_log
  exact run_eql_ptr_same w a Try.underlying28 hj
theorem lptr_nil_some (a : Addr) (w : World) : (binOp .eql 28 (.pointer none) (.pointer (some a))).run Try.prog w = .ok (.bool false) w := by
  have h : ∀ d : Nat, (Op.equalIn (d + 1) 28 (.pointer none) (.pointer (some a))).run Try.prog w = .ok false w := fun d => by
    simp [Op.equalIn, run_underlying Try.underlying28]
  simp only [binOp]
  simp [Op.equal, Op.maxDepth, h 9999]
theorem lmade_yes {w : World} {gl gd : Nat} (h : LogAt w gl gd) : Calls Try.prog 19 #[.pointer (some ⟨gl, 0, none⟩)] w fun e w' => e = .returned (.bool true) ∧ w = w' := by
  have c0 : w.cell? ⟨gl, 0, none⟩ = some (.pointer (some ⟨gl, 0, none⟩)) := h.cells 0
  have hp := lptr_same
  clear h
  go_enter Try.func19, Try.ntmps19
  go_wp2
  go_ret
  exact ⟨rfl, rfl⟩
theorem lmade_nil (w : World) : Calls Try.prog 19 #[.pointer none] w fun e w' => e = .returned (.bool false) ∧ w = w' := by
  go_enter Try.func19, Try.ntmps19
  go_wp2
  go_ret
  exact ⟨rfl, rfl⟩
theorem lmade_no {w : World} {gl : Nat} (c0 : w.cell? ⟨gl, 0, none⟩ = some (.pointer none)) : Calls Try.prog 19 #[.pointer (some ⟨gl, 0, none⟩)] w fun e w' => e = .returned (.bool false) ∧ w = w' := by
  have hp := lptr_nil_some
  go_enter Try.func19, Try.ntmps19
  go_wp2
  go_ret
  exact ⟨rfl, rfl⟩
/-- a record appended, and synced -/
def Dk.lappend (D : Dk) (x : Nr) : Dk × Int := if x.right = true then (if (D.append x.bytes).2 = 0 then (D.append x.bytes).1.sync else D.append x.bytes) else (D, 50)
theorem Dk.lappend_ok {D : Dk} (h : D.Ok) {x : Nr} (hf : x.Fit) : (D.lappend x).1.Ok := by
  have h1 := append_ok h (Nr.bytes_u hf)
  unfold Dk.lappend
  split
  · split
    · exact sync_ok h1
    · exact h1
  · exact h
section
variable {w : World} {B gd gl c : Nat} {A : Option Addr} {D : Dk}
set_option maxRecDepth 100000 in
set_option maxHeartbeats 1000000 in
theorem lappend_any (h : DkAt w B gd A c D) (hl : LogAt w gl gd) (hne : gl ≠ gd) (hAl : ∀ p, A = some p → p.block ≠ gl) (x : Nr) (Ax : Option Addr) (cx n : Nat) (hn : x.text.length = n) (hf : x.Fit) (hsq : Sq byw w w.heap.size Ax x.text) (hnl : Ax = none → cx = 0) :
    Calls Try.prog 6 #[.pointer (some ⟨gl, 0, none⟩), .agg (rcV x.what x.tx x.who x.yes Ax n cx).toArray] w (OpP w B gd A (D.lappend x)) := by
  obtain ⟨w0, hw0⟩ : ∃ W, W = w.alloc (.cells (rcV x.what x.tx x.who x.yes Ax n cx).toArray 35) := ⟨_, rfl⟩
  have b0 : Below w.heap.size w w0 := by rw [hw0]; exact bel_alloc (Below.refl _ _) _
  have DK := Lib.hid (h.to b0)
  have LG := Lib.hid (hl.to b0)
  have MV := Lib.hid (Moves.of_below (g := gd) (A := A) b0)
  have kb := Lib.hid (nbytes_any x Ax cx n hn hf w0 ((hsq.below b0).more b0.size) hnl)
  have R0 := Lib.hid (RowAt.new' w w.heap.size 35 (rcV x.what x.tx x.who x.yes Ax n cx) rfl)
  have km := Lib.hid (lmade_yes LG.out)
  have HF := Lib.hid hf
  have hlt : w.heap.size ≤ w0.heap.size := b0.size
  have hgl : gl < w.heap.size := hl.lt
  have hgd : gd < w.heap.size := h.lt
  have HAL := Lib.hid hAl
  have HAB : Hid (∀ p, A = some p → p.block < w.heap.size) := Lib.hid (fun p hp => (own_at h.own p hp).2.1)
  rw [hw0] at km kb
  clear h hl hsq b0 hAl
  obtain ⟨R, hR⟩ : ∃ R, D.lappend x = R := ⟨_, rfl⟩
  rw [hR]
  have HR := Lib.hid hR
  clear hR
  go_enter Try.func6, Try.ntmps6
  go_wp2_with fail
  refine (km.out).mono ?_
  rintro e_ w_ ⟨rfl, rfl⟩
  go_wp2_with (refine wpList_load_var rfl 35 (.tmp 3) rfl w.heap.size rfl (rcV x.what x.tx x.who x.yes Ax n cx) _ 5 R0.out Try.underlying35 rfl size_rec rfl ?_)
  refine (kb.out).mono ?_
  rintro e w1 ⟨b1, hif⟩
  rw [← hw0] at b1 hif
  have DK1 := Lib.hid (DK.out.to b1)
  have LG1 := Lib.hid (LG.out.to b1)
  have MV1 := Lib.hid (MV.out.trans (.inl rfl) (.of_below b1))
  have hlt1 := b1.size
  clear DK LG MV b1 km kb R0 hw0
  by_cases hr : x.right = true
  · rw [if_pos hr] at hif
    obtain ⟨Ab, cb, rfl, ob⟩ := hif
    obtain ⟨D1, E1, hd⟩ : ∃ D1 E1, D.append x.bytes = (D1, E1) := ⟨_, _, rfl⟩
    obtain ⟨nb, hnb⟩ : ∃ nb, x.bytes.length = nb := ⟨_, rfl⟩
    have hnb2 : nb ≤ 100000 := by rw [← hnb, Nr.bytes_length, Nr.size]; have := Nr.right_len hr; omega
    rw [hnb] at ob ⊢
    have kap := append_any DK1.out Ab cb nb x.bytes hnb (by omega) (Sq.of_own ob) (Nr.bytes_u HF.out) (fun _ p hp => by have h1 := (own_at ob p hp).1; have h2 : gd < w.heap.size := hgd; omega) (fun _ p q hp hq => by have h1 := (own_at ob p hp).1; have h2 := HAB.out q hq; omega)
    rw [hd] at kap
    have HLA : Hid (R = if E1 = 0 then D1.sync else (D1, E1)) := Lib.hid (by rw [← HR.out, Dk.lappend, if_pos hr, hd])
    have lclt : gl < (w1).heap.size := LG1.out.lt
    have lclu : gl < (w1).heap.size + 1 := Nat.lt_succ_of_lt LG1.out.lt
    have lc0 : (w1).cell? ⟨gl, 0, none⟩ = some (.pointer (some ⟨gl, 0, none⟩)) := LG1.out.cells 0
    have lcz0 : (w1).frozen? ⟨gl, 0, none⟩ = false := LG1.out.frozen 0
    have lc1 : (w1).cell? ⟨gl, 1, none⟩ = some (.pointer (some ⟨gd, 0, none⟩)) := LG1.out.cells 1
    have lcz1 : (w1).frozen? ⟨gl, 1, none⟩ = false := LG1.out.frozen 1
    clear hd hnb
    go_wp2_with fail
    refine kap.mono ?_
    rintro e w2 ⟨rfl, Ad1, cd1, dk1, mv1, fr1⟩
    have DK2 := Lib.hid dk1
    have LG2 := Lib.hid (mv1.row LG1.out hne HAL.out)
    have MV2 := Lib.hid (MV1.out.trans (.inl rfl) mv1)
    have FR2 : Hid (Ad1 = A ∨ ∀ p, Ad1 = some p → w.heap.size ≤ p.block) := Lib.hid (fr1.imp id (fun h p hp => by have := h p hp; omega))
    clear dk1 mv1 fr1 kap DK1 LG1 MV1 ob
    have ldlt : gl < (w2).heap.size := LG2.out.lt
    have ldlu : gl < (w2).heap.size + 1 := Nat.lt_succ_of_lt LG2.out.lt
    have ld0 : (w2).cell? ⟨gl, 0, none⟩ = some (.pointer (some ⟨gl, 0, none⟩)) := LG2.out.cells 0
    have ldz0 : (w2).frozen? ⟨gl, 0, none⟩ = false := LG2.out.frozen 0
    have ld1 : (w2).cell? ⟨gl, 1, none⟩ = some (.pointer (some ⟨gd, 0, none⟩)) := LG2.out.cells 1
    have ldz1 : (w2).frozen? ⟨gl, 1, none⟩ = false := LG2.out.frozen 1
    by_cases hE : E1 = 0
    · subst hE
      obtain rfl : R = D1.sync := by rw [HLA.out, if_pos rfl]
      go_wp2_with fail
      refine (sync_any DK2.out).mono ?_
      rintro e w3 ⟨rfl, hd3⟩
      go_wp2
      go_ret
      exact ⟨rfl, Dur.trans MV2.out FR2.out hd3⟩
    · have gE : (E1 != 0) = true := by simpa using hE
      obtain rfl : R = (D1, E1) := by rw [HLA.out, if_neg hE]
      clear hE
      go_wp2
      go_ret
      exact ⟨rfl, Ad1, cd1, DK2.out, MV2.out, FR2.out⟩
  · rw [if_neg hr] at hif
    subst hif
    obtain rfl : R = (D, 50) := by rw [← HR.out, Dk.lappend, if_neg hr]
    go_wp2
    go_ret
    exact ⟨rfl, .same DK1.out MV1.out⟩
end
end Go.Proofs.Ytalaobpehkgilaa
