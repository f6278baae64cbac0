/- Layer 9: an operation done with a disk. -/
import Derived.Test.YtpjdgnoekplldaaDisk8
namespace Go.Proofs.Ytpjdgnoekplldaa
open Go.RowKit
set_option linter.unusedVariables false
attribute [local go_sem] Later.cell Later.frozen setCell_twice
/-- What modulo 5: appending, syncing, cutting, sparks, a crash -/
def Dk.doOp (D : Dk) (what : Nat) (b : List Nat) (n : Int) : Dk × Int :=
  if what % 5 = 0 then D.append b else if what % 5 = 1 then D.sync else if what % 5 = 2 then D.cut n else if what % 5 = 3 then (D.sparks n, 0) else (D.crash n, 0)
theorem Dk.doOp_ok {D : Dk} (h : D.Ok) (what : Nat) {b : List Nat} (n : Int) (hb : ∀ x ∈ b, x < 256) (hn : n ≤ 9223372036854775807) : (D.doOp what b n).1.Ok := by
  unfold Dk.doOp
  split
  · exact append_ok h hb
  split
  · exact sync_ok h
  split
  · exact cut_ok h n
  split
  · exact sparks_ok h hn
  · exact crash_ok h n
section
variable {w : World} {B g c : Nat} {A : Option Addr} {D : Dk}
set_option maxHeartbeats 400000 in
theorem do_any (h : DkAt w B g A c D) (what : Nat) (hw : what < 256) (n : Int) (hlo : -9223372036854775808 ≤ n) (hhi : n ≤ 9223372036854775807) (Ab : Option Addr) (cb nb : Nat) (lb : List Nat) (hnb : lb.length = nb) (hn63 : nb ≤ 9223372036854775807) (sq : Sq byw w w.heap.size Ab lb) (hu : ∀ x ∈ lb, x < 256) (hbg : 0 < lb.length → ∀ p, Ab = some p → p.block ≠ g) (hbA : 0 < lb.length → ∀ p q, Ab = some p → A = some q → q.block ≠ p.block) :
    Calls Try.prog 23 #[.pointer (some ⟨g, 0, none⟩), .agg #[.int .u8 (what : Int), .slice Ab nb cb, .int .i64 n]] w (OpP w B g A (D.doOp what lb n)) := by
  have hb1 : Below w.heap.size w (w.alloc (.cells #[.int .u8 (what : Int), .slice Ab nb cb, .int .i64 n] 38)) := bel_alloc (Below.refl _ _) _
  have h1 := h.to hb1
  have M1 : Moves g A w (w.alloc (.cells #[.int .u8 (what : Int), .slice Ab nb cb, .int .i64 n] 38)) := (Moves.refl _ _ _).alloc _
  have fin : ∀ (r : Dk × Int) (e : Ending) (w' : World), OpP (w.alloc (.cells #[.int .u8 (what : Int), .slice Ab nb cb, .int .i64 n] 38)) B g A r e w' → OpP w B g A r e w' := by
    rintro r e w' ⟨he, A', c', h2, m2, f2⟩
    exact ⟨he, A', c', h2, M1.trans (.inl rfl) m2, f2.imp id (fun f p hp => by have := f p hp; simp at this; omega)⟩
  have ka := Lib.hid (append_any h1 Ab cb nb lb hnb hn63 ((sq.below hb1).more hb1.size) hu hbg hbA)
  have ks := Lib.hid (sync_any h1)
  have kc := Lib.hid (cut_any h1 n hlo hhi)
  have kp := Lib.hid (sparks_any h1 n hhi)
  have kx := Lib.hid (crash_any h1 n hlo hhi)
  have FIN := Lib.hid fin
  obtain ⟨m, hm⟩ : ∃ m, what % 5 = m := ⟨_, rfl⟩
  have hmI : (what : Int) % 5 = (m : Int) := by omega
  have hm5 : m = 0 ∨ m = 1 ∨ m = 2 ∨ m = 3 ∨ m = 4 := by omega
  unfold Dk.doOp
  rw [hm]
  clear hb1 h1 M1 fin h
  rcases hm5 with rfl | rfl | rfl | rfl | rfl
  · rw [if_pos rfl]
    go_enter Try.func23, Try.ntmps23
    go_wp2_with fail
    refine (ka.out).mono ?_
    rintro e w1 ⟨rfl, hd⟩
    go_wp2
    go_ret
    exact FIN.out _ _ _ ⟨rfl, hd⟩
  · rw [if_neg (by decide), if_pos rfl]
    go_enter Try.func23, Try.ntmps23
    go_wp2_with fail
    refine (ks.out).mono ?_
    rintro e w1 ⟨rfl, hd⟩
    go_wp2
    go_ret
    exact FIN.out _ _ _ ⟨rfl, hd⟩
  · rw [if_neg (by decide), if_neg (by decide), if_pos rfl]
    go_enter Try.func23, Try.ntmps23
    go_wp2_with fail
    refine (kc.out).mono ?_
    rintro e w1 ⟨rfl, hd⟩
    go_wp2
    go_ret
    exact FIN.out _ _ _ ⟨rfl, hd⟩
  · rw [if_neg (by decide), if_neg (by decide), if_neg (by decide), if_pos rfl]
    go_enter Try.func23, Try.ntmps23
    go_wp2_with fail
    refine (kp.out).mono ?_
    rintro e w1 ⟨rfl, hd, ho⟩
    go_wp2
    go_ret
    exact FIN.out _ _ _ ⟨rfl, Dur.same hd (.of_only ho)⟩
  · rw [if_neg (by decide), if_neg (by decide), if_neg (by decide), if_neg (by decide)]
    go_enter Try.func23, Try.ntmps23
    go_wp2_with fail
    refine (kx.out).mono ?_
    rintro e w1 ⟨rfl, hd, ho⟩
    go_wp2
    go_ret
    exact FIN.out _ _ _ ⟨rfl, Dur.same hd (.of_only ho)⟩
end
end Go.Proofs.Ytpjdgnoekplldaa
