/- Layer 9: begins. -/
import Derived.Test.YtpjdgnoekplldaaDkOp
import Derived.Test.YtpjdgnoekplldaaSame
namespace Go.Proofs.Ytpjdgnoekplldaa
open Go.RowKit
set_option linter.unusedVariables false
attribute [local go_sem] Later.cell Later.frozen setCell_twice
theorem Sq.drop {α : Type} {f : α → Value} {w : World} {B b o n : Nat} {l : List α} (h : Sq f w B (some ⟨b, o, none⟩) l) : Sq f w B (some ⟨b, o + n, none⟩) (l.drop n) := fun hn => by
  obtain ⟨b', o', hA, hb, hc⟩ := h (by rw [List.length_drop] at hn; omega)
  obtain ⟨rfl, rfl⟩ : b = b' ∧ o = o' := by simpa using hA
  exact ⟨b, o + n, rfl, hb, fun j x hx => by
    rw [List.getElem?_drop] at hx
    rw [Nat.add_assoc]
    exact hc _ x hx⟩
theorem begins_any (B A : Option Addr) (lb la : List Nat) (cb ca nb na : Nat) (r : Bool) (w : World) (hnb : lb.length = nb) (hna : la.length = na) (hcb : nb ≤ cb) (hc : cb ≤ 9223372036854775807) (hB : B = none → cb = 0) (hn63 : na ≤ 9223372036854775807)
    (sb : Sq byw w w.heap.size B lb) (sa : Sq byw w w.heap.size A la) (ub : ∀ x ∈ lb, x < 256) (ua : ∀ x ∈ la, x < 256) (hr : decide (lb.take na = la) = r) :
    Calls Try.prog 25 #[.slice B nb cb, .slice A na ca] w fun e w' => e = .returned (.bool r) ∧ w = w' := by
  obtain ⟨n, hn⟩ : ∃ n : Nat, n = min na nb := ⟨_, rfl⟩
  have hmin : ∀ w, (Builtin.min_ #[3, 3] 3 #[.int .i64 (na : Int), .int .i64 (nb : Int)]).run Try.prog w = .ok (.int .i64 (n : Int)) w := fun w => run_min2n w _ _ na nb n hn
  have ks := Lib.hid (same_by B A (lb.take n) la cb ca n na r w (by rw [List.length_take]; omega) hna (sb.take n) sa (fun x hx => ub x (List.mem_of_mem_take hx)) ua (by
    rw [← hr]
    congr 1
    rw [show lb.take n = lb.take na by
      rcases Nat.le_total na nb with h | h
      · rw [show n = na by omega]
      · rw [List.take_of_length_le (by omega), List.take_of_length_le (by omega)]]))
  have hnc : n ≤ cb := by omega
  have hmI : min (na : Int) (nb : Int) = (n : Int) := by omega
  clear hr ua ub sa sb hn
  cases B
  · obtain rfl : cb = 0 := hB rfl
    obtain rfl : nb = 0 := by omega
    obtain rfl : n = 0 := by omega
    have hm0 : min (na : Int) 0 = 0 := by omega
    have hm1 : (min (na : Int) 0).toNat = 0 := by omega
    go_enter Try.func25, Try.ntmps25
    go_wp2_with fail
    with_reducible refine (ks.out).mono ?_
    rintro e w' ⟨rfl, rfl⟩
    go_wp2
    go_ret
    exact ⟨rfl, rfl⟩
  · go_enter Try.func25, Try.ntmps25
    go_wp2_with fail
    with_reducible refine (ks.out).mono ?_
    rintro e w' ⟨rfl, rfl⟩
    go_wp2
    go_ret
    exact ⟨rfl, rfl⟩
section
variable {w : World} {B g c : Nat} {A : Option Addr} {D : Dk}
set_option maxHeartbeats 400000 in
theorem bytes_new (h : DkAt w B g A c D) : Calls Try.prog 11 #[.pointer (some ⟨g, 0, none⟩)] w (fun e w' => e = .returned (.slice (some ⟨w.heap.size, 0, none⟩) D.l.length D.l.length) ∧ w'.ownsRow w.heap.size 5 1 (.slice (some ⟨w.heap.size, 0, none⟩) D.l.length D.l.length) D.l.length (D.l.map byw) ∧ Below w.heap.size w w') := by
  obtain ⟨i0, hif, hz0, hz1, hz2⟩ := info_parts info_b8
  have km := Lib.hid (made_yes h)
  have H := Lib.hid h
  obtain ⟨m, hm⟩ : ∃ m, D.l.length = m := ⟨_, rfl⟩
  have HM := Lib.hid hm
  have hm2 : m ≤ 262144 := by have := h.ok.room; have := h.ok.hi; omega
  have c2 : w.cell? ⟨g, 2, none⟩ = some (.slice A m c) := by have : w.cell? ⟨g, 2, none⟩ = some (.slice A D.l.length c) := h.row.cells 2; rwa [hm] at this
  have hg := h.lt
  clear h hm
  go_enter Try.func11, Try.ntmps11
  go_wp2_with fail
  refine (km.out).mono ?_
  rintro e_ w_ ⟨rfl, rfl⟩
  go_wp2_with (first | (at_make; refine wpList_make_full _ rfl _ _ 22 rfl w.heap.size 5 i0 (.int .u8 0) 1 Try.underlying22 hif hz0 hz1 _ _ _ _ m rfl rfl rfl rfl (by rw [hz2]; omega) (by unfold Go.maxLen; omega) (by simp) ?_; intro w2 o2 hg2; have hb2 : Below w.heap.size w w2 := (Below.refl _ _).grown hg2 (Nat.le_refl _) (by simp); have o2' : w2.ownsRow w.heap.size 5 1 (.slice (some ⟨w.heap.size, 0, none⟩) m m) m ((List.replicate m 0).map byw) := (by rw [Nat.mul_one, made_b] at o2; exact o2); have O2 := Lib.hid o2'; have d2 : w2.cell? ⟨g, 2, none⟩ = some (.slice A m c) := (hb2.cell (p := ⟨g, 2, none⟩) hg).trans c2; have s2 := (Sq.of_own H.out.own).below hb2; clear hg2 o2 o2') | (refine wpList_copy_bytes rfl (.tmp 13) (.tmp 17) rfl w.heap.size w.heap.size 0 m (List.replicate m 0) D.l O2.out (some ⟨w.heap.size, 0, none⟩) m m rfl (fun _ => rfl) A m c w.heap.size rfl HM.out (Nat.le_refl _) s2 (by omega) ?_; intro w3 o3 hb3; have O3 := Lib.hid o3; have hbw3 := hb2.trans hb3; clear o3 hb3))
  go_ret
  have o3 := O3.out
  rw [show splice (List.replicate m 0) 0 D.l = D.l by rw [← HM.out]; simp [splice]] at o3
  rw [HM.out]
  exact ⟨rfl, o3, hbw3⟩
end
end Go.Proofs.Ytpjdgnoekplldaa
