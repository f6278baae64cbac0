/- A disk: Crash. -/
import Derived.Test.YtalaobpehkgilaaDisk3
import Derived.Lib.MinMax
namespace Go.Proofs.Ytalaobpehkgilaa
open Go.RowKit
set_option linter.unusedVariables false
attribute [local go_sem] Later.cell Later.frozen setCell_twice
theorem own_take {w : World} {B e n m k : Nat} {A : Option Addr} {l : List Value} (h : w.ownsRow B e 1 (.slice A n m) n l) (hk : k ≤ n) : w.ownsRow B e 1 (.slice A k m) k (l.take k) := by
  have hl := h.1
  refine ⟨by rw [List.length_take]; omega, ?_⟩
  rcases h.2 with ⟨hv, h0⟩ | ⟨g', cap, cur, hv, hg, hh, hn, hm, hs, ht⟩
  · left
    obtain ⟨rfl, _, rfl⟩ : A = none ∧ n = 0 ∧ m = 0 := by simpa using hv
    obtain rfl : k = 0 := by omega
    exact ⟨rfl, rfl⟩
  · right
    obtain ⟨rfl, rfl⟩ : A = some ⟨g', 0, none⟩ ∧ m = cap := by simpa using hv
    refine ⟨g', m, cur, rfl, hg, hh, by omega, hm, hs, ?_⟩
    rw [← ht, List.take_take]
    congr 1
    omega
section
variable {w : World} {B g c : Nat} {A : Option Addr} {D : Dk}
theorem DkAt.cut {w' : World} {D' : Dk} {k : Nat} (h : DkAt w B g A c D) (o : Only g w w') (hr : RowAt w' g 51 (D'.C g A c)) (hl : D'.l = D.l.take k) (hk : k ≤ D.l.length) (hok : D'.Ok) : DkAt w' B g A c D' :=
  ⟨hr, by
    have := own_take (o.own_ne h.own h.ne) hk
    rw [← List.map_take] at this
    have hlen : D'.l.length = k := by rw [hl, List.length_take]; omega
    rw [hl, List.length_take, Nat.min_eq_left hk]
    exact this, h.base, hok, h.ne⟩
set_option maxHeartbeats 400000 in
theorem crash_any (h : DkAt w B g A c D) (n : Int) (hlo : -9223372036854775808 ≤ n) (hhi : n ≤ 9223372036854775807) : Calls Try.prog 13 #[.pointer (some ⟨g, 0, none⟩), .int .i64 n] w fun e w' => e = .returned (.tuple #[]) ∧ DkAt w' B g A c (D.crash n) ∧ Only g w w' := by
  have km := Lib.hid (made_yes h)
  have H := Lib.hid h
  obtain ⟨k, hk⟩ : ∃ k : Nat, D.safe + min n.toNat (D.l.length - D.safe) = k := ⟨_, rfl⟩
  have hs := h.ok.safe
  have hcap : D.l.length ≤ c := (own_nil_c h.own).2
  have hcm : Hid (c ≤ 9223372036854775807) := Lib.hid (own_cap h.own)
  have hrm := h.ok.room
  have hrh := h.ok.hi
  have HK := Lib.hid (Dk.crash_ok h.ok n)
  have HE : Hid (D.crash n = { D with l := D.l.take k, safe := k, left := none, off := false }) := Lib.hid (by unfold Dk.crash; dsimp only; rw [hk])
  have hkl : k ≤ D.l.length := by omega
  have c2 : w.cell? ⟨g, 2, none⟩ = some (.slice A D.l.length c) := h.row.cells 2
  have c3 : w.cell? ⟨g, 3, none⟩ = some (.int .i64 (D.safe : Int)) := h.row.cells 3
  have c4 : w.cell? ⟨g, 4, none⟩ = some (.bool D.left.isSome) := h.row.cells 4
  have c5 : w.cell? ⟨g, 5, none⟩ = some (.int .i64 ((D.left.getD 0 : Nat) : Int)) := h.row.cells 5
  have c6 : w.cell? ⟨g, 6, none⟩ = some (.bool D.off) := h.row.cells 6
  have f2 := h.row.frozen 2
  have f3 := h.row.frozen 3
  have f4 := h.row.frozen 4
  have f5 := h.row.frozen 5
  have f6 := h.row.frozen 6
  obtain ⟨j, hj⟩ : ∃ j : Nat, min (max n 0) ((D.l.length : Int) - (D.safe : Int)) = (j : Int) := ⟨(min (max n 0) ((D.l.length : Int) - (D.safe : Int))).toNat, by omega⟩
  have hjk : D.safe + j = k := by omega
  clear h
  go_enter Try.func13, Try.ntmps13
  have hjc : (D.safe : Int) + (j : Int) = (k : Int) := by omega
  have hk0 : (0 : Int) ≤ (k : Int) := by omega
  have hkc : (k : Int) ≤ (c : Int) := by omega
  go_wp2_with fail
  refine (km.out).mono ?_
  rintro e_ w_ ⟨rfl, rfl⟩
  go_wp2
  go_region
  go_wp2
  go_region
  go_wp2
  obtain ⟨w2, hw2⟩ : ∃ w2, w2 = (((((w.setCell ⟨g, 2, none⟩ (.slice A k c)).setCell ⟨g, 3, none⟩ (.int .i64 (k : Int))).setCell ⟨g, 6, none⟩ (.bool false)).setCell ⟨g, 4, none⟩ (.bool false)).setCell ⟨g, 5, none⟩ (.int .i64 0)).drew.drew := ⟨_, rfl⟩
  have ho : Only g w w2 := by rw [hw2]; exact ((((((Only.refl _ _).set _).set _).set _).set _).set _).drew.drew
  have hr : RowAt w2 g 51 ((D.crash n).C g A c) := by
    have hr := (((((H.out.row.set 2 (.slice A k c)).set 3 (.int .i64 (k : Int))).set 6 (.bool false)).set 4 (.bool false)).set 5 (.int .i64 0)).drew.drew
    rw [← hw2] at hr
    have hlk : (D.l.take k).length = k := by rw [List.length_take]; omega
    rw [HE.out]
    simp only [Dk.C, hlk]
    simpa using hr
  rw [← hw2]
  exact bodyPost_end (results_none rfl _ _ _) rfl ⟨rfl, H.out.cut ho hr (k := k) (by rw [HE.out]) hkl HK.out, ho⟩
end
end Go.Proofs.Ytalaobpehkgilaa
