/- The walks of the reference of layer 19: Own, Words. -/
import Derived.Test.YtopkncbpkccfbaaRf17
import Derived.Test.YtopkncbpkccfbaaStgA
namespace Go.Proofs.Ytopkncbpkccfbaa
open Go.RowKit
set_option linter.unusedVariables false
attribute [local go_sem] Later.cell Later.frozen setCell_twice
theorem made_w (n : Nat) : (madeCells (Value.int .u16 0).cells n).toList = (List.replicate n 0).map u16w := by
  have := made_vals .u16 n
  rw [vals] at this
  exact this
def ownK (a n : Nat) (ws : List Nat) (k : Nat) : List Nat := a :: n :: fillD 0 ws 14 k
theorem ownK_set {a n k x : Nat} {ws : List Nat} (hk : k < 14) (hx : ws[k]? = some x) : (ownK a n ws k).set (2 + k) x = ownK a n ws (k + 1) := by
  unfold ownK
  rw [Nat.add_comm, List.set_cons_succ, List.set_cons_succ, fillD_step hk hx]
theorem ownK_zero (a n : Nat) (ws : List Nat) : ownK a n ws 0 = ((List.replicate 16 0).set 0 a).set 1 n := by
  unfold ownK; rw [fillD_zero]; rfl
theorem ownK_all {a : Int} {ws : List Nat} (h : Bk.fits a ws.length = true) : ownK a.toNat ws.length ws ws.length = Stg.itself a ws := by
  rw [Stg.itself_yes h]
  unfold ownK fillD
  rw [List.take_length]
  rfl
set_option maxRecDepth 100000 in
set_option maxHeartbeats 400000 in
theorem rown_any (a : Int) (ws : List Nat) (A : Option Addr) (c n : Nat) (w : World) (hn : ws.length = n) (sq : Sq u16w w w.heap.size A ws) (hu : ∀ x ∈ ws, x < 65536) (lo : -9223372036854775808 ≤ a) (hi : a ≤ 9223372036854775807) (hnc : ws.length ≤ 9223372036854775807) :
    Calls Try.prog 46 #[.agg #[.int .i64 a, .slice A n c]] w (Makes u16w 22 w (Stg.itself a ws)) := by
  obtain ⟨i0, hif, hz0, hz1, hz2⟩ := info_parts info_w16
  subst hn
  have hsq := Lib.hid (fun W (h : Below w.heap.size w W) => sq.below h)
  have HI := Lib.hid (Stg.itself_length a ws)
  cases hf : Bk.fits a ws.length
  · have kf := Lib.hid (fun W => rfits_any a ws.length c A false W lo hi hnc hf)
    have HN := Lib.hid (show Stg.itself a ws = List.replicate 16 0 from Stg.itself_no hf)
    clear hf sq
    go_enter Try.func46, Try.ntmps46
    go_wp2_with (at_make; refine wpList_make_full _ rfl _ _ 24 rfl w.heap.size 22 i0 (.int .u16 0) 1 Try.underlying24 hif hz0 hz1 _ _ _ _ 16 rfl rfl rfl rfl (by rw [hz2]; decide) (by decide) (by simp) ?_; intro w2 o2 hg2; have hb2 : Below w.heap.size w w2 := (bel_alloc (Below.refl _ _) _).grown hg2 (by simp) (by simp); have q0 : w2.cell? ⟨w.heap.size, 0, none⟩ = some (.int .i64 a) := hg2.cell (by simp) (by simp); have q1 : w2.cell? ⟨w.heap.size, 1, none⟩ = some (.slice A ws.length c) := hg2.cell (by simp) (by simp); have o2' : w2.ownsRow w.heap.size 22 1 (.slice (some ⟨w.heap.size + 1, 0, none⟩) 16 16) 16 ((List.replicate 16 0).map u16w) := (by rw [← made_w]; simpa using o2); have O2 := Lib.hid o2'; clear hg2 o2 o2')
    with_reducible refine (kf.out _).mono ?_
    rintro e_ w3 ⟨rfl, hb3⟩
    have o3 := own_below O2.out hb3
    have hbw3 : Below w.heap.size w w3 := hb2.trans (hb3.mono hb2.size)
    clear hb3 hb2 q0 q1
    go_wp2
    go_ret
    rw [HN.out]
    exact Makes.of_own (by simp) o3 hbw3
  · have kf := Lib.hid (fun W => rfits_any a ws.length c A true W lo hi hnc hf)
    have hfi := Bk.fits_iff.1 hf
    have HN := Lib.hid (ownK_all hf)
    have ha0 : 0 ≤ a := hfi.2.1
    have ha1 : a < 64 := hfi.2.2.1
    have hn14 : ws.length ≤ 14 := hfi.1
    obtain ⟨m, hm⟩ : ∃ m : Nat, a = (m : Int) := ⟨a.toNat, by omega⟩
    subst hm
    have e1 : IntKind.u16.wrap (m : Int) = (m : Int) := by rw [wrap_u16]; omega
    have e2 : IntKind.u16.wrap (ws.length : Int) = (ws.length : Int) := by rw [wrap_u16]; omega
    rw [Int.toNat_natCast] at HN
    clear hf hfi
    go_enter Try.func46, Try.ntmps46
    go_wp2_with (at_make; refine wpList_make_full _ rfl _ _ 24 rfl (w.heap.size + 1) 22 i0 (.int .u16 0) 1 Try.underlying24 hif hz0 hz1 _ _ _ _ 16 rfl rfl rfl rfl (by rw [hz2]; decide) (by decide) (by simp) ?_; intro w2 o2 hg2; have hb2 : Below w.heap.size w w2 := (bel_alloc (Below.refl _ _) _).grown hg2 (by simp) (by simp); have q0 : w2.cell? ⟨w.heap.size, 0, none⟩ = some (.int .i64 (m : Int)) := hg2.cell (by simp) (by simp); have q1 : w2.cell? ⟨w.heap.size, 1, none⟩ = some (.slice A ws.length c) := hg2.cell (by simp) (by simp); have o2' : w2.ownsRow (w.heap.size + 1) 22 1 (.slice (some ⟨w.heap.size + 1, 0, none⟩) 16 16) 16 ((List.replicate 16 0).map u16w) := (by rw [← made_w]; simpa using o2); have O2 := Lib.hid o2'; clear hg2 o2 o2')
    with_reducible refine (kf.out _).mono ?_
    rintro e_ w3 ⟨rfl, hb3⟩
    have o3 := own_below O2.out hb3
    have hb3a : Below (w.heap.size + 1) w2 w3 := hb3.mono (by have := (O2.out.lt (w.heap.size + 1) rfl).2; omega)
    have p0 : w3.cell? ⟨w.heap.size, 0, none⟩ = some (.int .i64 (m : Int)) := (hb3a.cell (p := ⟨w.heap.size, 0, none⟩) (Nat.lt_succ_self _)).trans q0
    have p1 : w3.cell? ⟨w.heap.size, 1, none⟩ = some (.slice A ws.length c) := (hb3a.cell (p := ⟨w.heap.size, 1, none⟩) (Nat.lt_succ_self _)).trans q1
    have k0 : w3.cell? ⟨w.heap.size + 1, 0, none⟩ = some (.int .u16 0) := (o3.cellAt 0 (by omega)).trans rfl
    have k1 : w3.cell? ⟨w.heap.size + 1, 1, none⟩ = some (.int .u16 0) := (o3.cellAt 1 (by omega)).trans rfl
    have f0 : w3.frozen? ⟨w.heap.size + 1, 0, none⟩ = false := o3.frozenAt 0
    have f1 : w3.frozen? ⟨w.heap.size + 1, 1, none⟩ = false := o3.frozenAt 1
    have hbw3 : Below w.heap.size w w3 := hb2.trans (hb3.mono hb2.size)
    have O3 := Lib.hid o3
    have BW := Lib.hid hbw3
    clear hb3 hb3a hb2 q0 q1 o3 hbw3
    go_wp2
    obtain ⟨w4, hw4⟩ : ∃ w4, w4 = (w3.setCell ⟨w.heap.size + 1, 0, none⟩ (.int .u16 (m : Int))).setCell ⟨w.heap.size + 1, 1, none⟩ (.int .u16 (ws.length : Int)) := ⟨_, rfl⟩
    rw [← hw4]
    have o4 : w4.ownsRow (w.heap.size + 1) 22 1 (.slice (some ⟨w.heap.size + 1, 0, none⟩) 16 16) 16 ((ownK m ws.length ws 0).map u16w) := by
      rw [hw4, ownK_zero]
      exact own_set (own_set O3.out)
    have hb4 : Below (w.heap.size + 1) w3 w4 := by rw [hw4]; exact ((Below.refl _ _).setCell (p := ⟨w.heap.size + 1, 0, none⟩) (Nat.le_refl _) _).setCell (p := ⟨w.heap.size + 1, 1, none⟩) (Nat.le_refl _) _
    replace BW := Lib.hid (BW.out.trans (hb4.mono (Nat.le_succ _)))
    have r1 : w4.cell? ⟨w.heap.size, 1, none⟩ = some (.slice A ws.length c) := (hb4.cell (p := ⟨w.heap.size, 1, none⟩) (Nat.lt_succ_self _)).trans p1
    have O4 := Lib.hid o4
    clear hw4 o4 hb4 p0 p1 k0 k1 f0 f1 e1 e2
    go_loopw [4] (fun i wr => ∃ k : Nat, k ≤ ws.length ∧ i = .int .i64 k ∧ wr.ownsRow (w.heap.size + 1) 22 1 (.slice (some ⟨w.heap.size + 1, 0, none⟩) 16 16) 16 ((ownK m ws.length ws k).map u16w) ∧ Below (w.heap.size + 1) w4 wr) (fun i _ => ws.length - (intOf i).toNat)
    case atStart => exact ⟨0, by omega, rfl, O4.out, Below.refl _ _⟩
    case round =>
      obtain ⟨k, hk, rfl, hown, hbr⟩ := hrel
      have s1 : wr.cell? ⟨w.heap.size, 1, none⟩ = some (.slice A ws.length c) := (hbr.cell (p := ⟨w.heap.size, 1, none⟩) (Nat.lt_succ_self _)).trans r1
      have hbw : Below w.heap.size w wr := BW.out.trans (hbr.mono (Nat.le_succ _))
      by_cases hlt : k < ws.length
      · obtain ⟨b', o', x, hA, hb', hx, hcx⟩ := (hsq.out wr hbw).at_ hlt
        subst hA
        obtain ⟨old, hold⟩ : ∃ old, (ownK m ws.length ws k)[2 + k]? = some old := ⟨_, List.getElem?_eq_getElem (by simp [ownK, fillD]; omega)⟩
        have k0 : wr.cell? ⟨w.heap.size + 1, 2 + k, none⟩ = some (.int .u16 (old : Int)) := (hown.cellAt (2 + k) (by omega)).trans (map_get hold)
        have f0 := hown.frozenAt (2 + k)
        have hltI : (k : Int) < (ws.length : Int) := by omega
        have h0I : (0 : Int) ≤ (k : Int) := by omega
        have h2I : (2 : Int) + (k : Int) < 16 := by omega
        have hos := own_set (i := 2 + k) (x := x) hown
        rw [ownK_set (by omega) hx] at hos
        have HOS := Lib.hid hos
        have hkc : (k : Int) < (c : Int) ∨ True := .inr trivial
        clear hx hold hos hown hkc
        go_wp2
        go_roundw
        case rel => exact ⟨k + 1, by omega, by go_num, HOS.out, hbr.setCell (p := ⟨w.heap.size + 1, 2 + k, none⟩) (Nat.le_refl _) _⟩
        case measure => simp [intOf]; omega
      · obtain rfl : k = ws.length := by omega
        rw [HN.out] at hown
        go_wp2
        go_ret
        exact Makes.of_own HI.out (own_more hown (Nat.le_succ _)) hbw
end Go.Proofs.Ytopkncbpkccfbaa
