/- words.PackRegs. -/
import Derived.Test.YtopkncbpkccfbaaProg
import Derived.Test.YtopkncbpkccfbaaBase
import Derived.WalkLawsBesides
import Derived.WalkSpells
import Derived.BigRegion
import Derived.Outline
namespace Go.Proofs.Ytopkncbpkccfbaa
open Go.RowKit
theorem info_byte : (Try.prog.info? 5).map (fun i => (i.zero, i.size, i.bytes)) = some (some (.int .u8 0), 1, 1) := by kernel_rfl

def packRegs : List Nat → List Nat
  | [] => []
  | x :: l => x / 256 :: x % 256 :: packRegs l
theorem packRegs_length : ∀ l : List Nat, (packRegs l).length = 2 * l.length
  | [] => rfl
  | _ :: l => by simp [packRegs, packRegs_length l]; omega
theorem packRegs_append : ∀ (l m : List Nat), packRegs (l ++ m) = packRegs l ++ packRegs m
  | [], _ => rfl
  | x :: l, m => by simp [packRegs, packRegs_append l m]
theorem packRegs_byte : ∀ {l : List Nat}, (∀ x ∈ l, x < 65536) → ∀ b ∈ packRegs l, b < 256
  | [], _, _, h => by simp [packRegs] at h
  | x :: l, hl, b, h => by
    simp [packRegs] at h
    rcases h with rfl | rfl | h
    · have := hl x (by simp); omega
    · omega
    · exact packRegs_byte (fun y hy => hl y (by simp [hy])) b h

/-- the row after k rounds -/
def packed (l : List Nat) (k : Nat) : List Nat := packRegs (l.take k) ++ List.replicate (2 * (l.length - k)) 0
theorem packed_length (l : List Nat) (k : Nat) (hk : k ≤ l.length) : (packed l k).length = 2 * l.length := by
  simp [packed, packRegs_length]; omega
theorem packed_zero (l : List Nat) : packed l 0 = List.replicate (2 * l.length) 0 := by simp [packed, packRegs]
theorem packed_all (l : List Nat) : packed l l.length = packRegs l := by simp [packed]
theorem set_mid {α : Type} (xs : List α) (n : Nat) (z u : α) (i : Nat) (h : xs.length = i) (hn : 0 < n) : (xs ++ List.replicate n z).set i u = (xs ++ [u]) ++ List.replicate (n - 1) z := by
  obtain ⟨m, rfl⟩ : ∃ m, n = m + 1 := ⟨n - 1, by omega⟩
  rw [List.set_append_right _ _ (by omega), List.replicate_succ]
  subst h
  simp
theorem packed_step (l : List Nat) (k x : Nat) (hk : k < l.length) (hx : l[k]? = some x) :
    ((packed l k).set (2 * k) (x / 256)).set (2 * k + 1) (x % 256) = packed l (k + 1) := by
  have hl : (packRegs (l.take k)).length = 2 * k := by simp [packRegs_length]; omega
  unfold packed
  rw [set_mid _ _ _ _ _ hl (by omega), set_mid _ _ _ _ _ (by simp [packRegs_length]; omega) (by omega), List.take_add_one, hx, Option.toList, packRegs_append]
  simp [packRegs, show 2 * (l.length - k) - 1 - 1 = 2 * (l.length - (k + 1)) by omega]

set_option maxHeartbeats 1000000 in
theorem packRegs_any (A : Option Addr) (c : Nat) (l : List Nat) (w : World) (h : Nums .u16 w w.heap.size A l) (hl : ∀ b ∈ l, b < 65536) (hn : l.length ≤ 35184372088832) :
    Calls Try.prog 52 #[.slice A l.length c] w (Fresh w 5 .u8 (packRegs l)) := by
  obtain ⟨i0, hi, hz0, hz1, hz2⟩ := info_parts info_byte
  go_enter Try.func52, Try.ntmps52
  go_wp2_with (at_make; refine wpList_make_full _ rfl _ _ 49 rfl w.heap.size 5 i0 (.int .u8 0) 1 Try.underlying49 hi hz0 hz1 _ _ _ _ (2 * l.length) rfl rfl (by omega) (by omega) ?c1 ?c2 ?c3 ?_)
  case c1 => rw [hz2]; omega
  case c2 => unfold maxLen; omega
  case c3 => exact Nat.le_refl _
  intro w1 hown hg
  have hb1 : Below w.heap.size w w1 := (Below.refl _ _).grown hg (Nat.le_refl _) (by simp)
  have hsz1 : w.heap.size < w1.heap.size := (hown.lt w.heap.size rfl).2
  rw [made_vals, ← packed_zero] at hown
  clear hg
  go_wp2
  go_loopw [4, 11] (fun _ i wr => ∃ k : Nat, k ≤ l.length ∧ i = .int .i64 k ∧ wr.ownsRow w.heap.size 5 1 (.slice (some ⟨w.heap.size, 0, none⟩) (2 * l.length) (2 * l.length)) (2 * l.length) (vals .u8 (packed l k)) ∧ Below w.heap.size w wr)
    (fun _ i _ => l.length - (intOf i).toNat)
  case atStart => exact ⟨0, by omega, rfl, hown, hb1⟩
  case round =>
    clear hown hb1 hsz1
    obtain ⟨k, hk, rfl, hown, hb⟩ := hrel
    by_cases hlt : k < l.length
    · obtain ⟨b, o, x, rfl, hbw, hx, hc0⟩ := h.at_ hlt
      have hc : wr.cell? ⟨b, o + k, none⟩ = some (.int .u16 (x : Int)) := (hb.cell (p := ⟨b, o + k, none⟩) hbw).trans hc0
      have hxl := hl x (List.mem_of_getElem? hx)
      have hpl := packed_length l k hk
      obtain ⟨y0, hy0⟩ : ∃ y, (packed l k)[2 * k]? = some y := ⟨_, List.getElem?_eq_getElem (by omega)⟩
      obtain ⟨y1, hy1⟩ : ∃ y, (packed l k)[2 * k + 1]? = some y := ⟨_, List.getElem?_eq_getElem (by omega)⟩
      have d0 : wr.cell? ⟨w.heap.size, 2 * k, none⟩ = some (.int .u8 (y0 : Int)) := (hown.cellAt _ (by omega)).trans (vals_get hy0)
      have d1 : wr.cell? ⟨w.heap.size, 2 * k + 1, none⟩ = some (.int .u8 (y1 : Int)) := (hown.cellAt _ (by omega)).trans (vals_get hy1)
      have f0 := hown.frozenAt (2 * k)
      have f1 := hown.frozenAt (2 * k + 1)
      have HP := Lib.hid (packed_step l k x hlt hx)
      have HX := Lib.hid hx
      clear hx hy0 hy1 hpl hc0
      have e1 : (0 : Int) ≤ 2 * (k : Int) := by omega
      have e2 : 2 * (k : Int) + 1 < 2 * (l.length : Int) := by omega
      have e3 : 2 * (k : Int) < 2 * (l.length : Int) := by omega
      have e4 : (k : Int) < (l.length : Int) := by omega
      go_wp2
      go_region
      go_wp2
      go_roundw
      case rel =>
        refine ⟨k + 1, by omega, by go_num, ?_, ?_⟩
        · have hs := ((hown.stored (2 * k) (.int .u8 ((x / 256 : Nat) : Int))).1.stored (2 * k + 1) (.int .u8 ((x % 256 : Nat) : Int))).1
          rw [vals_set, vals_set, HP.out] at hs
          exact hs.drew
        · exact ((hb.setCell (Nat.le_refl _) _).setCell (Nat.le_refl _) _).drew
      case measure => simp [intOf]; omega
    · have : k = l.length := by omega
      subst this
      rw [packed_all] at hown
      go_wp2
      go_ret
      have hpl := packRegs_length l
      exact ⟨some ⟨w.heap.size, 0, none⟩, 2 * l.length, by rw [hpl]; rfl, by rw [hpl]; exact hown, hb⟩
end Go.Proofs.Ytopkncbpkccfbaa
