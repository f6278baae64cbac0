/- How arguments that came in are opened into the words of the walks. -/
import Derived.Test.YthhokpaidekmnaaBase
import Derived.ProofKit
import Derived.OpenShut
namespace Go.Proofs.Ythhokpaidekmnaa
open Go.ChangeShapes Go.WideShapes Go.ChangeAt Go.RowKit

/-- an integer kind without a sign, and its bound -/
def top : IntKind → Nat
 | .u8 => 256
 | .u16 => 65536
 | .u32 => 4294967296
 | _ => 18446744073709551616
def plainKind : IntKind → Bool
 | .u8 => true
 | .u16 => true
 | .u32 => true
 | .u64 => true
 | _ => false
theorem nat_of_wf {k : IntKind} {n : Int} (hk : plainKind k = true) (h : (Lit.int k n).wf = true) : 0 ≤ n ∧ n < top k := by
 cases k <;> simp [plainKind] at hk <;> simp [Lit.wf, IntKind.min, IntKind.max, IntKind.signed, IntKind.bits, top] at h ⊢ <;> omega

section
variable {H : Type} {enc : TypeId × Value → H} {P : Program} {w : World} {base b0 : Nat} {spare : Nat → Bool} {held : Bool} {r : Reach}
theorem open_nat {t : TypeId} {k : IntKind} {v : Value} {d : DataW H} {ps : List MemPlace} (hk : plainKind k = true) (ht : P.underlying t = some (.int k)) (hval : Value.okWide P w r b0 t v) (hd : DataW.Trod enc P w base spare held t v d ps) :
  ∃ n : Nat, v = .int k (n : Int) ∧ n < top k := by
 obtain ⟨n, rfl, _, _, hw⟩ := open_int ht hval hd
 have hb := nat_of_wf hk hw
 exact ⟨n.toNat, by rw [Int.toNat_of_nonneg hb.1], by omega⟩
theorem open_i64 {t : TypeId} {v : Value} {d : DataW H} {ps : List MemPlace} (ht : P.underlying t = some (.int .i64)) (hval : Value.okWide P w r b0 t v) (hd : DataW.Trod enc P w base spare held t v d ps) :
  ∃ n : Int, v = .int .i64 n ∧ -9223372036854775808 ≤ n ∧ n ≤ 9223372036854775807 := by
 obtain ⟨n, rfl, _, _, hw⟩ := open_int ht hval hd
 simp [Lit.wf, IntKind.min, IntKind.max, IntKind.signed, IntKind.bits] at hw
 exact ⟨n, rfl, by omega, by omega⟩
theorem open_truth {t : TypeId} {v : Value} {d : DataW H} {ps : List MemPlace} (ht : P.underlying t = some .bool) (hval : Value.okWide P w r b0 t v) (hd : DataW.Trod enc P w base spare held t v d ps) :
  ∃ b : Bool, v = .bool b := by
 obtain ⟨b, rfl, _, _⟩ := open_bool ht hval hd
 exact ⟨b, rfl⟩
theorem open_nums {t e : TypeId} {k : IntKind} {v : Value} {d : DataW H} {ps : List MemPlace} (hk : plainKind k = true) (ht : P.underlying t = some (.slice e)) (he : P.underlying e = some (.int k)) (hc : P.cellsOf e = 1)
  (hval : Value.okWide P w r b0 t v) (hd : DataW.Trod enc P w base (fun _ => true) held t v d ps) :
  ∃ (A : Option Addr) (l : List Nat) (c : Nat), v = .slice A l.length c ∧ Nums k w w.heap.size A l ∧ (∀ x ∈ l, x < top k) ∧ l.length ≤ c ∧ c ≤ 9223372036854775807 ∧ (A = none → c = 0) := by
 obtain ⟨a, len, cap, rfl⟩ := okWide_slice ht hval
 obtain ⟨fuel, hf⟩ := hd
 rcases open_ints ht he hc hf with ⟨hcs, _⟩ | ⟨x, l, c, zs, hcs, _, hl, hm, hz, _, hcell, hwz⟩
 ·simp [Value.cells] at hcs
  obtain ⟨rfl, rfl, rfl⟩ := hcs
  exact ⟨none, [], 0, rfl, Nums.nil, by simp, Nat.le_refl _, by omega, fun _ => rfl⟩
 ·simp [Value.cells] at hcs
  obtain ⟨rfl, rfl, rfl⟩ := hcs
  simp at hz
  have hlen : ((zs.take len).map Int.toNat).length = len := by simp; omega
  refine ⟨some x, (zs.take len).map Int.toNat, cap, by rw [hlen], fun hn => ?_, ?_, by omega, hm, by simp⟩
  ·have h0 := hcell 0 (by omega)
   have hsp : x.spot = none := by have := World.cell?_spot h0; simpa [Addr.add] using this
   obtain ⟨b, o, sp⟩ := x
   simp only at hsp
   subst hsp
   refine ⟨b, o, rfl, by have := block_lt_of_cell h0; simpa [Addr.add] using this, fun j y hy => ?_⟩
   rw [List.getElem?_map, List.getElem?_take] at hy
   split at hy
   ·rename_i hj
    have hj' : j < zs.length := by omega
    rw [List.getElem?_eq_getElem hj'] at hy
    simp at hy
    have hwf := nat_of_wf hk (hwz zs[j] (List.getElem_mem _))
    have hcj := hcell j hj'
    have ha : (⟨b, o, none⟩ : Addr).add j = ⟨b, o + j, none⟩ := by unfold Addr.add; split <;> simp_all
    rw [ha] at hcj
    rw [hcj, ← hy, List.getD_eq_getElem?_getD, List.getElem?_eq_getElem hj', Option.getD_some, Int.toNat_of_nonneg hwf.1]
   ·simp at hy
  ·intro y hy
   obtain ⟨z, hz', rfl⟩ := List.mem_map.1 hy
   have := nat_of_wf hk (hwz z (List.mem_of_mem_take hz'))
   omega
end
end Go.Proofs.Ythhokpaidekmnaa
