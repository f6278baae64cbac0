/- words.PackRegs. The walk of sum.Words. Plain law of the check sum: rows of words that differ in one word alone have unlike checks. No program in sight. -/
import Derived.Test.YtajbghjjpebndaaProg
import Derived.Test.YtajbghjjpebndaaQ00
import Derived.WalkLawsBesides
import Derived.WalkSpells
import Derived.BigRegion
import Derived.Outline
namespace Go.Proofs.Ytajbghjjpebndaa
set_option maxRecDepth 100000
open Go.RowKit
theorem info_byte : (Try.prog.info? 5).map (fun i => (i.zero, i.size, i.bytes)) = some (some (.int .u8 0), 1, 1) := by kernel_rfl

def packRegs : List Nat → List Nat
  | [] => []
  | x :: l => x / 256 :: x % 256 :: packRegs l
theorem packRegs_length : ∀ l : List Nat, (packRegs l).length = 2 * l.length
  | [] => rfl
  | _ :: l => by simp [packRegs, packRegs_length l]; omega
theorem packRegs_append : ∀ (l m : List Nat), packRegs (l ++ m) = packRegs l ++ packRegs m
  | [], _ => rfl
  | x :: l, m => by simp [packRegs, packRegs_append l m]
theorem packRegs_byte : ∀ {l : List Nat}, (∀ x ∈ l, x < 65536) → ∀ b ∈ packRegs l, b < 256
  | [], _, _, h => by simp [packRegs] at h
  | x :: l, hl, b, h => by
    simp [packRegs] at h
    rcases h with rfl | rfl | h
    · have := hl x (by simp); omega
    · omega
    · exact packRegs_byte (fun y hy => hl y (by simp [hy])) b h

/-- the row after k rounds -/
def packed (l : List Nat) (k : Nat) : List Nat := packRegs (l.take k) ++ List.replicate (2 * (l.length - k)) 0
theorem packed_length (l : List Nat) (k : Nat) (hk : k ≤ l.length) : (packed l k).length = 2 * l.length := by
  simp [packed, packRegs_length]; omega
theorem packed_zero (l : List Nat) : packed l 0 = List.replicate (2 * l.length) 0 := by simp [packed, packRegs]
theorem packed_all (l : List Nat) : packed l l.length = packRegs l := by simp [packed]
theorem set_mid {α : Type} (xs : List α) (n : Nat) (z u : α) (i : Nat) (h : xs.length = i) (hn : 0 < n) : (xs ++ List.replicate n z).set i u = (xs ++ [u]) ++ List.replicate (n - 1) z := by
  obtain ⟨m, rfl⟩ : ∃ m, n = m + 1 := ⟨n - 1, by omega⟩
  rw [List.set_append_right _ _ (by omega), List.replicate_succ]
  subst h
  simp
theorem packed_step (l : List Nat) (k x : Nat) (hk : k < l.length) (hx : l[k]? = some x) :
    ((packed l k).set (2 * k) (x / 256)).set (2 * k + 1) (x % 256) = packed l (k + 1) := by
  have hl : (packRegs (l.take k)).length = 2 * k := by simp [packRegs_length]; omega
  unfold packed
  rw [set_mid _ _ _ _ _ hl (by omega), set_mid _ _ _ _ _ (by simp [packRegs_length]; omega) (by omega), List.take_add_one, hx, Option.toList, packRegs_append]
  simp [packRegs, show 2 * (l.length - k) - 1 - 1 = 2 * (l.length - (k + 1)) by omega]

set_option maxHeartbeats 1000000 in
theorem packRegs_any (A : Option Addr) (c : Nat) (l : List Nat) (w : World) (h : Nums .u16 w w.heap.size A l) (hl : ∀ b ∈ l, b < 65536) (hn : l.length ≤ 35184372088832) :
    Calls Try.prog 99 #[.slice A l.length c] w (Fresh w 5 .u8 (packRegs l)) := by
  obtain ⟨i0, hi, hz0, hz1, hz2⟩ := info_parts info_byte
  go_enter Try.func99, Try.ntmps99
  go_wp2_with (at_make; refine wpList_make_full _ rfl _ _ 67 rfl w.heap.size 5 i0 (.int .u8 0) 1 Try.underlying67 hi hz0 hz1 _ _ _ _ (2 * l.length) rfl rfl (by omega) (by omega) ?c1 ?c2 ?c3 ?_)
  case c1 => rw [hz2]; omega
  case c2 => unfold maxLen; omega
  case c3 => exact Nat.le_refl _
  intro w1 hown hg
  have hb1 : Below w.heap.size w w1 := (Below.refl _ _).grown hg (Nat.le_refl _) (by simp)
  have hsz1 : w.heap.size < w1.heap.size := (hown.lt w.heap.size rfl).2
  rw [made_vals, ← packed_zero] at hown
  clear hg
  go_wp2
  go_loopw [4, 11] (fun _ i wr => ∃ k : Nat, k ≤ l.length ∧ i = .int .i64 k ∧ wr.ownsRow w.heap.size 5 1 (.slice (some ⟨w.heap.size, 0, none⟩) (2 * l.length) (2 * l.length)) (2 * l.length) (vals .u8 (packed l k)) ∧ Below w.heap.size w wr)
    (fun _ i _ => l.length - (intOf i).toNat)
  case atStart => exact ⟨0, by omega, rfl, hown, hb1⟩
  case round =>
    clear hown hb1 hsz1
    obtain ⟨k, hk, rfl, hown, hb⟩ := hrel
    by_cases hlt : k < l.length
    · obtain ⟨b, o, x, rfl, hbw, hx, hc0⟩ := h.at_ hlt
      have hc : wr.cell? ⟨b, o + k, none⟩ = some (.int .u16 (x : Int)) := (hb.cell (p := ⟨b, o + k, none⟩) hbw).trans hc0
      have hxl := hl x (List.mem_of_getElem? hx)
      have hpl := packed_length l k hk
      obtain ⟨y0, hy0⟩ : ∃ y, (packed l k)[2 * k]? = some y := ⟨_, List.getElem?_eq_getElem (by omega)⟩
      obtain ⟨y1, hy1⟩ : ∃ y, (packed l k)[2 * k + 1]? = some y := ⟨_, List.getElem?_eq_getElem (by omega)⟩
      have d0 : wr.cell? ⟨w.heap.size, 2 * k, none⟩ = some (.int .u8 (y0 : Int)) := (hown.cellAt _ (by omega)).trans (vals_get hy0)
      have d1 : wr.cell? ⟨w.heap.size, 2 * k + 1, none⟩ = some (.int .u8 (y1 : Int)) := (hown.cellAt _ (by omega)).trans (vals_get hy1)
      have f0 := hown.frozenAt (2 * k)
      have f1 := hown.frozenAt (2 * k + 1)
      have HP := Lib.hid (packed_step l k x hlt hx)
      have HX := Lib.hid hx
      clear hx hy0 hy1 hpl hc0
      have e1 : (0 : Int) ≤ 2 * (k : Int) := by omega
      have e2 : 2 * (k : Int) + 1 < 2 * (l.length : Int) := by omega
      have e3 : 2 * (k : Int) < 2 * (l.length : Int) := by omega
      have e4 : (k : Int) < (l.length : Int) := by omega
      go_wp2
      go_region
      go_wp2
      go_roundw
      case rel =>
        refine ⟨k + 1, by omega, by go_num, ?_, ?_⟩
        · have hs := ((hown.stored (2 * k) (.int .u8 ((x / 256 : Nat) : Int))).1.stored (2 * k + 1) (.int .u8 ((x % 256 : Nat) : Int))).1
          rw [vals_set, vals_set, HP.out] at hs
          exact hs.drew
        · exact ((hb.setCell (Nat.le_refl _) _).setCell (Nat.le_refl _) _).drew
      case measure => simp [intOf]; omega
    · have : k = l.length := by omega
      subst this
      rw [packed_all] at hown
      go_wp2
      go_ret
      have hpl := packRegs_length l
      exact ⟨some ⟨w.heap.size, 0, none⟩, 2 * l.length, by rw [hpl]; rfl, by rw [hpl]; exact hown, hb⟩
end Go.Proofs.Ytajbghjjpebndaa
namespace Go.Proofs.Ytajbghjjpebndaa
set_option maxRecDepth 100000
open Go.RowKit
theorem sumWords_any (A : Option Addr) (c : Nat) (l : List Nat) (w : World) (h : Nums .u16 w w.heap.size A l) (hl : ∀ b ∈ l, b < 65536) (hn : l.length ≤ 35184372088832) :
    Calls Try.prog 75 #[.slice A l.length c] w fun e w' => e = .returned (.int .u32 (Crc.bytes (packRegs l) : Nat)) ∧ Below w.heap.size w w' := by
  have hpb := packRegs_byte hl
  have HL := Lib.hid (packRegs_length l)
  go_enter Try.func75, Try.ntmps75
  go_wp2_with fail
  refine (packRegs_any A c l w h hl hn).mono ?_
  rintro e w1 ⟨A1, c1, rfl, hown, hb⟩
  go_wp2_with fail
  refine (bytes_any A1 c1 (packRegs l) w1.heap.size w1 (Nums.of_own hown) hpb (by rw [HL.out]; omega)).mono ?_
  rintro e w2 ⟨rfl, rfl⟩
  go_wp2
  go_ret
  exact ⟨rfl, hb⟩
end Go.Proofs.Ytajbghjjpebndaa
namespace Go.Proofs.Ytajbghjjpebndaa.Crc
theorem xor_eq_zero {a b : Nat} (h : a ^^^ b = 0) : a = b := by
  have h1 : a ^^^ b ^^^ b = b := by rw [h, Nat.zero_xor]
  rwa [Nat.xor_assoc, Nat.xor_self, Nat.xor_zero] at h1
theorem shifts_inj {n s t : Nat} (hs : s < 4294967296) (ht : t < 4294967296) (h : shifts n s = shifts n t) : s = t := by
  have h0 : shifts n (s ^^^ t) = 0 := by rw [shifts_xor, h, Nat.xor_self]
  exact xor_eq_zero (shifts_eq_zero n (xor_lt hs ht) h0)
theorem add_inj {s t b : Nat} (hs : s < 4294967296) (ht : t < 4294967296) (hb : b < 256) (h : add s b = add t b) : s = t := by
  have h1 := shifts_inj (xor_lt hs (by omega)) (xor_lt ht (by omega)) h
  have h2 : s ^^^ b ^^^ b = t ^^^ b ^^^ b := by rw [h1]
  rwa [Nat.xor_assoc, Nat.xor_assoc, Nat.xor_self, Nat.xor_zero, Nat.xor_zero] at h2
theorem raw_inj : ∀ (l : List Nat) {s t : Nat}, s < 4294967296 → t < 4294967296 → (∀ b ∈ l, b < 256) → raw s l = raw t l → s = t
  | [], _, _, _, _, _, h => h
  | b :: l, s, t, hs, ht, hl, h => by
    have hb := hl b (by simp)
    exact add_inj hs ht hb (raw_inj l (add_lt hs hb) (add_lt ht hb) (fun c hc => hl c (by simp [hc])) h)
theorem shifts_mul : ∀ (k m : Nat), shifts k (2 ^ k * m) = m
  | 0, m => by simp [shifts]
  | k + 1, m => by
    have e : 2 ^ (k + 1) * m = 2 * (2 ^ k * m) := by rw [Nat.pow_succ, Nat.mul_comm (2 ^ k) 2, Nat.mul_assoc]
    have h1 : shift (2 ^ (k + 1) * m) = 2 ^ k * m := by
      unfold shift
      rw [if_neg (by omega)]
      omega
    show shifts k (shift (2 ^ (k + 1) * m)) = m
    rw [h1]
    exact shifts_mul k m
theorem two_inj {s a b c d : Nat} (hs : s < 4294967296) (ha : a < 256) (hb : b < 256) (hc : c < 256) (hd : d < 256) (h : raw s [a, b] = raw s [c, d]) : a = c ∧ b = d := by
  have h1 : add (add s a) b = add (add s c) d := h
  have h2 := shifts_inj (xor_lt (add_lt hs ha) (by omega)) (xor_lt (add_lt hs hc) (by omega)) h1
  have h3 : add s a ^^^ add s c = b ^^^ d := by
    have e : add s a ^^^ b ^^^ (add s c ^^^ d) = 0 := by rw [h2, Nat.xor_self]
    have e2 : add s a ^^^ b ^^^ (add s c ^^^ d) = (add s a ^^^ add s c) ^^^ (b ^^^ d) := xor4 _ _ _ _
    exact xor_eq_zero (e2 ▸ e)
  have h4 : add s a ^^^ add s c = shifts 8 (a ^^^ c) := by
    unfold add
    rw [← shifts_xor, xor4, Nat.xor_self, Nat.zero_xor]
  have hbd : b ^^^ d < 256 := Nat.xor_lt_two_pow (n := 8) hb hd
  have hac : a ^^^ c < 256 := Nat.xor_lt_two_pow (n := 8) ha hc
  have h5 : shifts 8 (a ^^^ c) = shifts 8 (2 ^ 8 * (b ^^^ d)) := by rw [← h4, h3, shifts_mul]
  have h6 := shifts_inj (by omega) (by omega) h5
  have h7 : a ^^^ c = 0 := by omega
  have h8 : b ^^^ d = 0 := by omega
  exact ⟨xor_eq_zero h7, xor_eq_zero h8⟩
/-- one word alone is another one -/
theorem one_word {X Y : List Nat} {u v : Nat} (hX : ∀ x ∈ X, x < 65536) (hY : ∀ x ∈ Y, x < 65536) (hu : u < 65536) (hv : v < 65536) (h : bytes (packRegs (X ++ u :: Y)) = bytes (packRegs (X ++ v :: Y))) : u = v := by
  have hbX := packRegs_byte hX
  have hbY := packRegs_byte hY
  have e : ∀ z, packRegs (X ++ z :: Y) = packRegs X ++ ([z / 256, z % 256] ++ packRegs Y) := fun z => by
    rw [packRegs_append]; rfl
  have hw : ∀ z, z < 65536 → ∀ b ∈ packRegs (X ++ z :: Y), b < 256 := fun z hz => packRegs_byte (fun x hx => by
    rcases List.mem_append.1 hx with hx | hx
    · exact hX x hx
    · rcases List.mem_cons.1 hx with rfl | hx
      · exact hz
      · exact hY x hx)
  have hr : raw 4294967295 (packRegs (X ++ u :: Y)) = raw 4294967295 (packRegs (X ++ v :: Y)) := by
    have h1 := raw_lt _ (s := 4294967295) (by decide) (hw u hu)
    have h2 := raw_lt _ (s := 4294967295) (by decide) (hw v hv)
    unfold bytes at h
    omega
  rw [e, e, raw_append, raw_append, raw_append, raw_append] at hr
  have hs : raw 4294967295 (packRegs X) < 4294967296 := raw_lt _ (by decide) hbX
  have two_lt : ∀ z, z < 65536 → raw (raw 4294967295 (packRegs X)) [z / 256, z % 256] < 4294967296 := fun z hz => raw_lt _ hs (fun b hb => by
    rcases List.mem_cons.1 hb with rfl | hb
    · omega
    · obtain rfl := List.mem_singleton.1 hb; omega)
  have h3 := raw_inj _ (two_lt u hu) (two_lt v hv) hbY hr
  have h4 := two_inj hs (by omega) (by omega) (by omega) (by omega) h3
  omega
end Go.Proofs.Ytajbghjjpebndaa.Crc
