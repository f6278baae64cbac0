/- SumThrees: the walk. -/
import Derived.Test.YthnfigdeppncdaaSumW
namespace Go.Proofs.Ythnfigdeppncdaa
open Go.RowKit

theorem run_min4 {P : Program} (w : World) (ts : Array TypeId) (t : TypeId) (x y z u n : Nat) (h : n = min (min (min x y) z) u) :
    (Builtin.min_ ts t #[.int .i64 (x : Int), .int .i64 (y : Int), .int .i64 (z : Int), .int .i64 (u : Int)]).run P w = .ok (.int .i64 (n : Int)) w := by
  subst h
  simp [Builtin.min_, Builtin.min2]
  repeat split
  all_goals omega

set_option maxHeartbeats 1000000 in
theorem threes_walk (a b c : Option Addr) (la lb lc : List Nat) (ca cb cc : Nat) (w : World) (ha : Nums .u8 w w.heap.size a la) (hb : Nums .u8 w w.heap.size b lb) (hc : Nums .u8 w w.heap.size c lc)
    (ba : ∀ x ∈ la, x < 256) (bb : ∀ x ∈ lb, x < 256) (bc : ∀ x ∈ lc, x < 256) (na : la.length ≤ ca) (nb : lb.length ≤ cb) (nc : lc.length ≤ cc) (ma : ca ≤ maxLen) (mb : cb ≤ maxLen) (mc : cc ≤ maxLen) :
    Calls Try.prog 4 #[.slice a la.length ca, .slice b lb.length cb, .slice c lc.length cc] w fun e w' => e = .returned (.bool true) ∧ Below w.heap.size w w' := by
  unfold maxLen at ma mb mc
  obtain ⟨i0, hi, hz0, hz1, hz2⟩ := info_parts info_byte
  obtain ⟨n, hn⟩ : ∃ n, n = min (min (min la.length lb.length) lc.length) 300 := ⟨_, rfl⟩
  have hmin : ∀ w, (Builtin.min_ #[3, 3, 3, 3] 3 #[.int .i64 (la.length : Int), .int .i64 (lb.length : Int), .int .i64 (lc.length : Int), .int .i64 300]).run Try.prog w = .ok (.int .i64 (n : Int)) w :=
    fun w => run_min4 w _ _ la.length lb.length lc.length 300 n hn
  have n1 : n ≤ la.length := by omega
  have n2 : n ≤ lb.length := by omega
  have n3 : n ≤ lc.length := by omega
  have n4 : n ≤ 300 := by omega
  clear hn
  go_enter Try.func4, Try.ntmps4
  go_wp2_with (at_make; refine wpList_make_full _ rfl _ _ 22 rfl w.heap.size 5 i0 (.int .u8 0) 1 Try.underlying22 hi hz0 hz1 _ _ _ _ n rfl rfl rfl rfl ?c1 ?c2 ?c3 ?_)
  case c1 => rw [hz2]; omega
  case c2 => unfold maxLen; omega
  case c3 => exact Nat.le_refl _
  intro w1 hown hg
  have hb1 : Below w.heap.size w w1 := (Below.refl _ _).grown hg (Nat.le_refl _) (by simp)
  rw [made_vals] at hown
  clear hg hmin
  go_wp2
  have hX : n ≤ (Crc.x3 la lb lc).length := by rw [Crc.x3_length]; omega
  go_loopw [9, 21] (fun _ i wr => ∃ k : Nat, k ≤ n ∧ i = .int .i64 k ∧ wr.ownsRow w.heap.size 5 1 (.slice (some ⟨w.heap.size, 0, none⟩) n n) n (vals .u8 (fill (Crc.x3 la lb lc) n k)) ∧ Below w.heap.size w wr)
    (fun _ i _ => n - (intOf i).toNat)
  case atStart => exact ⟨0, by omega, rfl, by rw [fill_zero]; exact hown, hb1⟩
  case round =>
    clear hown hb1
    obtain ⟨k, hk, rfl, hown, hbe⟩ := hrel
    by_cases hlt : k < n
    · obtain ⟨b1, o1, x, rfl, hb1, hx, hc1⟩ := ha.at_ (show k < la.length by omega)
      obtain ⟨b2, o2, y, rfl, hb2, hy, hc2⟩ := hb.at_ (show k < lb.length by omega)
      obtain ⟨b3, o3, z, rfl, hb3, hz, hc3⟩ := hc.at_ (show k < lc.length by omega)
      have d1 : wr.cell? ⟨b1, o1 + k, none⟩ = some (.int .u8 (x : Int)) := (hbe.cell (p := ⟨b1, o1 + k, none⟩) hb1).trans hc1
      have d2 : wr.cell? ⟨b2, o2 + k, none⟩ = some (.int .u8 (y : Int)) := (hbe.cell (p := ⟨b2, o2 + k, none⟩) hb2).trans hc2
      have d3 : wr.cell? ⟨b3, o3 + k, none⟩ = some (.int .u8 (z : Int)) := (hbe.cell (p := ⟨b3, o3 + k, none⟩) hb3).trans hc3
      have hxl := ba x (List.mem_of_getElem? hx)
      have hyl := bb y (List.mem_of_getElem? hy)
      have hzl := bc z (List.mem_of_getElem? hz)
      have q1 := u8_xor_nat x y hxl hyl
      have q2 := u8_xor_nat (x ^^^ y) z (Crc.xor_byte hxl hyl) hzl
      have hfl := fill_length (X := Crc.x3 la lb lc) hk hX
      obtain ⟨u, hu⟩ : ∃ u, (fill (Crc.x3 la lb lc) n k)[k]? = some u := ⟨_, List.getElem?_eq_getElem (by omega)⟩
      have d0 : wr.cell? ⟨w.heap.size, k, none⟩ = some (.int .u8 (u : Int)) := (hown.cellAt _ (by omega)).trans (vals_get hu)
      have f0 := hown.frozenAt k
      have HP := Lib.hid (fill_step (X := Crc.x3 la lb lc) hlt (Crc.x3_get hx hy hz))
      clear hx hy hz hc1 hc2 hc3 hu hfl hX
      have e1 : (k : Int) < (la.length : Int) := by omega
      have e2 : (k : Int) < (lb.length : Int) := by omega
      have e3 : (k : Int) < (lc.length : Int) := by omega
      have e4 : (k : Int) < (n : Int) := by omega
      go_wp2
      go_region
      go_wp2
      go_roundw
      case rel =>
        refine ⟨k + 1, by omega, by go_num, ?_, ?_⟩
        · have hs := (hown.stored k (.int .u8 ((x ^^^ y ^^^ z : Nat) : Int))).1
          rw [vals_set, HP.out] at hs
          exact hs.drew
        · exact (hbe.setCell (Nat.le_refl _) _).drew
      case measure => simp [intOf]; omega
    · obtain rfl : k = n := by omega
      rw [fill_all, Crc.x3_take] at hown
      have hD := Nums.of_own hown
      have hA := (ha.below hbe).take k |>.more hbe.size
      have hB := (hb.below hbe).take k |>.more hbe.size
      have hC := (hc.below hbe).take k |>.more hbe.size
      have la' : (la.take k).length = k := by simp; omega
      have lb' : (lb.take k).length = k := by simp; omega
      have lc' : (lc.take k).length = k := by simp; omega
      have ba' : ∀ x ∈ la.take k, x < 256 := fun x hx => ba x (List.mem_of_mem_take hx)
      have bb' : ∀ x ∈ lb.take k, x < 256 := fun x hx => bb x (List.mem_of_mem_take hx)
      have bc' : ∀ x ∈ lc.take k, x < 256 := fun x hx => bc x (List.mem_of_mem_take hx)
      have bd' := Crc.x3_byte ba' bb' bc'
      have ld' : (Crc.x3 (la.take k) (lb.take k) (lc.take k)).length = k := by rw [Crc.x3_length]; omega
      have hE := Crc.bytes_x3 ba' bb' bc' (by omega) (by omega)
      have xa := Crc.bytes_lt ba'
      have xb := Crc.bytes_lt bb'
      have xc := Crc.bytes_lt bc'
      have cA := fun (x : Later wr.heap.size wr) => later_same (x := x) (bytes_n a ca k _ _ _ (hA.below x.bel) ba' (by omega) la')
      have cB := fun (x : Later wr.heap.size wr) => later_same (x := x) (bytes_n b cb k _ _ _ (hB.below x.bel) bb' (by omega) lb')
      have cC := fun (x : Later wr.heap.size wr) => later_same (x := x) (bytes_n c cc k _ _ _ (hC.below x.bel) bc' (by omega) lc')
      have cD := fun (x : Later wr.heap.size wr) => later_same (x := x) (bytes_n (some ⟨w.heap.size, 0, none⟩) k k _ _ _ (hD.below x.bel) bd' (by omega) ld')
      have cW := fun (x : Later wr.heap.size wr) => later_of (x := x) (Nat.le_refl _) (awake_any x.val)
      rw [hE] at cD
      generalize Crc.bytes (la.take k) = pa at *
      generalize Crc.bytes (lb.take k) = pb at *
      generalize Crc.bytes (lc.take k) = pc at *
      have q1 := u32_xor_nat pa pb xa xb
      have q2 := u32_xor_nat (pa ^^^ pb) pc (Crc.xor_lt xa xb) xc
      have kk := Lib.hid cA; have kb := Lib.hid cB; have kc := Lib.hid cC; have kd := Lib.hid cD; have kw := Lib.hid cW
      clear cA cB cC cD cW hE la' lb' lc' ld' ba' bb' bc' bd' hA hB hC hD hown ha hb hc ba bb bc hX
      go_wp2
      refine wp_region_later wr.heap.size (by kernel_rfl) (by kernel_rfl) ?_
      repeat (go_big_quiet_step (fail))
      go_big_quiet_step (exact kd.out _)
      repeat (go_big_quiet_step (fail))
      go_big_quiet_step (exact kk.out _)
      repeat (go_big_quiet_step (fail))
      go_big_quiet_step (exact kb.out _)
      repeat (go_big_quiet_step (fail))
      go_big_quiet_step (exact kc.out _)
      repeat (go_big_quiet_step (fail))
      go_big_quiet_step (exact kw.out _)
      repeat (go_big_quiet_step (fail))
      refine wpQuiet_nil ?_
      rintro _ ⟨x, rfl⟩
      have hbx := below_step hbe (Nat.le_refl _) x.bel
      go_wp2
      go_ret
      exact ⟨rfl, hbx⟩
end Go.Proofs.Ythnfigdeppncdaa
