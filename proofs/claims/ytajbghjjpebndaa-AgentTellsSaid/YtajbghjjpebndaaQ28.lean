/- The walks of saucierlow.Light, Ints, SameBlocks, Bank (seats without stages). The walks of saucierlow.Bank, SameBlocks (seats without stages). The walks of saucierlaw20.Few, begun. -/
import Derived.Test.YtajbghjjpebndaaQ05
import Derived.Test.YtajbghjjpebndaaQ07
import Derived.Test.YtajbghjjpebndaaQ17
import Derived.Laws.CopyOwn
import Derived.Test.YtajbghjjpebndaaQ27
namespace Go.Proofs.Ytajbghjjpebndaa
set_option maxRecDepth 100000
open Go.RowKit
set_option linter.unusedVariables false
attribute [local go_sem] Later.cell Later.frozen setCell_twice
abbrev intv (x : Int) : Value := .int .i64 x
end Go.Proofs.Ytajbghjjpebndaa
namespace Go.Proofs.Ytajbghjjpebndaa
set_option maxRecDepth 100000
open Go.RowKit
set_option linter.unusedVariables false
attribute [local go_sem] Later.cell Later.frozen setCell_twice
theorem wpList_copy_cut {w : World} {ops : Array Oper} {rest : List Oper} {o : Oper} {a : Act} {Q : Exit → Act → World → Prop} (hgd : o.guard = none) (d s : Operand)
    (ho : o.op = .call { callee := .builtin .copy, args := #[d, s], argTypes := #[22, 22] }) (base g off N : Nat) (L X : List Nat) (hown : w.ownsRow base 24 1 (.slice (some ⟨g, 0, none⟩) N N) N (L.map u16w))
    (dp : Option Addr) (dLen dCap : Nat) (hd : a.eval d = .slice dp dLen dCap) (hdp : 0 < X.length → dp = some ⟨g, off, none⟩) (Ax : Option Addr) (m cx B : Nat) (hs : a.eval s = .slice Ax m cx) (hm : X.length = Nat.min m dLen) (hX : Sq u16w w B Ax X) (hoff : off + X.length ≤ N)
    (h : ∀ w', w'.ownsRow base 24 1 (.slice (some ⟨g, 0, none⟩) N N) N ((splice L off X).map u16w) → Below base w w' → wpList Try.prog ops Q rest (a.put o.dst (goInt X.length)) w') :
    wpList Try.prog ops Q (o :: rest) a w := by
  obtain ⟨hh, hbg, hN⟩ := own_full hown
  have hLl : L.length = N := by have := hown.1; simpa using this
  refine wpList_copy_splice hgd d s _ _ ho 24 Try.underlying22 size_w16 dp Ax dLen dCap m cx hd hs g off (L.map u16w) 24 hh (X.map u16w) (by rw [List.length_map, hm]) (fun hp => ?_) (by simp; omega) (by intro v hv; obtain ⟨x, _, rfl⟩ := List.mem_map.1 hv; rfl) base w (Below.refl _ _) hbg (fun w' hg' hb' => ?_)
  · rw [List.length_map] at hp
    obtain ⟨b2, o2, rfl, _, hc⟩ := hX hp
    refine ⟨hdp hp, _, rfl, fun j v hv => ?_⟩
    have hadd : (⟨b2, o2, none⟩ : Addr).add j = ⟨b2, o2 + j, none⟩ := by unfold Addr.add; split <;> simp_all
    rw [hadd]
    simp only [List.getElem?_map, Option.map_eq_some_iff] at hv
    obtain ⟨y, hy, rfl⟩ := hv
    exact hc j y hy
  · rw [List.length_map]
    refine h w' ?_ hb'
    rw [← splice_map]
    exact own_of_full hg'.out hbg (by rw [length_splice _ _ _ (by simp; omega)]; simp [hLl]) hN
/-- 64 words, out of any -/
def bank64 (l : List Nat) : List Nat := splice (List.replicate 64 0) 0 (l.take 64)
theorem bank64_length (l : List Nat) : (bank64 l).length = 64 := by unfold bank64; rw [length_splice _ _ _ (by simp; omega)]; simp
theorem bank64_u16 {l : List Nat} (h : ∀ x ∈ l, x < 65536) : ∀ x ∈ bank64 l, x < 65536 := by
  intro x hx
  unfold bank64 splice at hx
  simp only [List.take_zero, List.nil_append, List.mem_append] at hx
  rcases hx with hx | hx
  · exact h x (List.mem_of_mem_take hx)
  · have := List.eq_of_mem_replicate (List.mem_of_mem_drop hx)
    omega
theorem made_w64 (n : Nat) : (madeCells #[Value.int .u16 0] n).toList = (List.replicate n 0).map u16w := made_map u16w 0 n
set_option maxRecDepth 100000 in
set_option maxHeartbeats 400000 in
theorem bank_any (A : Option Addr) (l : List Nat) (n c : Nat) (w : World) (hn : l.length = n) (h : Sq u16w w w.heap.size A l) :
    Calls Try.prog 41 #[.slice A n c] w fun e w' => ∃ g, e = .returned (.slice (some ⟨g, 0, none⟩) 64 64) ∧ w'.ownsRow w.heap.size 24 1 (.slice (some ⟨g, 0, none⟩) 64 64) 64 ((bank64 l).map u16w) ∧ Below w.heap.size w w' := by
  obtain ⟨i0, hif, hz0, hz1, hz2⟩ := info_parts info_w16
  have HN := Lib.hid hn
  have HS := Lib.hid (h.take 64)
  clear hn h
  go_enter Try.func41, Try.ntmps41
  go_wp2_with (first | (at_make; refine wpList_make_full _ rfl _ _ 22 rfl w.heap.size 24 i0 (.int .u16 0) 1 Try.underlying22 hif hz0 hz1 _ _ _ _ 64 rfl rfl rfl rfl (by rw [hz2]; omega) (by unfold Go.maxLen; omega) (by simp) ?_; intro w2 o2 hg2; have hb2 : Below w.heap.size w w2 := (Below.refl _ _).grown hg2 (Nat.le_refl _) (by simp); have o2' : w2.ownsRow w.heap.size 24 1 (.slice (some ⟨w.heap.size, 0, none⟩) 64 64) 64 ((List.replicate 64 0).map u16w) := (by rw [← made_w64]; exact o2); have O2 := Lib.hid o2'; have S2 := Lib.hid (HS.out.below hb2); have B2 := Lib.hid hb2; clear hg2 o2 o2' hb2) | (refine wpList_copy_cut rfl (.tmp 5) (.tmp 6) rfl w.heap.size w.heap.size 0 64 (List.replicate 64 0) (l.take 64) O2.out (some ⟨w.heap.size, 0, none⟩) 64 64 rfl (fun _ => rfl) A n c w.heap.size rfl (by rw [List.length_take, HN.out]; exact Nat.min_comm _ _) S2.out (by simp; omega) ?_; intro w3 o3 hb3; have O3 := Lib.hid o3; have B3 := Lib.hid (B2.out.trans hb3); clear o3 hb3))
  go_ret
  exact ⟨_, rfl, O3.out, B3.out⟩
end Go.Proofs.Ytajbghjjpebndaa
namespace Go.Proofs.Ytajbghjjpebndaa
set_option maxRecDepth 100000
open Go.RowKit
set_option linter.unusedVariables false
set_option linter.unusedSimpArgs false
attribute [local go_sem] Later.cell Later.frozen setCell_twice
theorem new_agent (W : World) : RowAt (W.alloc (.cells z32 35)) W.heap.size 35 (agC none 0 Stv.zero Ag0) := by
  have h := RowAt.new W 35 (agC none 0 Stv.zero Ag0)
  rw [z32_eq] at h
  exact h
/-- a row of operations -/
structure Ops (w : World) (B : Nat) (A : Option Addr) (l : List OV) : Prop where
  rc : Recs opL 10 w B A l
  ok : ∀ v ∈ l, v.Ok w B
section
variable {w w' : World} {B B' : Nat} {A : Option Addr} {l : List OV}
theorem OV.Ok.below {v : OV} (h : v.Ok w B) (k : Below B w w') : v.Ok w' B := ⟨h.what, h.c, h.n, h.x.below k⟩
theorem OV.Ok.more {v : OV} (h : v.Ok w B) (hB : B ≤ B') : v.Ok w B' := ⟨h.what, h.c, h.n, h.x.more hB⟩
theorem Ops.to (h : Ops w w.heap.size A l) (k : Below w.heap.size w w') : Ops w' w'.heap.size A l := ⟨(h.rc.below k).more k.size, fun v hv => (h.ok v hv).to k⟩
theorem Ops.take (h : Ops w B A l) (n : Nat) : Ops w B A (l.take n) := ⟨h.rc.take n, fun v hv => h.ok v (List.mem_of_mem_take hv)⟩
theorem Ops.at_ (h : Ops w B A l) {k : Nat} (hk : k < l.length) : ∃ g o v, A = some ⟨g, o, none⟩ ∧ g < B ∧ l[k]? = some v ∧ v.Ok w B ∧ w.rangeAt g (o + k * 10) (opL v) := by
  obtain ⟨g, o, v, hA, hg, hv, hc⟩ := h.rc.at_ hk
  exact ⟨g, o, v, hA, hg, hv, h.ok v (List.mem_of_getElem? hv), fun i x hx => by rw [Nat.add_assoc]; exact hc i x hx⟩
end
theorem opL_one (v : OV) : ∀ x ∈ opL v, x.oneCell' = true := by
  intro x hx
  simp only [opL, List.mem_cons, List.not_mem_nil, or_false] at hx
  rcases hx with rfl | rfl | rfl | rfl | rfl | rfl | rfl | rfl | rfl | rfl <;> rfl
def few20 (l : List OV) (most : Int) : Bool := decide ((∀ v ∈ l, v.x.ws.length ≤ 100) ∧ (l.length : Int) ≤ most)
set_option maxHeartbeats 400000 in
theorem few20_any (A : Option Addr) (l : List OV) (c n : Nat) (most : Int) (r : Bool) (w : World) (hn : l.length = n) (h : Ops w w.heap.size A l) (hnc : n ≤ c) (hc : c ≤ 9223372036854775807) (hr : few20 l most = r) :
    Calls Try.prog 10 #[.slice A n c, .int .i64 most] w fun e w' => e = .returned (.bool r) ∧ Below w.heap.size w w' := by
  have HR := Lib.hid hr
  have HN := Lib.hid hn
  have HB := Lib.hid h
  clear hr hn h
  go_enter Try.func10, Try.ntmps10
  go_wp2
  go_loopw [9] (fun i wr => ∃ k : Nat, k ≤ n ∧ i = .int .i64 k ∧ Hid (∀ v ∈ l.take k, v.x.ws.length ≤ 100) ∧ Below w.heap.size w wr) (fun i _ => n - (intOf i).toNat)
  case atStart => exact ⟨0, by omega, rfl, Lib.hid (by simp), Below.refl _ _⟩
  case round =>
    rename World => wr
    obtain ⟨k, hk, rfl, hall, hbe⟩ := hrel
    by_cases hlt : k < n
    · obtain ⟨g, o, v, rfl, hg, hv, hok, hrg⟩ := (HB.out.to hbe).at_ (k := k) (by rw [HN.out]; exact hlt)
      have hltI : (k : Int) < (n : Int) := by omega
      have h0I : (0 : Int) ≤ (k : Int) := by omega
      have BE := Lib.hid hbe
      have HV := Lib.hid hv
      have HG := Lib.hid hrg
      clear hok hv hbe hrg
      go_upto_region 4 with (first | (refine wpList_load_mid rfl 43 (.tmp 11) rfl g (o + k * 10) rfl (opL v) _ HG.out Try.underlying43 rfl (by rw [size_op]; rfl) ?_) | (refine wpList_store_var rfl 43 (.tmp 6) (.tmp 12) rfl wr.heap.size _ (opL v) 10 rfl rfl (heap_alloc_new wr _) size_op rfl rfl (opL_one v) ?_; intro w_5 r_5 k_5; have R_5 := Lib.hid r_5; have HB_5 : Hid (Below wr.heap.size wr w_5) := Lib.hid (k_5.to (bel_alloc (Below.refl _ _) _) (Nat.le_refl _)); clear r_5 k_5))
      have BE5 := Lib.hid (BE.out.trans (HB_5.out.mono BE.out.size))
      have d9 : w_5.cell? ⟨wr.heap.size, 9, none⟩ = some (.slice v.x.A v.x.ws.length v.x.c) := R_5.out.cells 9
      clear HB_5 HG
      by_cases h1 : 100 < v.x.ws.length
      · have g1 : decide ((100 : Int) < (v.x.ws.length : Int)) = true := decide_eq_true (by omega)
        obtain rfl : r = false := by
          rw [← HR.out]
          refine decide_eq_false (fun q => ?_)
          have := q.1 v (List.mem_of_getElem? HV.out)
          omega
        clear h1
        go_wp2
        go_ret
        exact ⟨rfl, BE5.out⟩
      · have g1 : decide ((100 : Int) < (v.x.ws.length : Int)) = false := decide_eq_false (by omega)
        go_wp2
        go_roundw
        case rel =>
          refine ⟨k + 1, by omega, by go_num, Lib.hid (fun b' hb' => ?_), BE5.out⟩
          rw [List.take_add_one, HV.out] at hb'
          rcases List.mem_append.1 hb' with h2 | h2
          · exact hall.out b' h2
          · obtain rfl : b' = v := by simpa using h2
            omega
        case measure => simp [intOf]; omega
    · obtain rfl : k = n := by omega
      have hall' : ∀ v ∈ l, v.x.ws.length ≤ 100 := by
        have := hall.out
        rwa [List.take_of_length_le (by rw [HN.out]; omega)] at this
      have HQ := Lib.hid (show decide ((k : Int) ≤ most) = r by
        rw [← HR.out]
        unfold few20
        rw [decide_eq_decide, HN.out]
        exact ⟨fun q => ⟨hall', q⟩, fun q => q.2⟩)
      clear hall'
      go_wp2
      go_ret
      exact ⟨by rw [← HQ.out]; rfl, hbe⟩
/-- what begun hands back -/
def BegP (w : World) (g : Ag) (e : Ending) (w' : World) : Prop := ∃ A c s, e = .returned (.tuple #[.agg (agC A c s g).toArray, .bool true]) ∧ AgIs A c s g w' w.heap.size ∧ Below w.heap.size w w'
def begG (l : List Nat) (t : Nat) : Ag := Ag.new (bank64 l) (1 + (t % 20 : Nat))
theorem begG_right (l : List Nat) (t : Nat) : (begG l t).right := Ag.right.new (bank64_length l) (by omega)
set_option maxHeartbeats 1000000 in
theorem begun_any (A : Option Addr) (l : List Nat) (n c t : Nat) (w : World) (hn : l.length = n) (h : Sq u16w w w.heap.size A l) (hu : ∀ x ∈ l, x < 65536) (ht : t < 256) :
    Calls Try.prog 9 #[.slice A n c, .int .u8 (t : Int)] w (BegP w (begG l t)) := by
  have kb := Lib.hid (fun W (hW : Below w.heap.size w W) => bank_any A l n c W hn ((h.below hW).more hW.size))
  obtain ⟨tk, htk⟩ : ∃ tk : Int, 1 + (t % 20 : Nat) = tk := ⟨_, rfl⟩
  have htI : 1 + (t : Int) % 20 = tk := by omega
  have htk2 : 1 ≤ tk ∧ tk ≤ 20 := by omega
  have HG : Hid (begG l t = Ag.new (bank64 l) tk) := Lib.hid (by unfold begG; rw [← htk])
  rw [HG.out]
  have HL := Lib.hid (bank64_length l)
  have HU := Lib.hid (bank64_u16 hu)
  have kn := Lib.hid (fun W (g : Nat) (hS : Sq u16w W W.heap.size (some ⟨g, 0, none⟩) (bank64 l)) => agnew_any (some ⟨g, 0, none⟩) 64 64 (bank64 l) tk W hS HL.out (by simp) (by have := HL.out; omega) HU.out (by omega))
  rw [show newR (bank64 l) tk = (Ag.new (bank64 l) tk, 0) by unfold newR; rw [if_neg (fun h => h HL.out), if_neg (by omega)]] at kn
  clear h hu hn htk
  go_enter Try.func9, Try.ntmps9
  go_upto_region 1 with fail
  obtain ⟨w0, hw0⟩ : ∃ w_q_, w_q_ = w.alloc (.cells z32 35) := ⟨_, rfl⟩
  rw [← hw0]
  have R2 : Hid (RowAt w0 w.heap.size 35 (agC none 0 Stv.zero Ag0)) := Lib.hid (by rw [hw0]; exact new_agent w)
  have B0 : Hid (Below w.heap.size w w0) := Lib.hid (by rw [hw0]; exact bel_alloc (Below.refl _ _) _)
  have z0 : w.heap.size + 1 ≤ w0.heap.size := by rw [hw0, World.size_alloc]; exact Nat.le_refl _
  clear hw0
  go_wp2_with fail
  with_reducible refine (kb.out _ B0.out).mono ?_
  rintro e1 w1 ⟨gb, rfl, ob, hb1⟩
  have ob' : w1.ownsRow w0.heap.size 24 1 (.slice (some ⟨gb, 0, none⟩) (bank64 l).length 64) (bank64 l).length ((bank64 l).map u16w) := by rw [HL.out]; exact ob
  have kn1 := Lib.hid (kn.out w1 gb (Sq.of_own ob'))
  replace R2 := Lib.hid (R2.out.to hb1)
  have B1 := Lib.hid (B0.out.trans (hb1.mono B0.out.size))
  have hz1 := hb1.size
  clear ob ob' hb1 kb kn B0
  go_wp2_with fail
  try rw [htI]
  with_reducible refine (kn1.out).mono ?_
  rintro e2 w2 ⟨A2, c2, s2, rfl, i2, hb2⟩
  have I2 := Lib.hid i2
  have HC2 := Lib.hid i2.C32
  replace R2 := Lib.hid (R2.out.to hb2)
  have B2 := Lib.hid (B1.out.trans (hb2.mono B1.out.size))
  have hz2 := hb2.size
  clear i2 hb2 kn1 B1
  go_upto_region 2 with (refine wpList_store_var rfl 35 (.tmp 6) (.tmp 16) rfl w2.heap.size (agC none 0 Stv.zero Ag0) (agC A2 c2 s2 (Ag.new (bank64 l) tk)) 32 rfl rfl (new_agent w2) size_32 rfl HC2.out (agC_one _) ?_; intro w_5 r_5 k_5; have R_5 := Lib.hid r_5; have HB_5 : Hid (Below w2.heap.size w2 w_5) := Lib.hid (k_5.to (bel_alloc (Below.refl _ _) (.cells z32 35)) (Nat.le_refl _)); clear r_5 k_5)
  replace R2 := Lib.hid (R2.out.to HB_5.out)
  replace B2 := Lib.hid (B2.out.trans (HB_5.out.mono B2.out.size))
  have I5 := Lib.hid (I2.out.to HB_5.out)
  have d0 : w_5.cell? ⟨w2.heap.size, 0, none⟩ = some (.slice A2 64 c2) := (R_5.out.cells 0).trans (by show some (Value.slice A2 (bank64 l).length c2) = _; rw [HL.out])
  have hz5 := HB_5.out.size
  clear HB_5 I2
  have r2 := R2.out
  have r5 := R_5.out
  refine wp_region_held_drew (S := (fun w' => RowAt w' w2.heap.size 35 (agC A2 c2 s2 (Ag.new (bank64 l) tk)) ∧ w'.cell? ⟨w2.heap.size, 0, none⟩ = some (.slice A2 64 c2))) (by kernel_rfl) ?_ (fun hHeld => ?_)
  · exact ⟨r5, d0⟩
  refine takeD (i := 0) (oi := _) (v := _) (d := some 18) rfl (by kernel_rfl) (by kernel_rfl) (by kernel_rfl) (by kernel_rfl) (fun _ _ _ h => h) (yieldsIf_load_mid (by kernel_rfl) 35 (.tmp 6) (by kernel_rfl) w2.heap.size 0 (by kernel_rfl) (agC A2 c2 s2 (Ag.new (bank64 l) tk)) _ (fun W h => h.1.all) Try.underlying35 rfl (by rw [size_32, HC2.out])) (by assumption) ?_
  try simp only [Act.put, List.setIfInBounds_toArray, List.set_cons_zero, List.set_cons_succ]
  refine takeD (i := 1) (oi := _) (v := ?vv231) (d := some 19) rfl (by kernel_rfl) (by kernel_rfl) (by kernel_rfl) (by kernel_rfl) (fun _ _ _ h => h) (Or.inl ⟨by kernel_rfl, ?_⟩) (by assumption) ?_
  rotate_left 1
  · intro W_ hSw; (try dsimp only at hSw); go_simp; (first | done | with_reducible rfl)
  try simp only [Act.put, List.setIfInBounds_toArray, List.set_cons_zero, List.set_cons_succ]
  refine takeD (i := 2) (oi := _) (v := ?vv232) (d := some 20) rfl (by kernel_rfl) (by kernel_rfl) (by kernel_rfl) (by kernel_rfl) (fun _ _ _ h => h) (Or.inl ⟨by kernel_rfl, ?_⟩) (by assumption) ?_
  rotate_left 1
  · intro W_ hSw; (try dsimp only at hSw); go_simp; (first | done | with_reducible rfl)
  try simp only [Act.put, List.setIfInBounds_toArray, List.set_cons_zero, List.set_cons_succ]
  refine takeD (i := 3) (oi := _) (v := ?vv233) (d := some 21) rfl (by kernel_rfl) (by kernel_rfl) (by kernel_rfl) (by kernel_rfl) (fun _ _ _ h => h) (Or.inl ⟨by kernel_rfl, ?_⟩) (by assumption) ?_
  rotate_left 1
  · intro W_ hSw; (try dsimp only at hSw); go_simp; (first | done | with_reducible rfl)
  try simp only [Act.put, List.setIfInBounds_toArray, List.set_cons_zero, List.set_cons_succ]
  refine takeD (i := 4) (oi := _) (v := ?vv234) (d := some 22) rfl (by kernel_rfl) (by kernel_rfl) (by kernel_rfl) (by kernel_rfl) (fun _ _ _ h => h) (Or.inl ⟨by kernel_rfl, ?_⟩) (by assumption) ?_
  rotate_left 1
  · intro W_ hSw; (try dsimp only at hSw); go_simp; (first | done | with_reducible rfl)
  try simp only [Act.put, List.setIfInBounds_toArray, List.set_cons_zero, List.set_cons_succ]
  refine takeD (i := 5) (oi := _) (v := ?vv235) (d := some 23) rfl (by kernel_rfl) (by kernel_rfl) (by kernel_rfl) (by kernel_rfl) (fun _ _ _ h => h) (Or.inl ⟨by kernel_rfl, ?_⟩) (by assumption) ?_
  rotate_left 1
  · intro W_ hSw; (try dsimp only at hSw); go_simp; (first | done | with_reducible rfl)
  try simp only [Act.put, List.setIfInBounds_toArray, List.set_cons_zero, List.set_cons_succ]
  refine takeD (i := 6) (oi := _) (v := ?vv236) (d := some 24) rfl (by kernel_rfl) (by kernel_rfl) (by kernel_rfl) (by kernel_rfl) (fun _ _ _ h => h) (Or.inl ⟨by kernel_rfl, ?_⟩) (by assumption) ?_
  rotate_left 1
  · intro W_ hSw; (try dsimp only at hSw); go_simp; (first | done | with_reducible rfl)
  try simp only [Act.put, List.setIfInBounds_toArray, List.set_cons_zero, List.set_cons_succ]
  refine takeD (i := 7) (oi := _) (v := ?vv237) (d := some 25) rfl (by kernel_rfl) (by kernel_rfl) (by kernel_rfl) (by kernel_rfl) (fun _ _ _ h => h) (Or.inl ⟨by kernel_rfl, ?_⟩) (by assumption) ?_
  rotate_left 1
  · intro W_ hSw; (try dsimp only at hSw); go_simp; (first | done | with_reducible rfl)
  try simp only [Act.put, List.setIfInBounds_toArray, List.set_cons_zero, List.set_cons_succ]
  refine takeD (i := 8) (oi := _) (v := ?vv238) (d := some 26) rfl (by kernel_rfl) (by kernel_rfl) (by kernel_rfl) (by kernel_rfl) (fun _ _ _ h => h) (Or.inl ⟨by kernel_rfl, ?_⟩) (by assumption) ?_
  rotate_left 1
  · intro W_ hSw; (try dsimp only at hSw); go_simp; (first | done | with_reducible rfl)
  try simp only [Act.put, List.setIfInBounds_toArray, List.set_cons_zero, List.set_cons_succ]
  refine wpAnyH_ready (rs := [9]) (by kernel_rfl) (by simp) ?_
  refine AllReadyH.cons (o := _) rfl (fun K hK => ?_) AllReadyH.nil
  (refine step_store_var rfl 35 (.tmp 4) (.tmp 18) rfl w.heap.size _ (agC A2 c2 s2 (Ag.new (bank64 l) tk)) 32 rfl rfl r2.drew size_32 rfl HC2.out (agC_one _) ?_)
  intro w7 r7 k7
  go_simp
  refine hK.out _ _ ?_ (fun hHeld => ?_)
  · exact ⟨r5.drew.only k7 (by omega), (k7.cell (p := ⟨w2.heap.size, 0, none⟩) (by show w2.heap.size ≠ w.heap.size; omega)).trans d0⟩
  clear hK K
  try simp only [Act.put, List.setIfInBounds_toArray, List.set_cons_zero, List.set_cons_succ]
  refine takeD (i := 10) (oi := _) (v := ?vv239) (d := some 5) rfl (by kernel_rfl) (by kernel_rfl) (by kernel_rfl) (by kernel_rfl) (fun _ _ _ h => h) (Or.inl ⟨by kernel_rfl, ?_⟩) (by assumption) ?_
  rotate_left 1
  · intro W_ hSw; (try dsimp only at hSw); go_simp; (first | done | with_reducible rfl)
  try simp only [Act.put, List.setIfInBounds_toArray, List.set_cons_zero, List.set_cons_succ]
  refine wpAnyH_done (by kernel_rfl) ?_ _
  have R7 := Lib.hid r7
  have K7 : Hid (Only w.heap.size w_5 w7) := Lib.hid (Only.trans (Only.refl _ _).drew k7)
  clear r7 k7 r2 r5 d0 hHeld
  go_wp2
  exact bodyPost_ret (results_cell_tmp rfl _ _ (w.heap.size) 35 _ (0, 0) _ rfl R7.out Try.underlying35 rfl (by rw [size_32, List.size_toArray, HC2.out])) rfl ⟨A2, c2, s2, rfl, (I5.out.only K7.out (by omega)).more (by omega), K7.out.to B2.out (Nat.le_refl _)⟩
end Go.Proofs.Ytajbghjjpebndaa
