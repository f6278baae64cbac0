/- What comes in in chapter 20, opened: operations, commands, agents. The chapter's examples: awake. The walk of saucierlaw20.awake. -/
import Derived.Test.YtajbghjjpebndaaQ28
import Derived.Test.YtajbghjjpebndaaQ18
import Derived.OpenShut
import Derived.Lib.SmallJoins
namespace Go.Proofs.Ytajbghjjpebndaa
set_option maxRecDepth 100000
open Go.RowKit Go.ChangeShapes Go.WideShapes Go.ChangeAt Go.Joins Go.Deep
set_option linter.unusedVariables false
section
variable {H : Type} {enc : TypeId × Value → H} {w : World} {base b0 : Nat} {spare : Nat → Bool} {held : Bool} {r : Reach}
theorem trod_u16 {n : Nat} {v : Value} {y : DataW H × List MemPlace} (h : DataW.trod enc Try.prog w base spare held n 24 [v] = some y) : ∃ a : Nat, v = .int .u16 (a : Int) ∧ a < 65536 := by
  obtain ⟨a, hv, _, hw⟩ := DataW.trod_int Try.underlying24 h
  have ha := nat_of_wf (k := .u16) rfl hw
  exact ⟨a.toNat, by simpa [Int.toNat_of_nonneg ha.1] using hv, by have := ha.2; simp [top] at this; omega⟩
theorem trod_u8 {n : Nat} {v : Value} {y : DataW H × List MemPlace} (h : DataW.trod enc Try.prog w base spare held n 5 [v] = some y) : ∃ a : Nat, v = .int .u8 (a : Int) ∧ a < 256 := by
  obtain ⟨a, hv, _, hw⟩ := DataW.trod_int Try.underlying5 h
  have ha := nat_of_wf (k := .u8) rfl hw
  exact ⟨a.toNat, by simpa [Int.toNat_of_nonneg ha.1] using hv, by have := ha.2; simp [top] at this; omega⟩
theorem trod_u32 {n : Nat} {v : Value} {y : DataW H × List MemPlace} (h : DataW.trod enc Try.prog w base spare held n 27 [v] = some y) : ∃ a : Nat, v = .int .u32 (a : Int) ∧ a < 4294967296 := by
  obtain ⟨a, hv, _, hw⟩ := DataW.trod_int Try.underlying27 h
  have ha := nat_of_wf (k := .u32) rfl hw
  exact ⟨a.toNat, by simpa [Int.toNat_of_nonneg ha.1] using hv, by have := ha.2; simp [top] at this; omega⟩
theorem cmd_trod (n : Nat) (cs : List Value) (y : DataW H × List MemPlace) (h : DataW.trod enc Try.prog w base spare held n 41 cs = some y) : ∃ q : Cmd, cs = cmdL q ∧ q.Fit := by
  obtain ⟨hl, n, hf⟩ := trod_field Try.underlying41 h
  have hC : Try.prog.cellsOf 41 = 5 := by kernel_rfl
  rw [hC] at hl
  match cs, hl with
  | [v0, v1, v2, v3, v4], _ =>
    obtain ⟨y0, h0⟩ := hf 0 _ rfl
    obtain ⟨y1, h1⟩ := hf 1 _ rfl
    obtain ⟨y2, h2⟩ := hf 2 _ rfl
    obtain ⟨y3, h3⟩ := hf 3 _ rfl
    obtain ⟨y4, h4⟩ := hf 4 _ rfl
    obtain ⟨a0, rfl, b0⟩ := trod_u16 (v := v0) h0
    obtain ⟨a1, rfl, b1⟩ := trod_u8 (v := v1) h1
    obtain ⟨a2, rfl, b2⟩ := trod_u32 (v := v2) h2
    obtain ⟨a3, rfl, b3⟩ := trod_u16 (v := v3) h3
    obtain ⟨a4, rfl, b4⟩ := trod_u32 (v := v4) h4
    exact ⟨⟨a0, a1, a2, a3, a4⟩, rfl, b0, b1, b2, b3, b4⟩
theorem op20_trod (n : Nat) (cs : List Value) (y : DataW H × List MemPlace) (h : DataW.trod enc Try.prog w base spare held n 43 cs = some y) : ∃ v : OV, cs = opL v ∧ v.Ok w w.heap.size := by
  obtain ⟨hl, n, hf⟩ := trod_field Try.underlying43 h
  have hC : Try.prog.cellsOf 43 = 10 := by kernel_rfl
  rw [hC] at hl
  match cs, hl with
  | [v0, v1, v2, v3, v4, v5, v6, v7, v8, v9], _ =>
    obtain ⟨y0, h0⟩ := hf 0 _ rfl
    obtain ⟨y1, h1⟩ := hf 1 _ rfl
    obtain ⟨y2, h2⟩ := hf 2 _ rfl
    obtain ⟨y3, h3⟩ := hf 3 _ rfl
    obtain ⟨y4, h4⟩ := hf 4 _ rfl
    obtain ⟨a0, rfl, b0⟩ := trod_u8 (v := v0) h0
    obtain ⟨q, hq, hqf⟩ := cmd_trod _ [v1, v2, v3, v4, v5] _ h1
    obtain ⟨b, hb, _⟩ := bool_trod Try.underlying4 _ [v6] _ h2
    obtain ⟨a3, rfl, b3, b4⟩ := trod_i64 (v := v7) Try.underlying3 h3
    obtain ⟨x, hx, hxo⟩ := block_trod _ [v8, v9] _ h4
    obtain ⟨rfl, rfl, rfl, rfl, rfl⟩ : v1 = .int .u16 (q.ow : Int) ∧ v2 = .int .u8 (q.v : Int) ∧ v3 = .int .u32 (q.tx : Int) ∧ v4 = .int .u16 (q.n : Int) ∧ v5 = .int .u32 (q.ck : Int) := by simpa [cmdL] using hq
    obtain rfl : v6 = .bool b := by simpa using hb
    obtain ⟨rfl, rfl⟩ : v8 = .int .i64 x.a ∧ v9 = .slice x.A x.ws.length x.c := by simpa [Blk.cells] using hx
    exact ⟨⟨a0, q, b, a3, x⟩, rfl, b0, hqf, ⟨b3, b4⟩, hxo⟩
theorem open_ops {v : Value} {d : DataW H} {ps : List MemPlace} (hval : Value.okWide Try.prog w r b0 23 v) (hd : DataW.Trod enc Try.prog w base spare held 23 v d ps) :
    ∃ (A : Option Addr) (l : List OV) (c : Nat), v = .slice A l.length c ∧ Ops w w.heap.size A l ∧ l.length ≤ c ∧ c ≤ 9223372036854775807 := by
  obtain ⟨A, l, c, h1, h2, h3, h4, h5, h6⟩ := okWide_slice_trod opL (fun b => b.Ok w w.heap.size) Try.underlying23 (show Try.prog.cellsOf 43 = 10 by kernel_rfl) (by decide) op20_trod hval hd
  exact ⟨A, l, c, h1, ⟨h2, h3⟩, h4, h5⟩
theorem open_op20 {v : Value} {d : DataW H} {ps : List MemPlace} (hval : Value.okWide Try.prog w r b0 43 v) (hd : DataW.Trod enc Try.prog w base spare held 43 v d ps) :
    ∃ x : OV, v = .agg (opL x).toArray ∧ x.Ok w w.heap.size := by
  obtain ⟨cs, rfl, _⟩ := okWide_struct Try.underlying43 hval
  obtain ⟨fuel, hf⟩ := hd
  obtain ⟨s, hs, hok⟩ := op20_trod _ _ _ hf
  exact ⟨s, by rw [← hs]; rfl, hok⟩
theorem open_cmd {v : Value} {d : DataW H} {ps : List MemPlace} (hval : Value.okWide Try.prog w r b0 41 v) (hd : DataW.Trod enc Try.prog w base spare held 41 v d ps) :
    ∃ x : Cmd, v = .agg (cmdL x).toArray ∧ x.Fit := by
  obtain ⟨cs, rfl, _⟩ := okWide_struct Try.underlying41 hval
  obtain ⟨fuel, hf⟩ := hd
  obtain ⟨s, hs, hok⟩ := cmd_trod _ _ _ hf
  exact ⟨s, by rw [← hs]; rfl, hok⟩
end
end Go.Proofs.Ytajbghjjpebndaa
namespace Go.Proofs.Ytajbghjjpebndaa
set_option maxRecDepth 100000
open Go.RowKit
set_option linter.unusedVariables false
set_option linter.unusedSimpArgs false
attribute [local go_sem] Later.cell Later.frozen setCell_twice
namespace Aw
def B0 : List Nat := List.replicate 64 0
def X : Bk.Pr := (5, [9])
def G0 : Ag := Ag.new B0 3
def G1 : Ag := ⟨B0, ⟨7, 3⟩, 1, 1, 0, 1, ss0, 3⟩
def S1 : SS := ss0.set 0 (some X)
def G2 : Ag := ⟨B0, ⟨7, 3⟩, 1, 1, 0, 1, S1, 3⟩
def G3 : Ag := ⟨B0, ⟨7, -1⟩, 2, 1, 0, 1, S1, 3⟩
def G4 : Ag := ⟨Bk.over B0 [X], ⟨0, 0⟩, 0, 0, 1, 0, ss0, 3⟩
theorem e1 : G0.doit ⟨7, 1, 1, 0, 0⟩ = (G1, 0) := rfl
theorem e2 : G1.put 7 1 0 X = (G2, 0) := rfl
theorem there1 : ssThere S1 = [X] := rfl
theorem e3 : G2.doit ⟨7, 2, 1, 1, chk [X]⟩ = (G3, 0) := by
  have h : SSW S1 1 (chk [X]) := (ssw_first (ps := [X]) (n := 1) rfl (by decide) 1).2 rfl
  rw [doit_2 (by decide) (by decide) rfl, if_neg (by decide), if_neg]
  · rfl
  · rintro (h1 | h1 | h1)
    · exact h1 rfl
    · exact h1 rfl
    · exact h1 h
theorem e4 : G3.tick = G3 := rfl
theorem e4s : ∀ k, G3.ticks k = G3
  | 0 => rfl
  | k + 1 => by show (G3.ticks k).tick = G3; rw [e4s k]; rfl
theorem e5 : G3.boot = G3 := rfl
theorem e6 : G3.doit ⟨8, 1, 2, 0, 0⟩ = (G3, 22) := rfl
theorem e7 : G3.doit ⟨7, 3, 1, 0, 0⟩ = (G4, 0) := by
  rw [doit_3 (by decide) (by decide) rfl, if_neg (by decide), if_neg (by decide)]
  rfl
theorem e8 : G4.doit ⟨7, 3, 1, 0, 0⟩ = (G4, 0) := rfl
theorem e9 : G4.doit ⟨7, 1, 1, 0, 0⟩ = (G4, 23) := rfl
theorem ckl : chk [X] < 4294967296 := chk_lt (fun p hp x hx => by
  obtain rfl : p = X := by simpa using hp
  obtain rfl : x = 9 := by simpa [X] using hx
  decide)
theorem r0 : G0.right := Ag.right.new (by decide) (by decide)
theorem r1 : G1.right := by have h := r0.doit rfl ⟨7, 1, 1, 0, 0⟩; rw [e1] at h; exact h
theorem r2 : G2.right := by have h := r1.put 7 1 0 X; rw [e2] at h; exact h
theorem r3 : G3.right := by have h := r2.doit rfl ⟨7, 2, 1, 1, chk [X]⟩; rw [e3] at h; exact h
theorem r4 : G4.right := by have h := r3.doit rfl ⟨7, 3, 1, 0, 0⟩; rw [e7] at h; exact h
theorem len4 : (Bk.over B0 [X]).length = 64 := by rw [Bk.over_length]; rfl
theorem at5 : (Bk.over B0 [X])[5]? = some 9 := by decide
end Aw
end Go.Proofs.Ytajbghjjpebndaa
namespace Go.Proofs.Ytajbghjjpebndaa
set_option maxRecDepth 100000
open Go.RowKit
set_option linter.unusedVariables false
set_option linter.unusedSimpArgs false
attribute [local go_sem] Later.cell Later.frozen setCell_twice
section
variable {A : Option Addr} {c base : Nat} {s : Stv} {W : World}
theorem aw1 (h : AgIs A c s Aw.G0 W base) : Calls Try.prog 35 #[.agg (agC A c s Aw.G0).toArray, .agg #[.int .u16 7, .int .u8 1, .int .u32 1, .int .u16 0, .int .u32 0]] W (AgEE W (Aw.G1, 0)) := by
  have k := agdo_any W h Aw.r0 ⟨7, 1, 1, 0, 0⟩ ⟨by decide, by decide, by decide, by decide, by decide⟩
  rw [Aw.e1] at k
  exact k
theorem aw3 (h : AgIs A c s Aw.G2 W base) : Calls Try.prog 35 #[.agg (agC A c s Aw.G2).toArray, .agg #[.int .u16 7, .int .u8 2, .int .u32 1, .int .u16 1, .int .u32 (chk [Aw.X] : Nat)]] W (AgEE W (Aw.G3, 0)) := by
  have k := agdo_any W h Aw.r2 ⟨7, 2, 1, 1, chk [Aw.X]⟩ ⟨by decide, by decide, by decide, by decide, Aw.ckl⟩
  rw [Aw.e3] at k
  exact k
theorem aw6 (h : AgIs A c s Aw.G3 W base) : Calls Try.prog 35 #[.agg (agC A c s Aw.G3).toArray, .agg #[.int .u16 8, .int .u8 1, .int .u32 2, .int .u16 0, .int .u32 0]] W (AgEE W (Aw.G3, 22)) := by
  have k := agdo_any W h Aw.r3 ⟨8, 1, 2, 0, 0⟩ ⟨by decide, by decide, by decide, by decide, by decide⟩
  rw [Aw.e6] at k
  exact k
theorem aw7 (h : AgIs A c s Aw.G3 W base) : Calls Try.prog 35 #[.agg (agC A c s Aw.G3).toArray, .agg #[.int .u16 7, .int .u8 3, .int .u32 1, .int .u16 0, .int .u32 0]] W (AgEE W (Aw.G4, 0)) := by
  have k := agdo_any W h Aw.r3 ⟨7, 3, 1, 0, 0⟩ ⟨by decide, by decide, by decide, by decide, by decide⟩
  rw [Aw.e7] at k
  exact k
theorem aw8 (h : AgIs A c s Aw.G4 W base) : Calls Try.prog 35 #[.agg (agC A c s Aw.G4).toArray, .agg #[.int .u16 7, .int .u8 3, .int .u32 1, .int .u16 0, .int .u32 0]] W (AgEE W (Aw.G4, 0)) := by
  have k := agdo_any W h Aw.r4 ⟨7, 3, 1, 0, 0⟩ ⟨by decide, by decide, by decide, by decide, by decide⟩
  rw [Aw.e8] at k
  exact k
theorem aw9 (h : AgIs A c s Aw.G4 W base) : Calls Try.prog 35 #[.agg (agC A c s Aw.G4).toArray, .agg #[.int .u16 7, .int .u8 1, .int .u32 1, .int .u16 0, .int .u32 0]] W (AgEE W (Aw.G4, 23)) := by
  have k := agdo_any W h Aw.r4 ⟨7, 1, 1, 0, 0⟩ ⟨by decide, by decide, by decide, by decide, by decide⟩
  rw [Aw.e9] at k
  exact k
theorem aw2 (h : AgIs A c s Aw.G1 W base) (g : Nat) (hx : (⟨5, [9], some ⟨g, 0, none⟩, 1⟩ : Blk).Ok W W.heap.size) : Calls Try.prog 38 #[.agg (agC A c s Aw.G1).toArray, .int .u16 7, .int .u32 1, .int .i64 0, .agg #[.int .i64 5, .slice (some ⟨g, 0, none⟩) 1 1]] W (AgEE W (Aw.G2, 0)) := by
  have k := agput_any W h Aw.r1 7 1 0 ⟨5, [9], some ⟨g, 0, none⟩, 1⟩ (by decide) (by decide) hx
  rw [show (⟨5, [9], some ⟨g, 0, none⟩, 1⟩ : Blk).pr = Aw.X from rfl, Aw.e2] at k
  exact k
theorem blk9 {g : Nat} (R : RowAt W g 24 [.int .u16 9]) : (⟨5, [9], some ⟨g, 0, none⟩, 1⟩ : Blk).Ok W W.heap.size :=
  ⟨fun _ => ⟨g, 0, rfl, R.lt, fun j x hj => by
      match j, hj with
      | 0, hj => obtain rfl : 9 = x := (by simpa using hj); exact R.cells 0
      | j + 1, hj => simp at hj⟩, by simp, (show (-9223372036854775808 : Int) ≤ 5 by decide), (show (5 : Int) ≤ 9223372036854775807 by decide), Nat.le_refl 1, (show (1 : Nat) ≤ 9223372036854775807 by decide), fun h => by cases h⟩
theorem blks9 {g gx : Nat} (R : RowAt W g 30 [.int .i64 5, .slice (some ⟨gx, 0, none⟩) 1 1]) (hx : (⟨5, [9], some ⟨gx, 0, none⟩, 1⟩ : Blk).Ok W W.heap.size) : Blks W W.heap.size (some ⟨g, 0, none⟩) [⟨5, [9], some ⟨gx, 0, none⟩, 1⟩] :=
  ⟨fun _ => ⟨g, 0, rfl, R.lt, fun j a hj i v hi => by
      match j, hj with
      | 0, hj =>
        obtain rfl : (⟨5, [9], some ⟨gx, 0, none⟩, 1⟩ : Blk) = a := by simpa using hj
        rw [Nat.zero_mul, Nat.zero_add, Nat.zero_add]
        exact (R.cells i).trans hi
      | j + 1, hj => simp at hj⟩, fun b hb => by obtain rfl := List.mem_singleton.1 hb; exact hx⟩
theorem aw4 (h : AgIs A c s Aw.G3 W base) : Calls Try.prog 37 #[.agg (agC A c s Aw.G3).toArray] W (AgE W Aw.G3) := agtick_any W h Aw.r3
theorem aw5 (h : AgIs A c s Aw.G3 W base) : Calls Try.prog 39 #[.agg (agC A c s Aw.G3).toArray] W (AgE W Aw.G3) := agboot_any W h
theorem awNew (A : Option Addr) (W : World) (h : Sq u16w W W.heap.size A Aw.B0) (hA : A ≠ none) : Calls Try.prog 26 #[.slice A 64 64, .int .i64 3] W (AgEE W (Aw.G0, 0)) := by
  have k := agnew_any A 64 64 Aw.B0 3 W h (by decide) (fun e => absurd e hA) (by decide) (by intro x hx; rw [List.eq_of_mem_replicate hx]; decide) (by decide)
  exact k
theorem awSum (g : Nat) (y : Blk) (hy : y.pr = Aw.X) (h : Blks W W.heap.size (some ⟨g, 0, none⟩) [y]) : Calls Try.prog 42 #[.slice (some ⟨g, 0, none⟩) 1 1] W fun e w' => e = .returned (.int .u32 (chk [Aw.X] : Nat)) ∧ Below W.heap.size W w' :=
  rsum_any (some ⟨g, 0, none⟩) [y] 1 1 [Aw.X] W h rfl (by decide) (by decide) (by decide) (by show [y.pr] = _; rw [hy])
end
set_option maxHeartbeats 4000000 in
theorem awake20_any (w : World) : Calls Try.prog 11 #[] w fun e w' => e = .returned (.bool true) ∧ Below w.heap.size w w' := by
  obtain ⟨i0, hif, hz0, hz1, hz2⟩ := info_parts info_w16
  go_enter Try.func11, Try.ntmps11
  go_upto_region 2 with fail
  obtain ⟨w1, hw1⟩ : ∃ w_q_, w_q_ = (w.alloc (.cells #[.int .u16 9] 24)).alloc (.cells #[.int .i64 5, .slice (some ⟨w.heap.size, 0, none⟩) 1 1] 30) := ⟨_, rfl⟩
  rw [← hw1]
  have RW : Hid (RowAt w1 w.heap.size 24 [.int .u16 9]) := Lib.hid (by rw [hw1]; exact (RowAt.new w _ [.int .u16 9]).alloc _)
  have RX : Hid (RowAt w1 (w.heap.size + 1) 30 [.int .i64 5, .slice (some ⟨w.heap.size, 0, none⟩) 1 1]) := Lib.hid (by rw [hw1]; exact new2 _ _ _ _)
  have BZ : Hid (Below w.heap.size w w1) := Lib.hid (by rw [hw1]; exact bel_alloc (bel_alloc (Below.refl _ _) _) _)
  have hz1w : w.heap.size + 2 ≤ w1.heap.size := by rw [hw1, World.size_alloc, World.size_alloc]; exact Nat.le_refl _
  clear hw1
  go_wp2_with (at_make; go_loud (refine wpList_make_full _ rfl _ _ 22 rfl w1.heap.size 24 i0 (.int .u16 0) 1 Try.underlying22 hif hz0 hz1 _ _ _ _ 64 rfl rfl rfl rfl (by rw [hz2]; omega) (by unfold Go.maxLen; omega) (by simp) ?_; intro w2 o2 hg2; have hb2 : Below w1.heap.size w1 w2 := (Below.refl _ _).grown hg2 (Nat.le_refl _) (by simp); have o2' : w2.ownsRow w1.heap.size 24 1 (.slice (some ⟨w1.heap.size, 0, none⟩) 64 64) 64 (Aw.B0.map u16w) := (by have h9 := o2; have e9 : (madeCells (Value.int .u16 0).cells (64 * 1)).toList = Aw.B0.map u16w := made_w64 64; rw [e9] at h9; exact h9); have S2 := Lib.hid (show Sq u16w w2 w2.heap.size (some ⟨w1.heap.size, 0, none⟩) Aw.B0 from Sq.of_own (show w2.ownsRow w1.heap.size 24 1 (.slice (some ⟨w1.heap.size, 0, none⟩) Aw.B0.length 64) Aw.B0.length (Aw.B0.map u16w) from o2')); have B2 := Lib.hid hb2; clear hg2 o2 o2' hb2))
  replace RW := Lib.hid (RW.out.to B2.out)
  replace RX := Lib.hid (RX.out.to B2.out)
  replace BZ := Lib.hid (BZ.out.trans (B2.out.mono BZ.out.size))
  have hz2w := B2.out.size
  have kn := Lib.hid (awNew _ w2 S2.out (by simp))
  clear S2 B2
  with_reducible refine (kn.out).mono ?_
  rintro e3 w3 ⟨A3, c3, s3, rfl, i3, hb3⟩
  have IA := Lib.hid i3
  have HCA := Lib.hid i3.C32
  replace RW := Lib.hid (RW.out.to hb3)
  replace RX := Lib.hid (RX.out.to hb3)
  replace BZ := Lib.hid (BZ.out.trans (hb3.mono BZ.out.size))
  have hz3w := hb3.size
  clear i3 hb3 kn hz0 hz1 hz2 hif i0
  go_upto_region 3 with (refine wpList_store_var rfl 35 (.tmp 2) (.tmp 20) rfl w3.heap.size (agC none 0 Stv.zero Ag0) (agC A3 c3 s3 Aw.G0) 32 rfl rfl (new_agent w3) size_32 rfl HCA.out (agC_one _) ?_; intro w_3 r_3 k_3; have R_3 := Lib.hid r_3; have HB_3 : Hid (Below w3.heap.size w3 w_3) := Lib.hid (k_3.to (bel_alloc (Below.refl _ _) (.cells z32 35)) (Nat.le_refl _)); clear r_3 k_3)
  replace RW := Lib.hid (RW.out.to HB_3.out)
  replace RX := Lib.hid (RX.out.to HB_3.out)
  replace BZ := Lib.hid (BZ.out.trans (HB_3.out.mono BZ.out.size))
  replace IA := Lib.hid (IA.out.to HB_3.out)
  obtain ⟨gA, hgA⟩ : ∃ gA, w3.heap.size = gA := ⟨_, rfl⟩
  have RA := R_3
  have hzA : w.heap.size + 2 ≤ gA ∧ gA < w_3.heap.size := ⟨by omega, by rw [← hgA]; exact R_3.out.lt⟩
  rw [hgA] at RA ⊢
  clear HB_3 R_3 hgA hz1w hz2w hz3w
  have hzX := hzA.1
  have hzY := hzA.2
  clear hzA
  try simp only [Act.put]
  have HCO := HCA
  have kk := Lib.hid (aw1 IA.out)
  go_wp2_with (refine wpList_load_var rfl 35 (.tmp 2) rfl (gA) rfl _ _ 32 RA.out Try.underlying35 rfl size_32 HCA.out ?_)
  with_reducible refine (kk.out).mono ?_
  rintro e_ wq4 ⟨A4, c4, s4, rfl, iq, hq⟩
  have IN := Lib.hid iq
  have HCN := Lib.hid iq.C32
  replace RW := Lib.hid (RW.out.to hq)
  replace RX := Lib.hid (RX.out.to hq)
  replace RA := Lib.hid (RA.out.to hq)
  replace BZ := Lib.hid (BZ.out.trans (hq.mono BZ.out.size))
  have hzY2 := hq.size
  clear iq hq kk IA HCA
  go_upto_region 4 with (refine wpList_store_var rfl 35 (.tmp 2) (.tmp 26) rfl (gA) _ (agC A4 c4 s4 Aw.G1) 32 rfl rfl RA.out size_32 (by first | rfl | exact HCO.out) HCN.out (agC_one _) ?_; intro w_4 r_4 k_4; have R_4 := Lib.hid r_4; have K_4 := Lib.hid k_4; clear r_4 k_4)
  replace RW := Lib.hid (RW.out.only K_4.out (by omega))
  replace RX := Lib.hid (RX.out.only K_4.out (by omega))
  replace BZ := Lib.hid (K_4.out.to BZ.out (by omega))
  have IA := Lib.hid (IN.out.only K_4.out (by omega))
  replace hzY : gA < w_4.heap.size := by rw [K_4.out.size]; omega
  replace RA := R_4
  have HCA := HCN
  clear HCO IN HCN K_4 R_4 hzY2
  try simp only [Act.put]
  have HXB := Lib.hid (blk9 RW.out)
  have x0 : w_4.cell? ⟨w.heap.size + 1, 0, none⟩ = some (.int .i64 5) := RX.out.cells 0
  have x1 : w_4.cell? ⟨w.heap.size + 1, 1, none⟩ = some (.slice (some ⟨w.heap.size, 0, none⟩) 1 1) := RX.out.cells 1
  have HCO := HCA
  have kk := Lib.hid (aw2 IA.out _ HXB.out)
  go_wp2_with (refine wpList_load_var rfl 35 (.tmp 2) rfl (gA) rfl _ _ 32 RA.out Try.underlying35 rfl size_32 HCA.out ?_)
  with_reducible refine (kk.out).mono ?_
  rintro e_ wq5 ⟨A5, c5, s5, rfl, iq, hq⟩
  have IN := Lib.hid iq
  have HCN := Lib.hid iq.C32
  replace RW := Lib.hid (RW.out.to hq)
  replace RX := Lib.hid (RX.out.to hq)
  replace RA := Lib.hid (RA.out.to hq)
  replace BZ := Lib.hid (BZ.out.trans (hq.mono BZ.out.size))
  have hzY2 := hq.size
  clear iq hq kk IA HCA x0 x1 HXB
  go_upto_region 5 with (refine wpList_store_var rfl 35 (.tmp 2) (.tmp 32) rfl (gA) _ (agC A5 c5 s5 Aw.G2) 32 rfl rfl RA.out size_32 (by first | rfl | exact HCO.out) HCN.out (agC_one _) ?_; intro w_5 r_5 k_5; have R_5 := Lib.hid r_5; have K_5 := Lib.hid k_5; clear r_5 k_5)
  replace RW := Lib.hid (RW.out.only K_5.out (by omega))
  replace RX := Lib.hid (RX.out.only K_5.out (by omega))
  replace BZ := Lib.hid (K_5.out.to BZ.out (by omega))
  have IA := Lib.hid (IN.out.only K_5.out (by omega))
  replace hzY : gA < w_5.heap.size := by rw [K_5.out.size]; omega
  replace RA := R_5
  have HCA := HCN
  clear HCO IN HCN K_5 R_5 hzY2
  try simp only [Act.put]
  have HXB := Lib.hid (blk9 RW.out)
  have x0 : w_5.cell? ⟨w.heap.size + 1, 0, none⟩ = some (.int .i64 5) := RX.out.cells 0
  have x1 : w_5.cell? ⟨w.heap.size + 1, 1, none⟩ = some (.slice (some ⟨w.heap.size, 0, none⟩) 1 1) := RX.out.cells 1
  have hx5 : w.heap.size + 1 < w_5.heap.size := by omega
  have kd := Lib.hid (fun V (hV : Below w_5.heap.size w_5 V) => aw3 (IA.out.to hV))
  go_cut [6] (fun v wx => v = .int .i64 0 ∧ ∃ (A8 : Option Addr) (c8 : Nat) (s8 : Stv), Hid (RowAt wx gA 35 (agC A8 c8 s8 Aw.G3)) ∧ Hid (AgIs A8 c8 s8 Aw.G3 wx 0 ∧ AgOff gA A8 s8 Aw.G3) ∧ Hid (Below w.heap.size w wx))
  case first =>
    refine wp_region_held_drew (S := (fun w' => w'.cell? ⟨w.heap.size + 1, 0, none⟩ = some (.int .i64 5) ∧ w'.cell? ⟨w.heap.size + 1, 1, none⟩ = some (.slice (some ⟨w.heap.size, 0, none⟩) 1 1))) (by kernel_rfl) ?_ (fun hHeld => ?_)
    · exact ⟨x0, x1⟩
    refine takeD (i := 1) (oi := _) (v := ?vv240) (d := some 36) rfl (by kernel_rfl) (by kernel_rfl) (by kernel_rfl) (by kernel_rfl) (fun _ _ _ h => h) (Or.inl ⟨by kernel_rfl, ?_⟩) (by assumption) ?_
    rotate_left 1
    · intro W_ hSw; (try dsimp only at hSw); go_simp; (first | done | with_reducible rfl)
    try simp only [Act.put, List.setIfInBounds_toArray, List.set_cons_zero, List.set_cons_succ]
    refine wpAnyH_ready (rs := [0, 2]) (by kernel_rfl) (by simp) ?_
    refine AllReadyH.cons (o := _) rfl (fun K hK => ?_) (AllReadyH.cons (o := _) rfl (fun K hK => ?_) AllReadyH.nil)
    · refine step_load_var rfl 35 (.tmp 2) rfl gA rfl _ _ 32 (show RowAt _ gA 35 (agC A5 c5 s5 Aw.G2) from (by first | exact RA.out | exact RA.out.drew | exact RA.out.alloc _ | exact (RA.out.alloc _).drew | exact RA.out.drew.alloc _)) Try.underlying35 rfl size_32 HCA.out ?_
      refine hK.out _ _ ?_ (fun hHeld => ?_)
      · first | exact ⟨x0, x1⟩ | exact ⟨cell_al' _ x0, cell_al' _ x1⟩
      clear hK K
      try simp only [Act.put]
      try simp only [List.setIfInBounds_toArray]
      try simp only [List.set_cons_succ]
      try simp only [List.set_cons_zero]
      refine wpAnyH_ready (rs := [2]) (by kernel_rfl) (by simp) ?_
      refine AllReadyH.cons (o := _) rfl (fun K hK => ?_) AllReadyH.nil
      go_simp
      refine hK.out _ _ ?_ (fun hHeld => ?_)
      · first | exact ⟨x0, x1⟩ | exact ⟨cell_al' _ x0, cell_al' _ x1⟩
      clear hK K
      try simp only [Act.put]
      try simp only [List.setIfInBounds_toArray]
      try simp only [List.set_cons_succ]
      try simp only [List.set_cons_zero]
      refine wpAnyH_ready (rs := [3]) (by kernel_rfl) (by simp) ?_
      refine AllReadyH.cons (o := _) rfl (fun K hK => ?_) AllReadyH.nil
      go_simp
      (go_at_call 42; (with_reducible refine (awSum _ _ rfl (blks9 (gx := w.heap.size) (by first | exact RowAt.new _ _ _ | exact (RowAt.new _ _ _).drew) (HXB.out.to (by repeat (first | exact Below.refl _ _ | with_reducible refine Below.drew ?_ | with_reducible refine bel_alloc ?_ _))))).mono ?_); rintro e8 w8 ⟨rfl, hb8⟩; have hb8a : Below w_5.heap.size w_5 w8 := (show Below w_5.heap.size w_5 _ from (by repeat (first | exact Below.refl _ _ | with_reducible refine Below.drew ?_ | with_reducible refine bel_alloc ?_ _))).trans (hb8.mono (show Below w_5.heap.size w_5 _ from (by repeat (first | exact Below.refl _ _ | with_reducible refine Below.drew ?_ | with_reducible refine bel_alloc ?_ _))).size); have y0 := (hb8a.cell (p := ⟨w.heap.size + 1, 0, none⟩) hx5).trans x0; have y1 := (hb8a.cell (p := ⟨w.heap.size + 1, 1, none⟩) hx5).trans x1)
      go_wp2_with fail
      refine hK.out _ _ ?_ (fun hHeld => ?_)
      · exact ⟨y0, y1⟩
      clear hK K
      try simp only [Act.put, List.setIfInBounds_toArray, List.set_cons_zero, List.set_cons_succ]
      refine takeD (i := 4) (oi := _) (v := ?vv241) (d := some 39) rfl (by kernel_rfl) (by kernel_rfl) (by kernel_rfl) (by kernel_rfl) (fun _ _ _ h => h) (Or.inl ⟨by kernel_rfl, ?_⟩) (by assumption) ?_
      rotate_left 1
      · intro W_ hSw; (try dsimp only at hSw); go_simp; (first | done | with_reducible rfl)
      try simp only [Act.put, List.setIfInBounds_toArray, List.set_cons_zero, List.set_cons_succ]
      refine wpAnyH_ready (rs := [5]) (by kernel_rfl) (by simp) ?_
      refine AllReadyH.cons (o := _) rfl (fun K hK => ?_) AllReadyH.nil
      go_simp
      (go_at_call 35; (with_reducible refine (kd.out _ hb8a).mono ?_); rintro e9 w9 ⟨A9, c9, s9, rfl, i9, hb9⟩; have hb9a : Below w_5.heap.size w_5 w9 := hb8a.trans (hb9.mono hb8a.size); have z0 := (hb9a.cell (p := ⟨w.heap.size + 1, 0, none⟩) hx5).trans x0; have z1 := (hb9a.cell (p := ⟨w.heap.size + 1, 1, none⟩) hx5).trans x1; have RA9 := RA.out.to hb9a; have HC9 := Lib.hid i9.C32; have hz9 := hb8a.size)
      go_wp2_with fail
      refine hK.out _ _ ?_ (fun hHeld => ?_)
      · exact ⟨z0, z1⟩
      clear hK K
      try simp only [Act.put, List.setIfInBounds_toArray, List.set_cons_zero, List.set_cons_succ]
      refine takeD (i := 6) (oi := _) (v := ?vv242) (d := some 34) rfl (by kernel_rfl) (by kernel_rfl) (by kernel_rfl) (by kernel_rfl) (fun _ _ _ h => h) (Or.inl ⟨by kernel_rfl, ?_⟩) (by assumption) ?_
      rotate_left 1
      · intro W_ hSw; (try dsimp only at hSw); go_simp; (first | done | with_reducible rfl)
      try simp only [Act.put, List.setIfInBounds_toArray, List.set_cons_zero, List.set_cons_succ]
      refine takeD (i := 7) (oi := _) (v := ?vv243) (d := some 41) rfl (by kernel_rfl) (by kernel_rfl) (by kernel_rfl) (by kernel_rfl) (fun _ _ _ h => h) (Or.inl ⟨by kernel_rfl, ?_⟩) (by assumption) ?_
      rotate_left 1
      · intro W_ hSw; (try dsimp only at hSw); go_simp; (first | done | with_reducible rfl)
      try simp only [Act.put, List.setIfInBounds_toArray, List.set_cons_zero, List.set_cons_succ]
      refine takeD (i := 8) (oi := _) (v := ?vv244) (d := some 42) rfl (by kernel_rfl) (by kernel_rfl) (by kernel_rfl) (by kernel_rfl) (fun _ _ _ h => h) (Or.inl ⟨by kernel_rfl, ?_⟩) (by assumption) ?_
      rotate_left 1
      · intro W_ hSw; (try dsimp only at hSw); go_simp; (first | done | with_reducible rfl)
      try simp only [Act.put, List.setIfInBounds_toArray, List.set_cons_zero, List.set_cons_succ]
      refine wpAnyH_ready (rs := [9]) (by kernel_rfl) (by simp) ?_
      refine AllReadyH.cons (o := _) rfl (fun K hK => ?_) AllReadyH.nil
      (refine step_store_var rfl 35 (.tmp 2) (.tmp 41) rfl gA _ (agC A9 c9 s9 Aw.G3) 32 rfl rfl RA9 size_32 HCA.out HC9.out (agC_one _) ?_)
      intro w10 r10 k10
      go_simp
      refine hK.out _ _ ?_ (fun hHeld => ?_)
      · exact ⟨(k10.cell (p := ⟨w.heap.size + 1, 0, none⟩) (by show w.heap.size + 1 ≠ gA; omega)).trans z0, (k10.cell (p := ⟨w.heap.size + 1, 1, none⟩) (by show w.heap.size + 1 ≠ gA; omega)).trans z1⟩
      clear hK K
      try simp only [Act.put, List.setIfInBounds_toArray, List.set_cons_zero, List.set_cons_succ]
      refine takeD (i := 10) (oi := _) (v := ?vv245) (d := some 6) rfl (by kernel_rfl) (by kernel_rfl) (by kernel_rfl) (by kernel_rfl) (fun _ _ _ h => h) (Or.inl ⟨by kernel_rfl, ?_⟩) (by assumption) ?_
      rotate_left 1
      · intro W_ hSw; (try dsimp only at hSw); go_simp; (first | done | with_reducible rfl)
      try simp only [Act.put, List.setIfInBounds_toArray, List.set_cons_zero, List.set_cons_succ]
      refine wpAnyH_done (by kernel_rfl) ?_ _
      go_wp2
      go_meet
      case rel => exact ⟨rfl, A9, c9, s9, Lib.hid r10, Lib.hid ⟨(i9.only k10 (by omega)).more (Nat.zero_le _), i9.off (.inl (by omega))⟩, Lib.hid (k10.to (BZ.out.trans (hb9a.mono BZ.out.size)) (by omega))⟩
    · go_simp
      refine hK.out _ _ ?_ (fun hHeld => ?_)
      · first | exact ⟨x0, x1⟩ | exact ⟨cell_al' _ x0, cell_al' _ x1⟩
      clear hK K
      try simp only [Act.put]
      try simp only [List.setIfInBounds_toArray]
      try simp only [List.set_cons_succ]
      try simp only [List.set_cons_zero]
      refine wpAnyH_ready (rs := [0, 3]) (by kernel_rfl) (by simp) ?_
      refine AllReadyH.cons (o := _) rfl (fun K hK => ?_) (AllReadyH.cons (o := _) rfl (fun K hK => ?_) AllReadyH.nil)
      · refine step_load_var rfl 35 (.tmp 2) rfl gA rfl _ _ 32 (show RowAt _ gA 35 (agC A5 c5 s5 Aw.G2) from (by first | exact RA.out | exact RA.out.drew | exact RA.out.alloc _ | exact (RA.out.alloc _).drew | exact RA.out.drew.alloc _)) Try.underlying35 rfl size_32 HCA.out ?_
        refine hK.out _ _ ?_ (fun hHeld => ?_)
        · first | exact ⟨x0, x1⟩ | exact ⟨cell_al' _ x0, cell_al' _ x1⟩
        clear hK K
        try simp only [Act.put]
        try simp only [List.setIfInBounds_toArray]
        try simp only [List.set_cons_succ]
        try simp only [List.set_cons_zero]
        refine wpAnyH_ready (rs := [3]) (by kernel_rfl) (by simp) ?_
        refine AllReadyH.cons (o := _) rfl (fun K hK => ?_) AllReadyH.nil
        go_simp
        (go_at_call 42; (with_reducible refine (awSum _ _ rfl (blks9 (gx := w.heap.size) (by first | exact RowAt.new _ _ _ | exact (RowAt.new _ _ _).drew) (HXB.out.to (by repeat (first | exact Below.refl _ _ | with_reducible refine Below.drew ?_ | with_reducible refine bel_alloc ?_ _))))).mono ?_); rintro e8 w8 ⟨rfl, hb8⟩; have hb8a : Below w_5.heap.size w_5 w8 := (show Below w_5.heap.size w_5 _ from (by repeat (first | exact Below.refl _ _ | with_reducible refine Below.drew ?_ | with_reducible refine bel_alloc ?_ _))).trans (hb8.mono (show Below w_5.heap.size w_5 _ from (by repeat (first | exact Below.refl _ _ | with_reducible refine Below.drew ?_ | with_reducible refine bel_alloc ?_ _))).size); have y0 := (hb8a.cell (p := ⟨w.heap.size + 1, 0, none⟩) hx5).trans x0; have y1 := (hb8a.cell (p := ⟨w.heap.size + 1, 1, none⟩) hx5).trans x1)
        go_wp2_with fail
        refine hK.out _ _ ?_ (fun hHeld => ?_)
        · exact ⟨y0, y1⟩
        clear hK K
        try simp only [Act.put, List.setIfInBounds_toArray, List.set_cons_zero, List.set_cons_succ]
        refine takeD (i := 4) (oi := _) (v := ?vv246) (d := some 39) rfl (by kernel_rfl) (by kernel_rfl) (by kernel_rfl) (by kernel_rfl) (fun _ _ _ h => h) (Or.inl ⟨by kernel_rfl, ?_⟩) (by assumption) ?_
        rotate_left 1
        · intro W_ hSw; (try dsimp only at hSw); go_simp; (first | done | with_reducible rfl)
        try simp only [Act.put, List.setIfInBounds_toArray, List.set_cons_zero, List.set_cons_succ]
        refine wpAnyH_ready (rs := [5]) (by kernel_rfl) (by simp) ?_
        refine AllReadyH.cons (o := _) rfl (fun K hK => ?_) AllReadyH.nil
        go_simp
        (go_at_call 35; (with_reducible refine (kd.out _ hb8a).mono ?_); rintro e9 w9 ⟨A9, c9, s9, rfl, i9, hb9⟩; have hb9a : Below w_5.heap.size w_5 w9 := hb8a.trans (hb9.mono hb8a.size); have z0 := (hb9a.cell (p := ⟨w.heap.size + 1, 0, none⟩) hx5).trans x0; have z1 := (hb9a.cell (p := ⟨w.heap.size + 1, 1, none⟩) hx5).trans x1; have RA9 := RA.out.to hb9a; have HC9 := Lib.hid i9.C32; have hz9 := hb8a.size)
        go_wp2_with fail
        refine hK.out _ _ ?_ (fun hHeld => ?_)
        · exact ⟨z0, z1⟩
        clear hK K
        try simp only [Act.put, List.setIfInBounds_toArray, List.set_cons_zero, List.set_cons_succ]
        refine takeD (i := 6) (oi := _) (v := ?vv247) (d := some 34) rfl (by kernel_rfl) (by kernel_rfl) (by kernel_rfl) (by kernel_rfl) (fun _ _ _ h => h) (Or.inl ⟨by kernel_rfl, ?_⟩) (by assumption) ?_
        rotate_left 1
        · intro W_ hSw; (try dsimp only at hSw); go_simp; (first | done | with_reducible rfl)
        try simp only [Act.put, List.setIfInBounds_toArray, List.set_cons_zero, List.set_cons_succ]
        refine takeD (i := 7) (oi := _) (v := ?vv248) (d := some 41) rfl (by kernel_rfl) (by kernel_rfl) (by kernel_rfl) (by kernel_rfl) (fun _ _ _ h => h) (Or.inl ⟨by kernel_rfl, ?_⟩) (by assumption) ?_
        rotate_left 1
        · intro W_ hSw; (try dsimp only at hSw); go_simp; (first | done | with_reducible rfl)
        try simp only [Act.put, List.setIfInBounds_toArray, List.set_cons_zero, List.set_cons_succ]
        refine takeD (i := 8) (oi := _) (v := ?vv249) (d := some 42) rfl (by kernel_rfl) (by kernel_rfl) (by kernel_rfl) (by kernel_rfl) (fun _ _ _ h => h) (Or.inl ⟨by kernel_rfl, ?_⟩) (by assumption) ?_
        rotate_left 1
        · intro W_ hSw; (try dsimp only at hSw); go_simp; (first | done | with_reducible rfl)
        try simp only [Act.put, List.setIfInBounds_toArray, List.set_cons_zero, List.set_cons_succ]
        refine wpAnyH_ready (rs := [9]) (by kernel_rfl) (by simp) ?_
        refine AllReadyH.cons (o := _) rfl (fun K hK => ?_) AllReadyH.nil
        (refine step_store_var rfl 35 (.tmp 2) (.tmp 41) rfl gA _ (agC A9 c9 s9 Aw.G3) 32 rfl rfl RA9 size_32 HCA.out HC9.out (agC_one _) ?_)
        intro w10 r10 k10
        go_simp
        refine hK.out _ _ ?_ (fun hHeld => ?_)
        · exact ⟨(k10.cell (p := ⟨w.heap.size + 1, 0, none⟩) (by show w.heap.size + 1 ≠ gA; omega)).trans z0, (k10.cell (p := ⟨w.heap.size + 1, 1, none⟩) (by show w.heap.size + 1 ≠ gA; omega)).trans z1⟩
        clear hK K
        try simp only [Act.put, List.setIfInBounds_toArray, List.set_cons_zero, List.set_cons_succ]
        refine takeD (i := 10) (oi := _) (v := ?vv250) (d := some 6) rfl (by kernel_rfl) (by kernel_rfl) (by kernel_rfl) (by kernel_rfl) (fun _ _ _ h => h) (Or.inl ⟨by kernel_rfl, ?_⟩) (by assumption) ?_
        rotate_left 1
        · intro W_ hSw; (try dsimp only at hSw); go_simp; (first | done | with_reducible rfl)
        try simp only [Act.put, List.setIfInBounds_toArray, List.set_cons_zero, List.set_cons_succ]
        refine wpAnyH_done (by kernel_rfl) ?_ _
        go_wp2
        go_meet
        case rel => exact ⟨rfl, A9, c9, s9, Lib.hid r10, Lib.hid ⟨(i9.only k10 (by omega)).more (Nat.zero_le _), i9.off (.inl (by omega))⟩, Lib.hid (k10.to (BZ.out.trans (hb9a.mono BZ.out.size)) (by omega))⟩
      · go_simp
        (go_at_call 42; (with_reducible refine (awSum _ _ rfl (blks9 (gx := w.heap.size) (by first | exact RowAt.new _ _ _ | exact (RowAt.new _ _ _).drew) (HXB.out.to (by repeat (first | exact Below.refl _ _ | with_reducible refine Below.drew ?_ | with_reducible refine bel_alloc ?_ _))))).mono ?_); rintro e8 w8 ⟨rfl, hb8⟩; have hb8a : Below w_5.heap.size w_5 w8 := (show Below w_5.heap.size w_5 _ from (by repeat (first | exact Below.refl _ _ | with_reducible refine Below.drew ?_ | with_reducible refine bel_alloc ?_ _))).trans (hb8.mono (show Below w_5.heap.size w_5 _ from (by repeat (first | exact Below.refl _ _ | with_reducible refine Below.drew ?_ | with_reducible refine bel_alloc ?_ _))).size); have y0 := (hb8a.cell (p := ⟨w.heap.size + 1, 0, none⟩) hx5).trans x0; have y1 := (hb8a.cell (p := ⟨w.heap.size + 1, 1, none⟩) hx5).trans x1)
        go_wp2_with fail
        refine hK.out _ _ ?_ (fun hHeld => ?_)
        · exact ⟨y0, y1⟩
        clear hK K
        try simp only [Act.put, List.setIfInBounds_toArray, List.set_cons_zero, List.set_cons_succ]
        refine takeD (i := 4) (oi := _) (v := ?vv251) (d := some 39) rfl (by kernel_rfl) (by kernel_rfl) (by kernel_rfl) (by kernel_rfl) (fun _ _ _ h => h) (Or.inl ⟨by kernel_rfl, ?_⟩) (by assumption) ?_
        rotate_left 1
        · intro W_ hSw; (try dsimp only at hSw); go_simp; (first | done | with_reducible rfl)
        try simp only [Act.put, List.setIfInBounds_toArray, List.set_cons_zero, List.set_cons_succ]
        have RA8 := RA.out.to hb8a
        refine wpAnyH_ready (rs := [0]) (by kernel_rfl) (by simp) ?_
        refine AllReadyH.cons (o := _) rfl (fun K hK => ?_) AllReadyH.nil
        refine step_load_var rfl 35 (.tmp 2) rfl gA rfl _ _ 32 (show RowAt _ gA 35 (agC A5 c5 s5 Aw.G2) from RA8) Try.underlying35 rfl size_32 HCA.out ?_
        refine hK.out _ _ ?_ (fun hHeld => ?_)
        · exact ⟨y0, y1⟩
        clear hK K
        try simp only [Act.put]
        try simp only [List.setIfInBounds_toArray]
        try simp only [List.set_cons_succ]
        try simp only [List.set_cons_zero]
        refine wpAnyH_ready (rs := [5]) (by kernel_rfl) (by simp) ?_
        refine AllReadyH.cons (o := _) rfl (fun K hK => ?_) AllReadyH.nil
        go_simp
        (go_at_call 35; (with_reducible refine (kd.out _ hb8a).mono ?_); rintro e9 w9 ⟨A9, c9, s9, rfl, i9, hb9⟩; have hb9a : Below w_5.heap.size w_5 w9 := hb8a.trans (hb9.mono hb8a.size); have z0 := (hb9a.cell (p := ⟨w.heap.size + 1, 0, none⟩) hx5).trans x0; have z1 := (hb9a.cell (p := ⟨w.heap.size + 1, 1, none⟩) hx5).trans x1; have RA9 := RA.out.to hb9a; have HC9 := Lib.hid i9.C32; have hz9 := hb8a.size)
        go_wp2_with fail
        refine hK.out _ _ ?_ (fun hHeld => ?_)
        · exact ⟨z0, z1⟩
        clear hK K
        try simp only [Act.put, List.setIfInBounds_toArray, List.set_cons_zero, List.set_cons_succ]
        refine takeD (i := 6) (oi := _) (v := ?vv252) (d := some 34) rfl (by kernel_rfl) (by kernel_rfl) (by kernel_rfl) (by kernel_rfl) (fun _ _ _ h => h) (Or.inl ⟨by kernel_rfl, ?_⟩) (by assumption) ?_
        rotate_left 1
        · intro W_ hSw; (try dsimp only at hSw); go_simp; (first | done | with_reducible rfl)
        try simp only [Act.put, List.setIfInBounds_toArray, List.set_cons_zero, List.set_cons_succ]
        refine takeD (i := 7) (oi := _) (v := ?vv253) (d := some 41) rfl (by kernel_rfl) (by kernel_rfl) (by kernel_rfl) (by kernel_rfl) (fun _ _ _ h => h) (Or.inl ⟨by kernel_rfl, ?_⟩) (by assumption) ?_
        rotate_left 1
        · intro W_ hSw; (try dsimp only at hSw); go_simp; (first | done | with_reducible rfl)
        try simp only [Act.put, List.setIfInBounds_toArray, List.set_cons_zero, List.set_cons_succ]
        refine takeD (i := 8) (oi := _) (v := ?vv254) (d := some 42) rfl (by kernel_rfl) (by kernel_rfl) (by kernel_rfl) (by kernel_rfl) (fun _ _ _ h => h) (Or.inl ⟨by kernel_rfl, ?_⟩) (by assumption) ?_
        rotate_left 1
        · intro W_ hSw; (try dsimp only at hSw); go_simp; (first | done | with_reducible rfl)
        try simp only [Act.put, List.setIfInBounds_toArray, List.set_cons_zero, List.set_cons_succ]
        refine wpAnyH_ready (rs := [9]) (by kernel_rfl) (by simp) ?_
        refine AllReadyH.cons (o := _) rfl (fun K hK => ?_) AllReadyH.nil
        (refine step_store_var rfl 35 (.tmp 2) (.tmp 41) rfl gA _ (agC A9 c9 s9 Aw.G3) 32 rfl rfl RA9 size_32 HCA.out HC9.out (agC_one _) ?_)
        intro w10 r10 k10
        go_simp
        refine hK.out _ _ ?_ (fun hHeld => ?_)
        · exact ⟨(k10.cell (p := ⟨w.heap.size + 1, 0, none⟩) (by show w.heap.size + 1 ≠ gA; omega)).trans z0, (k10.cell (p := ⟨w.heap.size + 1, 1, none⟩) (by show w.heap.size + 1 ≠ gA; omega)).trans z1⟩
        clear hK K
        try simp only [Act.put, List.setIfInBounds_toArray, List.set_cons_zero, List.set_cons_succ]
        refine takeD (i := 10) (oi := _) (v := ?vv255) (d := some 6) rfl (by kernel_rfl) (by kernel_rfl) (by kernel_rfl) (by kernel_rfl) (fun _ _ _ h => h) (Or.inl ⟨by kernel_rfl, ?_⟩) (by assumption) ?_
        rotate_left 1
        · intro W_ hSw; (try dsimp only at hSw); go_simp; (first | done | with_reducible rfl)
        try simp only [Act.put, List.setIfInBounds_toArray, List.set_cons_zero, List.set_cons_succ]
        refine wpAnyH_done (by kernel_rfl) ?_ _
        go_wp2
        go_meet
        case rel => exact ⟨rfl, A9, c9, s9, Lib.hid r10, Lib.hid ⟨(i9.only k10 (by omega)).more (Nat.zero_le _), i9.off (.inl (by omega))⟩, Lib.hid (k10.to (BZ.out.trans (hb9a.mono BZ.out.size)) (by omega))⟩
  case rest =>
    obtain ⟨rfl, A8, c8, s8, RA8, I8, BZ8⟩ := hcut
    clear RA IA HCA HXB x0 x1 kd RX RW BZ hx5 hzY
    go_upto_region 9 with fail
    go_loopw [57] (fun i wr => ∃ k : Nat, ∃ (Ak : Option Addr) (ck : Nat) (sk : Stv), k ≤ 10 ∧ i = .int .i64 (k : Int) ∧ Hid (RowAt wr gA 35 (agC Ak ck sk Aw.G3)) ∧ Hid (AgIs Ak ck sk Aw.G3 wr 0 ∧ AgOff gA Ak sk Aw.G3) ∧ Hid (Below w.heap.size w wr)) (fun i _ => 10 - (intOf i).toNat)
    case atStart => exact ⟨0, A8, c8, s8, by omega, rfl, RA8, I8, BZ8⟩
    case round =>
      rename World => wr
      obtain ⟨k, Ak, ck, sk, hk, rfl, Rk, Ik, Bk_⟩ := hrel
      have HCk := Lib.hid Ik.out.1.C32
      by_cases hlt : k < 10
      · have hltI : (k : Int) < 10 := by omega
        have kt := Lib.hid (aw4 Ik.out.1)
        go_wp2_with (refine wpList_load_var rfl 35 (.tmp 2) rfl (gA) rfl _ _ 32 Rk.out Try.underlying35 rfl size_32 HCk.out ?_)
        with_reducible refine (kt.out).mono ?_
        rintro e1 w1 ⟨A2, c2, s2, rfl, i2, hb2⟩
        have I2 := Lib.hid i2
        have HC2 := Lib.hid i2.C32
        have R12 := Lib.hid (Rk.out.to hb2)
        have B2 := Lib.hid (Bk_.out.trans (hb2.mono Bk_.out.size))
        have hlt2 := Rk.out.lt
        clear i2 hb2 kt Rk
        go_upto_region 11 with (refine wpList_store_var rfl 35 (.tmp 2) (.tmp 60) rfl gA _ (agC A2 c2 s2 Aw.G3) 32 rfl rfl R12.out size_32 HCk.out HC2.out (agC_one _) ?_; intro w_5 r_5 k_5; have R_5 := Lib.hid r_5; have K_5 := Lib.hid k_5; clear r_5 k_5)
        go_wp2
        go_roundw
        case rel => exact ⟨k + 1, A2, c2, s2, by omega, by go_num, R_5, Lib.hid ⟨(I2.out.only K_5.out (by omega)).more (Nat.zero_le _), I2.out.off (.inl (by omega))⟩, Lib.hid (K_5.out.to B2.out (by omega))⟩
        case measure => simp [intOf]; omega
      · obtain rfl : k = 10 := by omega
        clear BZ8 I8 RA8
        have kt := Lib.hid (aw5 Ik.out.1)
        go_wp2_with (refine wpList_load_var rfl 35 (.tmp 2) rfl (gA) rfl _ _ 32 Rk.out Try.underlying35 rfl size_32 HCk.out ?_)
        with_reducible refine (kt.out).mono ?_
        rintro e1 w1 ⟨A2, c2, s2, rfl, i2, hb2⟩
        have I2 := Lib.hid i2
        have HC2 := Lib.hid i2.C32
        have R12 := Lib.hid (Rk.out.to hb2)
        have B2 := Lib.hid (Bk_.out.trans (hb2.mono Bk_.out.size))
        have hlt2 := Rk.out.lt
        clear i2 hb2 kt Rk
        go_upto_region 13 with (refine wpList_store_var rfl 35 (.tmp 2) (.tmp 63) rfl gA _ (agC A2 c2 s2 Aw.G3) 32 rfl rfl R12.out size_32 HCk.out HC2.out (agC_one _) ?_; intro w_5 r_5 k_5; have R_5 := Lib.hid r_5; have K_5 := Lib.hid k_5; clear r_5 k_5)
        have RA := R_5
        have IA := Lib.hid ((I2.out.only K_5.out (by omega)).more (base' := 0) (Nat.zero_le _))
        have BZ := Lib.hid (K_5.out.to B2.out (by omega))
        have HCA := HC2
        clear R_5 I2 K_5 B2 HC2 R12 hlt2 Ik Bk_ HCk
        try simp only [Act.put]
        have kk := Lib.hid (aw6 IA.out)
        go_wp2_with (refine wpList_load_var rfl 35 (.tmp 2) rfl (gA) rfl _ _ 32 RA.out Try.underlying35 rfl size_32 HCA.out ?_)
        with_reducible refine (kk.out).mono ?_
        rintro e_ wq ⟨AZ, cZ, sZ, rfl, iq, hq⟩
        have IN := Lib.hid iq
        have HCN := Lib.hid iq.C32
        replace RA := Lib.hid (RA.out.to hq)
        replace IA := Lib.hid (IA.out.to hq)
        replace BZ := Lib.hid (BZ.out.trans (hq.mono BZ.out.size))
        clear iq hq kk
        go_upto_region 14 with (refine wpList_store_var rfl 35 (.tmp 7) (.tmp 68) rfl wq.heap.size (agC none 0 Stv.zero Ag0) (agC AZ cZ sZ Aw.G3) 32 rfl rfl (new_agent wq) size_32 rfl HCN.out (agC_one _) ?_; intro w_7 r_7 k_7; have R_7 := Lib.hid r_7; have HB_7 : Hid (Below wq.heap.size wq w_7) := Lib.hid (k_7.to (bel_alloc (Below.refl _ _) (.cells z32 35)) (Nat.le_refl _)); clear r_7 k_7)
        replace RA := Lib.hid (RA.out.to HB_7.out)
        replace IA := Lib.hid (IA.out.to HB_7.out)
        replace BZ := Lib.hid (BZ.out.trans (HB_7.out.mono BZ.out.size))
        replace IN := Lib.hid (IN.out.to HB_7.out)
        obtain ⟨gZ, hgq⟩ : ∃ gq, wq.heap.size = gq := ⟨_, rfl⟩
        have RZ := R_7
        rw [hgq] at RZ ⊢
        have IZ := IN
        have HCZ := HCN
        clear HB_7 R_7 hgq IN HCN
        try simp only [Act.put]
        have kk := Lib.hid (aw7 IA.out)
        go_wp2_with (refine wpList_load_var rfl 35 (.tmp 2) rfl (gA) rfl _ _ 32 RA.out Try.underlying35 rfl size_32 HCA.out ?_)
        with_reducible refine (kk.out).mono ?_
        rintro e_ wq ⟨AB, cB, sB, rfl, iq, hq⟩
        have IN := Lib.hid iq
        have HCN := Lib.hid iq.C32
        replace RA := Lib.hid (RA.out.to hq)
        replace IA := Lib.hid (IA.out.to hq)
        replace BZ := Lib.hid (BZ.out.trans (hq.mono BZ.out.size))
        clear iq hq kk
        go_upto_region 15 with (refine wpList_store_var rfl 35 (.tmp 9) (.tmp 74) rfl wq.heap.size (agC none 0 Stv.zero Ag0) (agC AB cB sB Aw.G4) 32 rfl rfl (new_agent wq) size_32 rfl HCN.out (agC_one _) ?_; intro w_7 r_7 k_7; have R_7 := Lib.hid r_7; have HB_7 : Hid (Below wq.heap.size wq w_7) := Lib.hid (k_7.to (bel_alloc (Below.refl _ _) (.cells z32 35)) (Nat.le_refl _)); clear r_7 k_7)
        replace RA := Lib.hid (RA.out.to HB_7.out)
        replace IA := Lib.hid (IA.out.to HB_7.out)
        replace BZ := Lib.hid (BZ.out.trans (HB_7.out.mono BZ.out.size))
        replace IN := Lib.hid (IN.out.to HB_7.out)
        obtain ⟨gB, hgq⟩ : ∃ gq, wq.heap.size = gq := ⟨_, rfl⟩
        have RB := R_7
        rw [hgq] at RB ⊢
        have IB := IN
        have HCB := HCN
        clear HB_7 R_7 hgq IN HCN
        try simp only [Act.put]
        have kk := Lib.hid (aw8 IB.out)
        go_wp2_with (refine wpList_load_var rfl 35 (.tmp 9) rfl (gB) rfl _ _ 32 RB.out Try.underlying35 rfl size_32 HCB.out ?_)
        with_reducible refine (kk.out).mono ?_
        rintro e_ wq ⟨AC, cC, sC, rfl, iq, hq⟩
        have IN := Lib.hid iq
        have HCN := Lib.hid iq.C32
        replace RA := Lib.hid (RA.out.to hq)
        replace IA := Lib.hid (IA.out.to hq)
        replace RB := Lib.hid (RB.out.to hq)
        replace IB := Lib.hid (IB.out.to hq)
        replace BZ := Lib.hid (BZ.out.trans (hq.mono BZ.out.size))
        clear iq hq kk
        go_upto_region 16 with (refine wpList_store_var rfl 35 (.tmp 11) (.tmp 80) rfl wq.heap.size (agC none 0 Stv.zero Ag0) (agC AC cC sC Aw.G4) 32 rfl rfl (new_agent wq) size_32 rfl HCN.out (agC_one _) ?_; intro w_7 r_7 k_7; have R_7 := Lib.hid r_7; have HB_7 : Hid (Below wq.heap.size wq w_7) := Lib.hid (k_7.to (bel_alloc (Below.refl _ _) (.cells z32 35)) (Nat.le_refl _)); clear r_7 k_7)
        replace RA := Lib.hid (RA.out.to HB_7.out)
        replace IA := Lib.hid (IA.out.to HB_7.out)
        replace RB := Lib.hid (RB.out.to HB_7.out)
        replace IB := Lib.hid (IB.out.to HB_7.out)
        replace BZ := Lib.hid (BZ.out.trans (HB_7.out.mono BZ.out.size))
        replace IN := Lib.hid (IN.out.to HB_7.out)
        obtain ⟨gC, hgq⟩ : ∃ gq, wq.heap.size = gq := ⟨_, rfl⟩
        have RC := R_7
        rw [hgq] at RC ⊢
        have IC := IN
        have HCC := HCN
        clear HB_7 R_7 hgq IN HCN
        try simp only [Act.put]
        have kk := Lib.hid (aw9 IC.out)
        go_wp2_with (refine wpList_load_var rfl 35 (.tmp 11) rfl (gC) rfl _ _ 32 RC.out Try.underlying35 rfl size_32 HCC.out ?_)
        with_reducible refine (kk.out).mono ?_
        rintro e_ wq ⟨AD, cD, sD, rfl, iq, hq⟩
        have IN := Lib.hid iq
        have HCN := Lib.hid iq.C32
        replace RA := Lib.hid (RA.out.to hq)
        replace IA := Lib.hid (IA.out.to hq)
        replace RB := Lib.hid (RB.out.to hq)
        replace IB := Lib.hid (IB.out.to hq)
        replace RC := Lib.hid (RC.out.to hq)
        replace IC := Lib.hid (IC.out.to hq)
        replace BZ := Lib.hid (BZ.out.trans (hq.mono BZ.out.size))
        clear iq hq kk
        go_upto_region 17 with (refine wpList_store_var rfl 35 (.tmp 13) (.tmp 86) rfl wq.heap.size (agC none 0 Stv.zero Ag0) (agC AD cD sD Aw.G4) 32 rfl rfl (new_agent wq) size_32 rfl HCN.out (agC_one _) ?_; intro w_7 r_7 k_7; have R_7 := Lib.hid r_7; have HB_7 : Hid (Below wq.heap.size wq w_7) := Lib.hid (k_7.to (bel_alloc (Below.refl _ _) (.cells z32 35)) (Nat.le_refl _)); clear r_7 k_7)
        replace RA := Lib.hid (RA.out.to HB_7.out)
        replace IA := Lib.hid (IA.out.to HB_7.out)
        replace RB := Lib.hid (RB.out.to HB_7.out)
        replace IB := Lib.hid (IB.out.to HB_7.out)
        replace RC := Lib.hid (RC.out.to HB_7.out)
        replace IC := Lib.hid (IC.out.to HB_7.out)
        replace BZ := Lib.hid (BZ.out.trans (HB_7.out.mono BZ.out.size))
        replace IN := Lib.hid (IN.out.to HB_7.out)
        obtain ⟨gD, hgq⟩ : ∃ gq, wq.heap.size = gq := ⟨_, rfl⟩
        have RD := R_7
        rw [hgq] at RD ⊢
        have ID := IN
        have HCD := HCN
        clear HB_7 R_7 hgq IN HCN
        try simp only [Act.put]

        rename World => wz
        have hsq := IB.out.sq
        obtain ⟨bb, ob, hAb, hbb, hcb⟩ := hsq (by rw [show Aw.G4.bank.length = 64 from Aw.len4]; decide)
        have m5 : wz.cell? ⟨bb, ob + 5, none⟩ = some (.int .u16 9) := hcb 5 9 Aw.at5
        have ks := Lib.hid (agsame_any true wz IB.out IC.out (by simp))
        subst hAb
        have a3 : wz.cell? ⟨gA, 3, none⟩ = some (.int .u8 2) := RA.out.cells 3
        have b0 : wz.cell? ⟨gB, 0, none⟩ = some (.slice (some ⟨bb, ob, none⟩) 64 cB) := (RB.out.cells 0).trans (by show some (Value.slice _ (Bk.over Aw.B0 [Aw.X]).length cB) = _; rw [Aw.len4])
        have b3 : wz.cell? ⟨gB, 3, none⟩ = some (.int .u8 0) := RB.out.cells 3
        have b5 : wz.cell? ⟨gB, 5, none⟩ = some (.int .u32 1) := RB.out.cells 5
        have hcap : (5 : Int) < (64 : Int) := by decide
        clear hsq hcb
        go_wp2_with (first | (refine wpList_load_var (by kernel_rfl) 35 (.tmp 9) rfl gB rfl _ _ 32 RB.out Try.underlying35 rfl size_32 HCB.out ?_) | (refine wpList_load_var (by kernel_rfl) 35 (.tmp 11) rfl gC rfl _ _ 32 RC.out Try.underlying35 rfl size_32 HCC.out ?_))
        with_reducible refine (ks.out).mono ?_
        rintro e9 w9 ⟨rfl, hb9⟩
        have B9 := Lib.hid (BZ.out.trans (hb9.mono BZ.out.size))
        clear hb9
        go_wp2
        go_ret
        exact ⟨rfl, B9.out⟩
end Go.Proofs.Ytajbghjjpebndaa
