/- The walk of the reference of layer 19: Put. The walks of the reference of layer 8: Add, Raw, Bytes, Words. The walks of the references of layers 8 and 19: Blocks, Sum. -/
import Derived.Test.YtajbghjjpebndaaQ15
import Derived.Test.YtajbghjjpebndaaQ00
import Derived.Test.YtajbghjjpebndaaQ01
import Derived.Test.YtajbghjjpebndaaQ03
import Derived.Deep.RegionHeld3
import Derived.Test.YtajbghjjpebndaaQ12
namespace Go.Proofs.Ytajbghjjpebndaa
set_option maxRecDepth 100000
open Go.RowKit
set_option linter.unusedVariables false
set_option linter.unusedSimpArgs false
attribute [local go_sem] Later.cell Later.frozen setCell_twice
set_option maxRecDepth 100000 in
set_option maxHeartbeats 400000 in
theorem rput_bad (C : List Value) (n a : Int) (A : Option Addr) (c m : Nat) (w : World) (h : n < 0 ∨ 7 < n) :
    Calls Try.prog 63 #[.agg C.toArray, .int .i64 n, .agg #[.int .i64 a, .slice A m c]] w fun e w' => e = .returned (.tuple #[.agg z25, .int .i64 2]) ∧ Below w.heap.size w w' := by
  have HROW := Lib.hid (put_row w C #[.int .i64 a, .slice A m c])
  by_cases h1 : n < 0
  · clear h
    go_enter Try.func63, Try.ntmps63
    go_wp2_with (refine wpList_store_row rfl 33 (.tmp 6) (.tmp 15) rfl (w.heap.size + 1 + 1) z25 rfl rfl 33 z25 HROW.out size_z25 rfl one_z25 ?_)
    exact bodyPost_ret (results_cell_tmp rfl _ _ (w.heap.size + 1 + 1) 33 z25 (0, 0) _ rfl (RowAt.row HROW.out Stv.zero.C) Try.underlying33 rfl size_z25) rfl ⟨rfl, (below_setRow (bel_alloc (bel_alloc (bel_alloc (Below.refl _ _) _) _) _) (by omega) _)⟩
  · have h2 : 7 < n := by omega
    have g1 : decide (n < 0) = false := decide_eq_false h1
    clear h h1
    go_enter Try.func63, Try.ntmps63
    go_wp2_with (refine wpList_store_row rfl 33 (.tmp 6) (.tmp 15) rfl (w.heap.size + 1 + 1) z25 rfl rfl 33 z25 HROW.out size_z25 rfl one_z25 ?_)
    exact bodyPost_ret (results_cell_tmp rfl _ _ (w.heap.size + 1 + 1) 33 z25 (0, 0) _ rfl (RowAt.row HROW.out Stv.zero.C) Try.underlying33 rfl size_z25) rfl ⟨rfl, (below_setRow (bel_alloc (bel_alloc (bel_alloc (Below.refl _ _) _) _) _) (by omega) _)⟩
set_option maxRecDepth 100000 in
set_option maxHeartbeats 400000 in
theorem rput_nofit (C : List Value) (n a : Int) (A : Option Addr) (c m : Nat) (w : World) (h : 0 ≤ n ∧ n ≤ 7) (lo : -9223372036854775808 ≤ a) (hi : a ≤ 9223372036854775807) (hm : m ≤ 9223372036854775807) (hf : Bk.fits a m = false) :
    Calls Try.prog 63 #[.agg C.toArray, .int .i64 n, .agg #[.int .i64 a, .slice A m c]] w fun e w' => e = .returned (.tuple #[.agg z25, .int .i64 20]) ∧ Below w.heap.size w w' := by
  have kf := Lib.hid (fun W => rfits_any a m c A false W lo hi hm hf)
  have HROW := Lib.hid (put_row w C #[.int .i64 a, .slice A m c])
  have g1 : decide (n < 0) = false := decide_eq_false (by omega)
  have g2 : decide (7 < n) = false := decide_eq_false (by omega)
  clear h hf
  go_enter Try.func63, Try.ntmps63
  go_wp2_with fail
  with_reducible refine (kf.out _).mono ?_
  rintro e2 w2 ⟨rfl, hb2⟩
  have HR2 := Lib.hid (HROW.out.to hb2)
  have hbw : Below w.heap.size w w2 := (bel_alloc (bel_alloc (bel_alloc (Below.refl _ _) _) _) _).trans (hb2.mono (by simp; omega))
  clear hb2
  go_wp2_with (refine wpList_store_row rfl 33 (.tmp 6) (.tmp 19) rfl (w.heap.size + 1 + 1) z25 rfl rfl 33 z25 HR2.out size_z25 rfl one_z25 ?_)
  exact bodyPost_ret (results_cell_tmp rfl _ _ (w.heap.size + 1 + 1) 33 z25 (0, 0) _ rfl (RowAt.row HR2.out Stv.zero.C) Try.underlying33 rfl size_z25) rfl ⟨rfl, (below_setRow hbw (by omega) _)⟩
set_option maxRecDepth 100000 in
set_option maxHeartbeats 1000000 in
theorem rput_S {s : Stv} {base tx : Nat} {S : SS} (k : Nat) (x : Blk) (w : World) (hs : s.Is w base tx S) (hx : x.Ok w w.heap.size) (hk : k ≤ 7) (hf : Bk.fits x.a x.ws.length = true) :
    Calls Try.prog 63 #[.agg s.C.toArray, .int .i64 (k : Int), .agg #[.int .i64 x.a, .slice x.A x.ws.length x.c]] w (PutS w tx (S.set k (some x.pr))) := by
  obtain ⟨i0, hif, hz0, hz1, hz2⟩ := info_parts info_w16
  have kf := Lib.hid (fun W => rfits_any x.a x.ws.length x.c x.A true W hx.lo hx.hi (Nat.le_trans hx.ln hx.cap) hf)
  have R3 := Lib.hid (put_row0 w s.C #[.int .i64 x.a, .slice x.A x.ws.length x.c])
  have R5 := Lib.hid (put_row1 w s.C [.int .i64 x.a, .slice x.A x.ws.length x.c])
  have R6 := Lib.hid (put_row w s.C #[.int .i64 x.a, .slice x.A x.ws.length x.c])
  have IS := Lib.hid hs
  have HC := Lib.hid hs.C25
  have HX := Lib.hid hx
  have hxl := (Bk.fits_iff.1 hf).1
  have hk8 : k < 8 := by omega
  have g1 : decide ((k : Int) < 0) = false := decide_eq_false (by omega)
  have g2 : decide ((7 : Int) < (k : Int)) = false := decide_eq_false (by omega)
  have hltI : (k : Int) < 8 := by omega
  have h0I : (0 : Int) ≤ (k : Int) := by omega
  clear hs hx hf
  go_enter Try.func63, Try.ntmps63
  go_wp2_with fail
  with_reducible refine (kf.out _).mono ?_
  rintro e_ w1 ⟨rfl, hb1⟩
  have hz1' : w.heap.size + 3 ≤ w1.heap.size := by have := hb1.size; simp at this; omega
  replace R3 := Lib.hid (R3.out.to hb1)
  replace R5 := Lib.hid (R5.out.to hb1)
  replace R6 := Lib.hid (R6.out.to hb1)
  have BW := Lib.hid ((bel_alloc (bel_alloc (bel_alloc (Below.refl _ _) _) _) _).trans (hb1.mono (by simp; omega)) : Below w.heap.size w w1)
  have kc := Lib.hid (rcopy_S w1 (IS.out.to BW.out))
  clear hb1 kf
  go_wp2_with (refine wpList_load_var rfl 33 (.tmp 3) rfl w.heap.size rfl s.C _ 25 R3.out Try.underlying33 rfl size_25 HC.out ?_)
  with_reducible refine (kc.out).mono ?_
  rintro e_ w2 ⟨so, rfl, hso, hb2⟩
  have hz2' := hb2.size
  replace R5 := Lib.hid (R5.out.to hb2)
  replace R6 := Lib.hid (R6.out.to hb2)
  replace BW := Lib.hid (BW.out.trans (hb2.mono (by omega)))
  have HIO := Lib.hid hso
  have HCO := Lib.hid hso.C25
  obtain ⟨b, hbk⟩ : ∃ b, so.bs[k]? = some b := ⟨_, List.getElem?_eq_getElem (by rw [hso.ok.lb]; exact hk8)⟩
  have HBK := Lib.hid (Stv.C_block hso.ok.lh hbk)
  have HHK := Lib.hid (Stv.C_have (getD_hs (s := so) (k := k) (by rw [hso.ok.lh]; exact hk8)))
  have n1 : ¬ 1 + k = 9 + k * 2 := by omega
  have n2 : ¬ 1 + k = 9 + k * 2 + 1 := by omega
  have n3 : ¬ 9 + k * 2 = 9 + k * 2 + 1 := by omega
  have p0 : w2.cell? ⟨w.heap.size + 1, 0, none⟩ = some (.int .i64 x.a) := R5.out.cells 0
  clear hb2 hso kc R3 hbk
  go_wp2_with (refine wpList_store_var rfl 33 (.tmp 8) (.tmp 21) rfl w2.heap.size Stv.zero.C so.C 25 rfl rfl (heap_alloc_new w2 _) size_25 rfl HCO.out (Stv.C_one so) ?_; intro w3 r8 k3; have R8 := Lib.hid r8; have K3 := Lib.hid k3; have e1 := (r8.cells (1 + k)).trans HHK.out; have e2 := (r8.cells (9 + k * 2)).trans HBK.out.1; have e3 := (r8.cells (9 + k * 2 + 1)).trans HBK.out.2; have f1 := r8.frozen (1 + k); have f2 := r8.frozen (9 + k * 2); have f3 := r8.frozen (9 + k * 2 + 1); have q0 : w3.cell? ⟨w.heap.size + 1, 0, none⟩ = some (.int .i64 x.a) := ((R5.out.alloc _).only k3 (by omega)).cells 0; clear r8 k3)
  obtain ⟨w5, hw5⟩ : ∃ w5, w5 = ((w3.setCell ⟨w2.heap.size, 1 + k, none⟩ (.bool true)).setCell ⟨w2.heap.size, 9 + k * 2, none⟩ (.int .i64 x.a)).setCell ⟨w2.heap.size, 9 + k * 2 + 1, none⟩ (.slice none 0 0) := ⟨_, rfl⟩
  rw [← hw5]
  have hb3 : Below w2.heap.size w2 w3 := K3.out.to (bel_alloc (Below.refl _ _) _) (Nat.le_refl _)
  have hz3 : w2.heap.size < w3.heap.size := by rw [K3.out.size]; simp
  have k5 : Only w2.heap.size w3 w5 := by rw [hw5]; exact (((Only.refl _ _).set _).set _).set _
  have hz5 : w2.heap.size < w5.heap.size := by rw [k5.size]; exact hz3
  have hb5 : Below w2.heap.size w2 w5 := hb3.trans (k5.below (Nat.le_refl _))
  have r8 : RowAt w5 w2.heap.size 33 (((so.C.set (1 + k) (.bool true)).set (9 + k * 2) (.int .i64 x.a)).set (9 + k * 2 + 1) (.slice none 0 0)) := by rw [hw5]; exact ((R8.out.set _ _).set _ _).set _ _
  have hlen : 9 + k * 2 + 1 < ((so.C.set (1 + k) (.bool true)).set (9 + k * 2) (.int .i64 x.a)).length := by simp [HCO.out]; omega
  have q3 : w5.cell? ⟨w2.heap.size, 9 + k * 2 + 1, none⟩ = some (.slice none 0 0) := (r8.cells _).trans (List.getElem?_set_self hlen)
  have g3 : w5.frozen? ⟨w2.heap.size, 9 + k * 2 + 1, none⟩ = false := r8.frozen _
  have hw1 : w.heap.size + 1 < w5.heap.size := by omega
  have q1 : w5.cell? ⟨w.heap.size + 1, 1, none⟩ = some (.slice x.A x.ws.length x.c) := (R5.out.to hb5).cells 1
  have B5 := Lib.hid (BW.out.trans (hb5.mono (by omega)))
  have SQ := Lib.hid (HX.out.to B5.out).sq
  have NL := Lib.hid HX.out.nl
  have R85 := Lib.hid r8
  have R65 := Lib.hid (R6.out.to hb5)
  have IO5 := Lib.hid (HIO.out.to hb5)
  have HB5 := Lib.hid hb5
  clear hw5 hb3 k5 hb5 r8 hlen e1 e2 e3 f1 f2 f3 q0 K3 R8 R5 R6 hz3
  go_region_law (first | (refine step_append_sq (f := u16w) _ (by rfl) (.tmp 36) (.tmp 38) 22 (by rfl) (fun _ => rfl) w5.heap.size 24 i0 _ _ Try.underlying22 hif hz0 rfl hz1 hz2 (by decide) (.slice none 0 0) [] (by rfl) (World.ownsRow_nil _ _ _ _) w5.heap.size x.A x.ws x.c x.ws.length rfl (by rfl) SQ.out NL.out (by simp; omega) (Nat.le_refl _) ?_; intro A2 c2 W2 hown2 hg2 hb2; rw [List.nil_append] at hown2; have r3w := R85.out.drew.grown hg2 (by simp [Value.ownBlock]); have q3w : W2.cell? ⟨w2.heap.size, 9 + k * 2 + 1, none⟩ = some (.slice none 0 0) := (hb2.cell (p := ⟨w2.heap.size, 9 + k * 2 + 1, none⟩) hz5).trans q3; have q1w : W2.cell? ⟨w.heap.size + 1, 1, none⟩ = some (.slice x.A x.ws.length x.c) := (hb2.cell (p := ⟨w.heap.size + 1, 1, none⟩) hw1).trans q1; have g3w : W2.frozen? ⟨w2.heap.size, 9 + k * 2 + 1, none⟩ = false := r3w.frozen _; have R3W := Lib.hid r3w; clear r3w))
  all_goals
    have hbw : Below w5.heap.size w5 W2 := (Below.refl _ _).drew.trans hb2
    have BW2 := Lib.hid hbw
    have O2 := Lib.hid hown2
    have hrow := R3W.out.set (9 + k * 2 + 1) (.slice A2 x.ws.length c2)
    have hC : ((((so.C.set (1 + k) (.bool true)).set (9 + k * 2) (.int .i64 x.a)).set (9 + k * 2 + 1) (.slice none 0 0)).set (9 + k * 2 + 1) (.slice A2 x.ws.length c2)) = (⟨so.tx, so.hs.set k true, so.bs.set k ⟨x.a, x.ws, A2, c2⟩⟩ : Stv).C := by
      rw [List.set_set, Stv.C_have_set true (by rw [IO5.out.ok.lh]; exact hk8), Stv.C_block_set (s := ⟨so.tx, so.hs.set k true, so.bs⟩) (by simp [IO5.out.ok.lh]) ⟨x.a, x.ws, A2, c2⟩ (by rw [IO5.out.ok.lb]; exact hk8)]
    rw [hC] at hrow
    have HROW := Lib.hid hrow
    have k7 : ∀ v, Only w2.heap.size W2 (W2.setCell ⟨w2.heap.size, 9 + k * 2 + 1, none⟩ v) := fun v => (Only.refl _ _).set v
    have hob : (Blk.mk x.a x.ws A2 c2).Ok W2 W2.heap.size := Blk.Ok.of_own rfl O2.out HX.out.u HX.out.lo HX.out.hi
    have hnew : ∀ p, A2 = some p → w2.heap.size + 1 ≤ p.block := fun p hp => by have := (O2.out.lt p.block (by rw [hp]; rfl)).1; omega
    have hb25 : Below w2.heap.size w2 (W2.setCell ⟨w2.heap.size, 9 + k * 2 + 1, none⟩ (.slice A2 x.ws.length c2)) := (k7 _).to (HB5.out.trans (hbw.mono (by omega))) (Nat.le_refl _)
    have his := (HIO.out.to hb25).put1 hk8 (hob.only (k7 (.slice A2 x.ws.length c2)) (fun p hp e => by have := hnew p hp; omega)) (fun p hp => by have := hnew p hp; omega) (by show x.ws.length ≤ _; omega)
    have HIS := Lib.hid his
    have R6W := Lib.hid ((R65.out.to hbw).other (g := w2.heap.size) (j := 9 + k * 2 + 1) (by omega) (.slice A2 x.ws.length c2))
    have HBF := Lib.hid (BW.out.trans (hb25.mono (by omega)))
    have HCN := Lib.hid his.C25
    have hzF := hb25.size
    clear hg2 hb2 hown2 q3 q1 g3 q3w q1w g3w hbw hrow hC k7 hob hnew hb25 his p0
    go_wp2_with (first | (refine wpList_load_var rfl 33 (.tmp 8) rfl w2.heap.size rfl (Stv.mk so.tx (so.hs.set k true) (so.bs.set k ⟨x.a, x.ws, A2, c2⟩)).C _ 25 HROW.out Try.underlying33 rfl size_25 HCN.out ?_) | (refine wpList_store_var rfl 33 (.tmp 6) (.tmp 43) rfl (w.heap.size + 1 + 1) Stv.zero.C (Stv.mk so.tx (so.hs.set k true) (so.bs.set k ⟨x.a, x.ws, A2, c2⟩)).C 25 rfl rfl R6W.out size_25 rfl HCN.out (Stv.C_one _) ?_; intro w6 r6 k6; have R66 := Lib.hid r6; have K6 := Lib.hid k6; clear r6 k6))
    exact bodyPost_ret (results_cell_tmp rfl _ _ (w.heap.size + 1 + 1) 33 (Stv.mk so.tx (so.hs.set k true) (so.bs.set k ⟨x.a, x.ws, A2, c2⟩)).C.toArray (0, 0) _ rfl R66.out Try.underlying33 rfl (by rw [size_25, List.size_toArray, HCN.out])) rfl ⟨⟨so.tx, so.hs.set k true, so.bs.set k ⟨x.a, x.ws, A2, c2⟩⟩, rfl, (HIS.out.only K6.out (by omega)).more (by omega), K6.out.to HBF.out (by omega)⟩
end Go.Proofs.Ytajbghjjpebndaa
namespace Go.Proofs.Ytajbghjjpebndaa
set_option maxRecDepth 100000
open Go.RowKit
set_option linter.unusedVariables false
attribute [local go_sem] Later.cell Later.frozen setCell_twice
abbrev u8v (x : Nat) : Value := .int .u8 (x : Int)
abbrev u16v (x : Nat) : Value := .int .u16 (x : Int)
theorem refAdd_any (s b : Nat) (w : World) (h : s < 4294967296) (hb : b < 256) :
    Calls Try.prog 111 #[.int .u32 (s : Int), .int .u8 (b : Int)] w fun e w' => e = .returned (.int .u32 (Crc.add s b : Int)) ∧ w = w' := by
  have h2 : bits .xor .u32 (s : Int) (b : Int) = ((s ^^^ b : Nat) : Int) := u32_xor_nat s b h (by omega)
  have hx := Crc.xor_lt (a := s) (b := b) h (by omega)
  have H2 := Lib.hid h2; clear h2
  go_enter Try.func111, Try.ntmps111
  go_wp2
  rw [H2.out]
  go_loop [0, 5, 6] (fun v i _ => ∃ k : Nat, k ≤ 8 ∧ i = .int .i64 k ∧ v = .int .u32 (Crc.shifts k (s ^^^ b) : Nat)) (fun _ i _ => 8 - (intOf i).toNat)
  case atStart => exact ⟨0, by omega, rfl, rfl⟩
  case round =>
    obtain ⟨k, hk, rfl, rfl⟩ := hrel
    have hs := Crc.shifts_lt k hx
    have HE := Lib.hid (Crc.shifts_succ k (s ^^^ b))
    by_cases hlt : k < 8
    · generalize Crc.shifts k (s ^^^ b) = x at *
      have h3 : bits .xor .u32 ((x : Int) / 2) 3988292384 = ((x / 2 ^^^ 3988292384 : Nat) : Int) := by
        have := u32_xor_nat (x / 2) 3988292384 (by omega) (by decide)
        exact this
      have HX := Lib.hid h3
      clear h3
      by_cases ho : x % 2 = 1
      · have ht : ((x : Int) % 2 == 1) = true := by rw [beq_iff_eq]; omega
        have HS := Lib.hid (show Crc.shift x = x / 2 ^^^ 3988292384 by simp [Crc.shift, ho])
        clear ho
        go_wp2
        go_round
        case rel => exact ⟨k + 1, by omega, by go_num, by rw [HE.out, HS.out, HX.out]⟩
        case measure => simp [intOf]; omega
      · have ht : ((x : Int) % 2 == 1) = false := beq_eq_false_iff_ne.2 (by omega)
        have HS := Lib.hid (show Crc.shift x = x / 2 by simp [Crc.shift, ho])
        clear ho
        go_wp2
        go_round
        case rel => exact ⟨k + 1, by omega, by go_num, by rw [HE.out, HS.out]; go_num⟩
        case measure => simp [intOf]; omega
    · have : k = 8 := by omega
      subst this
      go_wp2
      go_ret
      exact ⟨rfl, rfl⟩
theorem refRaw_any (s : Nat) (A : Option Addr) (c n : Nat) (l : List Nat) (w : World) (hs : s < 4294967296) (h : Sq u8v w w.heap.size A l) (hl : ∀ b ∈ l, b < 256) (hn : l.length ≤ 140737488355328) (he : l.length = n) :
    Calls Try.prog 109 #[.int .u32 (s : Int), .slice A n c] w fun e w' => e = .returned (.int .u32 ((Crc.raw s l : Nat) : Int)) ∧ w = w' := by
  subst he
  go_enter Try.func109, Try.ntmps109
  go_wp2
  go_loop [0, 5] (fun v i => ∃ k : Nat, k ≤ l.length ∧ i = .int .i64 k ∧ v = .int .u32 (Crc.raw s (l.take k) : Nat)) (fun _ i => l.length - (intOf i).toNat)
  case atStart => exact ⟨0, by omega, rfl, rfl⟩
  case round =>
    obtain ⟨k, hk, rfl, rfl⟩ := hrel
    have hsl := Crc.raw_lt (s := s) (l.take k) hs (fun b hb => hl b (List.mem_of_mem_take hb))
    by_cases hlt : k < l.length
    · obtain ⟨b, o, x, rfl, _, hx, hc⟩ := h.at_ hlt
      have hxl := hl x (List.mem_of_getElem? hx)
      have HE := Lib.hid (show Crc.raw s (l.take (k + 1)) = Crc.add (Crc.raw s (l.take k)) x by rw [List.take_add_one, hx, Option.toList, Crc.raw_append]; rfl)
      clear hx
      go_wp2_with fail
      refine (refAdd_any _ _ _ hsl hxl).mono ?_
      rintro e_ w_ ⟨rfl, rfl⟩
      go_wp2
      go_round
      case rel => exact ⟨k + 1, by omega, by go_num, by rw [HE.out]⟩
      case measure => simp [intOf]; omega
    · have : k = l.length := by omega
      subst this
      have HE := Lib.hid (show l.take l.length = l from List.take_length)
      go_wp2
      go_ret
      first | exact ⟨rfl, rfl⟩ | (rw [HE.out]; exact ⟨rfl, rfl⟩)
theorem refRaw_lit (A : Option Addr) (c n : Nat) (l : List Nat) (w : World) (h : Sq u8v w w.heap.size A l) (hl : ∀ b ∈ l, b < 256) (hn : l.length ≤ 140737488355328) (he : l.length = n) :
    Calls Try.prog 109 #[.int .u32 4294967295, .slice A n c] w fun e w' => e = .returned (.int .u32 ((Crc.raw 4294967295 l : Nat) : Int)) ∧ w = w' :=
  refRaw_any 4294967295 A c n l w (by decide) h hl hn he
theorem refBytes_any (A : Option Addr) (c n : Nat) (l : List Nat) (w : World) (h : Sq u8v w w.heap.size A l) (hl : ∀ b ∈ l, b < 256) (hn : l.length ≤ 140737488355328) (he : l.length = n) :
    Calls Try.prog 100 #[.slice A n c] w fun e w' => e = .returned (.int .u32 ((Crc.bytes l : Nat) : Int)) ∧ w = w' := by
  have hR := Crc.raw_lt l (s := 4294967295) (by decide) hl
  have h1 : bits .xor .u32 ((Crc.raw 4294967295 l : Nat) : Int) 4294967295 = ((Crc.bytes l : Nat) : Int) := by
    have h2 := u32_xor_nat (Crc.raw 4294967295 l) 4294967295 hR (by decide)
    rw [Crc.bytes_eq hl, Nat.xor_comm 4294967295]
    exact h2
  have H1 := Lib.hid h1
  clear h1
  go_enter Try.func100, Try.ntmps100
  go_wp2_with fail
  refine (refRaw_lit A c n l w h hl hn he).mono ?_
  rintro e_ w_ ⟨rfl, rfl⟩
  go_wp2
  go_ret
  exact ⟨ret_int H1.out, rfl⟩
theorem packRegs_snoc (l : List Nat) {k x : Nat} (hx : l[k]? = some x) : packRegs (l.take (k + 1)) = packRegs (l.take k) ++ [x / 256, x % 256] := by
  rw [List.take_add_one, hx, Option.toList, packRegs_append]
  rfl
set_option maxHeartbeats 2000000 in
theorem refWords_any (A : Option Addr) (c : Nat) (l : List Nat) (w : World) (h : Sq u16v w w.heap.size A l) (hl : ∀ b ∈ l, b < 65536) (hn : l.length ≤ 35184372088832) :
    Calls Try.prog 77 #[.slice A l.length c] w fun e w' => e = .returned (.int .u32 ((Crc.bytes (packRegs l) : Nat) : Int)) ∧ Below w.heap.size w w' := by
  obtain ⟨i0, hi, hz0, hz1, hz2⟩ := info_parts info_byte
  go_enter Try.func77, Try.ntmps77
  go_wp2
  go_loopw [3, 4] (fun v i wr => ∃ k M : Nat, ∃ A' c', k ≤ l.length ∧ i = .int .i64 k ∧ M = 2 * k ∧ v = .slice A' M c' ∧ wr.ownsRow w.heap.size 5 1 (.slice A' M c') M ((packRegs (l.take k)).map u8v) ∧ Below w.heap.size w wr)
    (fun _ i _ => l.length - (intOf i).toNat)
  case atStart => exact ⟨0, 0, none, 0, by omega, rfl, rfl, rfl, World.ownsRow_nil _ _ _ _, Below.refl _ _⟩
  case round =>
    obtain ⟨k, M, A', c', hk, rfl, hM, rfl, hown, hbe⟩ := hrel
    by_cases hlt : k < l.length
    · obtain ⟨b, o, x, rfl, hbw, hx, hc0⟩ := h.at_ hlt
      have hsz := hbe.size
      have hc : wr.cell? ⟨b, o + k, none⟩ = some (.int .u16 (x : Int)) := (hbe.cell (p := ⟨b, o + k, none⟩) hbw).trans hc0
      have hxl := hl x (List.mem_of_getElem? hx)
      have e4 : (k : Int) < (l.length : Int) := by omega
      have HS := Lib.hid (packRegs_snoc l hx)
      have HPL : Hid ((packRegs (l.take k)).length = M) := Lib.hid (by rw [packRegs_length, List.length_take, Nat.min_eq_left hk]; omega)
      have HM := Lib.hid hM
      have hM2 : M ≤ 2 * k := by omega
      have HX1 := Lib.hid (show IntKind.u8.wrap (IntKind.u16.wrap ((x : Int) / 256)) = (x : Int) / 256 by simp [IntKind.wrap, IntKind.bits, IntKind.signed]; omega)
      have HX2 := Lib.hid (show IntKind.u8.wrap ((x : Int).tmod 256) = (x : Int) % 256 by rw [Int.tmod_eq_emod_of_nonneg (by omega)]; simp [IntKind.wrap, IntKind.bits, IntKind.signed])
      generalize packRegs (l.take k) = pl at *
      clear hM hx hc0
      go_wp2
      go_region_held3 (fun w' => w'.cell? ⟨b, o + k, none⟩ = some (.int .u16 (x : Int)))
        (first | go_keep | (rw [hb2.cell (p := ⟨b, o + k, none⟩) hbw]; go_keep))
        (first | (refine step_append_sq (f := u8v) _ (by rfl) (.tmp 11) (.tmp 24) 67 (by rfl) (fun _ => rfl) w.heap.size 5 i0 _ _ Try.underlying67 hi hz0 rfl hz1 hz2 (by decide) (.slice A' M c') pl (by rfl) (by rw [HPL.out]; exact hown.drew.alloc _) (wr.heap.size + 1) (some ⟨wr.heap.size, 0, none⟩) [x / 256, x % 256] 2 2 rfl (by rfl) (Sq.lits _ _ _ _ _ _ _ (by first | (simp; done) | (simp; omega) | (simp; exact ⟨HX1.out, HX2.out⟩) | (simp [HX1.out, HX2.out]; done)) (by simp) (by simp)) (by simp) (by rw [HPL.out]; omega) (by first | omega | (simp; omega)) ?_; intro B2 c2 W2 hown2 hg2 hb2))
      have hb3 : Below w.heap.size w W2 := (bel_alloc hbe.drew _).trans hb2
      clear hg2 hb2 hown hbe
      try rw [HPL.out]
      go_wp2
      go_roundw
      case rel => exact ⟨k + 1, M + 2, B2, c2, by omega, by go_num, by have := HM.out; omega, by simp, by rw [HS.out]; simpa [HPL.out] using hown2, hb3⟩
      case measure => simp [intOf]; omega
    · obtain rfl : k = l.length := by omega
      rw [List.take_length] at hown
      have HL := Lib.hid (show (packRegs l).length = M by rw [packRegs_length, hM])
      have hpb := packRegs_byte hl
      have hM2 : M ≤ 70368744177664 := by omega
      have hsq : Sq u8v wr wr.heap.size A' (packRegs l) := Sq.of_own hown
      clear hM hown
      go_wp2_with fail
      refine (refBytes_any A' c' M (packRegs l) wr hsq hpb (by rw [HL.out]; omega) HL.out).mono ?_
      rintro e_ w_ ⟨rfl, rfl⟩
      go_wp2
      go_ret
      exact ⟨rfl, hbe⟩
end Go.Proofs.Ytajbghjjpebndaa
namespace Go.Proofs.Ytajbghjjpebndaa
set_option maxRecDepth 100000
open Go.RowKit
set_option linter.unusedVariables false
set_option linter.unusedSimpArgs false
attribute [local go_sem] Later.cell Later.frozen setCell_twice
set_option maxRecDepth 100000 in
set_option maxHeartbeats 1000000 in
theorem rblocks_S {s : Stv} {B tx : Nat} {S : SS} (w : World) (hs : s.Is w B tx S) : Calls Try.prog 52 #[.agg s.C.toArray] w (BlocksP w (ssThere S)) := by
  obtain ⟨i0, hif, hz0, hz1, hz2⟩ := info_parts info_block
  have kc := Lib.hid (rcopy_S (w.alloc (.cells s.C.toArray 33)) (hs.to (bel_alloc (Below.refl _ _) _)))
  have R1 := Lib.hid (RowAt.new w 33 s.C)
  have HC := Lib.hid hs.C25
  have HSL := Lib.hid hs.len
  clear hs
  go_enter Try.func52, Try.ntmps52
  go_wp2_with (refine wpList_load_var rfl 33 (.tmp 1) rfl w.heap.size rfl s.C _ 25 R1.out Try.underlying33 rfl size_25 HC.out ?_)
  with_reducible refine (kc.out).mono ?_
  rintro e_ w2 ⟨so, rfl, hso, hb2⟩
  have BW := Lib.hid ((bel_alloc (Below.refl _ _) _).trans (hb2.mono (by simp)) : Below w.heap.size w w2)
  have HCo := Lib.hid hso.C25
  have ISO := Lib.hid hso
  clear hb2 hso kc R1 HC
  go_wp2_with (refine wpList_store_var rfl 33 (.tmp 4) (.tmp 7) rfl w2.heap.size Stv.zero.C so.C 25 rfl rfl (heap_alloc_new w2 _) size_25 rfl HCo.out (Stv.C_one so) ?_; intro w4 r4 k4; have R4 := Lib.hid r4; have K4 := Lib.hid k4; clear r4 k4)
  have hb4 : Below w2.heap.size w2 w4 := K4.out.to (bel_alloc (Below.refl _ _) _) (Nat.le_refl _)
  have hz24 := hb4.size
  have hz4 : w2.heap.size < w4.heap.size := by rw [K4.out.size]; simp
  replace ISO := Lib.hid (ISO.out.to hb4)
  replace BW := Lib.hid (BW.out.trans (hb4.mono (BW.out.size)))
  have hwz := BW.out.size
  clear hb4 K4
  go_loopw [3, 5] (fun v i wr => ∃ k n : Nat, ∃ A c bl, k ≤ 8 ∧ i = .int .i64 k ∧ v = .slice A n c ∧ n = (bl : List Blk).length ∧ n ≤ k ∧ prs bl = there so.hs (prs so.bs) k ∧ (∀ b ∈ bl, b.Ok w4 w4.heap.size) ∧ wr.ownsRow w4.heap.size 30 2 (.slice A n c) n (bl.flatMap Blk.cells) ∧ Below w4.heap.size w4 wr) (fun _ i _ => 8 - (intOf i).toNat)
  case atStart => exact ⟨0, 0, none, 0, [], by omega, rfl, rfl, rfl, by omega, rfl, by simp, World.ownsRow_nil _ _ _ _, Below.refl _ _⟩
  case round =>
    obtain ⟨k, n, A, c, bl, hk, rfl, rfl, hn, hnk, hprs, hok, hown, hbe⟩ := hrel
    have hzr := hbe.size
    by_cases hlt : k < 8
    · obtain ⟨b, hb⟩ : ∃ b, so.bs[k]? = some b := ⟨_, List.getElem?_eq_getElem (by rw [ISO.out.ok.lb]; exact hlt)⟩
      obtain ⟨x, hx⟩ : ∃ x, so.hs.getD k false = x := ⟨_, rfl⟩
      have hltI : (k : Int) < 8 := by omega
      have h0I : (0 : Int) ≤ (k : Int) := by omega
      have hr4 := R4.out.to hbe
      have d1 := (hr4.cells (1 + k)).trans (by rw [Stv.C_have (getD_hs (by rw [ISO.out.ok.lh]; exact hlt)), hx])
      have hcb := Stv.C_block ISO.out.ok.lh hb
      have d2 := (hr4.cells (9 + k * 2)).trans hcb.1
      have d3 := (hr4.cells (9 + k * 2 + 1)).trans hcb.2
      have hT := there_succ so.hs (prs so.bs) k
      have hp' : (prs so.bs).getD k (0, []) = b.pr := by rw [List.getD_eq_getElem?_getD, prs_get hb]; rfl
      rw [hx, hp'] at hT
      have HT := Lib.hid hT
      have HB := Lib.hid (ISO.out.ok.ok b (List.mem_of_getElem? hb))
      have HP := Lib.hid hprs
      have HN := Lib.hid hn
      have HK := Lib.hid hok
      have BE := Lib.hid hbe
      have HO := Lib.hid hown
      have hz2r : w2.heap.size < wr.heap.size := by omega
      have hz2r' : w2.heap.size < wr.heap.size + 1 := by omega
      clear hb hx hr4 hcb hT hp' hprs hn hok hbe hown
      cases x
      · go_wp2
        go_roundw
        case rel => exact ⟨k + 1, n, A, c, bl, by omega, by go_num, rfl, HN.out, by omega, by have h1 := HT.out; rw [if_neg (by decide)] at h1; rw [h1, HP.out], HK.out, HO.out, BE.out⟩
        case measure => simp [intOf]; omega
      · go_wp2_with (at_builtin; refine wpList_append_own_at _ rfl (.tmp 16) (.tmp 21) 52 rfl w4.heap.size 30 i0 _ 2 32 Try.underlying52 hif hz0 hz1 hz2 rfl (Nat.zero_lt_two) (.slice A n c) n (bl.flatMap Blk.cells) rfl (HO.out.alloc _) ⟨wr.heap.size, 0, none⟩ 1 1 [.int .i64 b.a, .slice b.A b.ws.length b.c] rfl rfl ?_ ?_ ?_ ?_ ?_ ?_; exact lit2 wr _ _ _; exact one2 _ _ _ _; (unfold maxLen; omega); omega; (simp; omega); intro v3 w3 hown3 hg3 _ hat3; have HG3 := Lib.hid hg3; clear hg3 hat3)
        obtain ⟨A3, c3, rfl, hA3⟩ := own_form2 hown3
        go_roundw
        case rel =>
          refine ⟨k + 1, n + 1, A3, c3, bl ++ [b], by omega, by go_num, rfl, by have := HN.out; simp; omega, by omega, by have h1 := HT.out; rw [if_pos rfl] at h1; rw [h1, ← HP.out]; simp [prs], fun y hy => ?_, by simpa using hown3, ?_⟩
          · rcases List.mem_append.1 hy with hy | hy
            · exact HK.out y hy
            · obtain rfl := List.mem_singleton.1 hy
              exact HB.out
          · exact (BE.out.alloc hzr _).grown HG3.out (by simp; omega) (fun g hg => (HO.out.lt g hg).1)
        case measure => simp [intOf]; omega
    · obtain rfl : k = 8 := by omega
      have HP := Lib.hid hprs
      have HN := Lib.hid hn
      have HK := Lib.hid hok
      have hbw : Below w.heap.size w wr := BW.out.trans (hbe.mono hwz)
      clear hprs hn hok
      go_wp2
      go_ret
      obtain ⟨A', c', hv, h1, h2, h3⟩ := own_form2 hown
      obtain ⟨rfl, rfl⟩ : A = A' ∧ c = c' := by simpa using hv
      have hth := Stv.there_S so
      rw [ISO.out.S] at hth
      refine ⟨A, c, bl, ?_, by rw [HP.out]; exact hth, ⟨Recs.of_own2 HN.out hown, fun b hb => (HK.out b hb).to hbe⟩, by rw [← HN.out]; exact h2, h3, h1, hbw⟩
      rw [← HN.out]
      rfl
set_option maxHeartbeats 400000 in
theorem rsum_any (A : Option Addr) (l : List Blk) (c n : Nat) (ps : List Bk.Pr) (w : World) (h : Blks w w.heap.size A l) (hn : l.length = n) (hn2 : n ≤ 1000) (hc : n ≤ c) (hc2 : c ≤ 9223372036854775807) (hp : prs l = ps) :
    Calls Try.prog 42 #[.slice A n c] w fun e w' => e = .returned (.int .u32 (chk ps : Nat)) ∧ Below w.heap.size w w' := by
  subst hn hp
  obtain ⟨i0, hif, hz0, hz1, hz2⟩ := info_parts info_w16
  have hu := lsum_u16 (prs_u16 h.ok)
  have HU := Lib.hid hu
  have HL := Lib.hid (lsum_length (prs l))
  have HT := Lib.hid (show (prs l).take l.length = prs l by rw [List.take_of_length_le (by simp)])
  clear hu
  go_enter Try.func42, Try.ntmps42
  go_wp2
  go_loopw [3, 4] (fun v i wr => ∃ k m : Nat, ∃ A' c', k ≤ l.length ∧ i = .int .i64 k ∧ v = .slice A' m c' ∧ (lsum ((prs l).take k)).length = m ∧ wr.ownsRow w.heap.size 24 1 (.slice A' m c') m ((lsum ((prs l).take k)).map u16w) ∧ Below w.heap.size w wr) (fun _ i _ => l.length - (intOf i).toNat)
  case atStart => exact ⟨0, 0, none, 0, by omega, rfl, rfl, rfl, World.ownsRow_nil _ _ _ _, Below.refl _ _⟩
  case round =>
    obtain ⟨k, m, A', c', hk, rfl, rfl, hm, hown, hbe⟩ := hrel
    by_cases hlt : k < l.length
    · obtain ⟨g, o, b, rfl, hg, hb, hbo, hc0, hc1⟩ := (h.to hbe).at_ hlt
      have hltI : (k : Int) < (l.length : Int) := by omega
      have hkc : (k : Int) < (c : Int) := by omega
      have HLT := Lib.hid (lsum_take (prs_get hb))
      have hm16 : m ≤ 16000 := by rw [← hm, lsum_length]; simp; omega
      have HM := Lib.hid hm
      have ki := Lib.hid (rown_any b.a b.ws b.A b.c b.ws.length wr rfl hbo.sq hbo.u hbo.lo hbo.hi (Nat.le_trans hbo.ln hbo.cap))
      have HIL := Lib.hid (Stg.itself_length b.a b.ws)
      have HWN := hbe.size
      clear hb hm hbo
      go_wp2_with fail
      (with_reducible refine (ki.out).mono ?_)
      rintro e_ w1 ⟨A1, c1, rfl, o1, hb1⟩
      rw [HIL.out] at o1 ⊢
      have hown1 := own_below hown hb1
      have hbe1 : Below w.heap.size w w1 := hbe.trans (hb1.mono hbe.size)
      have S1 := Lib.hid (Sq.of_own o1)
      have N1 := Lib.hid (own_nil_c o1).1
      have O1 := Lib.hid hown1
      have B1 := Lib.hid hbe1
      have hz1' := hbe1.size
      clear hown o1 hown1 hb1 ki hbe1 hbe
      go_wp2_with (at_builtin; refine wpList_append_sq (f := u16w) _ rfl (.tmp 11) (.tmp 16) 22 rfl (fun _ => rfl) w.heap.size 24 i0 _ _ Try.underlying22 hif hz0 rfl hz1 hz2 (by decide) (.slice A' m c') (lsum ((prs l).take k)) rfl (by rw [HM.out]; exact O1.out) w1.heap.size A1 (Stg.itself b.a b.ws) c1 16 HIL.out rfl S1.out N1.out (by rw [HM.out]; omega) hz1' ?_; intro A2 c2 w2 o2 hg2 hb2; have HLEN := Lib.hid (show (lsum ((prs l).take k) ++ Stg.itself b.a b.ws).length = m + 16 by rw [List.length_append, HM.out, HIL.out]); rw [HLEN.out] at o2 ⊢; have O2 := Lib.hid o2; have B2 := Lib.hid (B1.out.trans hb2); clear o2 hg2 hb2)
      go_roundw
      case rel => exact ⟨k + 1, m + 16, A2, c2, by omega, by go_num, rfl, by rw [HLT.out]; exact HLEN.out, by rw [HLT.out]; exact O2.out, B2.out⟩
      case measure => simp [intOf]; omega
    · obtain rfl : k = l.length := by omega
      have HM := Lib.hid hm
      rw [HT.out] at HM hown
      have hs := Sq.of_own hown
      obtain rfl : m = (lsum (prs l)).length := HM.out.symm
      have ksw := Lib.hid (refWords_any A' c' (lsum (prs l)) wr hs HU.out (by rw [HL.out]; simp; omega))
      clear hm hown hs
      go_wp2_with fail
      (with_reducible refine (ksw.out).mono ?_)
      rintro e_ w2 ⟨rfl, hb2⟩
      have hbe2 : Below w.heap.size w w2 := hbe.trans (hb2.mono hbe.size)
      go_wp2
      go_ret
      exact ⟨rfl, hbe2⟩
end Go.Proofs.Ytajbghjjpebndaa
