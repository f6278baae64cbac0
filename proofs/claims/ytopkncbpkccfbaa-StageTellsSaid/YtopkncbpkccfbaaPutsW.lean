/- The walk of StagePuts. -/
import Derived.Test.YtopkncbpkccfbaaPuts
import Derived.Test.YtopkncbpkccfbaaSameS
namespace Go.Proofs.Ytopkncbpkccfbaa
open Go.RowKit
set_option linter.unusedVariables false
set_option linter.unusedSimpArgs false
attribute [local go_sem] Later.cell Later.frozen setCell_twice
abbrev Blk.C (b : Blk) : List Value := [.int .i64 b.a, .slice b.A b.ws.length b.c]
theorem size_2 : (Try.prog.info? 26).map (·.size) = some 2 := by kernel_rfl
theorem Blk.C_one (b : Blk) : ∀ v ∈ b.C, v.oneCell' = true := one2 _ _ _ _
theorem there_mem {hs : List Bool} {ps : List Bk.Pr} (hl : ps.length = 8) {p : Bk.Pr} (h : p ∈ ssThere (ssOf hs ps)) : p ∈ ps := by
  unfold ssThere ssOf at h
  rw [List.mem_filterMap] at h
  obtain ⟨q, hq, rfl⟩ := h
  obtain ⟨k, hk, hq⟩ := List.mem_map.1 hq
  have hk8 : k < 8 := by simpa using hk
  split at hq
  · have hq' := Option.some.inj hq
    rw [← hq', List.getD_eq_getElem?_getD, List.getElem?_eq_getElem (by omega)]
    exact List.getElem_mem _
  · cases hq
theorem Stv.Is.lens {s : Stv} {w : World} {B tx : Nat} {S : SS} (h : s.Is w B tx S) : ∀ p ∈ ssThere S, p.2.length ≤ 35184372088832 := fun p hp => by
  rw [← h.S] at hp
  have := there_mem (by simp [h.ok.lb]) hp
  obtain ⟨b, hb, rfl⟩ := List.mem_map.1 this
  exact h.ln b hb
def OneQ (w : World) (p : Bk.Pr) (e : Ending) (w' : World) : Prop :=
  ∃ g o c y, e = .returned (.slice (some ⟨g, o, none⟩) 1 c) ∧ (y : Blk).pr = p ∧ y.Ok w' w'.heap.size ∧ g < w'.heap.size ∧ w'.cell? ⟨g, o, none⟩ = some (.int .i64 y.a) ∧ w'.cell? ⟨g, o + 1, none⟩ = some (.slice y.A y.ws.length y.c) ∧ 1 ≤ c ∧ c ≤ 9223372036854775807 ∧ y.In w.heap.size w'.heap.size ∧ y.Own w.heap.size w' ∧ Below w.heap.size w w'
theorem fit_oneQ (A0 : Option Addr) (x : Blk) (w : World) (h : Blks w w.heap.size A0 [x]) :
    Calls Try.prog 18 #[.slice A0 1 1, .int .i64 1] w (OneQ w (Bk.fitP x.pr)) := by
  refine (fit_new A0 [x] 1 1 w h (by simp) (by omega) (by omega)).mono ?_
  rintro e w' ⟨A, c, bl, rfl, hp, hb, hc, hc2, _, _, hio, hbel⟩
  have hl : bl.length = 1 := by have := congrArg List.length hp; simpa using this
  match bl, hl with
  | [y], _ =>
    obtain ⟨g, o, b, rfl, hg, hb1, hbo, hc0, hc1⟩ := hb.at_ (k := 0) (by simp)
    obtain rfl : y = b := by simpa using hb1
    exact ⟨g, o, c, y, rfl, by simpa using hp, hbo, hg, by simpa using hc0, by simpa using hc1, hc, hc2, (hio y (by simp)).1, (hio y (by simp)).2, hbel⟩
theorem ssBack_set {S : SS} {k : Nat} {p : Bk.Pr} (o tx : Nat) (hS : S.length = 8) (hk : k < 8) : ssBack o tx (S.set k (some p)) (k : Int) = Stg.tagged o tx k p.1 p.2 := by
  unfold ssBack
  rw [if_pos (by omega), Int.toNat_natCast, List.getD_eq_getElem?_getD, List.getElem?_set_self (by omega)]
  rfl
theorem ssBack_other {S : SS} {k i : Nat} {p : Bk.Pr} (o tx : Nat) (h : i ≠ k) : ssBack o tx (S.set k (some p)) (i : Int) = ssBack o tx S (i : Int) := by
  unfold ssBack
  rw [Int.toNat_natCast, List.getD_eq_getElem?_getD, List.getElem?_set_ne (fun e => h e.symm), ← List.getD_eq_getElem?_getD]
theorem Stv.Is.have_at {s : Stv} {w : World} {B tx : Nat} {S : SS} (h : s.Is w B tx S) {k : Nat} (hk : k < 8) : s.C[1 + k]? = some (.bool (S.getD k none).isSome) := by
  rw [Stv.C_have (getD_hs (by rw [h.ok.lh]; exact hk)), ← h.S, s.S_isSome hk]
theorem Stv.Is.tx_at {s : Stv} {w : World} {B tx : Nat} {S : SS} (h : s.Is w B tx S) : s.C[0]? = some (.int .u32 (tx : Int)) := by
  rw [Stv.C_tx, h.tx]
set_option maxRecDepth 100000 in
set_option maxHeartbeats 2000000 in
theorem stagePuts_walk (t : Nat) (l : List Blk) (A0 Aa : Option Addr) (c0 ca : Nat) (at_ : List Nat) (n : Nat) (x : Blk) (o : Nat) (w : World) (ht : t < 4294967296) (h : Blks w w.heap.size A0 l) (hlc : l.length ≤ c0) (hc0 : c0 ≤ 9223372036854775807)
    (ha : Sq (fun x : Nat => .int .u8 (x : Int)) w w.heap.size Aa at_) (hab : ∀ x ∈ at_, x < 256) (hln : at_.length ≤ 9223372036854775807) (hn : n < 256) (hx : x.Ok w w.heap.size) (ho : o < 65536) :
    Calls Try.prog 6 #[.int .u32 (t : Int), .slice A0 l.length c0, .slice Aa at_.length ca, .int .u8 (n : Int), .agg #[.int .i64 x.a, .slice x.A x.ws.length x.c], .int .u16 (o : Int)] w fun e w' => e = .returned (.bool true) ∧ Below w.heap.size w w' := by
  obtain ⟨k, hk⟩ : ∃ k, n % 8 = k := ⟨_, rfl⟩
  have hk8 : k < 8 := by omega
  have hkI : (n : Int) % 8 = (k : Int) := by omega
  have hk8I : (k : Int) < 8 := by omega
  obtain ⟨S, hS⟩ : ∃ S, putN ((prs (l.take 20)).map Bk.fitP) at_ (min l.length 20) = S := ⟨_, rfl⟩
  have kp := Lib.hid (fun W (hW : Below w.heap.size w W) => hS ▸ puts_any t l A0 Aa c0 ca at_.length at_ W ht (h.to hW) hlc hc0 ((ha.below hW).more hW.size) hab rfl hln)
  have HSL : Hid (S.length = 8) := Lib.hid (hS ▸ putN_length _ _ _)
  have kx := Lib.hid (fun W (hW : Below w.heap.size w W) => hx.to hW)
  have r10 := RowAt.new w 26 x.C
  have R10 := Lib.hid r10
  clear hS hk r10
  go_enter Try.func6, Try.ntmps6
  go_wp2_with fail
  with_reducible refine (kp.out _ (bel_alloc (Below.refl _ _) _)).mono ?_
  rintro e_ w1 ⟨s, rfl, hs, hb1⟩
  have hs1 : w.heap.size + 1 ≤ w1.heap.size := by have := hb1.size; simpa using this
  have BW := Lib.hid ((bel_alloc (Below.refl _ _) _).trans (hb1.mono (by simp)) : Below w.heap.size w w1)
  have IS := Lib.hid (hs.more (base' := w.heap.size + 1) (by simp))
  have HC := Lib.hid hs.C25
  replace R10 := Lib.hid (R10.out.to hb1)
  clear hb1 hs kp
  by_cases h100 : 100 < x.ws.length
  · have g1 : decide ((100 : Int) < (x.ws.length : Int)) = true := by simp; omega
    go_wp2_with (refine wpList_store_var rfl 42 (.tmp 13) (.tmp 33) rfl w1.heap.size Stv.zero.C s.C 25 rfl rfl (heap_alloc_new w1 _) size_25 rfl HC.out (Stv.C_one s) ?_; intro w2 r13 k2; have R13 := Lib.hid r13; have c10_0 := (R10.out.alloc _).only k2 (by omega) |>.cells 0; have c10_1 := (R10.out.alloc _).only k2 (by omega) |>.cells 1; have K2 := Lib.hid k2; clear r13 k2)
    refine (awake_any _).mono ?_
    rintro e_ w3 ⟨rfl, hb3⟩
    go_wp2
    go_ret
    exact ⟨rfl, (K2.out.to (bel_alloc BW.out _) (by omega)).trans (hb3.mono (by have := K2.out.size; simp at this; omega))⟩
  have g1 : decide ((100 : Int) < (x.ws.length : Int)) = false := by simp; omega
  have hx100 : x.ws.length ≤ 100 := by omega
  clear h100
  go_wp2_with (refine wpList_store_var rfl 42 (.tmp 13) (.tmp 33) rfl w1.heap.size Stv.zero.C s.C 25 rfl rfl (heap_alloc_new w1 _) size_25 rfl HC.out (Stv.C_one s) ?_; intro w2 r13 k2; have R13 := Lib.hid r13; have c10_0 := (R10.out.alloc _).only k2 (by omega) |>.cells 0; have c10_1 := (R10.out.alloc _).only k2 (by omega) |>.cells 1; have K2 := Lib.hid k2; clear r13 k2)
  have hz2 : w2.heap.size = w1.heap.size + 1 := by rw [K2.out.size]; simp
  have hb2 : Below w1.heap.size w1 w2 := K2.out.to (bel_alloc (Below.refl _ _) _) (Nat.le_refl _)
  have r10 : RowAt w2 w.heap.size 26 x.C := (R10.out.alloc _).only K2.out (by omega)
  replace R10 := Lib.hid r10
  replace IS := Lib.hid (IS.out.to hb2)
  replace BW := Lib.hid (BW.out.trans (hb2.mono (by omega)))
  clear K2 hb2 r10
  have kfit := Lib.hid (fun W (hW : Below w.heap.size w W) => fit_oneQ (some ⟨W.heap.size, 0, none⟩) x (W.alloc (.cells #[.int .i64 x.a, .slice x.A x.ws.length x.c] 26)) (Blks.one rfl (kx.out _ hW)))
  have hfy := Bk.fitP_fits x.pr
  obtain ⟨p, hP⟩ : ∃ p, Bk.fitP x.pr = p := ⟨_, rfl⟩
  rw [hP] at hfy
  have HPP := Lib.hid hP
  clear hP
  with_reducible refine (kfit.out _ BW.out).mono ?_
  rintro e_ w3 ⟨g, oo, c, y, rfl, hyp, hyo, hg, hc0', hc1', hc, hcc, hyI, hyW, hb3⟩
  rw [HPP.out] at hyp
  subst hyp
  have hb3' : Below w2.heap.size w2 w3 := (bel_alloc (Below.refl _ _) _).trans (hb3.mono (by simp))
  replace R10 := Lib.hid (R10.out.to hb3')
  replace R13 := Lib.hid (R13.out.to hb3')
  replace IS := Lib.hid (IS.out.to hb3')
  have hz3 : w2.heap.size < w3.heap.size := by have := hb3.size; simp at this; omega
  replace BW := Lib.hid (BW.out.trans (hb3'.mono (by omega)))
  have HFY := Lib.hid hfy
  have YO := Lib.hid hyo
  have YI := Lib.hid (fun p hp => by have := hyI p hp; simp at this; omega : ∀ p, y.A = some p → w2.heap.size < p.block ∧ p.block < w3.heap.size)
  have YW := Lib.hid hyW
  clear hb3 hb3' hyI hyW hyo hfy c10_0 c10_1 kfit kx HPP
  go_wp2_with (first | (refine wpList_store_var rfl 26 (.tmp 10) (.tmp 54) rfl w.heap.size x.C y.C 2 rfl rfl R10.out size_2 rfl rfl (Blk.C_one y) ?_; intro w4 r10 k4; have R10' := Lib.hid r10; have c10_0 := r10.cells 0; have c10_1 := r10.cells 1; have K4 := Lib.hid k4; have R13' := Lib.hid (R13.out.only k4 (by omega)); clear r10 k4) | (refine wpList_load_var rfl 42 (.tmp 13) rfl w1.heap.size rfl s.C _ 25 R13'.out Try.underlying42 rfl size_25 HC.out ?_))
  replace IS := Lib.hid (IS.out.only K4.out (by omega))
  replace YO := Lib.hid (YO.out.only K4.out (fun p hp e => by have := YI.out p hp; omega))
  replace YW : Hid (y.Own (w.heap.size + 1) w4) := Lib.hid ((K4.out.own (own_more YW.out (by simp; omega)) (by omega)))
  have hz4 : w4.heap.size = w3.heap.size := K4.out.size
  replace BW := Lib.hid (K4.out.to BW.out (Nat.le_refl _))
  clear R10 R13 K4
  have hfy := HFY.out
  have kp1 := Lib.hid (fun (W : World) (hW : Below w4.heap.size w4 W) => put_S k y W (IS.out.to hW) (YO.out.to hW) (by omega) hfy)
  clear hfy
  with_reducible refine (kp1.out _ (Below.refl _ _)).mono ?_
  rintro e_ w5 ⟨u1, rfl, hu1, hb5⟩
  replace R10' := Lib.hid (R10'.out.to hb5)
  replace R13' := Lib.hid (R13'.out.to hb5)
  replace IS := Lib.hid (IS.out.to hb5)
  replace YO := Lib.hid (YO.out.to hb5)
  replace YW := Lib.hid (own_below YW.out hb5)
  have hz5 := hb5.size
  have HC1 := Lib.hid hu1.C25
  have IU := Lib.hid hu1
  replace BW := Lib.hid (BW.out.trans (hb5.mono (by omega)))
  clear hb5 hu1 kp1 c10_0 c10_1
  have c10_0 := R10'.out.cells 0
  have c10_1 := R10'.out.cells 1
  obtain ⟨S1, hS1⟩ : ∃ S1, S.set k (some y.pr) = S1 := ⟨_, rfl⟩
  rw [hS1] at IU
  have HS1 := Lib.hid hS1
  clear hS1
  have R13 := R13'
  clear R13'
  go_wp2_with (first | (refine wpList_store_var rfl 42 (.tmp 16) (.tmp 60) rfl w5.heap.size Stv.zero.C u1.C 25 rfl rfl (heap_alloc_new w5 _) size_25 rfl HC1.out (Stv.C_one u1) ?_; intro w6 r16 k6; have R16 := Lib.hid r16; have e10_0 := ((R10'.out.alloc _).only k6 (by omega)).cells 0; have e10_1 := ((R10'.out.alloc _).only k6 (by omega)).cells 1; have K6 := Lib.hid k6; clear r16 k6) | (refine wpList_load_var rfl 42 (.tmp 16) rfl w5.heap.size rfl u1.C _ 25 R16.out Try.underlying42 rfl size_25 HC1.out ?_))
  have hb6 : Below w5.heap.size w5 w6 := K6.out.to (bel_alloc (Below.refl _ _) _) (Nat.le_refl _)
  have hz6 : w6.heap.size = w5.heap.size + 1 := by rw [K6.out.size]; simp
  replace R10' := Lib.hid (R10'.out.to hb6)
  replace R13 := Lib.hid (R13.out.to hb6)
  replace IS := Lib.hid (IS.out.to hb6)
  replace YO := Lib.hid (YO.out.to hb6)
  replace IU := Lib.hid (IU.out.to hb6)
  replace YW := Lib.hid (own_below YW.out hb6)
  replace BW := Lib.hid (BW.out.trans (hb6.mono (by omega)))
  have hfy := HFY.out
  have kp2 := Lib.hid (fun (W : World) (hW : Below w6.heap.size w6 W) => put_S k y W (IU.out.to hW) (YO.out.to hW) (by omega) hfy)
  clear hfy hb6 c10_0 c10_1 K6
  with_reducible refine (kp2.out _ (Below.refl _ _)).mono ?_
  rintro e_ w7 ⟨u2, rfl, hu2, hb7⟩
  replace R10' := Lib.hid (R10'.out.to hb7)
  replace R13 := Lib.hid (R13.out.to hb7)
  replace R16 := Lib.hid (R16.out.to hb7)
  replace IS := Lib.hid (IS.out.to hb7)
  replace YO := Lib.hid (YO.out.to hb7)
  replace IU := Lib.hid (IU.out.to hb7)
  replace YW := Lib.hid (own_below YW.out hb7)
  have hz7 := hb7.size
  have HC2 := Lib.hid hu2.C25
  have IV := Lib.hid hu2
  replace BW := Lib.hid (BW.out.trans (hb7.mono (by omega)))
  have hS2 : S1.set k (some y.pr) = S1 := by rw [← HS1.out, List.set_set]
  rw [hS2] at IV
  clear hb7 hu2 kp2 e10_0 e10_1 hS2
  have kss := Lib.hid (fun W (hW : Below w7.heap.size w7 W) => same_S true W (IU.out.to hW) (IV.out.to hW) (fun p hp => by have := IU.out.lens p hp; omega) (by simp))
  go_wp2_with (first | (refine wpList_store_var rfl 42 (.tmp 18) (.tmp 67) rfl w7.heap.size Stv.zero.C u2.C 25 rfl rfl (heap_alloc_new w7 _) size_25 rfl HC2.out (Stv.C_one u2) ?_; intro w8 r18 k8; have R18 := Lib.hid r18; have K8 := Lib.hid k8; have R16' := Lib.hid ((R16.out.alloc _).only k8 (by omega)); clear r18 k8) | (refine wpList_load_var rfl 42 (.tmp 16) rfl w5.heap.size rfl u1.C _ 25 R16'.out Try.underlying42 rfl size_25 HC1.out ?_) | (refine wpList_load_var rfl 42 (.tmp 18) rfl w7.heap.size rfl u2.C _ 25 R18.out Try.underlying42 rfl size_25 HC2.out ?_))
  have hb8 : Below w7.heap.size w7 w8 := K8.out.to (bel_alloc (Below.refl _ _) _) (Nat.le_refl _)
  have hz8 : w8.heap.size = w7.heap.size + 1 := by rw [K8.out.size]; simp
  with_reducible refine (kss.out _ hb8).mono ?_
  rintro e_ w9 ⟨rfl, hb9⟩
  have hb79 : Below w7.heap.size w7 w9 := hb8.trans (hb9.mono (by omega))
  have hz9 := hb9.size
  replace R10' := Lib.hid (R10'.out.to hb79)
  replace R13 := Lib.hid (R13.out.to hb79)
  replace R16 := Lib.hid (R16.out.to hb79)
  replace YO := Lib.hid (YO.out.to hb79)
  replace IU := Lib.hid (IU.out.to hb79)
  replace IS := Lib.hid (IS.out.to hb79)
  replace YW := Lib.hid (own_below YW.out hb79)
  replace BW := Lib.hid (BW.out.trans (hb79.mono (by omega)))
  have d16_0 := (R16.out.cells 0).trans IU.out.tx_at
  have hsome : (S1.getD k none).isSome = true := by rw [← HS1.out, List.getD_eq_getElem?_getD, List.getElem?_set_self (by rw [HSL.out]; exact hk8)]; rfl
  have d16_k := (R16.out.cells (1 + k)).trans (IU.out.have_at hk8)
  rw [hsome] at d16_k
  clear hb8 hb9 hb79 kss K8 R18 R16' IV HC2 hsome
  have hld : ∀ (W : World) (hW : Below w9.heap.size w9 W), RowAt W w5.heap.size 42 u1.C := fun W hW => R16.out.to hW
  have HLD := Lib.hid hld
  obtain ⟨L, hL⟩ : ∃ L, Stg.tagged o t k y.a y.ws = L := ⟨_, rfl⟩
  have hLB : ssBack o t S1 (k : Int) = L := by rw [← hL, ← HS1.out]; exact ssBack_set o t HSL.out hk8
  have HLB := Lib.hid hLB
  have HL20 := Lib.hid (show L.length = 20 by rw [← hL]; exact Stg.tagged_length _ _ _ _ _)
  have HLU := Lib.hid (show ∀ z ∈ L, z < 65536 by rw [← hL]; exact Stg.tagged_u16 ho ht (by omega) YO.out.u)
  have HLR := Lib.hid (show Stg.read L = ⟨o, t, k, y.a.toNat, y.ws, 0⟩ by rw [← hL]; exact Stg.read_tagged HFY.out (by omega))
  have HYA := Lib.hid (show ((y.a.toNat : Nat) : Int) = y.a by have := Bk.fits_iff.1 HFY.out; omega)
  have kb := Lib.hid (fun W (hW : Below w9.heap.size w9 W) => back_S o (k : Int) L W (IU.out.to hW) ho hLB)
  clear hld hLB hL
  go_wp2_with (refine wpList_load_var rfl 42 (.tmp 16) rfl w5.heap.size rfl u1.C _ 25 R16.out Try.underlying42 rfl size_25 HC1.out ?_)
  with_reducible refine (kb.out _ (Below.refl _ _)).mono ?_
  rintro e_ w10 ⟨A10, c10, rfl, o10, hb10⟩
  rw [HL20.out] at o10 ⊢
  replace R10' := Lib.hid (R10'.out.to hb10)
  replace R13 := Lib.hid (R13.out.to hb10)
  replace R16 := Lib.hid (R16.out.to hb10)
  replace YO := Lib.hid (YO.out.to hb10)
  replace IU := Lib.hid (IU.out.to hb10)
  replace IS := Lib.hid (IS.out.to hb10)
  replace YW := Lib.hid (own_below YW.out hb10)
  replace BW := Lib.hid (BW.out.trans (hb10.mono (by omega)))
  have hz10 := hb10.size
  have o10s := Sq.of_own o10
  have kr := Lib.hid (read_lit L A10 c10 20 ⟨o, t, k, y.a.toNat, y.ws, 0⟩ (o : Int) (t : Int) (k : Int) y.a 0 y.ws.length w10 HL20.out o10s HLU.out (own_nil_c o10).2 (own_cap o10) HLR.out rfl rfl rfl HYA.out rfl rfl)
  clear o10 o10s hb10 d16_0 d16_k
  go_wp2_with fail
  with_reducible refine (kr.out).mono ?_
  rintro e_ w11 ⟨A11, c11, rfl, o11, hb11⟩
  have hyl : y.ws.length ≤ 14 := (Bk.fits_iff.1 HFY.out).1
  have ZO := Lib.hid (Blk.Ok.of_own rfl o11 YO.out.u YO.out.lo YO.out.hi : (Blk.mk y.a y.ws A11 c11).Ok w11 w11.heap.size)
  replace R10' := Lib.hid (R10'.out.to hb11)
  replace R13 := Lib.hid (R13.out.to hb11)
  replace R16 := Lib.hid (R16.out.to hb11)
  replace YO := Lib.hid (YO.out.to hb11)
  replace IU := Lib.hid (IU.out.to hb11)
  replace IS := Lib.hid (IS.out.to hb11)
  replace YW := Lib.hid (own_below YW.out hb11)
  have hz11 := hb11.size
  replace BW := Lib.hid (BW.out.trans (hb11.mono (by omega)))
  have e10_0 := R10'.out.cells 0
  have e10_1 := R10'.out.cells 1
  have hq1 : w.heap.size < w11.heap.size := by omega
  have hq2 : w.heap.size < w11.heap.size + 1 := by omega
  clear o11 hb11 kr
  have ks := Lib.hid (sameBlocks_any (some ⟨w11.heap.size + 1, 0, none⟩) (some ⟨w11.heap.size + 1 + 1, 0, none⟩) [⟨y.a, y.ws, A11, c11⟩] [y] 1 1 1 1 true _ rfl rfl
    ((Blks.one (t := 26) (by simp) (ZO.out.to (bel_alloc (Below.refl _ _) (.cells #[.int .i64 y.a, .slice A11 y.ws.length c11] 26)))).to (bel_alloc (Below.refl _ _) _))
    (Blks.one (t := 26) (by simp) (YO.out.to (bel_alloc (bel_alloc (Below.refl _ _) (.cells #[.int .i64 y.a, .slice A11 y.ws.length c11] 26)) (.cells #[.int .i64 y.a, .slice A11 y.ws.length c11] 26)))) (by simp) (fun b hb => by obtain rfl : b = _ := List.mem_singleton.1 hb; simp only; omega) (by simp))
  go_wp2_with fail
  with_reducible refine (ks.out).mono ?_
  rintro e_ w12 ⟨rfl, hb12⟩
  have hb12' : Below w11.heap.size w11 w12 := (bel_alloc (bel_alloc (bel_alloc (Below.refl _ _) _) _) _).trans (hb12.mono (by simp; omega))
  replace R10' := Lib.hid (R10'.out.to hb12')
  replace R13 := Lib.hid (R13.out.to hb12')
  replace R16 := Lib.hid (R16.out.to hb12')
  replace YO := Lib.hid (YO.out.to hb12')
  replace IU := Lib.hid (IU.out.to hb12')
  replace IS := Lib.hid (IS.out.to hb12')
  replace YW := Lib.hid (own_below YW.out hb12')
  have hz12 := hb12'.size
  replace BW := Lib.hid (BW.out.trans (hb12'.mono (by omega)))
  clear hb12 hb12' ks ZO e10_0 e10_1
  go_wp2
  have hBW := BW.out
  have hq3 : w.heap.size + 1 ≤ w12.heap.size := by omega
  go_loopw [130] (fun i wr => ∃ j : Nat, j ≤ 8 ∧ i = .int .i64 j ∧ Below w12.heap.size w12 wr) (fun i _ => 8 - (intOf i).toNat)
  case atStart => exact ⟨0, by omega, rfl, Below.refl _ _⟩
  case round =>
    obtain ⟨j, hj, rfl, hbr⟩ := hrel
    have hzr := hbr.size
    by_cases hlt : j < 8
    · have hltI : (j : Int) < 8 := by omega
      have h0I : (0 : Int) ≤ (j : Int) := by omega
      by_cases hjk : j = k
      · subst hjk
        go_wp2
        go_quiet (fail)
        go_wp2
        go_roundw
        case rel => exact ⟨j + 1, by omega, by go_num, (by repeat (first | exact Below.refl _ _ | refine bel_later _ ?_ | refine bel_alloc ?_ _ | refine bel_set ?_ (by first | omega | (simp; done) | (simp; omega)) _ | refine Below.drew ?_ | refine bel_drewN ?_ _ | assumption))⟩
        case measure => simp [intOf]; omega
      · have g5 : ((j : Int) != (k : Int)) = true := bne_iff_ne.2 (by omega)
        obtain ⟨bj, hbj⟩ : ∃ b, (S.getD j none).isSome = b := ⟨_, rfl⟩
        have hbj1 : (S1.getD j none).isSome = bj := by rw [← hbj, ← HS1.out, List.getD_eq_getElem?_getD, List.getElem?_set_ne (fun e => hjk e.symm), ← List.getD_eq_getElem?_getD]
        have d16 : ∀ W, RowAt W w5.heap.size 42 u1.C → W.cell? ⟨w5.heap.size, 1 + j, none⟩ = some (.bool bj) := fun W hW => (hW.cells (1 + j)).trans (by rw [IU.out.have_at hlt, hbj1])
        have d13 : ∀ W, RowAt W w1.heap.size 42 s.C → W.cell? ⟨w1.heap.size, 1 + j, none⟩ = some (.bool bj) := fun W hW => (hW.cells (1 + j)).trans (by rw [IS.out.have_at hlt, hbj])
        obtain ⟨Lj, hLj⟩ : ∃ L, ssBack o t S (j : Int) = L := ⟨_, rfl⟩
        have hLj1 : ssBack o t S1 (j : Int) = Lj := by rw [← hLj, ← HS1.out]; exact ssBack_other o t hjk
        have HLj : Hid (Lj.length = 20) := Lib.hid (by rw [← hLj]; exact ssBack_length _ _ _ _)
        have kbt := Lib.hid (fun W (hW : Below wr.heap.size wr W) => back_S o (j : Int) Lj W ((IU.out.to hbr).to hW) ho hLj1)
        have kbs := Lib.hid (fun W (hW : Below wr.heap.size wr W) => back_S o (j : Int) Lj W ((IS.out.to hbr).to hW) ho hLj)
        have r13 := R13.out.to hbr
        have r16 := R16.out.to hbr
        clear hbj hbj1 hLj hLj1 hjk
        go_wp2
        refine wp_region_held_drew (S := (fun w' => RowAt w' w1.heap.size 42 s.C ∧ RowAt w' w5.heap.size 42 u1.C)) (by kernel_rfl) ?_ (fun hHeld => ?_)
        · exact ⟨r13, r16⟩
        refine takeD (i := 0) (oi := _) (v := ?vv1) (d := some 133) rfl (by kernel_rfl) (by kernel_rfl) (by kernel_rfl) (by kernel_rfl) (fun _ _ _ h => h) (Or.inl ⟨by kernel_rfl, ?_⟩) (by assumption) ?_
        rotate_left 1
        · intro W_ hSw; (try dsimp only at hSw); go_simp; (first | done | with_reducible rfl)
        try simp only [Act.put, List.setIfInBounds_toArray, List.set_cons_zero, List.set_cons_succ]
        refine takeD (i := 1) (oi := _) (v := ?vv2) (d := some 134) rfl (by kernel_rfl) (by kernel_rfl) (by kernel_rfl) (by kernel_rfl) (fun _ _ _ h => h) (Or.inl ⟨by kernel_rfl, ?_⟩) (by assumption) ?_
        rotate_left 1
        · intro W_ hSw; (try dsimp only at hSw); go_simp; (first | done | with_reducible rfl)
        try simp only [Act.put, List.setIfInBounds_toArray, List.set_cons_zero, List.set_cons_succ]
        refine takeD (i := 2) (oi := _) (v := ?vv3) (d := some 135) rfl (by kernel_rfl) (by kernel_rfl) (by kernel_rfl) (by kernel_rfl) (fun _ _ _ h => h) (Or.inl ⟨by kernel_rfl, ?_⟩) (by assumption) ?_
        rotate_left 1
        · intro W_ hSw; (try dsimp only at hSw); go_simp; (first | done | with_reducible rfl)
        try simp only [Act.put, List.setIfInBounds_toArray, List.set_cons_zero, List.set_cons_succ]
        refine takeD (i := 3) (oi := _) (v := ?vv4) (d := some 136) rfl (by kernel_rfl) (by kernel_rfl) (by kernel_rfl) (by kernel_rfl) (fun _ _ _ h => h) (Or.inl ⟨by kernel_rfl, ?_⟩) (by assumption) ?_
        rotate_left 1
        · intro W_ hSw; (try dsimp only at hSw); go_simp; (first | done | with_reducible rfl)
        try simp only [Act.put, List.setIfInBounds_toArray, List.set_cons_zero, List.set_cons_succ]
        refine takeD (i := 4) (oi := _) (v := ?vv5) (d := some 137) rfl (by kernel_rfl) (by kernel_rfl) (by kernel_rfl) (by kernel_rfl) (fun _ _ _ h => h) (Or.inl ⟨by kernel_rfl, ?_⟩) (by assumption) ?_
        rotate_left 1
        · intro W_ hSw; (try dsimp only at hSw); go_simp; (first | done | with_reducible rfl)
        try simp only [Act.put, List.setIfInBounds_toArray, List.set_cons_zero, List.set_cons_succ]
        refine takeD (i := 5) (oi := _) (v := ?vv6) (d := some 138) rfl (by kernel_rfl) (by kernel_rfl) (by kernel_rfl) (by kernel_rfl) (fun _ _ _ h => h) (Or.inl ⟨by kernel_rfl, ?_⟩) (by assumption) ?_
        rotate_left 1
        · intro W_ hSw; (try dsimp only at hSw); go_simp; (first | done | with_reducible rfl)
        try simp only [Act.put, List.setIfInBounds_toArray, List.set_cons_zero, List.set_cons_succ]
        refine takeD (i := 6) (oi := _) (v := ?vv7) (d := some 139) rfl (by kernel_rfl) (by kernel_rfl) (by kernel_rfl) (by kernel_rfl) (fun _ _ _ h => h) (Or.inl ⟨by kernel_rfl, ?_⟩) (by assumption) ?_
        rotate_left 1
        · intro W_ hSw; (try dsimp only at hSw); go_simp; (first | done | with_reducible rfl)
        try simp only [Act.put, List.setIfInBounds_toArray, List.set_cons_zero, List.set_cons_succ]
        refine takeD (i := 7) (oi := _) (v := ?vv8) (d := some 140) rfl (by kernel_rfl) (by kernel_rfl) (by kernel_rfl) (by kernel_rfl) (fun _ _ _ h => h) (Or.inl ⟨by kernel_rfl, ?_⟩) (by assumption) ?_
        rotate_left 1
        · intro W_ hSw; (try dsimp only at hSw); go_simp; (first | done | with_reducible rfl)
        try simp only [Act.put, List.setIfInBounds_toArray, List.set_cons_zero, List.set_cons_succ]
        refine takeD (i := 8) (oi := _) (v := ?vv9) (d := some 141) rfl (by kernel_rfl) (by kernel_rfl) (by kernel_rfl) (by kernel_rfl) (fun _ _ _ h => h) (Or.inl ⟨by kernel_rfl, ?_⟩) (by assumption) ?_
        rotate_left 1
        · intro W_ hSw; (try dsimp only at hSw); go_simp; (first | done | with_reducible rfl)
        try simp only [Act.put, List.setIfInBounds_toArray, List.set_cons_zero, List.set_cons_succ]
        refine takeD (i := 9) (oi := _) (v := ?vv10) (d := some 142) rfl (by kernel_rfl) (by kernel_rfl) (by kernel_rfl) (by kernel_rfl) (fun _ _ _ h => h) (Or.inl ⟨by kernel_rfl, ?_⟩) (by assumption) ?_
        rotate_left 1
        · intro W_ hSw; (try dsimp only at hSw); go_simp; (first | done | with_reducible rfl)
        try simp only [Act.put, List.setIfInBounds_toArray, List.set_cons_zero, List.set_cons_succ]
        refine takeD (i := 10) (oi := _) (v := ?vv11) (d := some 143) rfl (by kernel_rfl) (by kernel_rfl) (by kernel_rfl) (by kernel_rfl) (fun _ _ _ h => h) (Or.inl ⟨by kernel_rfl, ?_⟩) (by assumption) ?_
        rotate_left 1
        · intro W_ hSw; (try dsimp only at hSw); go_simp; (first | done | with_reducible rfl)
        try simp only [Act.put, List.setIfInBounds_toArray, List.set_cons_zero, List.set_cons_succ]
        refine takeD (i := 11) (oi := _) (v := ?vv12) (d := some 144) rfl (by kernel_rfl) (by kernel_rfl) (by kernel_rfl) (by kernel_rfl) (fun _ _ _ h => h) (Or.inl ⟨by kernel_rfl, ?_⟩) (by assumption) ?_
        rotate_left 1
        · intro W_ hSw; (try dsimp only at hSw); go_simp; (first | done | with_reducible rfl)
        try simp only [Act.put, List.setIfInBounds_toArray, List.set_cons_zero, List.set_cons_succ]
        refine takeD (i := 12) (oi := _) (v := ?vv13) (d := some 145) rfl (by kernel_rfl) (by kernel_rfl) (by kernel_rfl) (by kernel_rfl) (fun _ _ _ h => h) (Or.inl ⟨by kernel_rfl, ?_⟩) (by assumption) ?_
        rotate_left 1
        · intro W_ hSw; (try dsimp only at hSw); go_simp; (first | done | with_reducible rfl)
        try simp only [Act.put, List.setIfInBounds_toArray, List.set_cons_zero, List.set_cons_succ]
        refine takeD (i := 13) (oi := _) (v := ?vv14) (d := some 146) rfl (by kernel_rfl) (by kernel_rfl) (by kernel_rfl) (by kernel_rfl) (fun _ _ _ h => h) (Or.inl ⟨by kernel_rfl, ?_⟩) (by assumption) ?_
        rotate_left 1
        · intro W_ hSw; (try dsimp only at hSw); go_simp; (first | done | with_reducible rfl)
        try simp only [Act.put, List.setIfInBounds_toArray, List.set_cons_zero, List.set_cons_succ]
        refine takeD (i := 14) (oi := _) (v := _) (d := some 147) rfl (by kernel_rfl) (by kernel_rfl) (by kernel_rfl) (by kernel_rfl) (fun _ _ _ h => h) (yieldsIf_load_mid (by kernel_rfl) 42 (.tmp 16) (by kernel_rfl) w5.heap.size 0 (by kernel_rfl) u1.C _ (fun W h => h.2.all) Try.underlying42 rfl (by rw [size_25, HC1.out])) (by assumption) ?_
        try simp only [Act.put, List.setIfInBounds_toArray, List.set_cons_zero, List.set_cons_succ]
        refine takeD (i := 15) (oi := _) (v := ?vv15) (d := some 148) rfl (by kernel_rfl) (by kernel_rfl) (by kernel_rfl) (by kernel_rfl) (fun _ _ _ h => h) (Or.inl ⟨by kernel_rfl, ?_⟩) (by assumption) ?_
        rotate_left 1
        · intro W_ hSw; (try dsimp only at hSw); go_simp; (first | done | with_reducible rfl)
        try simp only [Act.put, List.setIfInBounds_toArray, List.set_cons_zero, List.set_cons_succ]
        refine takeD (i := 16) (oi := _) (v := ?vv16) (d := some 149) rfl (by kernel_rfl) (by kernel_rfl) (by kernel_rfl) (by kernel_rfl) (fun _ _ _ h => h) (Or.inl ⟨by kernel_rfl, ?_⟩) (by assumption) ?_
        rotate_left 1
        · intro W_ hSw; (try dsimp only at hSw); go_simp; (first | done | with_reducible rfl)
        try simp only [Act.put, List.setIfInBounds_toArray, List.set_cons_zero, List.set_cons_succ]
        refine takeD (i := 18) (oi := _) (v := _) (d := some 151) rfl (by kernel_rfl) (by kernel_rfl) (by kernel_rfl) (by kernel_rfl) (fun _ _ _ h => h) (yieldsIf_load_mid (by kernel_rfl) 42 (.tmp 13) (by kernel_rfl) w1.heap.size 0 (by kernel_rfl) s.C _ (fun W h => h.1.all) Try.underlying42 rfl (by rw [size_25, HC.out])) (by assumption) ?_
        try simp only [Act.put, List.setIfInBounds_toArray, List.set_cons_zero, List.set_cons_succ]
        refine takeD (i := 19) (oi := _) (v := ?vv17) (d := some 152) rfl (by kernel_rfl) (by kernel_rfl) (by kernel_rfl) (by kernel_rfl) (fun _ _ _ h => h) (Or.inl ⟨by kernel_rfl, ?_⟩) (by assumption) ?_
        rotate_left 1
        · intro W_ hSw; (try dsimp only at hSw); go_simp; (first | done | with_reducible rfl)
        try simp only [Act.put, List.setIfInBounds_toArray, List.set_cons_zero, List.set_cons_succ]
        refine takeD (i := 20) (oi := _) (v := ?vv18) (d := some 153) rfl (by kernel_rfl) (by kernel_rfl) (by kernel_rfl) (by kernel_rfl) (fun _ _ _ h => h) (Or.inl ⟨by kernel_rfl, ?_⟩) (by assumption) ?_
        rotate_left 1
        · intro W_ hSw; (try dsimp only at hSw); go_simp; (first | done | with_reducible rfl)
        try simp only [Act.put, List.setIfInBounds_toArray, List.set_cons_zero, List.set_cons_succ]
        refine wpAnyH_ready (rs := [17]) (by kernel_rfl) (by simp) ?_
        refine AllReadyH.cons (o := _) rfl (fun K hK => ?_) AllReadyH.nil
        go_simp
        (go_at_call 17; (with_reducible refine (kbt.out _ (Below.refl _ _).drew).mono ?_); rintro e_ v1 ⟨Av1, cv1, rfl, ov1, hv1⟩; rw [HLj.out] at ov1 ⊢; have r13a := r13.drew.to hv1; have r16a := r16.drew.to hv1; have hbv1 : Below wr.heap.size wr v1 := (Below.refl _ _).drew.trans hv1)
        go_wp2_with fail
        refine hK.out _ _ ?_ (fun hHeld => ?_)
        · exact ⟨r13a, r16a⟩
        clear hK K
        try simp only [Act.put, List.setIfInBounds_toArray, List.set_cons_zero, List.set_cons_succ]
        refine wpAnyH_ready (rs := [21]) (by kernel_rfl) (by simp) ?_
        refine AllReadyH.cons (o := _) rfl (fun K hK => ?_) AllReadyH.nil
        go_simp
        (go_at_call 17; (with_reducible refine (kbs.out _ hbv1).mono ?_); rintro e_ v2 ⟨Av2, cv2, rfl, ov2, hv2⟩; rw [HLj.out] at ov2 ⊢; have r13b := r13a.to hv2; have r16b := r16a.to hv2; have ov1b := own_below ov1 hv2; have hbv2 : Below wr.heap.size wr v2 := hbv1.trans (hv2.mono hbv1.size))
        go_wp2_with fail
        refine hK.out _ _ ?_ (fun hHeld => ?_)
        · exact ⟨r13b, r16b⟩
        clear hK K
        try simp only [Act.put, List.setIfInBounds_toArray, List.set_cons_zero, List.set_cons_succ]
        refine wpAnyH_ready (rs := [22]) (by kernel_rfl) (by simp) ?_
        refine AllReadyH.cons (o := _) rfl (fun K hK => ?_) AllReadyH.nil
        go_simp
        (go_at_call 12; (with_reducible refine (lowWords_any Av1 Av2 Lj Lj cv1 cv2 20 20 true v2 HLj.out HLj.out (Sq.of_own ov1b) (Sq.of_own ov2) (by rw [HLj.out]; omega) (by simp)).mono ?_); rintro e_ v3 ⟨rfl, hv3⟩; have r13c := r13b.to hv3; have r16c := r16b.to hv3; have hbv3 : Below wr.heap.size wr v3 := hbv2.trans (hv3.mono hbv2.size))
        go_wp2_with fail
        refine hK.out _ _ ?_ (fun hHeld => ?_)
        · exact ⟨r13c, r16c⟩
        clear hK K
        try simp only [Act.put, List.setIfInBounds_toArray, List.set_cons_zero, List.set_cons_succ]
        refine takeD (i := 23) (oi := _) (v := ?vv19) (d := some 156) rfl (by kernel_rfl) (by kernel_rfl) (by kernel_rfl) (by kernel_rfl) (fun _ _ _ h => h) (Or.inl ⟨by kernel_rfl, ?_⟩) (by assumption) ?_
        rotate_left 1
        · intro W_ hSw; (try dsimp only at hSw); go_simp; (first | done | with_reducible rfl)
        try simp only [Act.put, List.setIfInBounds_toArray, List.set_cons_zero, List.set_cons_succ]
        refine takeD (i := 24) (oi := _) (v := ?vv20) (d := some 157) rfl (by kernel_rfl) (by kernel_rfl) (by kernel_rfl) (by kernel_rfl) (fun _ _ _ h => h) (Or.inl ⟨by kernel_rfl, ?_⟩) (by assumption) ?_
        rotate_left 1
        · intro W_ hSw; (try dsimp only at hSw); go_simp; (first | done | with_reducible rfl)
        try simp only [Act.put, List.setIfInBounds_toArray, List.set_cons_zero, List.set_cons_succ]
        refine takeD (i := 25) (oi := _) (v := ?vv21) (d := some 158) rfl (by kernel_rfl) (by kernel_rfl) (by kernel_rfl) (by kernel_rfl) (fun _ _ _ h => h) (Or.inl ⟨by kernel_rfl, ?_⟩) (by assumption) ?_
        rotate_left 1
        · intro W_ hSw; (try dsimp only at hSw); go_simp; (first | done | with_reducible rfl)
        try simp only [Act.put, List.setIfInBounds_toArray, List.set_cons_zero, List.set_cons_succ]
        refine wpAnyH_done (by kernel_rfl) ?_ _
        have hbv3w : Below w12.heap.size w12 v3 := hbr.trans (hbv3.mono hzr)
        clear d16 d13 kbt kbs r13 r16 r13a r16a r13b r16b r13c r16c ov1 ov2 ov1b hv1 hv2 hv3 hbv1 hbv2 hbv3
        go_wp2
        go_roundw
        case rel => exact ⟨j + 1, by omega, by go_num, hbv3w⟩
        case measure => simp [intOf]; omega
    · obtain rfl : j = 8 := by omega
      replace R10' := Lib.hid (R10'.out.to hbr)
      replace R13 := Lib.hid (R13.out.to hbr)
      replace R16 := Lib.hid (R16.out.to hbr)
      replace YO := Lib.hid (YO.out.to hbr)
      replace IU := Lib.hid (IU.out.to hbr)
      replace YW := Lib.hid (own_below YW.out hbr)
      replace BW := Lib.hid (BW.out.trans (hbr.mono (by omega)))
      obtain ⟨gx, hgx1, hgx2, hgx3⟩ : ∃ gx, (∀ p, y.A = some p → p = ⟨gx, 0, none⟩) ∧ w2.heap.size ≤ gx ∧ gx < w3.heap.size := by
        rcases YW.out.2 with ⟨h1, _⟩ | ⟨g', cap, cur, hv, _⟩
        · have hA : y.A = none := by simp at h1; exact h1.1
          exact ⟨w2.heap.size, (fun p hp => by rw [hA] at hp; cases hp), Nat.le_refl _, hz3⟩
        · have hA : y.A = some ⟨g', 0, none⟩ := by simp at hv; exact hv.1
          have := YI.out _ hA
          exact ⟨g', (fun p hp => by rw [hA] at hp; exact (Option.some.inj hp).symm), by simp only at this; omega, by simp only at this; omega⟩
      have HG := Lib.hid hgx1
      have kb3 := Lib.hid (back_S o (k : Int) L wr IU.out ho HLB.out)
      clear hbr hgx1 hBW
      go_wp2_with (refine wpList_load_var rfl 42 (.tmp 16) rfl w5.heap.size rfl u1.C _ 25 R16.out Try.underlying42 rfl size_25 HC1.out ?_)
      with_reducible refine (kb3.out).mono ?_
      rintro e_ w13 ⟨A13, c13, rfl, o13, hb13⟩
      rw [HL20.out] at o13 ⊢
      replace R10' := Lib.hid (R10'.out.to hb13)
      replace R16 := Lib.hid (R16.out.to hb13)
      replace IU := Lib.hid (IU.out.to hb13)
      replace YW := Lib.hid (own_below YW.out hb13)
      replace BW := Lib.hid (BW.out.trans (hb13.mono (by omega)))
      have hz13 := hb13.size
      have O13 := Lib.hid o13
      have e10_1 := R10'.out.cells 1
      have YL : Hid (∃ l' : List Nat, l'.length = y.ws.length ∧ w13.ownsRow (w.heap.size + 1) 22 1 (.slice y.A y.ws.length y.c) y.ws.length (l'.map u16w)) := Lib.hid ⟨y.ws, rfl, YW.out⟩
      clear hb13 kb3 o13
      go_wp2
      go_loopw [167] (fun i wr => ∃ j l', j ≤ y.ws.length ∧ i = .int .i64 (j : Nat) ∧ l'.length = y.ws.length ∧ wr.ownsRow (w.heap.size + 1) 22 1 (.slice y.A y.ws.length y.c) y.ws.length ((l' : List Nat).map u16w) ∧ Only gx w13 wr) (fun i _ => y.ws.length - (intOf i).toNat)
      case atStart =>
        obtain ⟨l', h1, h2⟩ := YL.out
        exact ⟨0, l', by omega, rfl, h1, h2, Only.refl _ _⟩
      case round =>
        obtain ⟨j, l', hj, rfl, hl', hown, honly⟩ := hrel
        have HL := Lib.hid hl'
        have hne : w.heap.size ≠ gx := by omega
        have f10_1 : wr.cell? ⟨w.heap.size, 1, none⟩ = some (.slice y.A y.ws.length y.c) := (honly.cell (p := ⟨w.heap.size, 1, none⟩) hne).trans e10_1
        by_cases hlt : j < y.ws.length
        · obtain ⟨g', hA, _, _⟩ := own_some hown (by omega)
          have hg' := HG.out _ hA
          injection hg' with hg'
          subst hg'
          obtain ⟨v, hv⟩ : ∃ v, l'[j]? = some v := ⟨_, List.getElem?_eq_getElem (by omega)⟩
          have k0 : wr.cell? ⟨g', j, none⟩ = some (.int .u16 (v : Int)) := by rw [hA] at hown; exact (hown.cellAt j (by omega)).trans (map_get hv)
          have f0 : wr.frozen? ⟨g', j, none⟩ = false := by rw [hA] at hown; exact hown.frozenAt j
          have hos : (wr.setCell ⟨g', j, none⟩ (.int .u16 (((v + 1) % 65536 : Nat) : Int))).ownsRow (w.heap.size + 1) 22 1 (.slice y.A y.ws.length y.c) y.ws.length ((l'.set j ((v + 1) % 65536)).map u16w) := by rw [hA] at hown ⊢; exact own_set hown
          have HOS := Lib.hid hos
          rw [hA] at f10_1
          clear hv hl' hos hown e10_1
          go_wp2
          go_roundw
          case rel =>
            refine ⟨j + 1, l'.set j ((v + 1) % 65536), by omega, by go_num, by simpa using HL.out, ?_, honly.set _⟩
            have he : IntKind.u16.wrap ((v : Int) + 1) = (((v + 1) % 65536 : Nat) : Int) := by rw [wrap_u16]; omega
            rw [he]
            exact HOS.out
          case measure => simp [intOf]; omega
        · have R16z := Lib.hid (R16.out.only honly (by omega))
          have hbr : Below w.heap.size w wr := honly.to BW.out (by omega)
          have kb4 := Lib.hid (back_S o (k : Int) L wr (IU.out.only honly (by omega)) ho HLB.out)
          have O13z := Lib.hid (honly.own O13.out (by omega))
          clear hown honly f10_1 e10_1
          go_wp2_with (refine wpList_load_var rfl 42 (.tmp 16) rfl w5.heap.size rfl u1.C _ 25 R16z.out Try.underlying42 rfl size_25 HC1.out ?_)
          with_reducible refine (kb4.out).mono ?_
          rintro e_ w14 ⟨A14, c14, rfl, o14, hb14⟩
          rw [HL20.out] at o14 ⊢
          have o13 := own_below O13z.out hb14
          have hbr2 : Below w.heap.size w w14 := hbr.trans (hb14.mono hbr.size)
          clear hb14 kb4
          go_wp2_with fail
          refine (lowWords_any A14 A13 L L c14 c13 20 20 true w14 HL20.out HL20.out (Sq.of_own o14) (Sq.of_own o13) (by rw [HL20.out]; omega) (by simp)).mono ?_
          rintro e_z5 w_z5 ⟨rfl, hb_z5⟩
          obtain ⟨z5, rfl⟩ := later_is hb_z5
          clear hb_z5
          have hz_z5 := z5.bel.size
          try simp at hz_z5
          go_wp2_with fail
          refine (awake_any _).mono ?_
          rintro e_z6 w_z6 ⟨rfl, hb_z6⟩
          obtain ⟨z6, rfl⟩ := later_is hb_z6
          clear hb_z6
          have hz_z6 := z6.bel.size
          try simp at hz_z6
          go_wp2
          go_ret
          exact ⟨rfl, bel_later z6 (bel_later z5 hbr2)⟩
end Go.Proofs.Ytopkncbpkccfbaa
