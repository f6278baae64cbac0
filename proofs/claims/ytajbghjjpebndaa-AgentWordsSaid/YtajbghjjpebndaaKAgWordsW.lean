/- The walk of saucierlaw20.AgentWords. -/
import Derived.Test.YtajbghjjpebndaaQ29
import Derived.Test.YtajbghjjpebndaaQ30
import Derived.Test.YtajbghjjpebndaaKAgWd
namespace Go.Proofs.Ytajbghjjpebndaa
set_option maxRecDepth 100000
open Go.RowKit
set_option linter.unusedVariables false
set_option linter.unusedSimpArgs false
attribute [local go_sem] Later.cell Later.frozen setCell_twice
attribute [local go_sem high] sliced_zero
theorem rd_wd {q : Cmd} (h : q.Fit) : rd (wd q) = (q, 0) := by
  obtain ⟨ow, v, tx, n, ck⟩ := q
  unfold rd
  rw [if_pos ⟨rfl, rfl, h.v⟩]
  have e1 : 65536 * (tx / 65536) + tx % 65536 = tx := Nat.div_add_mod tx 65536
  have e2 : 65536 * (ck / 65536) + ck % 65536 = ck := Nat.div_add_mod ck 65536
  show ((⟨ow, v, 65536 * (tx / 65536) + tx % 65536, n, 65536 * (ck / 65536) + ck % 65536⟩ : Cmd), (0 : Int)) = _
  rw [e1, e2]
theorem wd_u {q : Cmd} (h : q.Fit) : ∀ x ∈ wd q, x < 65536 := by
  intro x hx
  have h1 := h.ow
  have h2 := h.v
  have h3 := h.tx
  have h4 := h.n
  have h5 := h.ck
  simp only [wd, List.mem_cons, List.not_mem_nil, or_false] at hx
  rcases hx with rfl | rfl | rfl | rfl | rfl | rfl | rfl | rfl <;> omega
theorem rd_said {l : List Nat} (hu : ∀ x ∈ l, x < 65536) : ((rd l).2 = 0 ∧ wd (rd l).1 = l ∧ (rd l).1.Fit) ∨ (rd l).2 = 2 := by
  unfold rd
  split
  · rename_i h
    obtain ⟨a0, a1, a2, a3, a4, a5, a6, a7, rfl⟩ := eight l h.1
    have h0 := hu a0 (by simp)
    have h2 := hu a2 (by simp)
    have h3 := hu a3 (by simp)
    have h4 := hu a4 (by simp)
    have h5 := hu a5 (by simp)
    have h6 := hu a6 (by simp)
    obtain ⟨_, h7, h1⟩ := h
    have h7' : a7 = 0 := h7
    have h1' : a1 < 256 := h1
    refine .inl ⟨rfl, ?_, ⟨h0, h1', (by show 65536 * a2 + a3 < 4294967296; omega), h4, (by show 65536 * a5 + a6 < 4294967296; omega)⟩⟩
    show [a0, a1, (65536 * a2 + a3) / 65536, (65536 * a2 + a3) % 65536, a4, (65536 * a5 + a6) / 65536, (65536 * a5 + a6) % 65536, 0] = _
    rw [show (65536 * a2 + a3) / 65536 = a2 by omega, show (65536 * a2 + a3) % 65536 = a3 by omega, show (65536 * a5 + a6) / 65536 = a5 by omega, show (65536 * a5 + a6) % 65536 = a6 by omega, h7']
  · exact .inr rfl
theorem cmd_ne (q : Cmd) (w : World) : (binOp .neq 41 (.agg (cmdL q).toArray) (.agg (cmdL q).toArray)).run Try.prog w = .ok (.bool false) w := by
  obtain ⟨ow, v, tx, n, ck⟩ := q
  show (binOp .neq 41 (.agg #[.int .u16 (ow : Int), .int .u8 (v : Int), .int .u32 (tx : Int), .int .u16 (n : Int), .int .u32 (ck : Int)]) (.agg #[.int .u16 (ow : Int), .int .u8 (v : Int), .int .u32 (tx : Int), .int .u16 (n : Int), .int .u32 (ck : Int)])).run Try.prog w = .ok (.bool false) w
  go_simp
theorem st8_right {g : Ag} (h : g.right) : st8 g = [g.l.o, g.ph, g.tx / 65536, g.tx % 65536, g.la / 65536, g.la % 65536, (ssThere g.S).length, 0] := by
  unfold st8
  split
  · rename_i hf
    have : Ls.counted g.l = g.l := Ls.counted_of_right h.2.2.2.2.1
    have ho : g.l.o = 0 := by
      unfold Ls.free at hf
      rw [this] at hf
      exact of_decide_eq_true hf
    rw [ho]
  · rfl
theorem wrap_u16_in (x : Nat) (h : x < 65536) : IntKind.u16.wrap (x : Int) = (x : Int) := by rw [wrap_u16]; omega
theorem wrap_u32_in (x : Nat) (h : x < 65536) : IntKind.u32.wrap (x : Int) = (x : Int) := by
  have : IntKind.u32.wrap (x : Int) = (x : Int) % 4294967296 := by simp [IntKind.wrap, IntKind.bits, IntKind.signed]
  omega
theorem wrap_u32_hi (x : Nat) (h : x < 65536) : IntKind.u32.wrap ((x : Int) * 65536) = (x : Int) * 65536 := by
  have : IntKind.u32.wrap ((x : Int) * 65536) = ((x : Int) * 65536) % 4294967296 := by simp [IntKind.wrap, IntKind.bits, IntKind.signed]
  omega
theorem wrap_i64_in (x : Nat) (h : x ≤ 8) : IntKind.i64.wrap (x : Int) = (x : Int) := by
  have h0 : (0 : Int) ≤ (x : Int) := by omega
  have h1 : (x : Int) ≤ 8 := by omega
  exact IntWalk.i64_in _ (by omega)
theorem or_parts (x h l : Nat) (hx : x < 4294967296) (hh : x / 65536 = h) (hl : x % 65536 = l) : bits .or .u32 ((h : Int) * 65536) (l : Int) = (x : Int) := by
  rw [wide_or h l (by omega) (by omega)]
  congr 1
  omega
set_option maxHeartbeats 4000000 in
theorem agwords_walk (q : Cmd) (hq : q.Fit) (ws : List Nat) (Aw : Option Addr) (cw : Nat) (bs : List Nat) (Ab : Option Addr) (cb t : Nat) (l : List OV) (Al : Option Addr) (cl : Nat) (w : World) (sw : Sq u16w w w.heap.size Aw ws) (huw : ∀ x ∈ ws, x < 65536) (sb : Sq u16w w w.heap.size Ab bs) (hub : ∀ x ∈ bs, x < 65536) (ht : t < 256) (hl : Ops w w.heap.size Al l) (hcl : l.length ≤ cl) (hcl2 : cl ≤ 9223372036854775807) :
    Calls Try.prog 8 #[.agg (cmdL q).toArray, .slice Aw ws.length cw, .slice Ab bs.length cb, .int .u8 (t : Int), .slice Al l.length cl] w fun e w' => e = .returned (.bool true) ∧ Below w.heap.size w w' := by
  have kbeg := Lib.hid (fun W (hW : Below w.heap.size w W) => begun_any Ab bs bs.length cb t W rfl ((sb.below hW).more hW.size) hub ht)
  obtain ⟨N, hN⟩ : ∃ N : Nat, N = min l.length 60 := ⟨_, rfl⟩
  obtain ⟨nl, hnl⟩ : ∃ n, l.length = n := ⟨_, rfl⟩
  have hmin1 : ∀ w, (Builtin.min_ #[3, 3] 3 #[.int .i64 (nl : Int), .int .i64 60]).run Try.prog w = .ok (.int .i64 (N : Int)) w := fun w => run_min2 w _ _ nl 60 N (by rw [← hnl]; exact hN)
  have hNc : N ≤ cl := by omega
  have hN2 : N ≤ 60 := by omega
  obtain ⟨L, hL⟩ : ∃ L, l.take N = L := ⟨_, rfl⟩
  have hLN : L.length = N := by rw [← hL, List.length_take]; omega
  have OPS := Lib.hid (show Ops w w.heap.size Al L by rw [← hL]; exact hl.take N)
  have HLN := Lib.hid hLN
  obtain ⟨b1, hb1⟩ : ∃ b, few20 L 60 = b := ⟨_, rfl⟩
  have kf1 := Lib.hid (fun W (hW : Below w.heap.size w W) => few20_any Al L cl N 60 b1 W HLN.out (OPS.out.to hW) hNc hcl2 hb1)
  have hr0 := begG_right bs t
  have HR0 := Lib.hid hr0
  have HQ := Lib.hid hq
  obtain ⟨nw, hnw⟩ : ∃ n, ws.length = n := ⟨_, rfl⟩
  obtain ⟨⟨Y, F⟩, hY⟩ : ∃ y, rd ws = y := ⟨_, rfl⟩
  have kr2 : Hid (∀ W, Below w.heap.size w W → Calls Try.prog 22 #[.slice Aw nw cw] W fun e w' => e = .returned (.tuple #[.agg (cmdL Y).toArray, .int .i64 F]) ∧ Below W.heap.size W w') := Lib.hid (fun W hW => by have := read_any Aw ws nw cw W hnw ((sw.below hW).more hW.size) huw; rw [hY] at this; exact this)
  have HYF : Hid ((F = 0 ∧ wd Y = ws ∧ Y.Fit) ∨ F = 2) := Lib.hid (by have := rd_said huw; rw [hY] at this; exact this)
  have SW := Lib.hid sw
  have HNW := Lib.hid hnw
  rw [hnl] at hcl ⊢
  rw [hnw]
  clear sb hub ht hl hN hL hLN hb1 hnl hr0 hq sw huw hY hnw
  go_enter Try.func8, Try.ntmps8
  go_upto_region 1 with fail
  obtain ⟨wb, hwb⟩ : ∃ w_q_, w_q_ = w.alloc (.cells (cmdL q).toArray 41) := ⟨_, rfl⟩
  rw [← hwb]
  have RV : Hid (RowAt wb w.heap.size 41 (cmdL q)) := Lib.hid (by rw [hwb]; exact RowAt.new w _ _)
  have HBB : Hid (Below w.heap.size w wb) := Lib.hid (by rw [hwb]; exact bel_alloc (Below.refl _ _) _)
  have hzb : w.heap.size + 1 ≤ wb.heap.size := by rw [hwb, World.size_alloc]; exact Nat.le_refl _
  clear hwb
  go_wp2_with fail
  with_reducible refine (kbeg.out _ HBB.out).mono ?_
  rintro e1 w1 ⟨A1, c1, s1, rfl, i1, hb1⟩
  have HC1 := Lib.hid i1.C32
  have I1 := Lib.hid (i1.more (base' := 0) (Nat.zero_le _))
  have BZ := Lib.hid (HBB.out.trans (hb1.mono HBB.out.size))
  replace RV := Lib.hid (RV.out.to hb1)
  have OF1 := Lib.hid (i1.off (.inr (Nat.le_refl _)))
  have hzw := hb1.size
  clear i1 hb1 kbeg
  go_upto_region 2 with (refine wpList_store_var rfl 35 (.tmp 11) (.tmp 24) rfl w1.heap.size (agC none 0 Stv.zero Ag0) (agC A1 c1 s1 (begG bs t)) 32 rfl rfl (new_agent w1) size_32 rfl HC1.out (agC_one _) ?_; intro w_3 r_3 k_3; have R_3 := Lib.hid r_3; have HB_3 : Hid (Below w1.heap.size w1 w_3) := Lib.hid (k_3.to (bel_alloc (Below.refl _ _) (.cells z32 35)) (Nat.le_refl _)); clear r_3 k_3)
  replace I1 := Lib.hid (I1.out.to HB_3.out)
  replace RV := Lib.hid (RV.out.to HB_3.out)
  replace BZ := Lib.hid (BZ.out.trans (HB_3.out.mono BZ.out.size))
  obtain ⟨gA, hgA⟩ : ∃ gA, w1.heap.size = gA := ⟨_, rfl⟩
  have hwA : w.heap.size ≤ gA := by rw [← hgA]; omega
  have hwV : w.heap.size < gA := by rw [← hgA]; omega
  have RA := R_3
  rw [hgA] at RA OF1 ⊢
  clear HB_3 R_3 hgA hzw
  try simp only [Act.put]
  go_wp2_with fail
  with_reducible refine (kf1.out _ BZ.out).mono ?_
  rintro e2 w2 ⟨rfl, hq2⟩
  replace RA := Lib.hid (RA.out.to hq2)
  replace I1 := Lib.hid (I1.out.to hq2)
  replace RV := Lib.hid (RV.out.to hq2)
  replace BZ := Lib.hid (BZ.out.trans (hq2.mono BZ.out.size))
  clear hq2 kf1 hmin1
  cases b1
  · go_wp2_with fail
    with_reducible refine (awake20_any _).mono ?_
    rintro e3 w3 ⟨rfl, hq3⟩
    have BZ3 := Lib.hid (BZ.out.trans (hq3.mono BZ.out.size))
    clear hq3
    go_wp2
    go_ret
    exact ⟨rfl, BZ3.out⟩
  by_cases h20 : 20 < nw
  · have u1 : decide ((20 : Int) < (nw : Int)) = true := decide_eq_true (by omega)
    clear h20
    go_wp2_with fail
    with_reducible refine (awake20_any _).mono ?_
    rintro e3 w3 ⟨rfl, hq3⟩
    have BZ3 := Lib.hid (BZ.out.trans (hq3.mono BZ.out.size))
    clear hq3
    go_wp2
    go_ret
    exact ⟨rfl, BZ3.out⟩
  have u1 : decide ((20 : Int) < (nw : Int)) = false := decide_eq_false (by omega)
  have h20' : nw ≤ 20 := by omega
  clear h20
  go_upto_region 5 with fail
  clear u1
  go_wp2_with (refine wpList_load_var rfl 41 (.tmp 5) rfl w.heap.size rfl _ _ 5 RV.out Try.underlying41 rfl size_cmdw rfl ?_)
  with_reducible refine (words_any q HQ.out _).mono ?_
  rintro e5 w5 ⟨hb5, g5, hg5, rfl, sq5⟩
  have kr : Hid (Calls Try.prog 22 #[.slice (some ⟨g5, 0, none⟩) 8 8] w5 fun e w' => e = .returned (.tuple #[.agg (cmdL q).toArray, .int .i64 0]) ∧ Below w5.heap.size w5 w') := Lib.hid (by have := read_any _ (wd q) 8 8 w5 rfl sq5 (wd_u HQ.out); rw [rd_wd HQ.out] at this; exact this)
  replace RA := Lib.hid (RA.out.to hb5)
  replace I1 := Lib.hid (I1.out.to hb5)
  replace RV := Lib.hid (RV.out.to hb5)
  replace BZ := Lib.hid (BZ.out.trans (hb5.mono BZ.out.size))
  clear hb5 sq5 hg5
  go_wp2_with fail
  with_reducible refine (kr.out).mono ?_
  rintro e6 w6 ⟨rfl, hb6⟩
  replace RA := Lib.hid (RA.out.to hb6)
  replace I1 := Lib.hid (I1.out.to hb6)
  replace RV := Lib.hid (RV.out.to hb6)
  replace BZ := Lib.hid (BZ.out.trans (hb6.mono BZ.out.size))
  clear hb6 kr
  go_upto_region 6 with (refine wpList_store_var rfl 41 (.tmp 13) (.tmp 51) rfl w6.heap.size _ (cmdL q) 5 rfl rfl (heap_alloc_new w6 _) size_cmdw rfl rfl (cmdL_onew q) ?_; intro w_7 r_7 k_7; have RQ := Lib.hid r_7; have HB_7 : Hid (Below w6.heap.size w6 w_7) := Lib.hid (k_7.to (bel_alloc (Below.refl _ _) _) (Nat.le_refl _)); clear r_7 k_7)
  replace RA := Lib.hid (RA.out.to HB_7.out)
  replace I1 := Lib.hid (I1.out.to HB_7.out)
  replace RV := Lib.hid (RV.out.to HB_7.out)
  replace BZ := Lib.hid (BZ.out.trans (HB_7.out.mono BZ.out.size))
  obtain ⟨gQ, hgQ⟩ : ∃ gQ, w6.heap.size = gQ := ⟨_, rfl⟩
  rw [hgQ] at RQ ⊢
  clear HB_7 hgQ
  try simp only [Act.put]
  go_wp2_with fail
  with_reducible refine (kr2.out _ BZ.out).mono ?_
  rintro e8 w8 ⟨rfl, hb8⟩
  replace RA := Lib.hid (RA.out.to hb8)
  replace I1 := Lib.hid (I1.out.to hb8)
  replace RV := Lib.hid (RV.out.to hb8)
  replace RQ := Lib.hid (RQ.out.to hb8)
  replace BZ := Lib.hid (BZ.out.trans (hb8.mono BZ.out.size))
  clear hb8 kr2
  go_upto_region 7 with (refine wpList_store_var rfl 41 (.tmp 15) (.tmp 56) rfl w8.heap.size _ (cmdL Y) 5 rfl rfl (heap_alloc_new w8 _) size_cmdw rfl rfl (cmdL_onew Y) ?_; intro w_9 r_9 k_9; have RY := Lib.hid r_9; have HB_9 : Hid (Below w8.heap.size w8 w_9) := Lib.hid (k_9.to (bel_alloc (Below.refl _ _) _) (Nat.le_refl _)); clear r_9 k_9)
  replace RA := Lib.hid (RA.out.to HB_9.out)
  replace I1 := Lib.hid (I1.out.to HB_9.out)
  replace RV := Lib.hid (RV.out.to HB_9.out)
  replace RQ := Lib.hid (RQ.out.to HB_9.out)
  replace BZ := Lib.hid (BZ.out.trans (HB_9.out.mono BZ.out.size))
  obtain ⟨gY, hgY⟩ : ∃ gY, w8.heap.size = gY := ⟨_, rfl⟩
  rw [hgY] at RY ⊢
  clear HB_9 hgY
  try simp only [Act.put]
  have kne := cmd_ne q
  go_cut [89] (fun x wx => x = .bool false ∧ Hid (Below w_9.heap.size w_9 wx))
  case first =>
    go_wp2_with (first | (refine wpList_load_var (by kernel_rfl) 41 (.tmp 13) rfl gQ rfl _ _ 5 RQ.out Try.underlying41 rfl size_cmdw rfl ?_) | (refine wpList_load_var (by kernel_rfl) 41 (.tmp 5) rfl w.heap.size rfl _ _ 5 RV.out Try.underlying41 rfl size_cmdw rfl ?_))
    with_reducible refine (words_any q HQ.out _).mono ?_
    rintro e10 w10 ⟨hb10, g10, hg10, rfl, sq10⟩
    replace RY := Lib.hid (RY.out.to hb10)
    have B10 := Lib.hid hb10
    have BZ10 := Lib.hid (BZ.out.trans (hb10.mono BZ.out.size))
    clear hb10 sq10 hg10
    rcases HYF.out with ⟨rfl, hwd, hfit⟩ | rfl
    · have HFY := Lib.hid hfit
      have HWD := Lib.hid hwd
      clear hwd hfit
      go_wp2_with (refine wpList_load_var (by kernel_rfl) 41 (.tmp 15) rfl gY rfl _ _ 5 RY.out Try.underlying41 rfl size_cmdw rfl ?_)
      with_reducible refine (words_any Y HFY.out _).mono ?_
      rintro e11 w11 ⟨hb11, g11, hg11, rfl, sq11⟩
      have B11 := Lib.hid (B10.out.trans (hb11.mono B10.out.size))
      have kw := Lib.hid (lowWords_any (some ⟨g11, 0, none⟩) Aw (wd Y) ws 8 cw 8 nw true w11 rfl HNW.out sq11 ((SW.out.below (BZ10.out.trans (hb11.mono BZ10.out.size))).more (BZ10.out.trans (hb11.mono BZ10.out.size)).size) (by show 8 ≤ _; decide) (by simp [HWD.out]))
      clear hb11 sq11 hg11
      go_wp2_with fail
      with_reducible refine (kw.out).mono ?_
      rintro e12 w12 ⟨rfl, hb12⟩
      replace B11 := Lib.hid (B11.out.trans (hb12.mono B11.out.size))
      clear hb12 kw
      go_wp2
      go_meet
      case rel => exact ⟨rfl, B11⟩
    · go_wp2
      go_meet
      case rel => exact ⟨rfl, B10⟩
  case rest =>
  obtain ⟨rfl, HB10⟩ := hcut
  replace RA := Lib.hid (RA.out.to HB10.out)
  replace I1 := Lib.hid (I1.out.to HB10.out)
  replace BZ := Lib.hid (BZ.out.trans (HB10.out.mono BZ.out.size))
  clear HB10 kne RV RQ RY HYF
  go_upto_region 10 with fail
  go_loopw [92] (fun i wr => ∃ k : Nat, ∃ (g : Ag) (Ak : Option Addr) (ck : Nat) (sk : Stv), k ≤ N ∧ i = .int .i64 (k : Int) ∧ Hid g.right ∧ Hid (RowAt wr gA 35 (agC Ak ck sk g)) ∧ Hid (AgIs Ak ck sk g wr 0) ∧ Hid (AgOff gA Ak sk g) ∧ Hid (Below w.heap.size w wr)) (fun i _ => N - (intOf i).toNat)
  case atStart => exact ⟨0, _, A1, c1, s1, by omega, rfl, HR0, RA, I1, OF1, BZ⟩
  case round =>
    rename World => wr
    clear RA I1 OF1 BZ HR0
    obtain ⟨k, g, Ak, ck, sk, hk, rfl, HR, RA, IA, OFA, BK⟩ := hrel
    by_cases hlt : k < N
    rotate_left
    · obtain rfl : k = N := by omega
      have BZ := BK
      go_upto_region 17 with fail
      go_wp2_with fail
      with_reducible refine (awake20_any _).mono ?_
      rintro e3 w3 ⟨rfl, hq3⟩
      have BZ3 := Lib.hid (BZ.out.trans (hq3.mono BZ.out.size))
      clear hq3
      go_wp2
      go_ret
      exact ⟨rfl, BZ3.out⟩
    have hltI : (k : Int) < (N : Int) := by omega
    have h0I : (0 : Int) ≤ (k : Int) := by omega
    have HCA := Lib.hid IA.out.C32
    have hlA := RA.out.lt
    obtain ⟨go, oo, v, rfl, hgo, hv, hok, hrg⟩ := (OPS.out.to BK.out).at_ (k := k) (by rw [HLN.out]; exact hlt)
    have HV := Lib.hid hv
    have HG := Lib.hid hrg
    have HOK := Lib.hid hok
    clear hv hok hrg hgo
    go_upto_region 12 with (first | (refine wpList_load_mid rfl 43 (.tmp 94) rfl go (oo + k * 10) rfl (opL v) _ HG.out Try.underlying43 rfl (by rw [size_op]; rfl) ?_) | (refine wpList_store_var rfl 43 (.tmp 18) (.tmp 95) rfl wr.heap.size _ (opL v) 10 rfl rfl (heap_alloc_new wr _) size_op rfl rfl (opL_one v) ?_; intro w_5 r_5 k_5; have RO := Lib.hid r_5; have HB_5 : Hid (Below wr.heap.size wr w_5) := Lib.hid (k_5.to (bel_alloc (Below.refl _ _) _) (Nat.le_refl _)); clear r_5 k_5))
    have HOK5 := Lib.hid (HOK.out.to HB_5.out)
    replace RA := Lib.hid (RA.out.to HB_5.out)
    replace IA := Lib.hid (IA.out.to HB_5.out)
    replace BK := Lib.hid (BK.out.trans (HB_5.out.mono BK.out.size))
    obtain ⟨gO, hgO⟩ : ∃ gO, wr.heap.size = gO := ⟨_, rfl⟩
    have hwO : gA < gO := by omega
    rw [hgO] at RO ⊢
    clear HB_5 hgO
    obtain ⟨XX, hX⟩ : ∃ XX, v.op.does g = XX := ⟨_, rfl⟩
    have kd := Lib.hid (does_any w_5 IA.out HR.out v HOK5.out)
    rw [hX] at kd
    have HRN : Hid (XX.1.right) := Lib.hid (by rw [← hX]; exact AOp.does_right _ HR.out IA.out.S8)
    clear hX
    try simp only [Act.put]
    go_wp2_with (first | (refine wpList_load_var rfl 35 (.tmp 11) rfl (gA) rfl _ _ 32 RA.out Try.underlying35 rfl size_32 HCA.out ?_) | (refine wpList_load_var rfl 43 (.tmp 18) rfl gO rfl _ _ 10 RO.out Try.underlying43 rfl size_op rfl ?_))
    with_reducible refine (kd.out).mono ?_
    rintro e6 w6 ⟨A6, c6, s6, rfl, i6, of6, hb6⟩
    have IN := Lib.hid i6
    have HCN := Lib.hid i6.C32
    have OFN := Lib.hid (of6 gA (by have := RA.out.lt; omega) OFA.out)
    replace RA := Lib.hid (RA.out.to hb6)
    replace BK := Lib.hid (BK.out.trans (hb6.mono BK.out.size))
    have HCO := HCA
    clear i6 of6 hb6 kd HOK5 HOK RO
    go_upto_region 13 with (refine wpList_store_var rfl 35 (.tmp 11) (.tmp 100) rfl (gA) _ (agC A6 c6 s6 XX.1) 32 rfl rfl RA.out size_32 (by first | rfl | exact HCO.out) HCN.out (agC_one _) ?_; intro w_8 r_8 k_8; have R_8 := Lib.hid r_8; have K_8 := Lib.hid k_8; clear r_8 k_8)
    have IN8 := Lib.hid (IN.out.onlyO K_8.out OFN.out)
    have BK8 := Lib.hid (K_8.out.to BK.out hwA)
    obtain ⟨g2, hg2⟩ : ∃ g2, XX.1 = g2 := ⟨_, rfl⟩
    rw [hg2] at IN8 OFN HCN HRN
    have R8 : Hid (RowAt w_8 gA 35 (agC A6 c6 s6 g2)) := Lib.hid (by rw [← hg2]; exact R_8.out)
    clear R_8 RA IA OFA IN K_8 BK HCA HCO HR hlA
    obtain ⟨t1, ht1⟩ : ∃ x, g2.tx / 65536 = x := ⟨_, rfl⟩
    obtain ⟨t2, ht2⟩ : ∃ x, g2.tx % 65536 = x := ⟨_, rfl⟩
    obtain ⟨c1_, hc1⟩ : ∃ x, g2.la / 65536 = x := ⟨_, rfl⟩
    obtain ⟨c2_, hc2⟩ : ∃ x, g2.la % 65536 = x := ⟨_, rfl⟩
    obtain ⟨m, hm⟩ : ∃ m, (ssThere g2.S).length = m := ⟨_, rfl⟩
    have hm8 : m ≤ 8 := by have := ssThere_length g2.S; rw [IN8.out.S8] at this; omega
    have ot := or_parts g2.tx t1 t2 IN8.out.tx ht1 ht2
    have oc := or_parts g2.la c1_ c2_ IN8.out.la hc1 hc2
    have hst := st8_right HRN.out
    rw [ht1, ht2, hc1, hc2, hm] at hst
    have ks := Lib.hid (status_any w_8 IN8.out)
    rw [hst] at ks
    have kb := Lib.hid (fun W (hW : Below w_8.heap.size w_8 W) => blocks_S W (IN8.out.st.to hW))
    have H25 := IN8.out.C25
    have HZ : Hid ((Try.prog.info? 33).map (·.size) = some s6.C.length) := Lib.hid (by rw [H25]; exact size_25)
    have HM := Lib.hid hm
    have hph : g2.ph < 256 := IN8.out.ph
    have ht1b : t1 < 65536 := by have := IN8.out.tx; omega
    have ht2b : t2 < 65536 := by omega
    have hc1b : c1_ < 65536 := by have := IN8.out.la; omega
    have hc2b : c2_ < 65536 := by omega
    have HG2 := Lib.hid hg2
    clear hst ht1 ht2 hc1 hc2 hm hg2
    go_wp2_with (refine wpList_load_var rfl 35 (.tmp 11) rfl (gA) rfl _ _ 32 R8.out Try.underlying35 rfl size_32 HCN.out ?_)
    with_reducible refine (ks.out).mono ?_
    rintro e9 w9 ⟨hb9, g9, hg9, rfl, sq9⟩
    have B9 := Lib.hid hb9
    replace R8 := Lib.hid (R8.out.to hb9)
    have cc : ∀ j x : Nat, ([g2.l.o, g2.ph, t1, t2, c1_, c2_, m, 0] : List Nat)[j]? = some x → w9.cell? ⟨g9, j, none⟩ = some (.int .u16 (x : Int)) := fun (j x : Nat) hx => by
      obtain ⟨b', o', x', hA, _, hx', hc⟩ := sq9.at_ (j := j) (List.getElem?_eq_some_iff.1 hx).1
      cases hA
      rw [hx] at hx'
      cases hx'
      rw [Nat.zero_add] at hc
      exact hc
    have d0 := cc 0 _ rfl
    have d1 := cc 1 _ rfl
    have d2 := cc 2 _ rfl
    have d3 := cc 3 _ rfl
    have d4 := cc 4 _ rfl
    have d5 := cc 5 _ rfl
    have d6 := cc 6 _ rfl
    have d7 : w9.cell? ⟨g9, 7, none⟩ = some (.int .u16 0) := cc 7 0 rfl
    have x1 : w9.cell? ⟨gA, 1, none⟩ = some (.int .u16 (g2.l.o : Int)) := R8.out.cells 1
    have x3 : w9.cell? ⟨gA, 3, none⟩ = some (.int .u8 (g2.ph : Int)) := R8.out.cells 3
    have x4 : w9.cell? ⟨gA, 4, none⟩ = some (.int .u32 (g2.tx : Int)) := R8.out.cells 4
    have x5 : w9.cell? ⟨gA, 5, none⟩ = some (.int .u32 (g2.la : Int)) := R8.out.cells 5
    have wp := wrap_u16_in g2.ph (by omega)
    have wr1 := wrap_u32_hi t1 (by omega)
    have wr2 := wrap_u32_hi c1_ (by omega)
    have wi := wrap_i64_in m (by omega)
    have em : ((m : Int) != (m : Int)) = false := by simp
    have wq1 := wrap_u32_in t1 (by omega)
    have wq2 := wrap_u32_in t2 (by omega)
    have wq3 := wrap_u32_in c1_ (by omega)
    have wq4 := wrap_u32_in c2_ (by omega)
    have hg9l : g9 < w9.heap.size := (sq9.at_ (j := 0) (by simp)).choose_spec.choose_spec.choose_spec.2.1 |> fun h => by
      obtain ⟨b', o', x', hA, hb', _⟩ := sq9.at_ (j := 0) (by simp)
      cases hA
      exact hb'
    have hgAl := R8.out.lt
    have SQ9 := Lib.hid sq9
    clear cc hb9 sq9 ks
    have HG := Lib.hid (R8.out.stage H25)
    go_upto_region 14 with fail
    refine wp_region_held_drew (S := (fun w' => RowAt w' gA 35 (agC A6 c6 s6 g2) ∧ w'.cell? ⟨g9, 0, none⟩ = some (.int .u16 (g2.l.o : Int)) ∧ w'.cell? ⟨g9, 1, none⟩ = some (.int .u16 (g2.ph : Int)) ∧ w'.cell? ⟨g9, 2, none⟩ = some (.int .u16 (t1 : Int)) ∧ w'.cell? ⟨g9, 3, none⟩ = some (.int .u16 (t2 : Int)) ∧ w'.cell? ⟨g9, 4, none⟩ = some (.int .u16 (c1_ : Int)) ∧ w'.cell? ⟨g9, 5, none⟩ = some (.int .u16 (c2_ : Int)) ∧ w'.cell? ⟨g9, 6, none⟩ = some (.int .u16 (m : Int)) ∧ w'.cell? ⟨g9, 7, none⟩ = some (.int .u16 0) ∧ w'.cell? ⟨gA, 1, none⟩ = some (.int .u16 (g2.l.o : Int)) ∧ w'.cell? ⟨gA, 3, none⟩ = some (.int .u8 (g2.ph : Int)) ∧ w'.cell? ⟨gA, 4, none⟩ = some (.int .u32 (g2.tx : Int)) ∧ w'.cell? ⟨gA, 5, none⟩ = some (.int .u32 (g2.la : Int)))) (by kernel_rfl) ?_ (fun hHeld => ?_)
    · exact ⟨R8.out, d0, d1, d2, d3, d4, d5, d6, d7, x1, x3, x4, x5⟩
    refine takeD (i := 0) (oi := _) (v := ?vv1) (d := some 104) rfl (by kernel_rfl) (by kernel_rfl) (by kernel_rfl) (by kernel_rfl) (fun _ _ _ h => h) (Or.inl ⟨by kernel_rfl, ?_⟩) (by assumption) ?_
    rotate_left 1
    · intro W_ hSw; (try dsimp only at hSw); go_simp; (first | done | with_reducible rfl)
    try simp only [Act.put, List.setIfInBounds_toArray, List.set_cons_zero, List.set_cons_succ]
    refine takeD (i := 1) (oi := _) (v := ?vv2) (d := some 105) rfl (by kernel_rfl) (by kernel_rfl) (by kernel_rfl) (by kernel_rfl) (fun _ _ _ h => h) (Or.inl ⟨by kernel_rfl, ?_⟩) (by assumption) ?_
    rotate_left 1
    · intro W_ hSw; (try dsimp only at hSw); go_simp; (first | done | with_reducible rfl)
    try simp only [Act.put, List.setIfInBounds_toArray, List.set_cons_zero, List.set_cons_succ]
    refine takeD (i := 2) (oi := _) (v := ?vv3) (d := some 106) rfl (by kernel_rfl) (by kernel_rfl) (by kernel_rfl) (by kernel_rfl) (fun _ _ _ h => h) (Or.inl ⟨by kernel_rfl, ?_⟩) (by assumption) ?_
    rotate_left 1
    · intro W_ hSw; (try dsimp only at hSw); go_simp; (first | done | with_reducible rfl)
    try simp only [Act.put, List.setIfInBounds_toArray, List.set_cons_zero, List.set_cons_succ]
    refine takeD (i := 3) (oi := _) (v := ?vv4) (d := some 107) rfl (by kernel_rfl) (by kernel_rfl) (by kernel_rfl) (by kernel_rfl) (fun _ _ _ h => h) (Or.inl ⟨by kernel_rfl, ?_⟩) (by assumption) ?_
    rotate_left 1
    · intro W_ hSw; (try dsimp only at hSw); go_simp; (first | done | with_reducible rfl)
    try simp only [Act.put, List.setIfInBounds_toArray, List.set_cons_zero, List.set_cons_succ]
    refine takeD (i := 4) (oi := _) (v := ?vv5) (d := some 108) rfl (by kernel_rfl) (by kernel_rfl) (by kernel_rfl) (by kernel_rfl) (fun _ _ _ h => h) (Or.inl ⟨by kernel_rfl, ?_⟩) (by assumption) ?_
    rotate_left 1
    · intro W_ hSw; (try dsimp only at hSw); go_simp; (first | done | with_reducible rfl)
    try simp only [Act.put, List.setIfInBounds_toArray, List.set_cons_zero, List.set_cons_succ]
    refine takeD (i := 5) (oi := _) (v := ?vv6) (d := some 109) rfl (by kernel_rfl) (by kernel_rfl) (by kernel_rfl) (by kernel_rfl) (fun _ _ _ h => h) (Or.inl ⟨by kernel_rfl, ?_⟩) (by assumption) ?_
    rotate_left 1
    · intro W_ hSw; (try dsimp only at hSw); go_simp; (first | done | with_reducible rfl)
    try simp only [Act.put, List.setIfInBounds_toArray, List.set_cons_zero, List.set_cons_succ]
    refine takeD (i := 6) (oi := _) (v := ?vv7) (d := some 110) rfl (by kernel_rfl) (by kernel_rfl) (by kernel_rfl) (by kernel_rfl) (fun _ _ _ h => h) (Or.inl ⟨by kernel_rfl, ?_⟩) (by assumption) ?_
    rotate_left 1
    · intro W_ hSw; (try dsimp only at hSw); go_simp; (first | done | with_reducible rfl)
    try simp only [Act.put, List.setIfInBounds_toArray, List.set_cons_zero, List.set_cons_succ]
    refine takeD (i := 7) (oi := _) (v := ?vv8) (d := some 111) rfl (by kernel_rfl) (by kernel_rfl) (by kernel_rfl) (by kernel_rfl) (fun _ _ _ h => h) (Or.inl ⟨by kernel_rfl, ?_⟩) (by assumption) ?_
    rotate_left 1
    · intro W_ hSw; (try dsimp only at hSw); go_simp; (first | done | with_reducible rfl)
    try simp only [Act.put, List.setIfInBounds_toArray, List.set_cons_zero, List.set_cons_succ]
    refine takeD (i := 8) (oi := _) (v := ?vv9) (d := some 112) rfl (by kernel_rfl) (by kernel_rfl) (by kernel_rfl) (by kernel_rfl) (fun _ _ _ h => h) (Or.inl ⟨by kernel_rfl, ?_⟩) (by assumption) ?_
    rotate_left 1
    · intro W_ hSw; (try dsimp only at hSw); go_simp; (first | done | with_reducible rfl)
    try simp only [Act.put, List.setIfInBounds_toArray, List.set_cons_zero, List.set_cons_succ]
    refine takeD (i := 9) (oi := _) (v := ?vv10) (d := some 113) rfl (by kernel_rfl) (by kernel_rfl) (by kernel_rfl) (by kernel_rfl) (fun _ _ _ h => h) (Or.inl ⟨by kernel_rfl, ?_⟩) (by assumption) ?_
    rotate_left 1
    · intro W_ hSw; (try dsimp only at hSw); go_simp; (first | done | with_reducible rfl)
    try simp only [Act.put, List.setIfInBounds_toArray, List.set_cons_zero, List.set_cons_succ]
    refine takeD (i := 10) (oi := _) (v := ?vv11) (d := some 114) rfl (by kernel_rfl) (by kernel_rfl) (by kernel_rfl) (by kernel_rfl) (fun _ _ _ h => h) (Or.inl ⟨by kernel_rfl, ?_⟩) (by assumption) ?_
    rotate_left 1
    · intro W_ hSw; (try dsimp only at hSw); go_simp; (first | done | with_reducible rfl)
    try simp only [Act.put, List.setIfInBounds_toArray, List.set_cons_zero, List.set_cons_succ]
    refine takeD (i := 11) (oi := _) (v := ?vv12) (d := some 115) rfl (by kernel_rfl) (by kernel_rfl) (by kernel_rfl) (by kernel_rfl) (fun _ _ _ h => h) (Or.inl ⟨by kernel_rfl, ?_⟩) (by assumption) ?_
    rotate_left 1
    · intro W_ hSw; (try dsimp only at hSw); go_simp; (first | done | with_reducible rfl)
    try simp only [Act.put, List.setIfInBounds_toArray, List.set_cons_zero, List.set_cons_succ]
    refine takeD (i := 12) (oi := _) (v := ?vv13) (d := some 116) rfl (by kernel_rfl) (by kernel_rfl) (by kernel_rfl) (by kernel_rfl) (fun _ _ _ h => h) (Or.inl ⟨by kernel_rfl, ?_⟩) (by assumption) ?_
    rotate_left 1
    · intro W_ hSw; (try dsimp only at hSw); go_simp; (first | done | with_reducible rfl)
    try simp only [Act.put, List.setIfInBounds_toArray, List.set_cons_zero, List.set_cons_succ]
    refine takeD (i := 13) (oi := _) (v := ?vv14) (d := some 117) rfl (by kernel_rfl) (by kernel_rfl) (by kernel_rfl) (by kernel_rfl) (fun _ _ _ h => h) (Or.inl ⟨by kernel_rfl, ?_⟩) (by assumption) ?_
    rotate_left 1
    · intro W_ hSw; (try dsimp only at hSw); go_simp; (first | done | with_reducible rfl)
    try simp only [Act.put, List.setIfInBounds_toArray, List.set_cons_zero, List.set_cons_succ]
    refine takeD (i := 14) (oi := _) (v := ?vv15) (d := some 118) rfl (by kernel_rfl) (by kernel_rfl) (by kernel_rfl) (by kernel_rfl) (fun _ _ _ h => h) (Or.inl ⟨by kernel_rfl, ?_⟩) (by assumption) ?_
    rotate_left 1
    · intro W_ hSw; (try dsimp only at hSw); go_simp; (first | done | with_reducible rfl)
    try simp only [Act.put, List.setIfInBounds_toArray, List.set_cons_zero, List.set_cons_succ]
    refine takeD (i := 15) (oi := _) (v := ?vv16) (d := some 119) rfl (by kernel_rfl) (by kernel_rfl) (by kernel_rfl) (by kernel_rfl) (fun _ _ _ h => h) (Or.inl ⟨by kernel_rfl, ?_⟩) (by assumption) ?_
    rotate_left 1
    · intro W_ hSw; (try dsimp only at hSw); go_simp; (first | done | with_reducible rfl)
    try simp only [Act.put, List.setIfInBounds_toArray, List.set_cons_zero, List.set_cons_succ]
    refine takeD (i := 16) (oi := _) (v := ?vv17) (d := some 120) rfl (by kernel_rfl) (by kernel_rfl) (by kernel_rfl) (by kernel_rfl) (fun _ _ _ h => h) (Or.inl ⟨by kernel_rfl, ?_⟩) (by assumption) ?_
    rotate_left 1
    · intro W_ hSw; (try dsimp only at hSw); go_simp; (first | done | with_reducible rfl)
    try simp only [Act.put, List.setIfInBounds_toArray, List.set_cons_zero, List.set_cons_succ]
    refine takeD (i := 17) (oi := _) (v := ?vv18) (d := some 121) rfl (by kernel_rfl) (by kernel_rfl) (by kernel_rfl) (by kernel_rfl) (fun _ _ _ h => h) (Or.inl ⟨by kernel_rfl, ?_⟩) (by assumption) ?_
    rotate_left 1
    · intro W_ hSw; (try dsimp only at hSw); go_simp; (first | done | with_reducible rfl)
    try simp only [Act.put, List.setIfInBounds_toArray, List.set_cons_zero, List.set_cons_succ]
    refine takeD (i := 18) (oi := _) (v := ?vv19) (d := some 122) rfl (by kernel_rfl) (by kernel_rfl) (by kernel_rfl) (by kernel_rfl) (fun _ _ _ h => h) (Or.inl ⟨by kernel_rfl, ?_⟩) (by assumption) ?_
    rotate_left 1
    · intro W_ hSw; (try dsimp only at hSw); go_simp; (first | done | with_reducible rfl)
    try simp only [Act.put, List.setIfInBounds_toArray, List.set_cons_zero, List.set_cons_succ]
    refine takeD (i := 19) (oi := _) (v := ?vv20) (d := some 123) rfl (by kernel_rfl) (by kernel_rfl) (by kernel_rfl) (by kernel_rfl) (fun _ _ _ h => h) (Or.inl ⟨by kernel_rfl, ?_⟩) (by assumption) ?_
    rotate_left 1
    · intro W_ hSw; (try dsimp only at hSw); go_simp; (first | done | with_reducible rfl)
    try simp only [Act.put, List.setIfInBounds_toArray, List.set_cons_zero, List.set_cons_succ]
    refine takeD (i := 20) (oi := _) (v := ?vv21) (d := some 124) rfl (by kernel_rfl) (by kernel_rfl) (by kernel_rfl) (by kernel_rfl) (fun _ _ _ h => h) (Or.inl ⟨by kernel_rfl, ?_⟩) (by assumption) ?_
    rotate_left 1
    · intro W_ hSw; (try dsimp only at hSw); go_simp; (first | done | with_reducible rfl)
    try simp only [Act.put, List.setIfInBounds_toArray, List.set_cons_zero, List.set_cons_succ]
    refine takeD (i := 21) (oi := _) (v := ?vv22) (d := some 125) rfl (by kernel_rfl) (by kernel_rfl) (by kernel_rfl) (by kernel_rfl) (fun _ _ _ h => h) (Or.inl ⟨by kernel_rfl, ?_⟩) (by assumption) ?_
    rotate_left 1
    · intro W_ hSw; (try dsimp only at hSw); go_simp; (first | done | with_reducible rfl)
    try simp only [Act.put, List.setIfInBounds_toArray, List.set_cons_zero, List.set_cons_succ]
    refine takeD (i := 22) (oi := _) (v := ?vv23) (d := some 126) rfl (by kernel_rfl) (by kernel_rfl) (by kernel_rfl) (by kernel_rfl) (fun _ _ _ h => h) (Or.inl ⟨by kernel_rfl, ?_⟩) (by assumption) ?_
    rotate_left 1
    · intro W_ hSw; (try dsimp only at hSw); go_simp; (first | done | with_reducible rfl)
    try simp only [Act.put, List.setIfInBounds_toArray, List.set_cons_zero, List.set_cons_succ]
    refine takeD (i := 23) (oi := _) (v := ?vv24) (d := some 127) rfl (by kernel_rfl) (by kernel_rfl) (by kernel_rfl) (by kernel_rfl) (fun _ _ _ h => h) (Or.inl ⟨by kernel_rfl, ?_⟩) (by assumption) ?_
    rotate_left 1
    · intro W_ hSw; (try dsimp only at hSw); go_simp; (first | done | with_reducible rfl)
    try simp only [Act.put, List.setIfInBounds_toArray, List.set_cons_zero, List.set_cons_succ]
    refine takeD (i := 24) (oi := _) (v := ?vv25) (d := some 128) rfl (by kernel_rfl) (by kernel_rfl) (by kernel_rfl) (by kernel_rfl) (fun _ _ _ h => h) (Or.inl ⟨by kernel_rfl, ?_⟩) (by assumption) ?_
    rotate_left 1
    · intro W_ hSw; (try dsimp only at hSw); go_simp; (first | done | with_reducible rfl)
    try simp only [Act.put, List.setIfInBounds_toArray, List.set_cons_zero, List.set_cons_succ]
    refine takeD (i := 25) (oi := _) (v := ?vv26) (d := some 129) rfl (by kernel_rfl) (by kernel_rfl) (by kernel_rfl) (by kernel_rfl) (fun _ _ _ h => h) (Or.inl ⟨by kernel_rfl, ?_⟩) (by assumption) ?_
    rotate_left 1
    · intro W_ hSw; (try dsimp only at hSw); go_simp; (first | done | with_reducible rfl)
    try simp only [Act.put, List.setIfInBounds_toArray, List.set_cons_zero, List.set_cons_succ]
    refine takeD (i := 26) (oi := _) (v := ?vv27) (d := some 130) rfl (by kernel_rfl) (by kernel_rfl) (by kernel_rfl) (by kernel_rfl) (fun _ _ _ h => h) (Or.inl ⟨by kernel_rfl, ?_⟩) (by assumption) ?_
    rotate_left 1
    · intro W_ hSw; (try dsimp only at hSw); go_simp; (first | done | with_reducible rfl)
    try simp only [Act.put, List.setIfInBounds_toArray, List.set_cons_zero, List.set_cons_succ]
    refine takeD (i := 27) (oi := _) (v := ?vv28) (d := some 131) rfl (by kernel_rfl) (by kernel_rfl) (by kernel_rfl) (by kernel_rfl) (fun _ _ _ h => h) (Or.inl ⟨by kernel_rfl, ?_⟩) (by assumption) ?_
    rotate_left 1
    · intro W_ hSw; (try dsimp only at hSw); go_simp; (first | done | with_reducible rfl)
    try simp only [Act.put, List.setIfInBounds_toArray, List.set_cons_zero, List.set_cons_succ]
    refine takeD (i := 28) (oi := _) (v := ?vv29) (d := some 132) rfl (by kernel_rfl) (by kernel_rfl) (by kernel_rfl) (by kernel_rfl) (fun _ _ _ h => h) (Or.inl ⟨by kernel_rfl, ?_⟩) (by assumption) ?_
    rotate_left 1
    · intro W_ hSw; (try dsimp only at hSw); go_simp; (first | done | with_reducible rfl)
    try simp only [Act.put, List.setIfInBounds_toArray, List.set_cons_zero, List.set_cons_succ]
    refine takeD (i := 29) (oi := _) (v := ?vv30) (d := some 133) rfl (by kernel_rfl) (by kernel_rfl) (by kernel_rfl) (by kernel_rfl) (fun _ _ _ h => h) (Or.inl ⟨by kernel_rfl, ?_⟩) (by assumption) ?_
    rotate_left 1
    · intro W_ hSw; (try dsimp only at hSw); go_simp; (first | done | with_reducible rfl)
    try simp only [Act.put, List.setIfInBounds_toArray, List.set_cons_zero, List.set_cons_succ]
    refine takeD (i := 30) (oi := _) (v := ?vv31) (d := some 134) rfl (by kernel_rfl) (by kernel_rfl) (by kernel_rfl) (by kernel_rfl) (fun _ _ _ h => h) (Or.inl ⟨by kernel_rfl, ?_⟩) (by assumption) ?_
    rotate_left 1
    · intro W_ hSw; (try dsimp only at hSw); go_simp; (first | done | with_reducible rfl)
    try simp only [Act.put, List.setIfInBounds_toArray, List.set_cons_zero, List.set_cons_succ]
    refine takeD (i := 31) (oi := _) (v := ?vv32) (d := some 135) rfl (by kernel_rfl) (by kernel_rfl) (by kernel_rfl) (by kernel_rfl) (fun _ _ _ h => h) (Or.inl ⟨by kernel_rfl, ?_⟩) (by assumption) ?_
    rotate_left 1
    · intro W_ hSw; (try dsimp only at hSw); go_simp; (first | done | with_reducible rfl)
    try simp only [Act.put, List.setIfInBounds_toArray, List.set_cons_zero, List.set_cons_succ]
    refine takeD (i := 32) (oi := _) (v := ?vv33) (d := some 136) rfl (by kernel_rfl) (by kernel_rfl) (by kernel_rfl) (by kernel_rfl) (fun _ _ _ h => h) (Or.inl ⟨by kernel_rfl, ?_⟩) (by assumption) ?_
    rotate_left 1
    · intro W_ hSw; (try dsimp only at hSw); go_simp; (first | done | with_reducible rfl)
    try simp only [Act.put, List.setIfInBounds_toArray, List.set_cons_zero, List.set_cons_succ]
    refine takeD (i := 33) (oi := _) (v := ?vv34) (d := some 137) rfl (by kernel_rfl) (by kernel_rfl) (by kernel_rfl) (by kernel_rfl) (fun _ _ _ h => h) (Or.inl ⟨by kernel_rfl, ?_⟩) (by assumption) ?_
    rotate_left 1
    · intro W_ hSw; (try dsimp only at hSw); go_simp; (first | done | with_reducible rfl)
    try simp only [Act.put, List.setIfInBounds_toArray, List.set_cons_zero, List.set_cons_succ]
    refine takeD (i := 34) (oi := _) (v := ?vv35) (d := some 138) rfl (by kernel_rfl) (by kernel_rfl) (by kernel_rfl) (by kernel_rfl) (fun _ _ _ h => h) (Or.inl ⟨by kernel_rfl, ?_⟩) (by assumption) ?_
    rotate_left 1
    · intro W_ hSw; (try dsimp only at hSw); go_simp; (first | done | with_reducible rfl)
    try simp only [Act.put, List.setIfInBounds_toArray, List.set_cons_zero, List.set_cons_succ]
    refine takeD (i := 35) (oi := _) (v := ?vv36) (d := some 139) rfl (by kernel_rfl) (by kernel_rfl) (by kernel_rfl) (by kernel_rfl) (fun _ _ _ h => h) (Or.inl ⟨by kernel_rfl, ?_⟩) (by assumption) ?_
    rotate_left 1
    · intro W_ hSw; (try dsimp only at hSw); go_simp; (first | done | with_reducible rfl)
    try simp only [Act.put, List.setIfInBounds_toArray, List.set_cons_zero, List.set_cons_succ]
    refine takeD (i := 36) (oi := _) (v := ?vv37) (d := some 140) rfl (by kernel_rfl) (by kernel_rfl) (by kernel_rfl) (by kernel_rfl) (fun _ _ _ h => h) (Or.inl ⟨by kernel_rfl, ?_⟩) (by assumption) ?_
    rotate_left 1
    · intro W_ hSw; (try dsimp only at hSw); go_simp; (first | done | with_reducible rfl)
    try simp only [Act.put, List.setIfInBounds_toArray, List.set_cons_zero, List.set_cons_succ]
    refine takeD (i := 37) (oi := _) (v := ?vv38) (d := some 141) rfl (by kernel_rfl) (by kernel_rfl) (by kernel_rfl) (by kernel_rfl) (fun _ _ _ h => h) (Or.inl ⟨by kernel_rfl, ?_⟩) (by assumption) ?_
    rotate_left 1
    · intro W_ hSw; (try dsimp only at hSw); go_simp; (first | done | with_reducible rfl)
    try simp only [Act.put, List.setIfInBounds_toArray, List.set_cons_zero, List.set_cons_succ]
    refine takeD (i := 38) (oi := _) (v := ?vv39) (d := some 142) rfl (by kernel_rfl) (by kernel_rfl) (by kernel_rfl) (by kernel_rfl) (fun _ _ _ h => h) (Or.inl ⟨by kernel_rfl, ?_⟩) (by assumption) ?_
    rotate_left 1
    · intro W_ hSw; (try dsimp only at hSw); go_simp; (first | done | with_reducible rfl)
    try simp only [Act.put, List.setIfInBounds_toArray, List.set_cons_zero, List.set_cons_succ]
    refine takeD (i := 39) (oi := _) (v := ?vv40) (d := some 143) rfl (by kernel_rfl) (by kernel_rfl) (by kernel_rfl) (by kernel_rfl) (fun _ _ _ h => h) (Or.inl ⟨by kernel_rfl, ?_⟩) (by assumption) ?_
    rotate_left 1
    · intro W_ hSw; (try dsimp only at hSw); go_simp; (first | done | with_reducible rfl)
    try simp only [Act.put, List.setIfInBounds_toArray, List.set_cons_zero, List.set_cons_succ]
    refine takeD (i := 40) (oi := _) (v := ?vv41) (d := some 144) rfl (by kernel_rfl) (by kernel_rfl) (by kernel_rfl) (by kernel_rfl) (fun _ _ _ h => h) (Or.inl ⟨by kernel_rfl, ?_⟩) (by assumption) ?_
    rotate_left 1
    · intro W_ hSw; (try dsimp only at hSw); go_simp; (first | done | with_reducible rfl)
    try simp only [Act.put, List.setIfInBounds_toArray, List.set_cons_zero, List.set_cons_succ]
    refine takeD (i := 41) (oi := _) (v := ?vv42) (d := some 145) rfl (by kernel_rfl) (by kernel_rfl) (by kernel_rfl) (by kernel_rfl) (fun _ _ _ h => h) (Or.inl ⟨by kernel_rfl, ?_⟩) (by assumption) ?_
    rotate_left 1
    · intro W_ hSw; (try dsimp only at hSw); go_simp; (first | done | with_reducible rfl)
    try simp only [Act.put, List.setIfInBounds_toArray, List.set_cons_zero, List.set_cons_succ]
    refine takeD (i := 42) (oi := _) (v := ?vv43) (d := some 146) rfl (by kernel_rfl) (by kernel_rfl) (by kernel_rfl) (by kernel_rfl) (fun _ _ _ h => h) (Or.inl ⟨by kernel_rfl, ?_⟩) (by assumption) ?_
    rotate_left 1
    · intro W_ hSw; (try dsimp only at hSw); go_simp; (first | done | with_reducible rfl)
    try simp only [Act.put, List.setIfInBounds_toArray, List.set_cons_zero, List.set_cons_succ]
    refine takeD (i := 43) (oi := _) (v := ?vv44) (d := some 147) rfl (by kernel_rfl) (by kernel_rfl) (by kernel_rfl) (by kernel_rfl) (fun _ _ _ h => h) (Or.inl ⟨by kernel_rfl, ?_⟩) (by assumption) ?_
    rotate_left 1
    · intro W_ hSw; (try dsimp only at hSw); go_simp; (first | done | with_reducible rfl)
    try simp only [Act.put, List.setIfInBounds_toArray, List.set_cons_zero, List.set_cons_succ]
    refine takeD (i := 44) (oi := _) (v := ?vv45) (d := some 148) rfl (by kernel_rfl) (by kernel_rfl) (by kernel_rfl) (by kernel_rfl) (fun _ _ _ h => h) (Or.inl ⟨by kernel_rfl, ?_⟩) (by assumption) ?_
    rotate_left 1
    · intro W_ hSw; (try dsimp only at hSw); go_simp; (first | done | with_reducible rfl)
    try simp only [Act.put, List.setIfInBounds_toArray, List.set_cons_zero, List.set_cons_succ]
    refine takeD (i := 45) (oi := _) (v := ?vv46) (d := some 149) rfl (by kernel_rfl) (by kernel_rfl) (by kernel_rfl) (by kernel_rfl) (fun _ _ _ h => h) (Or.inl ⟨by kernel_rfl, ?_⟩) (by assumption) ?_
    rotate_left 1
    · intro W_ hSw; (try dsimp only at hSw); go_simp; (first | done | with_reducible rfl)
    try simp only [Act.put, List.setIfInBounds_toArray, List.set_cons_zero, List.set_cons_succ]
    refine takeD (i := 46) (oi := _) (v := ?vv47) (d := some 150) rfl (by kernel_rfl) (by kernel_rfl) (by kernel_rfl) (by kernel_rfl) (fun _ _ _ h => h) (Or.inl ⟨by kernel_rfl, ?_⟩) (by assumption) ?_
    rotate_left 1
    · intro W_ hSw; (try dsimp only at hSw); go_simp; (first | done | with_reducible rfl)
    try simp only [Act.put, List.setIfInBounds_toArray, List.set_cons_zero, List.set_cons_succ]
    refine takeD (i := 47) (oi := _) (v := ?vv48) (d := some 151) rfl (by kernel_rfl) (by kernel_rfl) (by kernel_rfl) (by kernel_rfl) (fun _ _ _ h => h) (Or.inl ⟨by kernel_rfl, ?_⟩) (by assumption) ?_
    rotate_left 1
    · intro W_ hSw; (try dsimp only at hSw); go_simp; (first | done | with_reducible rfl)
    try simp only [Act.put, List.setIfInBounds_toArray, List.set_cons_zero, List.set_cons_succ]
    refine takeD (i := 48) (oi := _) (v := ?vv49) (d := some 152) rfl (by kernel_rfl) (by kernel_rfl) (by kernel_rfl) (by kernel_rfl) (fun _ _ _ h => h) (Or.inl ⟨by kernel_rfl, ?_⟩) (by assumption) ?_
    rotate_left 1
    · intro W_ hSw; (try dsimp only at hSw); go_simp; (first | done | with_reducible rfl)
    try simp only [Act.put, List.setIfInBounds_toArray, List.set_cons_zero, List.set_cons_succ]
    refine takeD (i := 49) (oi := _) (v := ?vv50) (d := some 153) rfl (by kernel_rfl) (by kernel_rfl) (by kernel_rfl) (by kernel_rfl) (fun _ _ _ h => h) (Or.inl ⟨by kernel_rfl, ?_⟩) (by assumption) ?_
    rotate_left 1
    · intro W_ hSw; (try dsimp only at hSw); go_simp; (first | done | with_reducible rfl)
    try simp only [Act.put, List.setIfInBounds_toArray, List.set_cons_zero, List.set_cons_succ]
    refine takeD (i := 50) (oi := _) (v := ?vv51) (d := some 154) rfl (by kernel_rfl) (by kernel_rfl) (by kernel_rfl) (by kernel_rfl) (fun _ _ _ h => h) (Or.inl ⟨by kernel_rfl, ?_⟩) (by assumption) ?_
    rotate_left 1
    · intro W_ hSw; (try dsimp only at hSw); go_simp; (first | done | with_reducible rfl)
    try simp only [Act.put, List.setIfInBounds_toArray, List.set_cons_zero, List.set_cons_succ]
    refine takeD (i := 51) (oi := _) (v := ?vv52) (d := some 155) rfl (by kernel_rfl) (by kernel_rfl) (by kernel_rfl) (by kernel_rfl) (fun _ _ _ h => h) (Or.inl ⟨by kernel_rfl, ?_⟩) (by assumption) ?_
    rotate_left 1
    · intro W_ hSw; (try dsimp only at hSw); go_simp; (first | done | with_reducible rfl)
    try simp only [Act.put, List.setIfInBounds_toArray, List.set_cons_zero, List.set_cons_succ]
    refine takeD (i := 52) (oi := _) (v := ?vv53) (d := some 156) rfl (by kernel_rfl) (by kernel_rfl) (by kernel_rfl) (by kernel_rfl) (fun _ _ _ h => h) (Or.inl ⟨by kernel_rfl, ?_⟩) (by assumption) ?_
    rotate_left 1
    · intro W_ hSw; (try dsimp only at hSw); go_simp; (first | done | with_reducible rfl)
    try simp only [Act.put, List.setIfInBounds_toArray, List.set_cons_zero, List.set_cons_succ]
    refine takeD (i := 53) (oi := _) (v := ?vv54) (d := some 157) rfl (by kernel_rfl) (by kernel_rfl) (by kernel_rfl) (by kernel_rfl) (fun _ _ _ h => h) (Or.inl ⟨by kernel_rfl, ?_⟩) (by assumption) ?_
    rotate_left 1
    · intro W_ hSw; (try dsimp only at hSw); go_simp; (first | done | with_reducible rfl)
    try simp only [Act.put, List.setIfInBounds_toArray, List.set_cons_zero, List.set_cons_succ]
    refine takeD (i := 54) (oi := _) (v := ?vv55) (d := some 158) rfl (by kernel_rfl) (by kernel_rfl) (by kernel_rfl) (by kernel_rfl) (fun _ _ _ h => h) (Or.inl ⟨by kernel_rfl, ?_⟩) (by assumption) ?_
    rotate_left 1
    · intro W_ hSw; (try dsimp only at hSw); go_simp; (first | done | with_reducible rfl)
    try simp only [Act.put, List.setIfInBounds_toArray, List.set_cons_zero, List.set_cons_succ]
    refine takeD (i := 55) (oi := _) (v := ?vv56) (d := some 159) rfl (by kernel_rfl) (by kernel_rfl) (by kernel_rfl) (by kernel_rfl) (fun _ _ _ h => h) (Or.inl ⟨by kernel_rfl, ?_⟩) (by assumption) ?_
    rotate_left 1
    · intro W_ hSw; (try dsimp only at hSw); go_simp; (first | done | with_reducible rfl)
    try simp only [Act.put, List.setIfInBounds_toArray, List.set_cons_zero, List.set_cons_succ]
    refine takeD (i := 56) (oi := _) (v := ?vv57) (d := some 160) rfl (by kernel_rfl) (by kernel_rfl) (by kernel_rfl) (by kernel_rfl) (fun _ _ _ h => h) (Or.inl ⟨by kernel_rfl, ?_⟩) (by assumption) ?_
    rotate_left 1
    · intro W_ hSw; (try dsimp only at hSw); go_simp; (first | done | with_reducible rfl)
    try simp only [Act.put, List.setIfInBounds_toArray, List.set_cons_zero, List.set_cons_succ]
    refine takeD (i := 57) (oi := _) (v := _) (d := some 161) rfl (by kernel_rfl) (by kernel_rfl) (by kernel_rfl) (by kernel_rfl) (fun _ _ _ h => h) (yieldsIf_load_mid (by kernel_rfl) 33 (.tmp 160) (by kernel_rfl) gA 6 (by kernel_rfl) s6.C _ (fun W h => h.1.stage H25) Try.underlying33 rfl HZ.out) (by assumption) ?_
    try simp only [Act.put, List.setIfInBounds_toArray, List.set_cons_zero, List.set_cons_succ]
    refine wpAnyH_ready (rs := [58]) (by kernel_rfl) (by simp) ?_
    refine AllReadyH.cons (o := _) rfl (fun K hK => ?_) AllReadyH.nil
    go_simp
    (go_at_call 17; (with_reducible refine (kb.out _ B9.out.drew).mono ?_); rintro e10 w10 ⟨Ab_, cb_, bl, rfl, hp, hB, hl, hc, hn, hb10⟩; have hbm : bl.length = m := (by have := congrArg List.length hp; rw [← HM.out, ← this]; simp); rw [hbm])
    go_wp2_with fail
    refine hK.out _ _ ?_ (fun hHeld => ?_)
    · exact ⟨R8.out.drew.to hb10, (hb10.cell (p := ⟨g9, 0, none⟩) hg9l).trans d0, (hb10.cell (p := ⟨g9, 1, none⟩) hg9l).trans d1, (hb10.cell (p := ⟨g9, 2, none⟩) hg9l).trans d2, (hb10.cell (p := ⟨g9, 3, none⟩) hg9l).trans d3, (hb10.cell (p := ⟨g9, 4, none⟩) hg9l).trans d4, (hb10.cell (p := ⟨g9, 5, none⟩) hg9l).trans d5, (hb10.cell (p := ⟨g9, 6, none⟩) hg9l).trans d6, (hb10.cell (p := ⟨g9, 7, none⟩) hg9l).trans d7, (R8.out.drew.to hb10).cells 1, (R8.out.drew.to hb10).cells 3, (R8.out.drew.to hb10).cells 4, (R8.out.drew.to hb10).cells 5⟩
    clear hK K
    try simp only [Act.put, List.setIfInBounds_toArray, List.set_cons_zero, List.set_cons_succ]
    refine takeD (i := 59) (oi := _) (v := ?vv58) (d := some 163) rfl (by kernel_rfl) (by kernel_rfl) (by kernel_rfl) (by kernel_rfl) (fun _ _ _ h => h) (Or.inl ⟨by kernel_rfl, ?_⟩) (by assumption) ?_
    rotate_left 1
    · intro W_ hSw; (try dsimp only at hSw); go_simp; (first | done | with_reducible rfl)
    try simp only [Act.put, List.setIfInBounds_toArray, List.set_cons_zero, List.set_cons_succ]
    refine takeD (i := 60) (oi := _) (v := ?vv59) (d := some 164) rfl (by kernel_rfl) (by kernel_rfl) (by kernel_rfl) (by kernel_rfl) (fun _ _ _ h => h) (Or.inl ⟨by kernel_rfl, ?_⟩) (by assumption) ?_
    rotate_left 1
    · intro W_ hSw; (try dsimp only at hSw); go_simp; (first | done | with_reducible rfl)
    try simp only [Act.put, List.setIfInBounds_toArray, List.set_cons_zero, List.set_cons_succ]
    refine takeD (i := 61) (oi := _) (v := ?vv60) (d := some 165) rfl (by kernel_rfl) (by kernel_rfl) (by kernel_rfl) (by kernel_rfl) (fun _ _ _ h => h) (Or.inl ⟨by kernel_rfl, ?_⟩) (by assumption) ?_
    rotate_left 1
    · intro W_ hSw; (try dsimp only at hSw); go_simp; (first | done | with_reducible rfl)
    try simp only [Act.put, List.setIfInBounds_toArray, List.set_cons_zero, List.set_cons_succ]
    refine takeD (i := 62) (oi := _) (v := ?vv61) (d := some 166) rfl (by kernel_rfl) (by kernel_rfl) (by kernel_rfl) (by kernel_rfl) (fun _ _ _ h => h) (Or.inl ⟨by kernel_rfl, ?_⟩) (by assumption) ?_
    rotate_left 1
    · intro W_ hSw; (try dsimp only at hSw); go_simp; (first | done | with_reducible rfl)
    try simp only [Act.put, List.setIfInBounds_toArray, List.set_cons_zero, List.set_cons_succ]
    refine takeD (i := 63) (oi := _) (v := ?vv62) (d := some 167) rfl (by kernel_rfl) (by kernel_rfl) (by kernel_rfl) (by kernel_rfl) (fun _ _ _ h => h) (Or.inl ⟨by kernel_rfl, ?_⟩) (by assumption) ?_
    rotate_left 1
    · intro W_ hSw; (try dsimp only at hSw); go_simp; (first | done | with_reducible rfl)
    try simp only [Act.put, List.setIfInBounds_toArray, List.set_cons_zero, List.set_cons_succ]
    refine takeD (i := 64) (oi := _) (v := ?vv63) (d := some 168) rfl (by kernel_rfl) (by kernel_rfl) (by kernel_rfl) (by kernel_rfl) (fun _ _ _ h => h) (Or.inl ⟨by kernel_rfl, ?_⟩) (by assumption) ?_
    rotate_left 1
    · intro W_ hSw; (try dsimp only at hSw); go_simp; (first | done | with_reducible rfl)
    try simp only [Act.put, List.setIfInBounds_toArray, List.set_cons_zero, List.set_cons_succ]
    refine takeD (i := 65) (oi := _) (v := ?vv64) (d := some 169) rfl (by kernel_rfl) (by kernel_rfl) (by kernel_rfl) (by kernel_rfl) (fun _ _ _ h => h) (Or.inl ⟨by kernel_rfl, ?_⟩) (by assumption) ?_
    rotate_left 1
    · intro W_ hSw; (try dsimp only at hSw); go_simp; (first | done | with_reducible rfl)
    try simp only [Act.put, List.setIfInBounds_toArray, List.set_cons_zero, List.set_cons_succ]
    refine takeD (i := 66) (oi := _) (v := ?vv65) (d := some 170) rfl (by kernel_rfl) (by kernel_rfl) (by kernel_rfl) (by kernel_rfl) (fun _ _ _ h => h) (Or.inl ⟨by kernel_rfl, ?_⟩) (by assumption) ?_
    rotate_left 1
    · intro W_ hSw; (try dsimp only at hSw); go_simp; (first | done | with_reducible rfl)
    try simp only [Act.put, List.setIfInBounds_toArray, List.set_cons_zero, List.set_cons_succ]
    refine takeD (i := 67) (oi := _) (v := ?vv66) (d := some 171) rfl (by kernel_rfl) (by kernel_rfl) (by kernel_rfl) (by kernel_rfl) (fun _ _ _ h => h) (Or.inl ⟨by kernel_rfl, ?_⟩) (by assumption) ?_
    rotate_left 1
    · intro W_ hSw; (try dsimp only at hSw); go_simp; (first | done | with_reducible rfl)
    try simp only [Act.put, List.setIfInBounds_toArray, List.set_cons_zero, List.set_cons_succ]
    refine wpAnyH_done (by kernel_rfl) ?_ _
    have B10 := Lib.hid (B9.out.drew.trans (hb10.mono B9.out.size))
    replace hb10 : Below w9.heap.size w9 w10 := (Below.refl _ _).drew.trans (hb10.mono (Nat.le_refl _))
    replace R8 := Lib.hid (R8.out.to hb10)
    have I10 := Lib.hid (IN8.out.to B10.out)
    have BK10 := Lib.hid (BK8.out.trans (B10.out.mono BK8.out.size))
    clear hp hB hl hc hn hb10 hbm
    go_wp2
    go_roundw
    case rel => exact ⟨k + 1, g2, A6, c6, s6, by omega, by go_num, HRN, R8, I10, OFN, BK10⟩
    case measure => simp [intOf]; omega
end Go.Proofs.Ytajbghjjpebndaa
