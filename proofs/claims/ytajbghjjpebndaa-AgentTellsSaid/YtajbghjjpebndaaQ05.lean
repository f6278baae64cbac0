/- The comparisons of rows of words: saucierlow.Words, slices.Equal. words.Wide and words.Parts. The walks of package stage: words of a block. -/
import Derived.Test.YtajbghjjpebndaaQ04
import Derived.Test.YtajbghjjpebndaaQ02
namespace Go.Proofs.Ytajbghjjpebndaa
set_option maxRecDepth 100000
open Go.RowKit
set_option linter.unusedVariables false
attribute [local go_sem] Later.cell Later.frozen setCell_twice

set_option maxHeartbeats 1000000 in
theorem lowWords_all (A B : Option Addr) (la lb : List Nat) (ca cb : Nat) (w : World) (ha : Sq (fun x : Nat => .int .u16 (x : Int)) w w.heap.size A la) (hb : Sq (fun x : Nat => .int .u16 (x : Int)) w w.heap.size B lb) (hn : la.length ≤ 140737488355328) :
    Calls Try.prog 15 #[.slice A la.length ca, .slice B lb.length cb] w fun e w' => e = .returned (.bool (decide (la = lb))) ∧ Below w.heap.size w w' := by
  by_cases hl : la.length = lb.length
  · have hl' : ((la.length : Int) != (lb.length : Int)) = false := by rw [bne_eq_false_iff_eq]; omega
    have HL := Lib.hid hl
    clear hl
    go_enter Try.func15, Try.ntmps15
    go_wp2
    go_loopw [13] (fun i wr => ∃ k : Nat, k ≤ la.length ∧ i = .int .i64 k ∧ la.take k = lb.take k ∧ Below w.heap.size w wr) (fun i _ => la.length - (intOf i).toNat)
    case atStart => exact ⟨0, by omega, rfl, by simp, Below.refl _ _⟩
    case round =>
      obtain ⟨k, hk, rfl, heq, hbel⟩ := hrel
      have HQ := Lib.hid heq
      clear heq
      by_cases hlt : k < la.length
      · have hlt2 : k < lb.length := by have := HL.out; omega
        obtain ⟨b1, o1, x, rfl, hb1, hx, hc1⟩ := ha.at_ hlt
        obtain ⟨b2, o2, y, rfl, hb2, hy, hc2⟩ := hb.at_ hlt2
        have d1 : wr.cell? ⟨b1, o1 + k, none⟩ = _ := (hbel.cell (p := ⟨b1, o1 + k, none⟩) hb1).trans hc1
        have d2 : wr.cell? ⟨b2, o2 + k, none⟩ = _ := (hbel.cell (p := ⟨b2, o2 + k, none⟩) hb2).trans hc2
        have g1 : b1 < wr.heap.size := Nat.lt_of_lt_of_le hb1 hbel.size
        have g2 : b2 < wr.heap.size := Nat.lt_of_lt_of_le hb2 hbel.size
        have e1 : (k : Int) < (la.length : Int) := by omega
        have e2 : (k : Int) < (lb.length : Int) := by omega
        have HX := Lib.hid hx
        have HY := Lib.hid hy
        clear hc1 hc2 hx hy
        try simp only at d1 d2
        by_cases hxy : x = y
        · subst hxy
          go_wp2
          refine wp_region_lat (by kernel_rfl) (by kernel_rfl) ?_
          repeat (go_big_quiet_step (fail))
          refine wpQuiet_nil ?_
          rintro _ ⟨x3, rfl⟩
          have hz_x3 := x3.bel.size
          try simp at hz_x3
          go_wp2
          go_roundw
          case rel => exact ⟨k + 1, by omega, by go_num, by rw [List.take_add_one, List.take_add_one, HQ.out, HX.out, HY.out], (by repeat (first | with_reducible exact Below.refl _ _ | with_reducible refine bel_later _ ?_ | with_reducible refine bel_alloc ?_ _ | refine bel_set ?_ (by first | omega | (simp; done) | (simp; omega)) _ | with_reducible refine Below.drew ?_ | with_reducible refine bel_drewN ?_ _ | with_reducible assumption | assumption))⟩
          case measure => simp [intOf]; omega
        · have hne : la ≠ lb := by
            intro h
            have h1 := HX.out
            rw [h, HY.out] at h1
            exact hxy (by simpa using h1.symm)
          have HD := Lib.hid (show decide (la = lb) = false by simpa using hne)
          have hxy' : ((x : Int) != (y : Int)) = true := by rw [bne_iff_ne]; omega
          clear hne
          go_wp2
          refine wp_region_lat (by kernel_rfl) (by kernel_rfl) ?_
          repeat (go_big_quiet_step (fail))
          refine wpQuiet_nil ?_
          rintro _ ⟨x3, rfl⟩
          have hz_x3 := x3.bel.size
          try simp at hz_x3
          go_wp2
          go_ret
          exact ⟨by rw [HD.out]; rfl, (by repeat (first | with_reducible exact Below.refl _ _ | with_reducible refine bel_later _ ?_ | with_reducible refine bel_alloc ?_ _ | refine bel_set ?_ (by first | omega | (simp; done) | (simp; omega)) _ | with_reducible refine Below.drew ?_ | with_reducible refine bel_drewN ?_ _ | with_reducible assumption | assumption))⟩
      · have hkl : k = la.length := by omega
        have HD : Hid (decide (la = lb) = true) := Lib.hid <| by
          have h1 := HQ.out
          rw [List.take_of_length_le (by omega), List.take_of_length_le (by have := HL.out; omega)] at h1
          simpa using h1
        go_wp2
        go_ret
        exact ⟨by rw [HD.out]; rfl, hbel⟩
  · have hl' : ((la.length : Int) != (lb.length : Int)) = true := by rw [bne_iff_ne]; omega
    have hd : decide (la = lb) = false := by simp; intro h; exact hl (by rw [h])
    rw [hd]
    clear hl hd
    go_enter Try.func15, Try.ntmps15
    go_wp2
    go_ret
    exact ⟨rfl, (by repeat (first | with_reducible exact Below.refl _ _ | with_reducible refine bel_later _ ?_ | with_reducible refine bel_alloc ?_ _ | refine bel_set ?_ (by first | omega | (simp; done) | (simp; omega)) _ | with_reducible refine Below.drew ?_ | with_reducible refine bel_drewN ?_ _ | with_reducible assumption | assumption))⟩
theorem lowWords_any (A B : Option Addr) (la lb : List Nat) (ca cb ma mb : Nat) (r : Bool) (w : World) (hma : la.length = ma) (hmb : lb.length = mb) (ha : Sq u16w w w.heap.size A la) (hb : Sq u16w w w.heap.size B lb) (hn : la.length ≤ 140737488355328) (hr : decide (la = lb) = r) :
    Calls Try.prog 15 #[.slice A ma ca, .slice B mb cb] w fun e w' => e = .returned (.bool r) ∧ Below w.heap.size w w' := by
  subst hma hmb hr
  exact lowWords_all A B la lb ca cb w ha hb hn
set_option maxHeartbeats 1000000 in
theorem eqlWords_all (A B : Option Addr) (la lb : List Nat) (ca cb : Nat) (w : World) (ha : Sq (fun x : Nat => .int .u16 (x : Int)) w w.heap.size A la) (hb : Sq (fun x : Nat => .int .u16 (x : Int)) w w.heap.size B lb) (hn : la.length ≤ 140737488355328) :
    Calls Try.prog 47 #[.slice A la.length ca, .slice B lb.length cb] w fun e w' => e = .returned (.bool (decide (la = lb))) ∧ Below w.heap.size w w' := by
  by_cases hl : la.length = lb.length
  · have hl' : ((la.length : Int) != (lb.length : Int)) = false := by rw [bne_eq_false_iff_eq]; omega
    have HL := Lib.hid hl
    clear hl
    go_enter Try.func47, Try.ntmps47
    go_wp2
    go_loopw [13] (fun i wr => ∃ k : Nat, k ≤ la.length ∧ i = .int .i64 k ∧ la.take k = lb.take k ∧ Below w.heap.size w wr) (fun i _ => la.length - (intOf i).toNat)
    case atStart => exact ⟨0, by omega, rfl, by simp, Below.refl _ _⟩
    case round =>
      obtain ⟨k, hk, rfl, heq, hbel⟩ := hrel
      have HQ := Lib.hid heq
      clear heq
      by_cases hlt : k < la.length
      · have hlt2 : k < lb.length := by have := HL.out; omega
        obtain ⟨b1, o1, x, rfl, hb1, hx, hc1⟩ := ha.at_ hlt
        obtain ⟨b2, o2, y, rfl, hb2, hy, hc2⟩ := hb.at_ hlt2
        have d1 : wr.cell? ⟨b1, o1 + k, none⟩ = _ := (hbel.cell (p := ⟨b1, o1 + k, none⟩) hb1).trans hc1
        have d2 : wr.cell? ⟨b2, o2 + k, none⟩ = _ := (hbel.cell (p := ⟨b2, o2 + k, none⟩) hb2).trans hc2
        have g1 : b1 < wr.heap.size := Nat.lt_of_lt_of_le hb1 hbel.size
        have g2 : b2 < wr.heap.size := Nat.lt_of_lt_of_le hb2 hbel.size
        have e1 : (k : Int) < (la.length : Int) := by omega
        have e2 : (k : Int) < (lb.length : Int) := by omega
        have HX := Lib.hid hx
        have HY := Lib.hid hy
        clear hc1 hc2 hx hy
        try simp only at d1 d2
        by_cases hxy : x = y
        · subst hxy
          go_wp2
          refine wp_region_lat (by kernel_rfl) (by kernel_rfl) ?_
          repeat (go_big_quiet_step (fail))
          refine wpQuiet_nil ?_
          rintro _ ⟨x3, rfl⟩
          have hz_x3 := x3.bel.size
          try simp at hz_x3
          go_wp2
          go_roundw
          case rel => exact ⟨k + 1, by omega, by go_num, by rw [List.take_add_one, List.take_add_one, HQ.out, HX.out, HY.out], (by repeat (first | with_reducible exact Below.refl _ _ | with_reducible refine bel_later _ ?_ | with_reducible refine bel_alloc ?_ _ | refine bel_set ?_ (by first | omega | (simp; done) | (simp; omega)) _ | with_reducible refine Below.drew ?_ | with_reducible refine bel_drewN ?_ _ | with_reducible assumption | assumption))⟩
          case measure => simp [intOf]; omega
        · have hne : la ≠ lb := by
            intro h
            have h1 := HX.out
            rw [h, HY.out] at h1
            exact hxy (by simpa using h1.symm)
          have HD := Lib.hid (show decide (la = lb) = false by simpa using hne)
          have hxy' : ((x : Int) != (y : Int)) = true := by rw [bne_iff_ne]; omega
          clear hne
          go_wp2
          refine wp_region_lat (by kernel_rfl) (by kernel_rfl) ?_
          repeat (go_big_quiet_step (fail))
          refine wpQuiet_nil ?_
          rintro _ ⟨x3, rfl⟩
          have hz_x3 := x3.bel.size
          try simp at hz_x3
          go_wp2
          go_ret
          exact ⟨by rw [HD.out]; rfl, (by repeat (first | with_reducible exact Below.refl _ _ | with_reducible refine bel_later _ ?_ | with_reducible refine bel_alloc ?_ _ | refine bel_set ?_ (by first | omega | (simp; done) | (simp; omega)) _ | with_reducible refine Below.drew ?_ | with_reducible refine bel_drewN ?_ _ | with_reducible assumption | assumption))⟩
      · have hkl : k = la.length := by omega
        have HD : Hid (decide (la = lb) = true) := Lib.hid <| by
          have h1 := HQ.out
          rw [List.take_of_length_le (by omega), List.take_of_length_le (by have := HL.out; omega)] at h1
          simpa using h1
        go_wp2
        go_ret
        exact ⟨by rw [HD.out]; rfl, hbel⟩
  · have hl' : ((la.length : Int) != (lb.length : Int)) = true := by rw [bne_iff_ne]; omega
    have hd : decide (la = lb) = false := by simp; intro h; exact hl (by rw [h])
    rw [hd]
    clear hl hd
    go_enter Try.func47, Try.ntmps47
    go_wp2
    go_ret
    exact ⟨rfl, (by repeat (first | with_reducible exact Below.refl _ _ | with_reducible refine bel_later _ ?_ | with_reducible refine bel_alloc ?_ _ | refine bel_set ?_ (by first | omega | (simp; done) | (simp; omega)) _ | with_reducible refine Below.drew ?_ | with_reducible refine bel_drewN ?_ _ | with_reducible assumption | assumption))⟩
theorem eqlWords_any (A B : Option Addr) (la lb : List Nat) (ca cb ma mb : Nat) (r : Bool) (w : World) (hma : la.length = ma) (hmb : lb.length = mb) (ha : Sq u16w w w.heap.size A la) (hb : Sq u16w w w.heap.size B lb) (hn : la.length ≤ 140737488355328) (hr : decide (la = lb) = r) :
    Calls Try.prog 47 #[.slice A ma ca, .slice B mb cb] w fun e w' => e = .returned (.bool r) ∧ Below w.heap.size w w' := by
  subst hma hmb hr
  exact eqlWords_all A B la lb ca cb w ha hb hn
end Go.Proofs.Ytajbghjjpebndaa
namespace Go.Proofs.Ytajbghjjpebndaa
set_option maxRecDepth 100000
open Go.RowKit
set_option linter.unusedVariables false
theorem wide_or (h l : Nat) (hh : h < 65536) (hl : l < 65536) : bits .or .u32 ((h : Int) * 65536) (l : Int) = ((65536 * h + l : Nat) : Int) := by
  have h1 : ((h : Int) * 65536) = ((h * 65536 : Nat) : Int) := by omega
  rw [h1, u32_or_nat _ _ (by omega) (by omega)]
  have h2 := Nat.shiftLeft_add_eq_or_of_lt (i := 16) (b := l) hl h
  rw [Nat.shiftLeft_eq] at h2
  rw [show (65536 : Nat) = 2 ^ 16 from rfl, ← h2, Nat.mul_comm]
theorem wide_any (h l : Nat) (w : World) (hh : h < 65536) (hl : l < 65536) :
    Calls Try.prog 58 #[.int .u16 (h : Int), .int .u16 (l : Int)] w fun e w' => e = .returned (.int .u32 ((65536 * h + l : Nat) : Int)) ∧ w = w' := by
  go_enter Try.func58, Try.ntmps58
  go_wp2
  go_ret
  exact ⟨ret_int (wide_or h l hh hl), rfl⟩
theorem wrap_u16 (x : Int) : IntKind.u16.wrap x = x % 65536 := by simp [IntKind.wrap, IntKind.bits, IntKind.signed]
theorem parts_any (x : Nat) (w : World) (hx : x < 4294967296) :
    Calls Try.prog 55 #[.int .u32 (x : Int)] w fun e w' => e = .returned (.tuple #[.int .u16 ((x / 65536 : Nat) : Int), .int .u16 ((x % 65536 : Nat) : Int)]) ∧ w = w' := by
  have H1 := Lib.hid (show IntKind.u16.wrap (x : Int) = ((x % 65536 : Nat) : Int) by rw [wrap_u16]; omega)
  have H2 := Lib.hid (show (x : Int) / 65536 = ((x / 65536 : Nat) : Int) by omega)
  go_enter Try.func55, Try.ntmps55
  go_wp2
  go_ret2
  refine ⟨?_, rfl⟩
  rw [← H1.out, ← H2.out]
  rfl
end Go.Proofs.Ytajbghjjpebndaa
namespace Go.Proofs.Ytajbghjjpebndaa
set_option maxRecDepth 100000
open Go.RowKit
set_option linter.unusedVariables false
attribute [local go_sem] Later.cell Later.frozen setCell_twice
/-- words put behind a row of the caller's own -/
def Adds (base : Nat) (w : World) (l : List Nat) (e : Ending) (w' : World) : Prop :=
  ∃ A c, e = .returned (.slice A l.length c) ∧ w'.ownsRow base 24 1 (.slice A l.length c) l.length (l.map u16w) ∧ Below base w w'
theorem stadd_any (base : Nat) (A Ax : Option Addr) (c cx n m : Nat) (l x : List Nat) (w : World) (hown : w.ownsRow base 24 1 (.slice A n c) n (l.map u16w)) (hn : l.length = n) (hx : Sq u16w w w.heap.size Ax x) (hm : x.length = m) (hnl : Ax = none → cx = 0) (hl : l.length + x.length ≤ 35184372088832) (hb : base ≤ w.heap.size) :
    Calls Try.prog 73 #[.slice A n c, .slice Ax m cx] w (Adds base w (l ++ x)) := by
  obtain ⟨i0, hi, hz0, hz1, hz2⟩ := info_parts info_w16
  subst hn hm
  have HL := Lib.hid hl
  have HO := Lib.hid hown
  clear hl hown
  go_enter Try.func73, Try.ntmps73
  go_wp2_with (at_builtin; refine wpList_append_sq (f := u16w) _ rfl _ _ 22 rfl (fun _ => rfl) base 24 i0 _ _ Try.underlying22 hi hz0 rfl hz1 hz2 (by decide) (.slice A l.length c) l rfl HO.out w.heap.size Ax x cx _ rfl rfl hx hnl (by have := HL.out; omega) hb ?_; intro A' c' w' hown hg hb2)
  clear hg
  go_wp2
  go_ret
  exact ⟨A', c', by simp, hown, hb2⟩
def lenOf : Value → Nat
  | .slice _ n _ => n
  | _ => 0
theorem zs_snoc (l : List Nat) (k : Nat) : (l ++ Stg.zs k) ++ [0] = l ++ Stg.zs (k + 1) := by
  unfold Stg.zs
  rw [List.append_assoc, List.replicate_succ']
set_option maxHeartbeats 400000 in
theorem itself_any (a : Int) (ws : List Nat) (A : Option Addr) (c n : Nat) (w : World) (hn : ws.length = n) (sq : Sq u16w w w.heap.size A ws) (lo : -9223372036854775808 ≤ a) (hi : a ≤ 9223372036854775807) (hnc : ws.length ≤ 9223372036854775807) (hnl : A = none → c = 0) :
    Calls Try.prog 74 #[.agg #[.int .i64 a, .slice A n c]] w (Makes u16w 24 w (Stg.itself a ws)) := by
  obtain ⟨i0, hif, hz0, hz1, hz2⟩ := info_parts info_w16
  subst hn
  cases hf : Bk.fits a ws.length
  · have kf := Lib.hid (fun W => fits_any a ws.length c A false W lo hi hnc hf)
    have HIT : Hid (∀ k, 16 = ([] : List Nat).length + k → [] ++ Stg.zs k = Stg.itself a ws) := Lib.hid (by intro k hk; rw [Stg.itself_no hf]; simp at hk; simp [← hk])
    clear hf
    go_enter Try.func74, Try.ntmps74
    go_wp2_with (at_make; refine wpList_make_own _ rfl _ _ 22 rfl (w.heap.size + 1) 24 i0 _ 1 Try.underlying22 hif hz0 hz1 _ _ _ 16 rfl rfl rfl (by rw [hz2]; decide) (by decide) (by simp) ?_; intro w1 hown hg; have hb1 := (Below.refl (w.heap.size + 1) _).grown hg (by simp) (by simp); have d0 : w1.cell? ⟨w.heap.size, 0, none⟩ = some (.int .i64 a) := (hb1.cell (p := ⟨w.heap.size, 0, none⟩) (by simp)).trans (by simp); have d1 : w1.cell? ⟨w.heap.size, 1, none⟩ = some (.slice A ws.length c) := (hb1.cell (p := ⟨w.heap.size, 1, none⟩) (by simp)).trans (by simp); have hbw : Below w.heap.size w w1 := (bel_alloc (Below.refl _ _) _).trans (hb1.mono (by omega)); have hs1 : w.heap.size + 1 ≤ w1.heap.size := (by have := hb1.size; simpa using this); clear hg hb1)
    go_wp2_with fail
    refine (kf.out _).mono ?_
    rintro e_x1 w_x1 ⟨rfl, hb_x1⟩
    obtain ⟨x1, rfl⟩ := later_is hb_x1
    clear hb_x1
    have hz_x1 := x1.bel.size
    try simp at hz_x1
    have hown1 : x1.val.ownsRow (w.heap.size + 1) 24 1 (.slice (some ⟨w.heap.size + 1, 0, none⟩) 0 16) 0 (([] : List Nat).map u16w) := by simpa using own_below hown x1.bel
    replace d0 := x1.keep d0
    replace d1 := x1.keep d1
    have hb2 : Below w.heap.size w x1.val := bel_later x1 hbw
    have hs2 : w.heap.size + 1 ≤ x1.val.heap.size := by omega
    clear hown
    go_wp2
    obtain ⟨pre, hpre⟩ : ∃ pre : List Nat, pre = [] := ⟨_, rfl⟩
    rw [← hpre] at HIT
    have hStart : ∃ k m A' c', m = pre.length + k ∧ m ≤ 16 ∧ Value.slice (some ⟨w.heap.size + 1, 0, none⟩) 0 16 = .slice A' m c' ∧ x1.val.ownsRow (w.heap.size + 1) 24 1 (.slice A' m c') m ((pre ++ Stg.zs k).map u16w) ∧ Below w.heap.size w x1.val ∧ w.heap.size + 1 ≤ x1.val.heap.size :=
      ⟨0, 0, some ⟨w.heap.size + 1, 0, none⟩, 16, by simp [hpre], by omega, rfl, by simpa [hpre, Stg.zs] using hown1, hb2, hs2⟩
    clear hpre hown1
    go_loopw [3] (fun v wr => ∃ k m A' c', m = pre.length + k ∧ m ≤ 16 ∧ v = .slice A' m c' ∧ wr.ownsRow (w.heap.size + 1) 24 1 (.slice A' m c') m ((pre ++ Stg.zs k).map u16w) ∧ Below w.heap.size w wr ∧ w.heap.size + 1 ≤ wr.heap.size) (fun v _ => 16 - lenOf v)
    case atStart => exact hStart
    case round =>
      clear hStart
      obtain ⟨k, m, A', c', hm, hm16, rfl, hown, hbe, hsz⟩ := hrel
      have HM := Lib.hid hm
      have HPZ : Hid ((pre ++ Stg.zs k).length = m) := Lib.hid (by simp [Stg.zs, hm])
      clear hm
      by_cases hlt : m < 16
      · have hlt' : decide ((m : Int) < 16) = true := by simp; omega
        go_wp2_with fail
        refine (stadd_any (w.heap.size + 1) A' _ c' _ m 1 (pre ++ Stg.zs k) [0] _ (hown.alloc _) HPZ.out (Sq.lits _ _ _ _ _ _ _ (by rfl) (by simp) (by simp)) (by rfl) (by simp) (by rw [HPZ.out]; simp; omega) (by simp; omega)).mono ?_
        rintro e2 w2 ⟨A2, c2, rfl, hown2, hb2⟩
        have HL2 : Hid (((pre ++ Stg.zs k) ++ [0]).length = m + 1) := Lib.hid (by have := HPZ.out; simp at this ⊢; omega)
        rw [HL2.out, zs_snoc] at hown2
        have hbf : Below w.heap.size w w2 := (bel_alloc hbe _).trans (hb2.mono (by omega))
        have hsf : w.heap.size + 1 ≤ w2.heap.size := by have := hb2.size; simp at this; omega
        clear hown hbe hb2
        go_wp2
        go_roundw
        case rel => exact ⟨k + 1, m + 1, A2, c2, by have := HM.out; omega, by omega, by have := HL2.out; simp at this ⊢; omega, hown2, hbf, hsf⟩
        case measure => have := HL2.out; simp [lenOf] at this ⊢; omega
      · have hm2 : m = 16 := by omega
        subst hm2
        have HX : Hid (pre ++ Stg.zs k = Stg.itself a ws) := Lib.hid (HIT.out k HM.out)
        rw [HX.out] at hown
        go_wp2
        go_ret
        exact Makes.of_own (Stg.itself_length a ws) (own_more hown (by omega)) hbe
  · have kf := Lib.hid (fun W => fits_any a ws.length c A true W lo hi hnc hf)
    have hfi := Bk.fits_iff.1 hf
    have HIT : Hid (∀ k, 16 = (a.toNat :: ws.length :: ws).length + k → (a.toNat :: ws.length :: ws) ++ Stg.zs k = Stg.itself a ws) := Lib.hid (by
      intro k hk; rw [Stg.itself_yes hf]; simp at hk; rw [show 14 - ws.length = k by omega]; rfl)
    have E1 := Lib.hid (show IntKind.u16.wrap a = ((a.toNat : Nat) : Int) by rw [wrap_u16]; omega)
    have E2 := Lib.hid (show IntKind.u16.wrap (ws.length : Int) = ((ws.length : Nat) : Int) by rw [wrap_u16]; omega)
    have hl14 : ws.length ≤ 14 := hfi.1
    clear hf hfi
    go_enter Try.func74, Try.ntmps74
    go_wp2_with (at_make; refine wpList_make_own _ rfl _ _ 22 rfl (w.heap.size + 1) 24 i0 _ 1 Try.underlying22 hif hz0 hz1 _ _ _ 16 rfl rfl rfl (by rw [hz2]; decide) (by decide) (by simp) ?_; intro w1 hown hg; have hb1 := (Below.refl (w.heap.size + 1) _).grown hg (by simp) (by simp); have d0 : w1.cell? ⟨w.heap.size, 0, none⟩ = some (.int .i64 a) := (hb1.cell (p := ⟨w.heap.size, 0, none⟩) (by simp)).trans (by simp); have d1 : w1.cell? ⟨w.heap.size, 1, none⟩ = some (.slice A ws.length c) := (hb1.cell (p := ⟨w.heap.size, 1, none⟩) (by simp)).trans (by simp); have hbw : Below w.heap.size w w1 := (bel_alloc (Below.refl _ _) _).trans (hb1.mono (by omega)); have hs1 : w.heap.size + 1 ≤ w1.heap.size := (by have := hb1.size; simpa using this); clear hg hb1)
    go_wp2_with fail
    refine (kf.out _).mono ?_
    rintro e_x1 w_x1 ⟨rfl, hb_x1⟩
    obtain ⟨x1, rfl⟩ := later_is hb_x1
    clear hb_x1
    have hz_x1 := x1.bel.size
    try simp at hz_x1
    have hown1 : x1.val.ownsRow (w.heap.size + 1) 24 1 (.slice (some ⟨w.heap.size + 1, 0, none⟩) 0 16) 0 (([] : List Nat).map u16w) := by simpa using own_below hown x1.bel
    replace d0 := x1.keep d0
    replace d1 := x1.keep d1
    have hb2 : Below w.heap.size w x1.val := bel_later x1 hbw
    have hs2 : w.heap.size + 1 ≤ x1.val.heap.size := by omega
    clear hown
    go_wp2_with fail
    with_reducible refine (stadd_any (w.heap.size + 1) (some ⟨w.heap.size + 1, 0, none⟩) _ 16 _ 0 2 [] [a.toNat, ws.length] _ (hown1.alloc _) (by simp) (Sq.lits _ _ _ _ _ _ _ (by simp [E1.out]) (by simp) (by simp)) (by simp) (by simp) (by simp) (by simp; omega)).mono ?_
    rintro e2 w2 ⟨A2, c2, rfl, hown2, hb3⟩
    simp only [List.nil_append, List.length_cons, List.length_nil, Nat.zero_add, Nat.reduceAdd] at hown2
    have d2 : w2.cell? ⟨w.heap.size, 1, none⟩ = some (.slice A ws.length c) := (hb3.cell (p := ⟨w.heap.size, 1, none⟩) (by simp)).trans (keep_alloc d1)
    have hb4 : Below w.heap.size w w2 := (bel_alloc hb2 _).trans (hb3.mono (by omega))
    have hs4 : w.heap.size + 1 ≤ w2.heap.size := by have := hb3.size; simp at this; omega
    have sq4 : Sq u16w w2 w2.heap.size A ws := (sq.below hb4).more hb4.size
    clear hown1 d0 d1 hb3
    go_wp2_with fail
    with_reducible refine (stadd_any (w.heap.size + 1) A2 A c2 c 2 ws.length [a.toNat, ws.length] ws _ hown2 (by simp) sq4 (by simp) hnl (by simp; omega) (by omega)).mono ?_
    rintro e3 w3 ⟨A3, c3, rfl, hown3, hb5⟩
    have HL3 : Hid (([a.toNat, ws.length] ++ ws).length = ws.length + 2) := Lib.hid (by simp)
    rw [HL3.out] at hown3
    have hb6 : Below w.heap.size w w3 := hb4.trans (hb5.mono (by omega))
    have hs6 : w.heap.size + 1 ≤ w3.heap.size := by have := hb5.size; omega
    clear hown2 d2 hb5
    go_wp2
    obtain ⟨pre, hpre⟩ : ∃ pre : List Nat, pre = a.toNat :: ws.length :: ws := ⟨_, rfl⟩
    rw [← hpre] at HIT
    have hStart : ∃ k m A' c', m = pre.length + k ∧ m ≤ 16 ∧ Value.slice A3 (ws.length + 2) c3 = .slice A' m c' ∧ w3.ownsRow (w.heap.size + 1) 24 1 (.slice A' m c') m ((pre ++ Stg.zs k).map u16w) ∧ Below w.heap.size w w3 ∧ w.heap.size + 1 ≤ w3.heap.size :=
      ⟨0, ws.length + 2, A3, c3, by simp [hpre], by omega, rfl, by simpa [hpre, Stg.zs] using hown3, hb6, hs6⟩
    clear hpre hown3
    go_loopw [3] (fun v wr => ∃ k m A' c', m = pre.length + k ∧ m ≤ 16 ∧ v = .slice A' m c' ∧ wr.ownsRow (w.heap.size + 1) 24 1 (.slice A' m c') m ((pre ++ Stg.zs k).map u16w) ∧ Below w.heap.size w wr ∧ w.heap.size + 1 ≤ wr.heap.size) (fun v _ => 16 - lenOf v)
    case atStart => exact hStart
    case round =>
      clear hStart
      obtain ⟨k, m, A', c', hm, hm16, rfl, hown, hbe, hsz⟩ := hrel
      have HM := Lib.hid hm
      have HPZ : Hid ((pre ++ Stg.zs k).length = m) := Lib.hid (by simp [Stg.zs, hm])
      clear hm
      by_cases hlt : m < 16
      · have hlt' : decide ((m : Int) < 16) = true := by simp; omega
        go_wp2_with fail
        refine (stadd_any (w.heap.size + 1) A' _ c' _ m 1 (pre ++ Stg.zs k) [0] _ (hown.alloc _) HPZ.out (Sq.lits _ _ _ _ _ _ _ (by rfl) (by simp) (by simp)) (by rfl) (by simp) (by rw [HPZ.out]; simp; omega) (by simp; omega)).mono ?_
        rintro e2 w2 ⟨A2, c2, rfl, hown2, hb2⟩
        have HL2 : Hid (((pre ++ Stg.zs k) ++ [0]).length = m + 1) := Lib.hid (by have := HPZ.out; simp at this ⊢; omega)
        rw [HL2.out, zs_snoc] at hown2
        have hbf : Below w.heap.size w w2 := (bel_alloc hbe _).trans (hb2.mono (by omega))
        have hsf : w.heap.size + 1 ≤ w2.heap.size := by have := hb2.size; simp at this; omega
        clear hown hbe hb2
        go_wp2
        go_roundw
        case rel => exact ⟨k + 1, m + 1, A2, c2, by have := HM.out; omega, by omega, by have := HL2.out; simp at this ⊢; omega, hown2, hbf, hsf⟩
        case measure => have := HL2.out; simp [lenOf] at this ⊢; omega
      · have hm2 : m = 16 := by omega
        subst hm2
        have HX : Hid (pre ++ Stg.zs k = Stg.itself a ws) := Lib.hid (HIT.out k HM.out)
        rw [HX.out] at hown
        go_wp2
        go_ret
        exact Makes.of_own (Stg.itself_length a ws) (own_more hown (by omega)) hbe
end Go.Proofs.Ytajbghjjpebndaa
