/- Layer 11: the walk of BusOnly. -/
import Derived.Test.YthigkmoilfdciaaBuOnlyB
import Derived.Test.YthigkmoilfdciaaBuLight
import Derived.Test.YthigkmoilfdciaaBuAwkW
import Derived.Deep.CutBlock
namespace Go.Proofs.Ythigkmoilfdciaa
open Go.RowKit
set_option linter.unusedVariables false
set_option linter.unusedSimpArgs false
attribute [local go_sem] Later.cell Later.frozen setCell_twice
attribute [local go_sem high] sliced_zero'
theorem own_nil0 (w : World) (B e s : Nat) : w.ownsRow B e s (.slice none 0 0) 0 [] := ⟨by simp, .inl ⟨rfl, rfl⟩⟩
theorem own_lit2 (w : World) (B : Nat) (e : TypeId) (u v : Value) (hB : B ≤ w.heap.size) : (w.alloc (.cells #[u, v] e)).ownsRow B e 1 (.slice (some ⟨w.heap.size, 0, none⟩) 2 2) 2 [u, v] :=
  ⟨by simp, .inr ⟨w.heap.size, 2, #[u, v], rfl, hB, heap_alloc_new w _, by decide, by decide, by simp, by simp⟩⟩
theorem own_less {w : World} {B B' e s n : Nat} {v : Value} {xs : List Value} (h : w.ownsRow B e s v n xs) (hB : B' ≤ B) : w.ownsRow B' e s v n xs := by
  obtain ⟨h1, h2⟩ := h
  refine ⟨h1, ?_⟩
  rcases h2 with h2 | ⟨g, cap, cur, hv, hg, r⟩
  · exact .inl h2
  · exact .inr ⟨g, cap, cur, hv, Nat.le_trans hB hg, r⟩
theorem sendB_rtu (b : Bu) (p : Par) (f : Fa) : (sendB b p f).rtu = b.rtu ∧ (sendB b p f).time = b.time ∧ (sendB b p f).l.length ≤ b.l.length + 2 := by
  unfold sendB Bu.send
  split
  · split
    · exact ⟨rfl, rfl, by omega⟩
    · refine ⟨rfl, rfl, ?_⟩
      cases f.twice <;> simp
  · exact ⟨rfl, rfl, by omega⟩
theorem tick_rtu (b : Bu) : b.tick.1.rtu = b.rtu ∧ b.tick.1.time = b.time + 1 ∧ b.tick.1.l.length ≤ b.l.length :=
  ⟨rfl, rfl, by unfold Bu.tick; exact List.length_filter_le _ _⟩
set_option maxRecDepth 100000 in
set_option maxHeartbeats 4000000 in
theorem busOnly_any (w : World) (A0 : Option Addr) (rl : List Bool) (c0 nr : Nat) (hr : Sq Value.bool w w.heap.size A0 rl) (hnr : rl.length = nr) (A1 : Option Addr) (l : List Bop) (c1 m : Nat) (hl : Bops w w.heap.size A1 l) (hm : l.length = m) (hmc : m ≤ c1) (hc1 : c1 ≤ 9223372036854775807) (hA1 : A1 = none → c1 = 0) :
    Calls Try.prog 4 #[.slice A0 nr c0, .slice A1 m c1] w fun e w' => e = .returned (.bool true) ∧ Below w.heap.size w w' := by
  obtain ⟨i0, hif, hz0, hz1, hz2⟩ := info_parts info_b8
  obtain ⟨iS, hifS, hs0_, hs1_, hs2_⟩ := info_parts info_sent
  have hmf : ∀ (fn : Fn) (first cap : Array Value) (w : World), (Instr.makeFunc fn first cap).run Try.prog w = .ok (.func fn first cap) w := fun _ _ _ _ => rfl
  obtain ⟨w0, hw0⟩ : ∃ w0, w.alloc (.cells #[.slice A0 nr c0] 22) = w0 := ⟨_, rfl⟩
  have b0 : Below w.heap.size w w0 := by rw [← hw0]; exact bel_alloc (Below.refl _ _) _
  obtain ⟨gR, hgR⟩ : ∃ gR, w.heap.size = gR := ⟨_, rfl⟩
  have RR : Hid (RowAt w0 gR 22 [.slice A0 nr c0]) := Lib.hid (by rw [← hw0, ← hgR]; exact RowAt.new _ _ _)
  have B0 := Lib.hid b0
  have HR := Lib.hid ((hr.below b0).more b0.size)
  have HL := Lib.hid (hl.to b0)
  have HNR := Lib.hid hnr
  have HM := Lib.hid hm
  obtain ⟨n, hn⟩ : ∃ n, n = min m 120 := ⟨_, rfl⟩
  have KL := Lib.hid (blight_any A1 l m c1 n w0 HL.out hm hmc hc1 hA1 hn)
  have hnm : n ≤ m := by omega
  have hnc : n ≤ c1 := by omega
  have hn120 : n ≤ 120 := by omega
  clear hr hl hnr hm hn
  go_enter Try.func4, Try.ntmps4
  go_upto_region 1 with fail
  clear hw0 b0
  go_wp2_with fail
  (with_reducible refine KL.out.mono ?_)
  rintro e w1 ⟨b1, hcase⟩
  have BL := Lib.hid b1
  have y0 : w1.cell? ⟨gR, 0, none⟩ = some (.slice A0 nr c0) := (RR.out.to b1).cells 0
  have HR1 := Lib.hid ((HR.out.below b1).more b1.size)
  clear b1 KL hgR
  rcases hcase with rfl | ⟨rfl, hall⟩
  · go_wp2_with fail
    (with_reducible refine (awake_any _).mono ?_)
    rintro e wx ⟨rfl, bx⟩
    have BX := Lib.hid (B0.out.trans ((BL.out.trans (bx.mono BL.out.size)).mono B0.out.size))
    clear bx
    go_wp2
    go_ret
    exact ⟨rfl, BX.out⟩
  have HALL := hall
  clear hall
  by_cases h1 : nr < 1
  · have g1 : decide ((nr : Int) < 1) = true := decide_eq_true (by omega)
    clear h1
    go_wp2_with fail
    (with_reducible refine (awake_any _).mono ?_)
    rintro e wx ⟨rfl, bx⟩
    have BX := Lib.hid (B0.out.trans ((BL.out.trans (bx.mono BL.out.size)).mono B0.out.size))
    clear bx
    go_wp2
    go_ret
    exact ⟨rfl, BX.out⟩
  have g1 : decide ((nr : Int) < 1) = false := decide_eq_false (by omega)
  by_cases h8 : 8 < nr
  · have g2 : decide ((8 : Int) < (nr : Int)) = true := decide_eq_true (by omega)
    clear h1 h8
    go_wp2_with fail
    (with_reducible refine (awake_any _).mono ?_)
    rintro e wx ⟨rfl, bx⟩
    have BX := Lib.hid (B0.out.trans ((BL.out.trans (bx.mono BL.out.size)).mono B0.out.size))
    clear bx
    go_wp2
    go_ret
    exact ⟨rfl, BX.out⟩
  have g2 : decide ((8 : Int) < (nr : Int)) = false := decide_eq_false (by omega)
  have h1' : 1 ≤ nr := by omega
  have h8' : nr ≤ 8 := by omega
  go_wp2_with fail
  (with_reducible refine (new_yes A0 rl nr c0 w1 HR1.out HNR.out h1' h8').mono ?_)
  rintro e w2 ⟨gs, gm, rg, rc, rfl, h2, b2⟩
  have H2 : Hid (BusAt w2 w1.heap.size gs gm rg rc ⟨rl, 0, []⟩ []) := Lib.hid h2
  have HZ1 : Hid (w0.heap.size ≤ w1.heap.size) := Lib.hid BL.out.size
  replace BL := Lib.hid (BL.out.trans (b2.mono BL.out.size))
  clear h2 b2 HR1 h1 h8 y0
  obtain ⟨base, hbase⟩ : ∃ base, w1.heap.size = base := ⟨_, rfl⟩
  rw [hbase] at H2 HZ1
  clear hbase
  obtain ⟨br, orr, rfl, hbr⟩ : ∃ br orr, A0 = some ⟨br, orr, none⟩ ∧ br < w0.heap.size := by
    obtain ⟨b, o, hA, hb, _⟩ := HR.out (by rw [HNR.out]; omega)
    exact ⟨b, o, hA, hb⟩
  go_upto_region 8 with fail
  clear g1 g2
  obtain ⟨w3, hw3⟩ : ∃ w3, w2.alloc (.cells #[.slice none 0 0] 52) = w3 := ⟨_, rfl⟩
  obtain ⟨gL, hgL⟩ : ∃ gL, w2.heap.size = gL := ⟨_, rfl⟩
  have bA : Below w2.heap.size w2 w3 := by rw [← hw3]; exact bel_alloc (Below.refl _ _) _
  have RL : RowAt w3 gL 52 [.slice none 0 0] := by rw [← hw3, ← hgL]; exact RowAt.new _ _ _
  rw [hw3, hgL]
  have T0 : Hid (OnlyAt w0 w3 rl base gs gm rg rc gL (gL + 1) ⟨rl, 0, []⟩ [] none 0 0 [] []) := Lib.hid ⟨H2.out.to bA, ⟨RL, rfl, own_nil0 _ _ _ _, by simp, Nat.lt_succ_self _⟩, by simp, fun hm => by have := (H2.out.foot_ge _ hm).2; omega, ⟨rfl, rfl, by simp⟩, ⟨by simp, by simp, by simp, by simp⟩, BL.out.trans (bA.mono BL.out.size), HZ1.out, by have := BL.out.size; omega⟩
  clear hw3 hgL bA RL H2 BL HZ1
  go_wp2
  go_loopw [44] (fun i wr => ∃ (k : Nat) (b : Bu) (E : List En) (A : Option Addr) (na ca : Nat) (S : List Snt) (U : List Gh), k ≤ n ∧ i = .int .i64 (k : Int) ∧ Hid (OnlyAt w0 wr rl base gs gm rg rc gL (gL + 1) b E A na ca S U) ∧ b.time ≤ k ∧ b.l.length ≤ 2 * k ∧ na ≤ k ∧ Hid (∀ g ∈ U, g.t ≤ b.time + 256)) (fun i _ => n - (intOf i).toNat)
  case atStart => exact ⟨0, _, _, _, _, _, _, _, by omega, rfl, T0, Nat.le_refl _, Nat.le_refl _, Nat.le_refl _, Lib.hid (by simp)⟩
  case round =>
    rename World => wr
    clear T0
    obtain ⟨k, b, E, A, na, ca, S, U, hk, rfl, TT, htk, hlk, hnk, HUT⟩ := hrel
    by_cases hlt : k < n
    rotate_left
    · obtain rfl : k = n := by omega
      obtain ⟨T1, hT1⟩ : ∃ T1, b.time = T1 := ⟨_, rfl⟩
      have hT1k : T1 ≤ k := by omega
      have HS1 : Hid (b.time = T1) := Lib.hid hT1
      have HL1 : b.l.length ≤ 240 := by omega
      have hn1 : na ≤ 120 := by omega
      clear hT1 htk hlk hnk HL HALL HM hlt hnm hnc hk
      go_upto_region 25 with fail
      go_wp2
      go_loopw [115] (fun i wr => ∃ (j : Nat) (b : Bu) (E : List En) (S : List Snt) (U : List Gh), j ≤ 260 ∧ i = .int .i64 (j : Int) ∧ Hid (OnlyAt w0 wr rl base gs gm rg rc gL (gL + 1) b E A na ca S U) ∧ Hid (b.time = T1 + j) ∧ b.l.length ≤ 240 ∧ Hid (∀ g ∈ U, g.t ≤ T1 + 256)) (fun i _ => 260 - (intOf i).toNat)
      case atStart => exact ⟨0, b, E, S, U, by omega, rfl, TT, HS1, HL1, Lib.hid (by rw [← HS1.out]; exact HUT.out)⟩
      case round =>
        rename World => wr
        clear TT HUT HS1 HL1
        obtain ⟨j, b, E, S, U, hj, rfl, TT, HTM, hlk, HUT⟩ := hrel
        by_cases hlt : j < 260
        rotate_left
        · obtain rfl : j = 260 := by omega
          have hU : U = [] := by
            cases U with
            | nil => rfl
            | cons y U =>
              exfalso
              have h1 := HUT.out y List.mem_cons_self
              have h2 := TT.out.u.late y List.mem_cons_self
              rw [HTM.out] at h2
              omega
          subst hU
          have hbl : b.l = [] := TT.out.u.l
          have hbl0 : b.l.length = 0 := by rw [hbl]; rfl
          have HBL := Lib.hid hbl
          have HWT : Hid (∀ (i : Nat) (x : Snt), S[i]? = some x → x.came + x.wrong = wantF x.f) := Lib.hid (fun i x hx => by
            have := TT.out.on.cnt i x hx
            have h0 : cntJ [] i = 0 := rfl
            omega)
          have x0 : wr.cell? ⟨gL, 0, none⟩ = some (.slice A na ca) := TT.out.all.var.cells 0
          clear hbl
          go_upto_region 30 with fail
          clear x0
          go_wp2
          go_loopw [125] (fun i wv => ∃ v : Nat, v ≤ na ∧ i = .int .i64 (v : Int) ∧ Hid (Below wr.heap.size wr wv)) (fun i _ => na - (intOf i).toNat)
          case atStart => exact ⟨0, by omega, rfl, Lib.hid (Below.refl _ _)⟩
          case round =>
            rename World => wv
            obtain ⟨v, hv, rfl, BV⟩ := hrel
            have TV := Lib.hid (TT.out.to BV.out)
            by_cases hlt : v < na
            rotate_left
            · obtain rfl : v = na := by omega
              have kw := Lib.hid (waiting_yes TV.out.bus)
              rw [hbl0] at kw
              have kt := Lib.hid (only_tick TV.out RR.out HR.out HNR.out hbr (by omega) (by rw [HTM.out]; omega) (by omega))
              go_wp2_with fail
              (with_reducible refine (kw.out).mono ?_)
              rintro e wk ⟨rfl, rfl⟩
              clear kw
              go_wp2_with fail
              (with_reducible refine (kt.out).mono ?_)
              rintro e w4 ⟨A7, n7, c7, rfl, b7, hz7, _⟩
              obtain rfl : n7 = 0 := hz7 HBL.out
              have BL := Lib.hid b7
              clear b7 hz7 kt
              go_wp2_with fail
              (with_reducible refine (awake_any _).mono ?_)
              rintro e wx ⟨rfl, bx⟩
              have BX := Lib.hid (B0.out.trans ((BL.out.trans (bx.mono BL.out.size)).mono B0.out.size))
              clear bx
              go_wp2
              go_ret
              exact ⟨rfl, BX.out⟩
            obtain ⟨x, hx⟩ : ∃ x, S[v]? = some x := ⟨_, List.getElem?_eq_getElem (by rw [TV.out.all.len]; exact hlt)⟩
            obtain ⟨gA, rfl, _⟩ := own_somep TV.out.all.own (by omega)
            have cel := sent_at TV.out.all.own hx
            have hw := HWT.out v x hx
            obtain ⟨⟨⟨s, up, by_⟩, XA, xc⟩, ⟨lost, twice, wait, again, at_, turns⟩, came, wrong⟩ := x
            dsimp only at hw
            have d0 : wv.cell? ⟨gA, v * 11, none⟩ = some (.int .i64 s) := cel 0 _ rfl
            have d1 : wv.cell? ⟨gA, v * 11 + 1, none⟩ = some (.bool up) := cel 1 _ rfl
            have d2 : wv.cell? ⟨gA, v * 11 + 2, none⟩ = some (.slice XA by_.length xc) := cel 2 _ rfl
            have d3 : wv.cell? ⟨gA, v * 11 + 3, none⟩ = some (.bool lost) := cel 3 _ rfl
            have d4 : wv.cell? ⟨gA, v * 11 + 4, none⟩ = some (.bool twice) := cel 4 _ rfl
            have d5 : wv.cell? ⟨gA, v * 11 + 5, none⟩ = some (.int .u8 (wait : Int)) := cel 5 _ rfl
            have d6 : wv.cell? ⟨gA, v * 11 + 6, none⟩ = some (.int .u8 (again : Int)) := cel 6 _ rfl
            have d7 : wv.cell? ⟨gA, v * 11 + 7, none⟩ = some (.int .u16 (at_ : Int)) := cel 7 _ rfl
            have d8 : wv.cell? ⟨gA, v * 11 + 8, none⟩ = some (.int .u16 (turns : Int)) := cel 8 _ rfl
            have d9 : wv.cell? ⟨gA, v * 11 + 9, none⟩ = some (.int .i64 (came : Int)) := cel 9 _ rfl
            have d10 : wv.cell? ⟨gA, v * 11 + 10, none⟩ = some (.int .i64 (wrong : Int)) := cel 10 _ rfl
            obtain ⟨cw, hcw⟩ : ∃ cw, wantF ⟨lost, twice, wait, again, at_, turns⟩ = cw := ⟨_, rfl⟩
            have hcwl : cw ≤ 2 := by rw [← hcw]; unfold wantF; split; omega; split <;> omega
            rw [hcw] at hw
            have p1 : (came : Int) + (wrong : Int) = (cw : Int) := by omega
            have p2 : IntKind.i64.wrap (cw : Int) = (cw : Int) := IntWalk.i64_in _ (by omega)
            have HCW := Lib.hid hcw
            have hltI : (v : Int) < (na : Int) := by omega
            have h0I : (0 : Int) ≤ (v : Int) := by omega
            clear cel hx hw hcw
            go_upto_region 32 with fail
            obtain ⟨wa, hwa⟩ : ∃ wa, wv.alloc (.cells #[.int .i64 s, .bool up, .slice XA by_.length xc, .bool lost, .bool twice, .int .u8 (wait : Int), .int .u8 (again : Int), .int .u16 (at_ : Int), .int .u16 (turns : Int), .int .i64 (came : Int), .int .i64 (wrong : Int)] 56) = wa := ⟨_, rfl⟩
            obtain ⟨gx, hgx⟩ : ∃ gx, wv.heap.size = gx := ⟨_, rfl⟩
            have bA : Below wv.heap.size wv wa := by rw [← hwa]; exact bel_alloc (Below.refl _ _) _
            have RX : RowAt wa gx 56 [.int .i64 s, .bool up, .slice XA by_.length xc, .bool lost, .bool twice, .int .u8 (wait : Int), .int .u8 (again : Int), .int .u16 (at_ : Int), .int .u16 (turns : Int), .int .i64 (came : Int), .int .i64 (wrong : Int)] := by rw [← hwa, ← hgx]; exact RowAt.new _ _ _
            rw [hwa, hgx]
            have BA : Hid (Below wr.heap.size wr wa) := Lib.hid (BV.out.trans (bA.mono BV.out.size))
            have y3 : wa.cell? ⟨gx, 3, none⟩ = some (.bool lost) := RX.cells 3
            have y4 : wa.cell? ⟨gx, 4, none⟩ = some (.bool twice) := RX.cells 4
            have y9 : wa.cell? ⟨gx, 9, none⟩ = some (.int .i64 (came : Int)) := RX.cells 9
            have y10 : wa.cell? ⟨gx, 10, none⟩ = some (.int .i64 (wrong : Int)) := RX.cells 10
            clear hwa hgx bA RX d0 d1 d2 d3 d4 d5 d6 d7 d8 d9 d10 TV hltI
            cases lost
            · cases twice
              · have hz : ((cw : Int) != 1) = false := by rw [← HCW.out]; rfl
                go_wp2
                go_roundw
                case rel => exact ⟨v + 1, by omega, by go_num, BA⟩
                case measure => simp [intOf]; omega
              · have hz : ((cw : Int) != 2) = false := by rw [← HCW.out]; rfl
                go_wp2
                go_roundw
                case rel => exact ⟨v + 1, by omega, by go_num, BA⟩
                case measure => simp [intOf]; omega
            · have hz : ((cw : Int) != 0) = false := by rw [← HCW.out]; rfl
              go_wp2
              go_roundw
              case rel => exact ⟨v + 1, by omega, by go_num, BA⟩
              case measure => simp [intOf]; omega
        have hltI : (j : Int) < 260 := by omega
        have h0I : (0 : Int) ≤ (j : Int) := by omega
        have kt := Lib.hid (only_tick TT.out RR.out HR.out HNR.out hbr (by omega) (by rw [HTM.out]; omega) (by omega))
        go_wp2_with fail
        (with_reducible refine (kt.out).mono ?_)
        rintro e w4 ⟨A7, n7, c7, rfl, b7, _, hcl⟩
        have KC := Lib.hid hcl
        clear hcl kt
        go_wp2_with fail
        (with_reducible refine (KC.out).mono ?_)
        rintro e w5 ⟨rfl, E5, S5, hT5⟩
        have T5 := Lib.hid hT5
        have hlk5 := (tick_rtu b).2.2
        clear hT5 KC
        go_wp2
        go_roundw
        case rel => exact ⟨j + 1, b.tick.1, E5, S5, _, by omega, by go_num, T5, Lib.hid (by rw [(tick_rtu b).2.1, HTM.out]; omega), by omega, Lib.hid (fun y hy => HUT.out y (List.mem_filter.1 hy).1)⟩
        case measure => simp [intOf]; omega
    obtain ⟨g, o, x, rfl, hg, hx, hxm, hok, hd⟩ := (HL.out.to TT.out.bk).at_ (k := k) (by rw [HM.out]; omega)
    obtain ⟨g0, o0, x0, hA0', hg0, hx0, _, hok0, _⟩ := HL.out.at_ (k := k) (by rw [HM.out]; omega)
    have hltI : (k : Int) < (n : Int) := by omega
    have h0I : (0 : Int) ≤ (k : Int) := by omega
    obtain rfl : x0 = x := Option.some.inj (hx0.symm.trans hx)
    have HOK0 := Lib.hid hok0
    have HXT : Hid (x0.p.p.b.length ≤ 310) := Lib.hid (HALL.out x0 (by rw [List.mem_iff_getElem?]; exact ⟨k, by rw [List.getElem?_take, if_pos hlt]; exact hx⟩))
    clear hx0 hA0' hg0 hok0
    obtain ⟨tick, ⟨⟨s, up, by_⟩, XA, xc⟩, ⟨lost, twice, wait, again, at_, turns⟩⟩ := x0
    obtain ⟨q, hq⟩ : ∃ q, by_.length = q := ⟨_, rfl⟩
    have HQ := Lib.hid hq
    have HOK := Lib.hid hok.p
    have HFT := Lib.hid hok.f
    have d0 : wr.cell? ⟨g, o + k * 10, none⟩ = some (.bool tick) := hd 0 _ rfl
    have d1 : wr.cell? ⟨g, o + k * 10 + 1, none⟩ = some (.int .i64 s) := hd 1 _ rfl
    have d2 : wr.cell? ⟨g, o + k * 10 + 2, none⟩ = some (.bool up) := hd 2 _ rfl
    have d3 : wr.cell? ⟨g, o + k * 10 + 3, none⟩ = some (.slice XA q xc) := by have := hd 3 _ rfl; rw [← hq]; exact this
    have d4 : wr.cell? ⟨g, o + k * 10 + 4, none⟩ = some (.bool lost) := hd 4 _ rfl
    have d5 : wr.cell? ⟨g, o + k * 10 + 5, none⟩ = some (.bool twice) := hd 5 _ rfl
    have d6 : wr.cell? ⟨g, o + k * 10 + 6, none⟩ = some (.int .u8 (wait : Int)) := hd 6 _ rfl
    have d7 : wr.cell? ⟨g, o + k * 10 + 7, none⟩ = some (.int .u8 (again : Int)) := hd 7 _ rfl
    have d8 : wr.cell? ⟨g, o + k * 10 + 8, none⟩ = some (.int .u16 (at_ : Int)) := hd 8 _ rfl
    have d9 : wr.cell? ⟨g, o + k * 10 + 9, none⟩ = some (.int .u16 (turns : Int)) := hd 9 _ rfl
    clear hx hxm hok hd hq
    go_upto_region 12 with fail
    obtain ⟨wa, hwa⟩ : ∃ wa, wr.alloc (.cells #[.bool tick, .int .i64 s, .bool up, .slice XA q xc, .bool lost, .bool twice, .int .u8 (wait : Int), .int .u8 (again : Int), .int .u16 (at_ : Int), .int .u16 (turns : Int)] 41) = wa := ⟨_, rfl⟩
    obtain ⟨gx, hgx⟩ : ∃ gx, wr.heap.size = gx := ⟨_, rfl⟩
    have bA : Below wr.heap.size wr wa := by rw [← hwa]; exact bel_alloc (Below.refl _ _) _
    have RX : Hid (RowAt wa gx 41 [.bool tick, .int .i64 s, .bool up, .slice XA q xc, .bool lost, .bool twice, .int .u8 (wait : Int), .int .u8 (again : Int), .int .u16 (at_ : Int), .int .u16 (turns : Int)]) := Lib.hid (by rw [← hwa, ← hgx]; exact RowAt.new _ _ _)
    have HNX : Hid (gx ∉ bfoot gs gm rg E ∧ gL < gx ∧ w0.heap.size ≤ gx) := Lib.hid ⟨fun hm => by have := (TT.out.bus.foot_ge gx hm).2; omega, by have := TT.out.all.var.lt; omega, by have := TT.out.bk.size; omega⟩
    have HWX : Hid (Below wr.heap.size wr wa ∧ wr.heap.size ≤ gx) := Lib.hid ⟨bA, by omega⟩
    rw [hwa, hgx]
    have TR := TT
    replace TT := Lib.hid (TT.out.to bA)
    replace HOK := Lib.hid (HOK.out.to bA)
    clear hwa hgx bA d0 d1 d2 d3 d4 d5 d6 d7 d8 d9 hltI
    have y0 : wa.cell? ⟨gx, 0, none⟩ = some (.bool tick) := RX.out.cells 0
    cases tick
    rotate_left
    · have kt := Lib.hid (only_tick TT.out RR.out HR.out HNR.out hbr (by omega) (by omega) (by omega))
      go_wp2_with fail
      (with_reducible refine (kt.out).mono ?_)
      rintro e w4 ⟨A7, n7, c7, rfl, b7, _, hcl⟩
      have KC := Lib.hid hcl
      clear hcl kt y0
      go_wp2_with fail
      (with_reducible refine (KC.out).mono ?_)
      rintro e w5 ⟨rfl, E5, S5, hT5⟩
      have T5 := Lib.hid hT5
      have hlk5 := (tick_rtu b).2.2
      clear hT5 KC
      go_wp2
      go_roundw
      case rel => exact ⟨k + 1, b.tick.1, E5, A, na, ca, S5, _, by omega, by go_num, T5, by rw [(tick_rtu b).2.1]; omega, by omega, by omega, Lib.hid (fun y hy => by have := HUT.out y (List.mem_filter.1 hy).1; rw [(tick_rtu b).2.1]; omega)⟩
      case measure => simp [intOf]; omega
    have y3 : wa.cell? ⟨gx, 3, none⟩ = some (.slice XA q xc) := RX.out.cells 3
    have y4 : wa.cell? ⟨gL, 0, none⟩ = some (.slice A na ca) := TT.out.all.var.cells 0
    have ylt := RX.out.lt
    obtain ⟨qm, hqm⟩ : ∃ qm, qm = min q 298 := ⟨_, rfl⟩
    have hmin : ∀ w, (Builtin.min_ #[3, 3] 3 #[.int .i64 (q : Int), .int .i64 298]).run Try.prog w = .ok (.int .i64 (qm : Int)) w := fun w => run_min2n w _ _ q 298 qm hqm
    have hqc : qm ≤ xc := by have := HOK.out.ln; dsimp only at this; rw [HQ.out] at this; omega
    have hqq : qm ≤ q := by omega
    have hq298 : qm ≤ 298 := by omega
    clear hqm
    have hdv : (na : Int) / 256 = 0 := by omega
    have hw8 : IntKind.u8.wrap (na : Int) = (na : Int) := by simp [IntKind.wrap, IntKind.bits, IntKind.signed]; omega
    have hw0 : IntKind.i64.wrap 0 = 0 := by decide
    have hw80 : IntKind.u8.wrap 0 = 0 := by decide
    go_upto_region 15 with fail
    clear y0
    go_cut [] (fun wx => ∃ (A5 : Option Addr) (c5 q5 : Nat), 2 ≤ q5 ∧ q5 ≤ 300 ∧ Hid (([0, na] ++ by_.take qm : List Nat).length = q5) ∧ Hid (RowAt wx gx 41 [.bool false, .int .i64 s, .bool up, .slice A5 q5 c5, .bool lost, .bool twice, .int .u8 (wait : Int), .int .u8 (again : Int), .int .u16 (at_ : Int), .int .u16 (turns : Int)]) ∧ Hid (wx.ownsRow (gL + 1) 5 1 (.slice A5 q5 c5) q5 (([0, na] ++ by_.take qm : List Nat).map byw)) ∧ Hid (∀ p, A5 = some p → wr.heap.size ≤ p.block) ∧ Hid (Below wr.heap.size wr wx))
    case first =>
      refine wp_region_held_drew (S := (fun w' => w'.cell? ⟨gL, 0, none⟩ = some (.slice A na ca))) (by kernel_rfl) ?_ (fun hHeld => ?_)
      · exact y4
      refine takeD (i := 0) (oi := _) (v := ?vv1) (d := some 55) rfl (by kernel_rfl) (by kernel_rfl) (by kernel_rfl) (by kernel_rfl) (fun _ _ _ h => h) (Or.inl ⟨by kernel_rfl, ?_⟩) (by assumption) ?_
      rotate_left 1
      · intro W_ hSw; (try dsimp only at hSw); go_simp; (first | done | with_reducible rfl)
      try simp only [Act.put, List.setIfInBounds_toArray, List.set_cons_zero, List.set_cons_succ]
      refine takeD (i := 1) (oi := _) (v := ?vv2) (d := some 56) rfl (by kernel_rfl) (by kernel_rfl) (by kernel_rfl) (by kernel_rfl) (fun _ _ _ h => h) (Or.inl ⟨by kernel_rfl, ?_⟩) (by assumption) ?_
      rotate_left 1
      · intro W_ hSw; (try dsimp only at hSw); go_simp; (first | done | with_reducible rfl)
      try simp only [Act.put, List.setIfInBounds_toArray, List.set_cons_zero, List.set_cons_succ]
      refine takeD (i := 2) (oi := _) (v := ?vv3) (d := some 57) rfl (by kernel_rfl) (by kernel_rfl) (by kernel_rfl) (by kernel_rfl) (fun _ _ _ h => h) (Or.inl ⟨by kernel_rfl, ?_⟩) (by assumption) ?_
      rotate_left 1
      · intro W_ hSw; (try dsimp only at hSw); go_simp; (first | done | with_reducible rfl)
      try simp only [Act.put, List.setIfInBounds_toArray, List.set_cons_zero, List.set_cons_succ]
      refine takeD (i := 3) (oi := _) (v := ?vv4) (d := some 58) rfl (by kernel_rfl) (by kernel_rfl) (by kernel_rfl) (by kernel_rfl) (fun _ _ _ h => h) (Or.inl ⟨by kernel_rfl, ?_⟩) (by assumption) ?_
      rotate_left 1
      · intro W_ hSw; (try dsimp only at hSw); go_simp; (first | done | with_reducible rfl)
      try simp only [Act.put, List.setIfInBounds_toArray, List.set_cons_zero, List.set_cons_succ]
      refine takeD (i := 4) (oi := _) (v := ?vv5) (d := some 59) rfl (by kernel_rfl) (by kernel_rfl) (by kernel_rfl) (by kernel_rfl) (fun _ _ _ h => h) (Or.inl ⟨by kernel_rfl, ?_⟩) (by assumption) ?_
      rotate_left 1
      · intro W_ hSw; (try dsimp only at hSw); go_simp; (first | done | with_reducible rfl)
      try simp only [Act.put, List.setIfInBounds_toArray, List.set_cons_zero, List.set_cons_succ]
      refine takeD (i := 5) (oi := _) (v := ?vv6) (d := some 60) rfl (by kernel_rfl) (by kernel_rfl) (by kernel_rfl) (by kernel_rfl) (fun _ _ _ h => h) (Or.inl ⟨by kernel_rfl, ?_⟩) (by assumption) ?_
      rotate_left 1
      · intro W_ hSw; (try dsimp only at hSw); go_simp; (first | done | with_reducible rfl)
      try simp only [Act.put, List.setIfInBounds_toArray, List.set_cons_zero, List.set_cons_succ]
      refine takeD (i := 6) (oi := _) (v := ?vv7) (d := some 61) rfl (by kernel_rfl) (by kernel_rfl) (by kernel_rfl) (by kernel_rfl) (fun _ _ _ h => h) (Or.inl ⟨by kernel_rfl, ?_⟩) (by assumption) ?_
      rotate_left 1
      · intro W_ hSw; (try dsimp only at hSw); go_simp; (first | done | with_reducible rfl)
      try simp only [Act.put, List.setIfInBounds_toArray, List.set_cons_zero, List.set_cons_succ]
      refine takeD (i := 8) (oi := _) (v := ?vv8) (d := some 63) rfl (by kernel_rfl) (by kernel_rfl) (by kernel_rfl) (by kernel_rfl) (fun _ _ _ h => h) (Or.inl ⟨by kernel_rfl, ?_⟩) (by assumption) ?_
      rotate_left 1
      · intro W_ hSw; (try dsimp only at hSw); go_simp; (first | done | with_reducible rfl)
      try simp only [Act.put, List.setIfInBounds_toArray, List.set_cons_zero, List.set_cons_succ]
      refine takeD (i := 9) (oi := _) (v := ?vv9) (d := some 64) rfl (by kernel_rfl) (by kernel_rfl) (by kernel_rfl) (by kernel_rfl) (fun _ _ _ h => h) (Or.inl ⟨by kernel_rfl, ?_⟩) (by assumption) ?_
      rotate_left 1
      · intro W_ hSw; (try dsimp only at hSw); go_simp; (first | done | with_reducible rfl)
      try simp only [Act.put, List.setIfInBounds_toArray, List.set_cons_zero, List.set_cons_succ]
      refine takeD (i := 11) (oi := _) (v := ?vv10) (d := some 66) rfl (by kernel_rfl) (by kernel_rfl) (by kernel_rfl) (by kernel_rfl) (fun _ _ _ h => h) (Or.inl ⟨by kernel_rfl, ?_⟩) (by assumption) ?_
      rotate_left 1
      · intro W_ hSw; (try dsimp only at hSw); go_simp; (first | done | with_reducible rfl)
      try simp only [Act.put, List.setIfInBounds_toArray, List.set_cons_zero, List.set_cons_succ]
      refine takeD (i := 12) (oi := _) (v := ?vv11) (d := some 67) rfl (by kernel_rfl) (by kernel_rfl) (by kernel_rfl) (by kernel_rfl) (fun _ _ _ h => h) (Or.inl ⟨by kernel_rfl, ?_⟩) (by assumption) ?_
      rotate_left 1
      · intro W_ hSw; (try dsimp only at hSw); go_simp; (first | done | with_reducible rfl)
      try simp only [Act.put, List.setIfInBounds_toArray, List.set_cons_zero, List.set_cons_succ]
      obtain ⟨we, hwe⟩ : ∃ x, x = wa.drew := ⟨_, rfl⟩
      rw [← hwe]
      have hxe : Below wa.heap.size wa we := by rw [hwe]; exact (Below.refl _ _).drew
      have hgB : gL + 1 ≤ wa.heap.size := by have := TT.out.all.var.lt; omega
      have e3 : we.cell? ⟨gx, 3, none⟩ = some (.slice XA q xc) := (hxe.cell (p := ⟨gx, 3, none⟩) (by show gx < _; omega)).trans y3
      have e4 : we.cell? ⟨gL, 0, none⟩ = some (.slice A na ca) := (hxe.cell (p := ⟨gL, 0, none⟩) (by show gL < _; omega)).trans y4
      clear hwe
      refine wpAnyH_ready (rs := [7, 10, 13]) (by kernel_rfl) (by simp) ?_
      refine AllReadyH.cons (o := _) rfl (fun K hK => ?_) (AllReadyH.cons (o := _) rfl (fun K hK => ?_) (AllReadyH.cons (o := _) rfl (fun K hK => ?_) AllReadyH.nil))
      · go_simp
        obtain ⟨wb, hwb⟩ : ∃ q, q = we.alloc (.cells #[.int .u8 0, .int .u8 (na : Int)] 5) := ⟨_, rfl⟩
        rw [← hwb]
        have hxb' : Below we.heap.size we wb := by rw [hwb]; exact bel_alloc (Below.refl _ _) _
        have hxb : Below wa.heap.size wa wb := hxe.trans (hxb'.mono hxe.size)
        have RB : wb.ownsRow we.heap.size 5 1 (.slice (some ⟨we.heap.size, 0, none⟩) 2 2) 2 (([0, na] : List Nat).map byw) := by rw [hwb]; exact own_lit2 we we.heap.size 5 _ _ (Nat.le_refl _)
        have f3 : wb.cell? ⟨gx, 3, none⟩ = some (.slice XA q xc) := (hxb.cell (p := ⟨gx, 3, none⟩) (by show gx < _; omega)).trans y3
        have f4 : wb.cell? ⟨gL, 0, none⟩ = some (.slice A na ca) := (hxb.cell (p := ⟨gL, 0, none⟩) (by show gL < _; omega)).trans y4
        clear hwb
        refine hK.out _ _ ?_ (fun hHeld => ?_)
        · exact f4
        clear hK K
        try simp only [Act.put, List.setIfInBounds_toArray, List.set_cons_zero, List.set_cons_succ]
        refine wpAnyH_ready (rs := [10, 13]) (by kernel_rfl) (by simp) ?_
        refine AllReadyH.cons (o := _) rfl (fun K hK => ?_) (AllReadyH.cons (o := _) rfl (fun K hK => ?_) AllReadyH.nil)
        · go_simp
          refine hK.out _ _ ?_ (fun hHeld => ?_)
          · exact f4
          clear hK K
          try simp only [Act.put, List.setIfInBounds_toArray, List.set_cons_zero, List.set_cons_succ]
          refine wpAnyH_ready (rs := [13]) (by kernel_rfl) (by simp) ?_
          refine AllReadyH.cons (o := _) rfl (fun K hK => ?_) AllReadyH.nil
          go_simp
          refine hK.out _ _ ?_ (fun hHeld => ?_)
          · exact f4
          clear hK K
          try simp only [Act.put, List.setIfInBounds_toArray, List.set_cons_zero, List.set_cons_succ]
          refine takeD (i := 14) (oi := _) (v := ?vv12) (d := some 69) rfl (by kernel_rfl) (by kernel_rfl) (by kernel_rfl) (by kernel_rfl) (fun _ _ _ h => h) (Or.inl ⟨by kernel_rfl, ?_⟩) (by assumption) ?_
          rotate_left 1
          · intro W_ hSw; (try dsimp only at hSw); go_simp; (first | done | with_reducible rfl)
          try simp only [Act.put, List.setIfInBounds_toArray, List.set_cons_zero, List.set_cons_succ]
          refine takeD (i := 15) (oi := _) (v := ?vv13) (d := some 70) rfl (by kernel_rfl) (by kernel_rfl) (by kernel_rfl) (by kernel_rfl) (fun _ _ _ h => h) (Or.inl ⟨by kernel_rfl, ?_⟩) (by assumption) ?_
          rotate_left 1
          · intro W_ hSw; (try dsimp only at hSw); go_simp; (first | done | with_reducible rfl)
          try simp only [Act.put, List.setIfInBounds_toArray, List.set_cons_zero, List.set_cons_succ]
          refine takeD (i := 16) (oi := _) (v := ?vv14) (d := some 71) rfl (by kernel_rfl) (by kernel_rfl) (by kernel_rfl) (by kernel_rfl) (fun _ _ _ h => h) (Or.inl ⟨by kernel_rfl, ?_⟩) (by assumption) ?_
          rotate_left 1
          · intro W_ hSw; (try dsimp only at hSw); go_simp; (first | done | with_reducible rfl)
          try simp only [Act.put, List.setIfInBounds_toArray, List.set_cons_zero, List.set_cons_succ]
          refine wpAnyH_ready (rs := [17]) (by kernel_rfl) (by simp) ?_
          refine AllReadyH.cons (o := _) rfl (fun K hK => ?_) AllReadyH.nil
          (refine step_append_sq (f := byw) _ (by rfl) (.tmp 62) (.tmp 71) 34 (by rfl) (fun _ => rfl) we.heap.size 5 i0 _ _ Try.underlying34 hif hz0 rfl hz1 hz2 (by decide) (.slice (some ⟨we.heap.size, 0, none⟩) 2 2) [0, na] (by rfl) RB wa.heap.size XA (by_.take qm) xc qm (by rw [List.length_take, HQ.out]; omega) (by rfl) ((HOK.out.sq.take qm).below hxb) HOK.out.nl (by simp; omega) hxb'.size ?_)
          intro A5 c5 wc o5 g5 b5
          obtain ⟨q5, hq5⟩ : ∃ q5, ([0, na] ++ by_.take qm : List Nat).length = q5 := ⟨_, rfl⟩
          rw [hq5] at o5 ⊢
          have hq5a : 2 ≤ q5 ∧ q5 ≤ 300 := by rw [← hq5, List.length_append, List.length_take, HQ.out]; simp; omega
          have HQ5 := Lib.hid hq5
          have hxc : Below wa.heap.size wa wc := hxb.trans (b5.mono hxe.size)
          have O5 := Lib.hid o5
          clear hq5 o5
          refine hK.out _ _ ?_ (fun hHeld => ?_)
          · exact (hxc.cell (p := ⟨gL, 0, none⟩) (by show gL < _; omega)).trans y4
          clear hK K
          try simp only [Act.put, List.setIfInBounds_toArray, List.set_cons_zero, List.set_cons_succ]
          refine takeD (i := 18) (oi := _) (v := ?vv15) (d := some 73) rfl (by kernel_rfl) (by kernel_rfl) (by kernel_rfl) (by kernel_rfl) (fun _ _ _ h => h) (Or.inl ⟨by kernel_rfl, ?_⟩) (by assumption) ?_
          rotate_left 1
          · intro W_ hSw; (try dsimp only at hSw); go_simp; (first | done | with_reducible rfl)
          try simp only [Act.put, List.setIfInBounds_toArray, List.set_cons_zero, List.set_cons_succ]
          refine takeD (i := 19) (oi := _) (v := ?vv16) (d := some 74) rfl (by kernel_rfl) (by kernel_rfl) (by kernel_rfl) (by kernel_rfl) (fun _ _ _ h => h) (Or.inl ⟨by kernel_rfl, ?_⟩) (by assumption) ?_
          rotate_left 1
          · intro W_ hSw; (try dsimp only at hSw); go_simp; (first | done | with_reducible rfl)
          try simp only [Act.put, List.setIfInBounds_toArray, List.set_cons_zero, List.set_cons_succ]
          have RXc := Lib.hid (RX.out.to hxc)
          have yc3 : wc.cell? ⟨gx, 3, none⟩ = some (.slice XA q xc) := RXc.out.cells 3
          have yf3 : wc.frozen? ⟨gx, 3, none⟩ = false := RXc.out.frozen 3
          refine wpAnyH_ready (rs := [20]) (by kernel_rfl) (by simp) ?_
          refine AllReadyH.cons (o := _) rfl (fun K hK => ?_) AllReadyH.nil
          go_simp
          obtain ⟨wd, hwd⟩ : ∃ x, x = wc.setCell ⟨gx, 3, none⟩ (.slice A5 q5 c5) := ⟨_, rfl⟩
          rw [← hwd]
          have kd : Only gx wc wd := by rw [hwd]; exact (Only.refl _ _).set _
          have RXd : Hid (RowAt wd gx 41 [.bool false, .int .i64 s, .bool up, .slice A5 q5 c5, .bool lost, .bool twice, .int .u8 (wait : Int), .int .u8 (again : Int), .int .u16 (at_ : Int), .int .u16 (turns : Int)]) := Lib.hid (by rw [hwd]; exact RXc.out.set 3 (.slice A5 q5 c5))
          clear hwd
          refine hK.out _ _ ?_ (fun hHeld => ?_)
          · exact ((kd.below (B := gx) (Nat.le_refl _)).cell (p := ⟨gL, 0, none⟩) (by have := HNX.out.2.1; exact this)).trans ((hxc.cell (p := ⟨gL, 0, none⟩) (by show gL < _; omega)).trans y4)
          clear hK K
          try simp only [Act.put, List.setIfInBounds_toArray, List.set_cons_zero, List.set_cons_succ]
          refine wpAnyH_done (by kernel_rfl) ?_ _
          have O6 := Lib.hid (own_only_ne kd O5.out (own_off O5.out RXc.out (by decide)))
          have O7 : Hid (wd.ownsRow (gL + 1) 5 1 (.slice A5 q5 c5) q5 (([0, na] ++ by_.take qm : List Nat).map byw)) := Lib.hid (own_less O6.out (by have := hxe.size; omega))
          have O8 : Hid (∀ p, A5 = some p → wr.heap.size ≤ p.block) := Lib.hid (fun p hp => by have := (own_at_s O5.out p hp).1; have := hxe.size; have := HWX.out.1.size; omega)
          have BD : Hid (Below wr.heap.size wr wd) := Lib.hid ((HWX.out.1.trans (hxc.mono HWX.out.1.size)).trans (kd.below HWX.out.2))
          clear O5 O6 g5 b5 kd hxc yc3 yf3 RXc RB hxb hxb' f3 f4
          go_wp2
          go_meet
          case rel => exact ⟨A5, c5, q5, hq5a.1, hq5a.2, HQ5, RXd, O7, O8, BD⟩
        · go_simp
          refine hK.out _ _ ?_ (fun hHeld => ?_)
          · exact f4
          clear hK K
          try simp only [Act.put, List.setIfInBounds_toArray, List.set_cons_zero, List.set_cons_succ]
          refine takeD (i := 14) (oi := _) (v := ?vv17) (d := some 69) rfl (by kernel_rfl) (by kernel_rfl) (by kernel_rfl) (by kernel_rfl) (fun _ _ _ h => h) (Or.inl ⟨by kernel_rfl, ?_⟩) (by assumption) ?_
          rotate_left 1
          · intro W_ hSw; (try dsimp only at hSw); go_simp; (first | done | with_reducible rfl)
          try simp only [Act.put, List.setIfInBounds_toArray, List.set_cons_zero, List.set_cons_succ]
          refine takeD (i := 15) (oi := _) (v := ?vv18) (d := some 70) rfl (by kernel_rfl) (by kernel_rfl) (by kernel_rfl) (by kernel_rfl) (fun _ _ _ h => h) (Or.inl ⟨by kernel_rfl, ?_⟩) (by assumption) ?_
          rotate_left 1
          · intro W_ hSw; (try dsimp only at hSw); go_simp; (first | done | with_reducible rfl)
          try simp only [Act.put, List.setIfInBounds_toArray, List.set_cons_zero, List.set_cons_succ]
          refine wpAnyH_ready (rs := [10]) (by kernel_rfl) (by simp) ?_
          refine AllReadyH.cons (o := _) rfl (fun K hK => ?_) AllReadyH.nil
          go_simp
          refine hK.out _ _ ?_ (fun hHeld => ?_)
          · exact f4
          clear hK K
          try simp only [Act.put, List.setIfInBounds_toArray, List.set_cons_zero, List.set_cons_succ]
          refine takeD (i := 16) (oi := _) (v := ?vv19) (d := some 71) rfl (by kernel_rfl) (by kernel_rfl) (by kernel_rfl) (by kernel_rfl) (fun _ _ _ h => h) (Or.inl ⟨by kernel_rfl, ?_⟩) (by assumption) ?_
          rotate_left 1
          · intro W_ hSw; (try dsimp only at hSw); go_simp; (first | done | with_reducible rfl)
          try simp only [Act.put, List.setIfInBounds_toArray, List.set_cons_zero, List.set_cons_succ]
          refine wpAnyH_ready (rs := [17]) (by kernel_rfl) (by simp) ?_
          refine AllReadyH.cons (o := _) rfl (fun K hK => ?_) AllReadyH.nil
          (refine step_append_sq (f := byw) _ (by rfl) (.tmp 62) (.tmp 71) 34 (by rfl) (fun _ => rfl) we.heap.size 5 i0 _ _ Try.underlying34 hif hz0 rfl hz1 hz2 (by decide) (.slice (some ⟨we.heap.size, 0, none⟩) 2 2) [0, na] (by rfl) RB wa.heap.size XA (by_.take qm) xc qm (by rw [List.length_take, HQ.out]; omega) (by rfl) ((HOK.out.sq.take qm).below hxb) HOK.out.nl (by simp; omega) hxb'.size ?_)
          intro A5 c5 wc o5 g5 b5
          obtain ⟨q5, hq5⟩ : ∃ q5, ([0, na] ++ by_.take qm : List Nat).length = q5 := ⟨_, rfl⟩
          rw [hq5] at o5 ⊢
          have hq5a : 2 ≤ q5 ∧ q5 ≤ 300 := by rw [← hq5, List.length_append, List.length_take, HQ.out]; simp; omega
          have HQ5 := Lib.hid hq5
          have hxc : Below wa.heap.size wa wc := hxb.trans (b5.mono hxe.size)
          have O5 := Lib.hid o5
          clear hq5 o5
          refine hK.out _ _ ?_ (fun hHeld => ?_)
          · exact (hxc.cell (p := ⟨gL, 0, none⟩) (by show gL < _; omega)).trans y4
          clear hK K
          try simp only [Act.put, List.setIfInBounds_toArray, List.set_cons_zero, List.set_cons_succ]
          refine takeD (i := 18) (oi := _) (v := ?vv20) (d := some 73) rfl (by kernel_rfl) (by kernel_rfl) (by kernel_rfl) (by kernel_rfl) (fun _ _ _ h => h) (Or.inl ⟨by kernel_rfl, ?_⟩) (by assumption) ?_
          rotate_left 1
          · intro W_ hSw; (try dsimp only at hSw); go_simp; (first | done | with_reducible rfl)
          try simp only [Act.put, List.setIfInBounds_toArray, List.set_cons_zero, List.set_cons_succ]
          refine takeD (i := 19) (oi := _) (v := ?vv21) (d := some 74) rfl (by kernel_rfl) (by kernel_rfl) (by kernel_rfl) (by kernel_rfl) (fun _ _ _ h => h) (Or.inl ⟨by kernel_rfl, ?_⟩) (by assumption) ?_
          rotate_left 1
          · intro W_ hSw; (try dsimp only at hSw); go_simp; (first | done | with_reducible rfl)
          try simp only [Act.put, List.setIfInBounds_toArray, List.set_cons_zero, List.set_cons_succ]
          have RXc := Lib.hid (RX.out.to hxc)
          have yc3 : wc.cell? ⟨gx, 3, none⟩ = some (.slice XA q xc) := RXc.out.cells 3
          have yf3 : wc.frozen? ⟨gx, 3, none⟩ = false := RXc.out.frozen 3
          refine wpAnyH_ready (rs := [20]) (by kernel_rfl) (by simp) ?_
          refine AllReadyH.cons (o := _) rfl (fun K hK => ?_) AllReadyH.nil
          go_simp
          obtain ⟨wd, hwd⟩ : ∃ x, x = wc.setCell ⟨gx, 3, none⟩ (.slice A5 q5 c5) := ⟨_, rfl⟩
          rw [← hwd]
          have kd : Only gx wc wd := by rw [hwd]; exact (Only.refl _ _).set _
          have RXd : Hid (RowAt wd gx 41 [.bool false, .int .i64 s, .bool up, .slice A5 q5 c5, .bool lost, .bool twice, .int .u8 (wait : Int), .int .u8 (again : Int), .int .u16 (at_ : Int), .int .u16 (turns : Int)]) := Lib.hid (by rw [hwd]; exact RXc.out.set 3 (.slice A5 q5 c5))
          clear hwd
          refine hK.out _ _ ?_ (fun hHeld => ?_)
          · exact ((kd.below (B := gx) (Nat.le_refl _)).cell (p := ⟨gL, 0, none⟩) (by have := HNX.out.2.1; exact this)).trans ((hxc.cell (p := ⟨gL, 0, none⟩) (by show gL < _; omega)).trans y4)
          clear hK K
          try simp only [Act.put, List.setIfInBounds_toArray, List.set_cons_zero, List.set_cons_succ]
          refine wpAnyH_done (by kernel_rfl) ?_ _
          have O6 := Lib.hid (own_only_ne kd O5.out (own_off O5.out RXc.out (by decide)))
          have O7 : Hid (wd.ownsRow (gL + 1) 5 1 (.slice A5 q5 c5) q5 (([0, na] ++ by_.take qm : List Nat).map byw)) := Lib.hid (own_less O6.out (by have := hxe.size; omega))
          have O8 : Hid (∀ p, A5 = some p → wr.heap.size ≤ p.block) := Lib.hid (fun p hp => by have := (own_at_s O5.out p hp).1; have := hxe.size; have := HWX.out.1.size; omega)
          have BD : Hid (Below wr.heap.size wr wd) := Lib.hid ((HWX.out.1.trans (hxc.mono HWX.out.1.size)).trans (kd.below HWX.out.2))
          clear O5 O6 g5 b5 kd hxc yc3 yf3 RXc RB hxb hxb' f3 f4
          go_wp2
          go_meet
          case rel => exact ⟨A5, c5, q5, hq5a.1, hq5a.2, HQ5, RXd, O7, O8, BD⟩
      · go_simp
        refine hK.out _ _ ?_ (fun hHeld => ?_)
        · exact e4
        clear hK K
        try simp only [Act.put, List.setIfInBounds_toArray, List.set_cons_zero, List.set_cons_succ]
        refine wpAnyH_ready (rs := [7, 13]) (by kernel_rfl) (by simp) ?_
        refine AllReadyH.cons (o := _) rfl (fun K hK => ?_) (AllReadyH.cons (o := _) rfl (fun K hK => ?_) AllReadyH.nil)
        · go_simp
          obtain ⟨wb, hwb⟩ : ∃ q, q = we.alloc (.cells #[.int .u8 0, .int .u8 (na : Int)] 5) := ⟨_, rfl⟩
          rw [← hwb]
          have hxb' : Below we.heap.size we wb := by rw [hwb]; exact bel_alloc (Below.refl _ _) _
          have hxb : Below wa.heap.size wa wb := hxe.trans (hxb'.mono hxe.size)
          have RB : wb.ownsRow we.heap.size 5 1 (.slice (some ⟨we.heap.size, 0, none⟩) 2 2) 2 (([0, na] : List Nat).map byw) := by rw [hwb]; exact own_lit2 we we.heap.size 5 _ _ (Nat.le_refl _)
          have f3 : wb.cell? ⟨gx, 3, none⟩ = some (.slice XA q xc) := (hxb.cell (p := ⟨gx, 3, none⟩) (by show gx < _; omega)).trans y3
          have f4 : wb.cell? ⟨gL, 0, none⟩ = some (.slice A na ca) := (hxb.cell (p := ⟨gL, 0, none⟩) (by show gL < _; omega)).trans y4
          clear hwb
          refine hK.out _ _ ?_ (fun hHeld => ?_)
          · exact f4
          clear hK K
          try simp only [Act.put, List.setIfInBounds_toArray, List.set_cons_zero, List.set_cons_succ]
          refine wpAnyH_ready (rs := [13]) (by kernel_rfl) (by simp) ?_
          refine AllReadyH.cons (o := _) rfl (fun K hK => ?_) AllReadyH.nil
          go_simp
          refine hK.out _ _ ?_ (fun hHeld => ?_)
          · exact f4
          clear hK K
          try simp only [Act.put, List.setIfInBounds_toArray, List.set_cons_zero, List.set_cons_succ]
          refine takeD (i := 14) (oi := _) (v := ?vv22) (d := some 69) rfl (by kernel_rfl) (by kernel_rfl) (by kernel_rfl) (by kernel_rfl) (fun _ _ _ h => h) (Or.inl ⟨by kernel_rfl, ?_⟩) (by assumption) ?_
          rotate_left 1
          · intro W_ hSw; (try dsimp only at hSw); go_simp; (first | done | with_reducible rfl)
          try simp only [Act.put, List.setIfInBounds_toArray, List.set_cons_zero, List.set_cons_succ]
          refine takeD (i := 15) (oi := _) (v := ?vv23) (d := some 70) rfl (by kernel_rfl) (by kernel_rfl) (by kernel_rfl) (by kernel_rfl) (fun _ _ _ h => h) (Or.inl ⟨by kernel_rfl, ?_⟩) (by assumption) ?_
          rotate_left 1
          · intro W_ hSw; (try dsimp only at hSw); go_simp; (first | done | with_reducible rfl)
          try simp only [Act.put, List.setIfInBounds_toArray, List.set_cons_zero, List.set_cons_succ]
          refine takeD (i := 16) (oi := _) (v := ?vv24) (d := some 71) rfl (by kernel_rfl) (by kernel_rfl) (by kernel_rfl) (by kernel_rfl) (fun _ _ _ h => h) (Or.inl ⟨by kernel_rfl, ?_⟩) (by assumption) ?_
          rotate_left 1
          · intro W_ hSw; (try dsimp only at hSw); go_simp; (first | done | with_reducible rfl)
          try simp only [Act.put, List.setIfInBounds_toArray, List.set_cons_zero, List.set_cons_succ]
          refine wpAnyH_ready (rs := [17]) (by kernel_rfl) (by simp) ?_
          refine AllReadyH.cons (o := _) rfl (fun K hK => ?_) AllReadyH.nil
          (refine step_append_sq (f := byw) _ (by rfl) (.tmp 62) (.tmp 71) 34 (by rfl) (fun _ => rfl) we.heap.size 5 i0 _ _ Try.underlying34 hif hz0 rfl hz1 hz2 (by decide) (.slice (some ⟨we.heap.size, 0, none⟩) 2 2) [0, na] (by rfl) RB wa.heap.size XA (by_.take qm) xc qm (by rw [List.length_take, HQ.out]; omega) (by rfl) ((HOK.out.sq.take qm).below hxb) HOK.out.nl (by simp; omega) hxb'.size ?_)
          intro A5 c5 wc o5 g5 b5
          obtain ⟨q5, hq5⟩ : ∃ q5, ([0, na] ++ by_.take qm : List Nat).length = q5 := ⟨_, rfl⟩
          rw [hq5] at o5 ⊢
          have hq5a : 2 ≤ q5 ∧ q5 ≤ 300 := by rw [← hq5, List.length_append, List.length_take, HQ.out]; simp; omega
          have HQ5 := Lib.hid hq5
          have hxc : Below wa.heap.size wa wc := hxb.trans (b5.mono hxe.size)
          have O5 := Lib.hid o5
          clear hq5 o5
          refine hK.out _ _ ?_ (fun hHeld => ?_)
          · exact (hxc.cell (p := ⟨gL, 0, none⟩) (by show gL < _; omega)).trans y4
          clear hK K
          try simp only [Act.put, List.setIfInBounds_toArray, List.set_cons_zero, List.set_cons_succ]
          refine takeD (i := 18) (oi := _) (v := ?vv25) (d := some 73) rfl (by kernel_rfl) (by kernel_rfl) (by kernel_rfl) (by kernel_rfl) (fun _ _ _ h => h) (Or.inl ⟨by kernel_rfl, ?_⟩) (by assumption) ?_
          rotate_left 1
          · intro W_ hSw; (try dsimp only at hSw); go_simp; (first | done | with_reducible rfl)
          try simp only [Act.put, List.setIfInBounds_toArray, List.set_cons_zero, List.set_cons_succ]
          refine takeD (i := 19) (oi := _) (v := ?vv26) (d := some 74) rfl (by kernel_rfl) (by kernel_rfl) (by kernel_rfl) (by kernel_rfl) (fun _ _ _ h => h) (Or.inl ⟨by kernel_rfl, ?_⟩) (by assumption) ?_
          rotate_left 1
          · intro W_ hSw; (try dsimp only at hSw); go_simp; (first | done | with_reducible rfl)
          try simp only [Act.put, List.setIfInBounds_toArray, List.set_cons_zero, List.set_cons_succ]
          have RXc := Lib.hid (RX.out.to hxc)
          have yc3 : wc.cell? ⟨gx, 3, none⟩ = some (.slice XA q xc) := RXc.out.cells 3
          have yf3 : wc.frozen? ⟨gx, 3, none⟩ = false := RXc.out.frozen 3
          refine wpAnyH_ready (rs := [20]) (by kernel_rfl) (by simp) ?_
          refine AllReadyH.cons (o := _) rfl (fun K hK => ?_) AllReadyH.nil
          go_simp
          obtain ⟨wd, hwd⟩ : ∃ x, x = wc.setCell ⟨gx, 3, none⟩ (.slice A5 q5 c5) := ⟨_, rfl⟩
          rw [← hwd]
          have kd : Only gx wc wd := by rw [hwd]; exact (Only.refl _ _).set _
          have RXd : Hid (RowAt wd gx 41 [.bool false, .int .i64 s, .bool up, .slice A5 q5 c5, .bool lost, .bool twice, .int .u8 (wait : Int), .int .u8 (again : Int), .int .u16 (at_ : Int), .int .u16 (turns : Int)]) := Lib.hid (by rw [hwd]; exact RXc.out.set 3 (.slice A5 q5 c5))
          clear hwd
          refine hK.out _ _ ?_ (fun hHeld => ?_)
          · exact ((kd.below (B := gx) (Nat.le_refl _)).cell (p := ⟨gL, 0, none⟩) (by have := HNX.out.2.1; exact this)).trans ((hxc.cell (p := ⟨gL, 0, none⟩) (by show gL < _; omega)).trans y4)
          clear hK K
          try simp only [Act.put, List.setIfInBounds_toArray, List.set_cons_zero, List.set_cons_succ]
          refine wpAnyH_done (by kernel_rfl) ?_ _
          have O6 := Lib.hid (own_only_ne kd O5.out (own_off O5.out RXc.out (by decide)))
          have O7 : Hid (wd.ownsRow (gL + 1) 5 1 (.slice A5 q5 c5) q5 (([0, na] ++ by_.take qm : List Nat).map byw)) := Lib.hid (own_less O6.out (by have := hxe.size; omega))
          have O8 : Hid (∀ p, A5 = some p → wr.heap.size ≤ p.block) := Lib.hid (fun p hp => by have := (own_at_s O5.out p hp).1; have := hxe.size; have := HWX.out.1.size; omega)
          have BD : Hid (Below wr.heap.size wr wd) := Lib.hid ((HWX.out.1.trans (hxc.mono HWX.out.1.size)).trans (kd.below HWX.out.2))
          clear O5 O6 g5 b5 kd hxc yc3 yf3 RXc RB hxb hxb' f3 f4
          go_wp2
          go_meet
          case rel => exact ⟨A5, c5, q5, hq5a.1, hq5a.2, HQ5, RXd, O7, O8, BD⟩
        · go_simp
          refine hK.out _ _ ?_ (fun hHeld => ?_)
          · exact e4
          clear hK K
          try simp only [Act.put, List.setIfInBounds_toArray, List.set_cons_zero, List.set_cons_succ]
          refine takeD (i := 14) (oi := _) (v := ?vv27) (d := some 69) rfl (by kernel_rfl) (by kernel_rfl) (by kernel_rfl) (by kernel_rfl) (fun _ _ _ h => h) (Or.inl ⟨by kernel_rfl, ?_⟩) (by assumption) ?_
          rotate_left 1
          · intro W_ hSw; (try dsimp only at hSw); go_simp; (first | done | with_reducible rfl)
          try simp only [Act.put, List.setIfInBounds_toArray, List.set_cons_zero, List.set_cons_succ]
          refine takeD (i := 15) (oi := _) (v := ?vv28) (d := some 70) rfl (by kernel_rfl) (by kernel_rfl) (by kernel_rfl) (by kernel_rfl) (fun _ _ _ h => h) (Or.inl ⟨by kernel_rfl, ?_⟩) (by assumption) ?_
          rotate_left 1
          · intro W_ hSw; (try dsimp only at hSw); go_simp; (first | done | with_reducible rfl)
          try simp only [Act.put, List.setIfInBounds_toArray, List.set_cons_zero, List.set_cons_succ]
          refine takeD (i := 16) (oi := _) (v := ?vv29) (d := some 71) rfl (by kernel_rfl) (by kernel_rfl) (by kernel_rfl) (by kernel_rfl) (fun _ _ _ h => h) (Or.inl ⟨by kernel_rfl, ?_⟩) (by assumption) ?_
          rotate_left 1
          · intro W_ hSw; (try dsimp only at hSw); go_simp; (first | done | with_reducible rfl)
          try simp only [Act.put, List.setIfInBounds_toArray, List.set_cons_zero, List.set_cons_succ]
          refine wpAnyH_ready (rs := [7]) (by kernel_rfl) (by simp) ?_
          refine AllReadyH.cons (o := _) rfl (fun K hK => ?_) AllReadyH.nil
          go_simp
          obtain ⟨wb, hwb⟩ : ∃ q, q = we.alloc (.cells #[.int .u8 0, .int .u8 (na : Int)] 5) := ⟨_, rfl⟩
          rw [← hwb]
          have hxb' : Below we.heap.size we wb := by rw [hwb]; exact bel_alloc (Below.refl _ _) _
          have hxb : Below wa.heap.size wa wb := hxe.trans (hxb'.mono hxe.size)
          have RB : wb.ownsRow we.heap.size 5 1 (.slice (some ⟨we.heap.size, 0, none⟩) 2 2) 2 (([0, na] : List Nat).map byw) := by rw [hwb]; exact own_lit2 we we.heap.size 5 _ _ (Nat.le_refl _)
          have f3 : wb.cell? ⟨gx, 3, none⟩ = some (.slice XA q xc) := (hxb.cell (p := ⟨gx, 3, none⟩) (by show gx < _; omega)).trans y3
          have f4 : wb.cell? ⟨gL, 0, none⟩ = some (.slice A na ca) := (hxb.cell (p := ⟨gL, 0, none⟩) (by show gL < _; omega)).trans y4
          clear hwb
          refine hK.out _ _ ?_ (fun hHeld => ?_)
          · exact f4
          clear hK K
          try simp only [Act.put, List.setIfInBounds_toArray, List.set_cons_zero, List.set_cons_succ]
          refine wpAnyH_ready (rs := [17]) (by kernel_rfl) (by simp) ?_
          refine AllReadyH.cons (o := _) rfl (fun K hK => ?_) AllReadyH.nil
          (refine step_append_sq (f := byw) _ (by rfl) (.tmp 62) (.tmp 71) 34 (by rfl) (fun _ => rfl) we.heap.size 5 i0 _ _ Try.underlying34 hif hz0 rfl hz1 hz2 (by decide) (.slice (some ⟨we.heap.size, 0, none⟩) 2 2) [0, na] (by rfl) RB wa.heap.size XA (by_.take qm) xc qm (by rw [List.length_take, HQ.out]; omega) (by rfl) ((HOK.out.sq.take qm).below hxb) HOK.out.nl (by simp; omega) hxb'.size ?_)
          intro A5 c5 wc o5 g5 b5
          obtain ⟨q5, hq5⟩ : ∃ q5, ([0, na] ++ by_.take qm : List Nat).length = q5 := ⟨_, rfl⟩
          rw [hq5] at o5 ⊢
          have hq5a : 2 ≤ q5 ∧ q5 ≤ 300 := by rw [← hq5, List.length_append, List.length_take, HQ.out]; simp; omega
          have HQ5 := Lib.hid hq5
          have hxc : Below wa.heap.size wa wc := hxb.trans (b5.mono hxe.size)
          have O5 := Lib.hid o5
          clear hq5 o5
          refine hK.out _ _ ?_ (fun hHeld => ?_)
          · exact (hxc.cell (p := ⟨gL, 0, none⟩) (by show gL < _; omega)).trans y4
          clear hK K
          try simp only [Act.put, List.setIfInBounds_toArray, List.set_cons_zero, List.set_cons_succ]
          refine takeD (i := 18) (oi := _) (v := ?vv30) (d := some 73) rfl (by kernel_rfl) (by kernel_rfl) (by kernel_rfl) (by kernel_rfl) (fun _ _ _ h => h) (Or.inl ⟨by kernel_rfl, ?_⟩) (by assumption) ?_
          rotate_left 1
          · intro W_ hSw; (try dsimp only at hSw); go_simp; (first | done | with_reducible rfl)
          try simp only [Act.put, List.setIfInBounds_toArray, List.set_cons_zero, List.set_cons_succ]
          refine takeD (i := 19) (oi := _) (v := ?vv31) (d := some 74) rfl (by kernel_rfl) (by kernel_rfl) (by kernel_rfl) (by kernel_rfl) (fun _ _ _ h => h) (Or.inl ⟨by kernel_rfl, ?_⟩) (by assumption) ?_
          rotate_left 1
          · intro W_ hSw; (try dsimp only at hSw); go_simp; (first | done | with_reducible rfl)
          try simp only [Act.put, List.setIfInBounds_toArray, List.set_cons_zero, List.set_cons_succ]
          have RXc := Lib.hid (RX.out.to hxc)
          have yc3 : wc.cell? ⟨gx, 3, none⟩ = some (.slice XA q xc) := RXc.out.cells 3
          have yf3 : wc.frozen? ⟨gx, 3, none⟩ = false := RXc.out.frozen 3
          refine wpAnyH_ready (rs := [20]) (by kernel_rfl) (by simp) ?_
          refine AllReadyH.cons (o := _) rfl (fun K hK => ?_) AllReadyH.nil
          go_simp
          obtain ⟨wd, hwd⟩ : ∃ x, x = wc.setCell ⟨gx, 3, none⟩ (.slice A5 q5 c5) := ⟨_, rfl⟩
          rw [← hwd]
          have kd : Only gx wc wd := by rw [hwd]; exact (Only.refl _ _).set _
          have RXd : Hid (RowAt wd gx 41 [.bool false, .int .i64 s, .bool up, .slice A5 q5 c5, .bool lost, .bool twice, .int .u8 (wait : Int), .int .u8 (again : Int), .int .u16 (at_ : Int), .int .u16 (turns : Int)]) := Lib.hid (by rw [hwd]; exact RXc.out.set 3 (.slice A5 q5 c5))
          clear hwd
          refine hK.out _ _ ?_ (fun hHeld => ?_)
          · exact ((kd.below (B := gx) (Nat.le_refl _)).cell (p := ⟨gL, 0, none⟩) (by have := HNX.out.2.1; exact this)).trans ((hxc.cell (p := ⟨gL, 0, none⟩) (by show gL < _; omega)).trans y4)
          clear hK K
          try simp only [Act.put, List.setIfInBounds_toArray, List.set_cons_zero, List.set_cons_succ]
          refine wpAnyH_done (by kernel_rfl) ?_ _
          have O6 := Lib.hid (own_only_ne kd O5.out (own_off O5.out RXc.out (by decide)))
          have O7 : Hid (wd.ownsRow (gL + 1) 5 1 (.slice A5 q5 c5) q5 (([0, na] ++ by_.take qm : List Nat).map byw)) := Lib.hid (own_less O6.out (by have := hxe.size; omega))
          have O8 : Hid (∀ p, A5 = some p → wr.heap.size ≤ p.block) := Lib.hid (fun p hp => by have := (own_at_s O5.out p hp).1; have := hxe.size; have := HWX.out.1.size; omega)
          have BD : Hid (Below wr.heap.size wr wd) := Lib.hid ((HWX.out.1.trans (hxc.mono HWX.out.1.size)).trans (kd.below HWX.out.2))
          clear O5 O6 g5 b5 kd hxc yc3 yf3 RXc RB hxb hxb' f3 f4
          go_wp2
          go_meet
          case rel => exact ⟨A5, c5, q5, hq5a.1, hq5a.2, HQ5, RXd, O7, O8, BD⟩
      · go_simp
        refine hK.out _ _ ?_ (fun hHeld => ?_)
        · exact e4
        clear hK K
        try simp only [Act.put, List.setIfInBounds_toArray, List.set_cons_zero, List.set_cons_succ]
        refine takeD (i := 14) (oi := _) (v := ?vv32) (d := some 69) rfl (by kernel_rfl) (by kernel_rfl) (by kernel_rfl) (by kernel_rfl) (fun _ _ _ h => h) (Or.inl ⟨by kernel_rfl, ?_⟩) (by assumption) ?_
        rotate_left 1
        · intro W_ hSw; (try dsimp only at hSw); go_simp; (first | done | with_reducible rfl)
        try simp only [Act.put, List.setIfInBounds_toArray, List.set_cons_zero, List.set_cons_succ]
        refine takeD (i := 15) (oi := _) (v := ?vv33) (d := some 70) rfl (by kernel_rfl) (by kernel_rfl) (by kernel_rfl) (by kernel_rfl) (fun _ _ _ h => h) (Or.inl ⟨by kernel_rfl, ?_⟩) (by assumption) ?_
        rotate_left 1
        · intro W_ hSw; (try dsimp only at hSw); go_simp; (first | done | with_reducible rfl)
        try simp only [Act.put, List.setIfInBounds_toArray, List.set_cons_zero, List.set_cons_succ]
        refine wpAnyH_ready (rs := [7, 10]) (by kernel_rfl) (by simp) ?_
        refine AllReadyH.cons (o := _) rfl (fun K hK => ?_) (AllReadyH.cons (o := _) rfl (fun K hK => ?_) AllReadyH.nil)
        · go_simp
          obtain ⟨wb, hwb⟩ : ∃ q, q = we.alloc (.cells #[.int .u8 0, .int .u8 (na : Int)] 5) := ⟨_, rfl⟩
          rw [← hwb]
          have hxb' : Below we.heap.size we wb := by rw [hwb]; exact bel_alloc (Below.refl _ _) _
          have hxb : Below wa.heap.size wa wb := hxe.trans (hxb'.mono hxe.size)
          have RB : wb.ownsRow we.heap.size 5 1 (.slice (some ⟨we.heap.size, 0, none⟩) 2 2) 2 (([0, na] : List Nat).map byw) := by rw [hwb]; exact own_lit2 we we.heap.size 5 _ _ (Nat.le_refl _)
          have f3 : wb.cell? ⟨gx, 3, none⟩ = some (.slice XA q xc) := (hxb.cell (p := ⟨gx, 3, none⟩) (by show gx < _; omega)).trans y3
          have f4 : wb.cell? ⟨gL, 0, none⟩ = some (.slice A na ca) := (hxb.cell (p := ⟨gL, 0, none⟩) (by show gL < _; omega)).trans y4
          clear hwb
          refine hK.out _ _ ?_ (fun hHeld => ?_)
          · exact f4
          clear hK K
          try simp only [Act.put, List.setIfInBounds_toArray, List.set_cons_zero, List.set_cons_succ]
          refine wpAnyH_ready (rs := [10]) (by kernel_rfl) (by simp) ?_
          refine AllReadyH.cons (o := _) rfl (fun K hK => ?_) AllReadyH.nil
          go_simp
          refine hK.out _ _ ?_ (fun hHeld => ?_)
          · exact f4
          clear hK K
          try simp only [Act.put, List.setIfInBounds_toArray, List.set_cons_zero, List.set_cons_succ]
          refine takeD (i := 16) (oi := _) (v := ?vv34) (d := some 71) rfl (by kernel_rfl) (by kernel_rfl) (by kernel_rfl) (by kernel_rfl) (fun _ _ _ h => h) (Or.inl ⟨by kernel_rfl, ?_⟩) (by assumption) ?_
          rotate_left 1
          · intro W_ hSw; (try dsimp only at hSw); go_simp; (first | done | with_reducible rfl)
          try simp only [Act.put, List.setIfInBounds_toArray, List.set_cons_zero, List.set_cons_succ]
          refine wpAnyH_ready (rs := [17]) (by kernel_rfl) (by simp) ?_
          refine AllReadyH.cons (o := _) rfl (fun K hK => ?_) AllReadyH.nil
          (refine step_append_sq (f := byw) _ (by rfl) (.tmp 62) (.tmp 71) 34 (by rfl) (fun _ => rfl) we.heap.size 5 i0 _ _ Try.underlying34 hif hz0 rfl hz1 hz2 (by decide) (.slice (some ⟨we.heap.size, 0, none⟩) 2 2) [0, na] (by rfl) RB wa.heap.size XA (by_.take qm) xc qm (by rw [List.length_take, HQ.out]; omega) (by rfl) ((HOK.out.sq.take qm).below hxb) HOK.out.nl (by simp; omega) hxb'.size ?_)
          intro A5 c5 wc o5 g5 b5
          obtain ⟨q5, hq5⟩ : ∃ q5, ([0, na] ++ by_.take qm : List Nat).length = q5 := ⟨_, rfl⟩
          rw [hq5] at o5 ⊢
          have hq5a : 2 ≤ q5 ∧ q5 ≤ 300 := by rw [← hq5, List.length_append, List.length_take, HQ.out]; simp; omega
          have HQ5 := Lib.hid hq5
          have hxc : Below wa.heap.size wa wc := hxb.trans (b5.mono hxe.size)
          have O5 := Lib.hid o5
          clear hq5 o5
          refine hK.out _ _ ?_ (fun hHeld => ?_)
          · exact (hxc.cell (p := ⟨gL, 0, none⟩) (by show gL < _; omega)).trans y4
          clear hK K
          try simp only [Act.put, List.setIfInBounds_toArray, List.set_cons_zero, List.set_cons_succ]
          refine takeD (i := 18) (oi := _) (v := ?vv35) (d := some 73) rfl (by kernel_rfl) (by kernel_rfl) (by kernel_rfl) (by kernel_rfl) (fun _ _ _ h => h) (Or.inl ⟨by kernel_rfl, ?_⟩) (by assumption) ?_
          rotate_left 1
          · intro W_ hSw; (try dsimp only at hSw); go_simp; (first | done | with_reducible rfl)
          try simp only [Act.put, List.setIfInBounds_toArray, List.set_cons_zero, List.set_cons_succ]
          refine takeD (i := 19) (oi := _) (v := ?vv36) (d := some 74) rfl (by kernel_rfl) (by kernel_rfl) (by kernel_rfl) (by kernel_rfl) (fun _ _ _ h => h) (Or.inl ⟨by kernel_rfl, ?_⟩) (by assumption) ?_
          rotate_left 1
          · intro W_ hSw; (try dsimp only at hSw); go_simp; (first | done | with_reducible rfl)
          try simp only [Act.put, List.setIfInBounds_toArray, List.set_cons_zero, List.set_cons_succ]
          have RXc := Lib.hid (RX.out.to hxc)
          have yc3 : wc.cell? ⟨gx, 3, none⟩ = some (.slice XA q xc) := RXc.out.cells 3
          have yf3 : wc.frozen? ⟨gx, 3, none⟩ = false := RXc.out.frozen 3
          refine wpAnyH_ready (rs := [20]) (by kernel_rfl) (by simp) ?_
          refine AllReadyH.cons (o := _) rfl (fun K hK => ?_) AllReadyH.nil
          go_simp
          obtain ⟨wd, hwd⟩ : ∃ x, x = wc.setCell ⟨gx, 3, none⟩ (.slice A5 q5 c5) := ⟨_, rfl⟩
          rw [← hwd]
          have kd : Only gx wc wd := by rw [hwd]; exact (Only.refl _ _).set _
          have RXd : Hid (RowAt wd gx 41 [.bool false, .int .i64 s, .bool up, .slice A5 q5 c5, .bool lost, .bool twice, .int .u8 (wait : Int), .int .u8 (again : Int), .int .u16 (at_ : Int), .int .u16 (turns : Int)]) := Lib.hid (by rw [hwd]; exact RXc.out.set 3 (.slice A5 q5 c5))
          clear hwd
          refine hK.out _ _ ?_ (fun hHeld => ?_)
          · exact ((kd.below (B := gx) (Nat.le_refl _)).cell (p := ⟨gL, 0, none⟩) (by have := HNX.out.2.1; exact this)).trans ((hxc.cell (p := ⟨gL, 0, none⟩) (by show gL < _; omega)).trans y4)
          clear hK K
          try simp only [Act.put, List.setIfInBounds_toArray, List.set_cons_zero, List.set_cons_succ]
          refine wpAnyH_done (by kernel_rfl) ?_ _
          have O6 := Lib.hid (own_only_ne kd O5.out (own_off O5.out RXc.out (by decide)))
          have O7 : Hid (wd.ownsRow (gL + 1) 5 1 (.slice A5 q5 c5) q5 (([0, na] ++ by_.take qm : List Nat).map byw)) := Lib.hid (own_less O6.out (by have := hxe.size; omega))
          have O8 : Hid (∀ p, A5 = some p → wr.heap.size ≤ p.block) := Lib.hid (fun p hp => by have := (own_at_s O5.out p hp).1; have := hxe.size; have := HWX.out.1.size; omega)
          have BD : Hid (Below wr.heap.size wr wd) := Lib.hid ((HWX.out.1.trans (hxc.mono HWX.out.1.size)).trans (kd.below HWX.out.2))
          clear O5 O6 g5 b5 kd hxc yc3 yf3 RXc RB hxb hxb' f3 f4
          go_wp2
          go_meet
          case rel => exact ⟨A5, c5, q5, hq5a.1, hq5a.2, HQ5, RXd, O7, O8, BD⟩
        · go_simp
          refine hK.out _ _ ?_ (fun hHeld => ?_)
          · exact e4
          clear hK K
          try simp only [Act.put, List.setIfInBounds_toArray, List.set_cons_zero, List.set_cons_succ]
          refine takeD (i := 16) (oi := _) (v := ?vv37) (d := some 71) rfl (by kernel_rfl) (by kernel_rfl) (by kernel_rfl) (by kernel_rfl) (fun _ _ _ h => h) (Or.inl ⟨by kernel_rfl, ?_⟩) (by assumption) ?_
          rotate_left 1
          · intro W_ hSw; (try dsimp only at hSw); go_simp; (first | done | with_reducible rfl)
          try simp only [Act.put, List.setIfInBounds_toArray, List.set_cons_zero, List.set_cons_succ]
          refine wpAnyH_ready (rs := [7]) (by kernel_rfl) (by simp) ?_
          refine AllReadyH.cons (o := _) rfl (fun K hK => ?_) AllReadyH.nil
          go_simp
          obtain ⟨wb, hwb⟩ : ∃ q, q = we.alloc (.cells #[.int .u8 0, .int .u8 (na : Int)] 5) := ⟨_, rfl⟩
          rw [← hwb]
          have hxb' : Below we.heap.size we wb := by rw [hwb]; exact bel_alloc (Below.refl _ _) _
          have hxb : Below wa.heap.size wa wb := hxe.trans (hxb'.mono hxe.size)
          have RB : wb.ownsRow we.heap.size 5 1 (.slice (some ⟨we.heap.size, 0, none⟩) 2 2) 2 (([0, na] : List Nat).map byw) := by rw [hwb]; exact own_lit2 we we.heap.size 5 _ _ (Nat.le_refl _)
          have f3 : wb.cell? ⟨gx, 3, none⟩ = some (.slice XA q xc) := (hxb.cell (p := ⟨gx, 3, none⟩) (by show gx < _; omega)).trans y3
          have f4 : wb.cell? ⟨gL, 0, none⟩ = some (.slice A na ca) := (hxb.cell (p := ⟨gL, 0, none⟩) (by show gL < _; omega)).trans y4
          clear hwb
          refine hK.out _ _ ?_ (fun hHeld => ?_)
          · exact f4
          clear hK K
          try simp only [Act.put, List.setIfInBounds_toArray, List.set_cons_zero, List.set_cons_succ]
          refine wpAnyH_ready (rs := [17]) (by kernel_rfl) (by simp) ?_
          refine AllReadyH.cons (o := _) rfl (fun K hK => ?_) AllReadyH.nil
          (refine step_append_sq (f := byw) _ (by rfl) (.tmp 62) (.tmp 71) 34 (by rfl) (fun _ => rfl) we.heap.size 5 i0 _ _ Try.underlying34 hif hz0 rfl hz1 hz2 (by decide) (.slice (some ⟨we.heap.size, 0, none⟩) 2 2) [0, na] (by rfl) RB wa.heap.size XA (by_.take qm) xc qm (by rw [List.length_take, HQ.out]; omega) (by rfl) ((HOK.out.sq.take qm).below hxb) HOK.out.nl (by simp; omega) hxb'.size ?_)
          intro A5 c5 wc o5 g5 b5
          obtain ⟨q5, hq5⟩ : ∃ q5, ([0, na] ++ by_.take qm : List Nat).length = q5 := ⟨_, rfl⟩
          rw [hq5] at o5 ⊢
          have hq5a : 2 ≤ q5 ∧ q5 ≤ 300 := by rw [← hq5, List.length_append, List.length_take, HQ.out]; simp; omega
          have HQ5 := Lib.hid hq5
          have hxc : Below wa.heap.size wa wc := hxb.trans (b5.mono hxe.size)
          have O5 := Lib.hid o5
          clear hq5 o5
          refine hK.out _ _ ?_ (fun hHeld => ?_)
          · exact (hxc.cell (p := ⟨gL, 0, none⟩) (by show gL < _; omega)).trans y4
          clear hK K
          try simp only [Act.put, List.setIfInBounds_toArray, List.set_cons_zero, List.set_cons_succ]
          refine takeD (i := 18) (oi := _) (v := ?vv38) (d := some 73) rfl (by kernel_rfl) (by kernel_rfl) (by kernel_rfl) (by kernel_rfl) (fun _ _ _ h => h) (Or.inl ⟨by kernel_rfl, ?_⟩) (by assumption) ?_
          rotate_left 1
          · intro W_ hSw; (try dsimp only at hSw); go_simp; (first | done | with_reducible rfl)
          try simp only [Act.put, List.setIfInBounds_toArray, List.set_cons_zero, List.set_cons_succ]
          refine takeD (i := 19) (oi := _) (v := ?vv39) (d := some 74) rfl (by kernel_rfl) (by kernel_rfl) (by kernel_rfl) (by kernel_rfl) (fun _ _ _ h => h) (Or.inl ⟨by kernel_rfl, ?_⟩) (by assumption) ?_
          rotate_left 1
          · intro W_ hSw; (try dsimp only at hSw); go_simp; (first | done | with_reducible rfl)
          try simp only [Act.put, List.setIfInBounds_toArray, List.set_cons_zero, List.set_cons_succ]
          have RXc := Lib.hid (RX.out.to hxc)
          have yc3 : wc.cell? ⟨gx, 3, none⟩ = some (.slice XA q xc) := RXc.out.cells 3
          have yf3 : wc.frozen? ⟨gx, 3, none⟩ = false := RXc.out.frozen 3
          refine wpAnyH_ready (rs := [20]) (by kernel_rfl) (by simp) ?_
          refine AllReadyH.cons (o := _) rfl (fun K hK => ?_) AllReadyH.nil
          go_simp
          obtain ⟨wd, hwd⟩ : ∃ x, x = wc.setCell ⟨gx, 3, none⟩ (.slice A5 q5 c5) := ⟨_, rfl⟩
          rw [← hwd]
          have kd : Only gx wc wd := by rw [hwd]; exact (Only.refl _ _).set _
          have RXd : Hid (RowAt wd gx 41 [.bool false, .int .i64 s, .bool up, .slice A5 q5 c5, .bool lost, .bool twice, .int .u8 (wait : Int), .int .u8 (again : Int), .int .u16 (at_ : Int), .int .u16 (turns : Int)]) := Lib.hid (by rw [hwd]; exact RXc.out.set 3 (.slice A5 q5 c5))
          clear hwd
          refine hK.out _ _ ?_ (fun hHeld => ?_)
          · exact ((kd.below (B := gx) (Nat.le_refl _)).cell (p := ⟨gL, 0, none⟩) (by have := HNX.out.2.1; exact this)).trans ((hxc.cell (p := ⟨gL, 0, none⟩) (by show gL < _; omega)).trans y4)
          clear hK K
          try simp only [Act.put, List.setIfInBounds_toArray, List.set_cons_zero, List.set_cons_succ]
          refine wpAnyH_done (by kernel_rfl) ?_ _
          have O6 := Lib.hid (own_only_ne kd O5.out (own_off O5.out RXc.out (by decide)))
          have O7 : Hid (wd.ownsRow (gL + 1) 5 1 (.slice A5 q5 c5) q5 (([0, na] ++ by_.take qm : List Nat).map byw)) := Lib.hid (own_less O6.out (by have := hxe.size; omega))
          have O8 : Hid (∀ p, A5 = some p → wr.heap.size ≤ p.block) := Lib.hid (fun p hp => by have := (own_at_s O5.out p hp).1; have := hxe.size; have := HWX.out.1.size; omega)
          have BD : Hid (Below wr.heap.size wr wd) := Lib.hid ((HWX.out.1.trans (hxc.mono HWX.out.1.size)).trans (kd.below HWX.out.2))
          clear O5 O6 g5 b5 kd hxc yc3 yf3 RXc RB hxb hxb' f3 f4
          go_wp2
          go_meet
          case rel => exact ⟨A5, c5, q5, hq5a.1, hq5a.2, HQ5, RXd, O7, O8, BD⟩
    case rest =>
    obtain ⟨A5, c5, q5, hq2, hq3, HQ5, RX5, O5, O5b, B5⟩ := hcut
    rename World => w5
    have O5n : Hid (∀ p, A5 = some p → p.block ≠ gx) := Lib.hid (own_off O5.out RX5.out (by decide))
    clear RX HOK TT y3 y4 ylt hmin hqc hqq hq298 hdv hw8 hw0 hw80
    have ylt : gx < (w5).heap.size := RX5.out.lt
    have ylu : gx < (w5).heap.size + 1 := Nat.lt_succ_of_lt RX5.out.lt
    have y0 : (w5).cell? ⟨gx, 0, none⟩ = some (.bool false) := RX5.out.cells 0
    have yz0 : (w5).frozen? ⟨gx, 0, none⟩ = false := RX5.out.frozen 0
    have y1 : (w5).cell? ⟨gx, 1, none⟩ = some (.int .i64 s) := RX5.out.cells 1
    have yz1 : (w5).frozen? ⟨gx, 1, none⟩ = false := RX5.out.frozen 1
    have y2 : (w5).cell? ⟨gx, 2, none⟩ = some (.bool up) := RX5.out.cells 2
    have yz2 : (w5).frozen? ⟨gx, 2, none⟩ = false := RX5.out.frozen 2
    have y3 : (w5).cell? ⟨gx, 3, none⟩ = some (.slice A5 q5 c5) := RX5.out.cells 3
    have yz3 : (w5).frozen? ⟨gx, 3, none⟩ = false := RX5.out.frozen 3
    have y4 : (w5).cell? ⟨gx, 4, none⟩ = some (.bool lost) := RX5.out.cells 4
    have yz4 : (w5).frozen? ⟨gx, 4, none⟩ = false := RX5.out.frozen 4
    have y5 : (w5).cell? ⟨gx, 5, none⟩ = some (.bool twice) := RX5.out.cells 5
    have yz5 : (w5).frozen? ⟨gx, 5, none⟩ = false := RX5.out.frozen 5
    have y6 : (w5).cell? ⟨gx, 6, none⟩ = some (.int .u8 (wait : Int)) := RX5.out.cells 6
    have yz6 : (w5).frozen? ⟨gx, 6, none⟩ = false := RX5.out.frozen 6
    have y7 : (w5).cell? ⟨gx, 7, none⟩ = some (.int .u8 (again : Int)) := RX5.out.cells 7
    have yz7 : (w5).frozen? ⟨gx, 7, none⟩ = false := RX5.out.frozen 7
    have y8 : (w5).cell? ⟨gx, 8, none⟩ = some (.int .u16 (at_ : Int)) := RX5.out.cells 8
    have yz8 : (w5).frozen? ⟨gx, 8, none⟩ = false := RX5.out.frozen 8
    have y9 : (w5).cell? ⟨gx, 9, none⟩ = some (.int .u16 (turns : Int)) := RX5.out.cells 9
    have yz9 : (w5).frozen? ⟨gx, 9, none⟩ = false := RX5.out.frozen 9
    have hat : at_ < 65536 := HFT.out.at_
    obtain ⟨n8, hn8⟩ : ∃ n8, 8 * q5 = n8 := ⟨_, rfl⟩
    have HN8 := Lib.hid hn8
    have m1 : (8 : Int) * (q5 : Int) = (n8 : Int) := by omega
    have m2 : IntKind.i64.wrap (n8 : Int) = (n8 : Int) := IntWalk.i64_in _ (by omega)
    have m3 : IntKind.i64.wrap (at_ : Int) = (at_ : Int) := IntWalk.i64_in _ (by omega)
    have hn80 : n8 ≠ 0 := by omega
    have m4 : (n8 : Int) ≠ 0 := by omega
    obtain ⟨rr, hrr⟩ : ∃ rr, at_ % n8 = rr := ⟨_, rfl⟩
    have m5 : (at_ : Int) % (n8 : Int) = (rr : Int) := by rw [← hrr]; rfl
    have HRRE := Lib.hid hrr
    have m6 : IntKind.i64.wrap (rr : Int) = (rr : Int) := IntWalk.i64_in _ (by have := Nat.mod_lt at_ (Nat.pos_of_ne_zero hn80); omega)
    clear hn8 hrr
    go_upto_if 86 with fail
    go_cut [] (fun wx => ∃ at5 : Nat, at5 < 65536 ∧ Hid (q5 = 2 ∨ 16 ≤ at5 % (8 * q5)) ∧ Hid (RowAt wx gx 41 [.bool false, .int .i64 s, .bool up, .slice A5 q5 c5, .bool lost, .bool twice, .int .u8 (wait : Int), .int .u8 (again : Int), .int .u16 (at5 : Int), .int .u16 (turns : Int)]) ∧ Hid (Only gx w5 wx))
    case first =>
      by_cases hb : rr < 16
      · have gg : decide ((rr : Int) < 16) = true := decide_eq_true (by omega)
        obtain ⟨n7, hn7⟩ : ∃ n7, n8 = n7 + 1 := ⟨n8 - 1, by omega⟩
        have p1 : (n8 : Int) - 1 = (n7 : Int) := by omega
        have p2 : IntKind.i64.wrap (n7 : Int) = (n7 : Int) := IntWalk.i64_in _ (by omega)
        have p3 : IntKind.u16.wrap (n7 : Int) = (n7 : Int) := by simp [IntKind.wrap, IntKind.bits, IntKind.signed]; omega
        have HN7 := Lib.hid hn7
        have hn7b : n7 < 65536 := by omega
        clear hn7
        go_wp2
        go_meet
        case rel => exact ⟨n7, hn7b, Lib.hid (by have h1 := HN7.out; have h2 := HN8.out; by_cases h3 : q5 = 2; exact .inl h3; exact .inr (by rw [Nat.mod_eq_of_lt (by omega)]; omega)), Lib.hid (RX5.out.set 8 (.int .u16 (n7 : Int))), Lib.hid ((Only.refl _ _).set _)⟩
      · have gg : decide ((rr : Int) < 16) = false := decide_eq_false (by omega)
        go_wp2
        go_meet
        case rel => exact ⟨at_, hat, Lib.hid (.inr (by rw [HN8.out, HRRE.out]; omega)), RX5, Lib.hid (Only.refl _ _)⟩
    case rest =>
    obtain ⟨at5, hat5, HA5, RX6, K6⟩ := hcut
    rename World => w6
    clear y0 y1 y2 y3 y4 y5 y6 y7 y8 y9 yz0 yz1 yz2 yz3 yz4 yz5 yz6 yz7 yz8 yz9 ylt ylu m1 m2 m3 m4 m5 m6 HN8 HRRE hat RX5 hn80
    have ylt : gx < (w6).heap.size := RX6.out.lt
    have ylu : gx < (w6).heap.size + 1 := Nat.lt_succ_of_lt RX6.out.lt
    have y0 : (w6).cell? ⟨gx, 0, none⟩ = some (.bool false) := RX6.out.cells 0
    have yz0 : (w6).frozen? ⟨gx, 0, none⟩ = false := RX6.out.frozen 0
    have y1 : (w6).cell? ⟨gx, 1, none⟩ = some (.int .i64 s) := RX6.out.cells 1
    have yz1 : (w6).frozen? ⟨gx, 1, none⟩ = false := RX6.out.frozen 1
    have y2 : (w6).cell? ⟨gx, 2, none⟩ = some (.bool up) := RX6.out.cells 2
    have yz2 : (w6).frozen? ⟨gx, 2, none⟩ = false := RX6.out.frozen 2
    have y3 : (w6).cell? ⟨gx, 3, none⟩ = some (.slice A5 q5 c5) := RX6.out.cells 3
    have yz3 : (w6).frozen? ⟨gx, 3, none⟩ = false := RX6.out.frozen 3
    have y4 : (w6).cell? ⟨gx, 4, none⟩ = some (.bool lost) := RX6.out.cells 4
    have yz4 : (w6).frozen? ⟨gx, 4, none⟩ = false := RX6.out.frozen 4
    have y5 : (w6).cell? ⟨gx, 5, none⟩ = some (.bool twice) := RX6.out.cells 5
    have yz5 : (w6).frozen? ⟨gx, 5, none⟩ = false := RX6.out.frozen 5
    have y6 : (w6).cell? ⟨gx, 6, none⟩ = some (.int .u8 (wait : Int)) := RX6.out.cells 6
    have yz6 : (w6).frozen? ⟨gx, 6, none⟩ = false := RX6.out.frozen 6
    have y7 : (w6).cell? ⟨gx, 7, none⟩ = some (.int .u8 (again : Int)) := RX6.out.cells 7
    have yz7 : (w6).frozen? ⟨gx, 7, none⟩ = false := RX6.out.frozen 7
    have y8 : (w6).cell? ⟨gx, 8, none⟩ = some (.int .u16 (at5 : Int)) := RX6.out.cells 8
    have yz8 : (w6).frozen? ⟨gx, 8, none⟩ = false := RX6.out.frozen 8
    have y9 : (w6).cell? ⟨gx, 9, none⟩ = some (.int .u16 (turns : Int)) := RX6.out.cells 9
    have yz9 : (w6).frozen? ⟨gx, 9, none⟩ = false := RX6.out.frozen 9
    have htu : turns < 65536 := HFT.out.turns
    go_upto_if 96 with fail
    go_cut [] (fun wx => ∃ tu5 : Nat, tu5 < 65536 ∧ Hid (tu5 = 0 ∨ 16 ≤ at5 % (8 * q5)) ∧ Hid (RowAt wx gx 41 [.bool false, .int .i64 s, .bool up, .slice A5 q5 c5, .bool lost, .bool twice, .int .u8 (wait : Int), .int .u8 (again : Int), .int .u16 (at5 : Int), .int .u16 (tu5 : Int)]) ∧ Hid (Only gx w5 wx))
    case first =>
      by_cases hb : q5 = 2
      · have gg : decide ((q5 : Int) = 2) = true := decide_eq_true (by omega)
        go_wp2
        go_meet
        case rel => exact ⟨0, by omega, Lib.hid (.inl rfl), Lib.hid (RX6.out.set 9 (.int .u16 ((0 : Nat) : Int))), Lib.hid (K6.out.set _)⟩
      · have gg : decide ((q5 : Int) = 2) = false := decide_eq_false (by omega)
        go_wp2
        go_meet
        case rel => exact ⟨turns, htu, Lib.hid (HA5.out.resolve_left hb |> .inr), RX6, K6⟩
    case rest =>
    obtain ⟨tu5, htu5, HT5, RX7, K7⟩ := hcut
    rename World => w7
    clear y0 y1 y2 y3 y4 y5 y6 y7 y8 y9 yz0 yz1 yz2 yz3 yz4 yz5 yz6 yz7 yz8 yz9 ylt ylu HA5 RX6 K6 htu
    have hbu : ∀ x ∈ ([0, na] ++ by_.take qm : List Nat), x < 256 := fun x hx => by
      rcases List.mem_append.1 hx with hx | hx
      · simp only [List.mem_cons, List.not_mem_nil, or_false] at hx
        omega
      · exact HOK0.out.p.u x (List.mem_of_mem_take hx)
    have hnum : ([0, na] ++ by_.take qm : List Nat).getD 0 0 * 256 + ([0, na] ++ by_.take qm : List Nat).getD 1 0 = na := by simp
    obtain ⟨bt, hbt⟩ : ∃ bt, ([0, na] ++ by_.take qm : List Nat) = bt := ⟨_, rfl⟩
    rw [hbt] at HQ5 O5 hbu hnum
    have HBU := Lib.hid hbu
    have HNUM := Lib.hid hnum
    clear hbt hbu hnum
    have O7 : Hid (w7.ownsRow (gL + 1) 5 1 (.slice A5 q5 c5) q5 (bt.map byw)) := Lib.hid (own_only_ne K7.out O5.out O5n.out)
    have T7 := Lib.hid (TR.out.to (B5.out.trans (K7.out.below HWX.out.2)))
    have HOF : Hid (∀ p, A5 = some p → p.block ∉ bfoot gs gm rg E) := Lib.hid (fun p hp hm => by have h1 := O5b.out p hp; have h2 := (TR.out.bus.foot_ge _ hm).2; omega)
    have HBZ : Hid (base ≤ w7.heap.size) := Lib.hid (Nat.le_trans T7.out.bus.gsb (Nat.le_of_lt T7.out.bus.row.lt))
    have ylt : gx < (w7).heap.size := RX7.out.lt
    have ylu : gx < (w7).heap.size + 1 := Nat.lt_succ_of_lt RX7.out.lt
    have y0 : (w7).cell? ⟨gx, 0, none⟩ = some (.bool false) := RX7.out.cells 0
    have yz0 : (w7).frozen? ⟨gx, 0, none⟩ = false := RX7.out.frozen 0
    have y1 : (w7).cell? ⟨gx, 1, none⟩ = some (.int .i64 s) := RX7.out.cells 1
    have yz1 : (w7).frozen? ⟨gx, 1, none⟩ = false := RX7.out.frozen 1
    have y2 : (w7).cell? ⟨gx, 2, none⟩ = some (.bool up) := RX7.out.cells 2
    have yz2 : (w7).frozen? ⟨gx, 2, none⟩ = false := RX7.out.frozen 2
    have y3 : (w7).cell? ⟨gx, 3, none⟩ = some (.slice A5 q5 c5) := RX7.out.cells 3
    have yz3 : (w7).frozen? ⟨gx, 3, none⟩ = false := RX7.out.frozen 3
    have y4 : (w7).cell? ⟨gx, 4, none⟩ = some (.bool lost) := RX7.out.cells 4
    have yz4 : (w7).frozen? ⟨gx, 4, none⟩ = false := RX7.out.frozen 4
    have y5 : (w7).cell? ⟨gx, 5, none⟩ = some (.bool twice) := RX7.out.cells 5
    have yz5 : (w7).frozen? ⟨gx, 5, none⟩ = false := RX7.out.frozen 5
    have y6 : (w7).cell? ⟨gx, 6, none⟩ = some (.int .u8 (wait : Int)) := RX7.out.cells 6
    have yz6 : (w7).frozen? ⟨gx, 6, none⟩ = false := RX7.out.frozen 6
    have y7 : (w7).cell? ⟨gx, 7, none⟩ = some (.int .u8 (again : Int)) := RX7.out.cells 7
    have yz7 : (w7).frozen? ⟨gx, 7, none⟩ = false := RX7.out.frozen 7
    have y8 : (w7).cell? ⟨gx, 8, none⟩ = some (.int .u16 (at5 : Int)) := RX7.out.cells 8
    have yz8 : (w7).frozen? ⟨gx, 8, none⟩ = false := RX7.out.frozen 8
    have y9 : (w7).cell? ⟨gx, 9, none⟩ = some (.int .u16 (tu5 : Int)) := RX7.out.cells 9
    have yz9 : (w7).frozen? ⟨gx, 9, none⟩ = false := RX7.out.frozen 9
    have hnil := (own_nil_s O7.out).1
    have HNIL : Hid (A5 = none → c5 = 0) := Lib.hid (fun h => (hnil h).1)
    clear hnil TR O5 O5n O5b B5 K7
    go_wp2_with fail
    (with_reducible refine (send_any T7.out.bus HBZ.out s up bt A5 q5 c5 HQ5.out (Sq.of_own O7.out) HNIL.out HBU.out (fun _ => HOF.out) lost twice wait again at5 tu5 HFT.out.wait HFT.out.again hat5 htu5 (by omega) (by omega)).mono ?_)
    rintro e8 w8 ⟨E8, rfl, hb8, f8, t8⟩
    clear y0 y1 y2 y3 y4 y5 y6 y7 y8 y9 yz0 yz1 yz2 yz3 yz4 yz5 yz6 yz7 yz8 yz9 ylt ylu
    have hlk8 := (sendB_rtu b ⟨s, up, bt⟩ ⟨lost, twice, wait, again, at5, tu5⟩).2
    have HB8 := Lib.hid hb8
    have F8 := Lib.hid f8
    have TF8 := Lib.hid t8
    clear hb8 f8 t8
    cases hr : Bu.right b.rtu.length ⟨s, up, bt⟩
    · have T9 := Lib.hid (T7.out.kept hr HB8.out F8.out TF8.out)
      rw [sendE_no hr]
      clear hr
      go_wp2
      go_roundw
      case rel => exact ⟨k + 1, b, E8, A, na, ca, S, U, by omega, by go_num, T9, by omega, by omega, by omega, HUT⟩
      case measure => simp [intOf]; omega
    · rw [sendE_yes hr]
      have HRT := Lib.hid hr
      have hrd := hr
      unfold Bu.right at hrd
      have hrd2 := of_decide_eq_true hrd
      have hsok : SOk rl na ⟨⟨⟨s, up, bt⟩, A5, c5⟩, ⟨lost, twice, wait, again, at5, tu5⟩, 0, 0⟩ := by
        have hq5 := HQ5.out
        refine ⟨hrd2.1, ?_, by show 2 ≤ bt.length; omega, by show bt.length ≤ 300; omega, HNUM.out, HBU.out, ⟨HFT.out.wait, HFT.out.again, hat5, htu5⟩, ?_⟩
        · rw [← T7.out.u.rtu]; exact hrd2.2.1
        · show tu5 = 0 ∨ 16 ≤ at5 % (8 * bt.length)
          rw [hq5]
          exact HT5.out
      have HSOK := Lib.hid hsok
      clear hr hrd hrd2 hsok
      have RX8 := Lib.hid (F8.out.row RX7.out HNX.out.1)
      have AL8 := Lib.hid (T7.out.mid F8.out)
      have ylt : gx < (w8).heap.size := RX8.out.lt
      have ylu : gx < (w8).heap.size + 1 := Nat.lt_succ_of_lt RX8.out.lt
      have y0 : (w8).cell? ⟨gx, 0, none⟩ = some (.bool false) := RX8.out.cells 0
      have yz0 : (w8).frozen? ⟨gx, 0, none⟩ = false := RX8.out.frozen 0
      have y1 : (w8).cell? ⟨gx, 1, none⟩ = some (.int .i64 s) := RX8.out.cells 1
      have yz1 : (w8).frozen? ⟨gx, 1, none⟩ = false := RX8.out.frozen 1
      have y2 : (w8).cell? ⟨gx, 2, none⟩ = some (.bool up) := RX8.out.cells 2
      have yz2 : (w8).frozen? ⟨gx, 2, none⟩ = false := RX8.out.frozen 2
      have y3 : (w8).cell? ⟨gx, 3, none⟩ = some (.slice A5 q5 c5) := RX8.out.cells 3
      have yz3 : (w8).frozen? ⟨gx, 3, none⟩ = false := RX8.out.frozen 3
      have y4 : (w8).cell? ⟨gx, 4, none⟩ = some (.bool lost) := RX8.out.cells 4
      have yz4 : (w8).frozen? ⟨gx, 4, none⟩ = false := RX8.out.frozen 4
      have y5 : (w8).cell? ⟨gx, 5, none⟩ = some (.bool twice) := RX8.out.cells 5
      have yz5 : (w8).frozen? ⟨gx, 5, none⟩ = false := RX8.out.frozen 5
      have y6 : (w8).cell? ⟨gx, 6, none⟩ = some (.int .u8 (wait : Int)) := RX8.out.cells 6
      have yz6 : (w8).frozen? ⟨gx, 6, none⟩ = false := RX8.out.frozen 6
      have y7 : (w8).cell? ⟨gx, 7, none⟩ = some (.int .u8 (again : Int)) := RX8.out.cells 7
      have yz7 : (w8).frozen? ⟨gx, 7, none⟩ = false := RX8.out.frozen 7
      have y8 : (w8).cell? ⟨gx, 8, none⟩ = some (.int .u16 (at5 : Int)) := RX8.out.cells 8
      have yz8 : (w8).frozen? ⟨gx, 8, none⟩ = false := RX8.out.frozen 8
      have y9 : (w8).cell? ⟨gx, 9, none⟩ = some (.int .u16 (tu5 : Int)) := RX8.out.cells 9
      have yz9 : (w8).frozen? ⟨gx, 9, none⟩ = false := RX8.out.frozen 9
      have x0 : w8.cell? ⟨gL, 0, none⟩ = some (.slice A na ca) := AL8.out.var.cells 0
      have xlt := AL8.out.var.lt
      have hal : Below w8.heap.size w8 (w8.alloc (.cells #[.int .i64 s, .bool up, .slice A5 q5 c5, .bool lost, .bool twice, .int .u8 (wait : Int), .int .u8 (again : Int), .int .u16 (at5 : Int), .int .u16 (tu5 : Int), .int .i64 0, .int .i64 0] 56)) := bel_alloc (Below.refl _ _) _
      have HAL := Lib.hid hal
      have LI : Hid (Recs sntF 11 (w8.alloc (.cells #[.int .i64 s, .bool up, .slice A5 q5 c5, .bool lost, .bool twice, .int .u8 (wait : Int), .int .u8 (again : Int), .int .u16 (at5 : Int), .int .u16 (tu5 : Int), .int .i64 0, .int .i64 0] 56)) (w8.heap.size + 1) (some ⟨w8.heap.size, 0, none⟩) [⟨⟨⟨s, up, bt⟩, A5, c5⟩, ⟨lost, twice, wait, again, at5, tu5⟩, 0, 0⟩]) := Lib.hid (Recs.lits (f := sntF) (s := 11) (fun _ => rfl) (by decide) w8 _ _ _ _ _ (by show _ = [Value.int .i64 s, .bool up, .slice A5 bt.length c5, .bool lost, .bool twice, .int .u8 (wait : Int), .int .u8 (again : Int), .int .u16 (at5 : Int), .int .u16 (tu5 : Int), .int .i64 0, .int .i64 0]; rw [HQ5.out]) rfl (Nat.lt_succ_self _))
      have PA := Lib.hid (own_below AL8.out.own hal)
      have hz8 : gL + 1 ≤ (w8.alloc (.cells #[.int .i64 s, .bool up, .slice A5 q5 c5, .bool lost, .bool twice, .int .u8 (wait : Int), .int .u8 (again : Int), .int .u16 (at5 : Int), .int .u16 (tu5 : Int), .int .i64 0, .int .i64 0] 56)).heap.size := by have := hal.size; omega
      clear hal
      go_upto_region 23 with (at_builtin; go_loud (refine wpList_append_recs (f := sntF) (s := 11) _ rfl (.tmp 106) (.tmp 112) 52 rfl (fun _ => rfl) (by decide) sntF_one (gL + 1) 56 iS _ 64 Try.underlying52 hifS hs0_ hs1_ hs2_ (by decide) rfl (.slice A na ca) S rfl (by rw [AL8.out.len]; exact PA.out) (w8.heap.size + 1) (some ⟨w8.heap.size, 0, none⟩) [⟨⟨⟨s, up, bt⟩, A5, c5⟩, ⟨lost, twice, wait, again, at5, tu5⟩, 0, 0⟩] 1 1 rfl rfl LI.out (by simp) (by rw [AL8.out.len]; omega) hz8 ?_; intro A9 c9 w9 o9 g9 b9; have O9 := Lib.hid o9; have G9 := Lib.hid g9; have RL9 : Hid (RowAt w9 gL 52 [.slice A na ca]) := Lib.hid ((b9.block _ (Nat.lt_succ_self _)).trans (AL8.out.to HAL.out).var); have u0 := RL9.out.cells 0; have uz0 := RL9.out.frozen 0; clear o9 g9 b9))
      obtain ⟨wz, hwz⟩ : ∃ x, x = w9.setCell ⟨gL, 0, none⟩ (.slice A9 (S.length + 1) c9) := ⟨_, rfl⟩
      rw [← hwz]
      have hlS : S.length = na := AL8.out.len
      have R9 : RowAt wz gL 52 [.slice A9 (na + 1) c9] := by rw [hwz, hlS]; exact RL9.out.set 0 _
      have kz : Only gL w9 wz := by rw [hwz]; exact (Only.refl _ _).set _
      have O10 := O9.out
      rw [List.length_append, List.length_singleton, hlS] at O10
      have hO7 := O7.out
      rw [← HQ5.out] at hO7
      have T9 := Lib.hid (T7.out.sent ⟨⟨s, up, bt⟩, A5, c5⟩ ⟨lost, twice, wait, again, at5, tu5⟩ hO7 HOF.out HRT.out HSOK.out (HB8.out.to HAL.out) (F8.out.trans (Fr.of_below [] HAL.out) (fun b hb => by cases hb)) TF8.out O10 G9.out kz R9)
      have HU9 : Hid (∀ y ∈ U ++ news b.time na ⟨lost, twice, wait, again, at5, tu5⟩, y.t ≤ (sendB b ⟨s, up, bt⟩ ⟨lost, twice, wait, again, at5, tu5⟩).time + 256) := Lib.hid (fun y hy => by
        rw [hlk8.1]
        rcases List.mem_append.1 hy with hy | hy
        · exact HUT.out y hy
        · have h1 : wait < 256 := HFT.out.wait
          have h2 : again < 256 := HFT.out.again
          unfold news at hy
          split at hy
          · cases hy
          · rcases List.mem_cons.1 hy with rfl | hy
            · show b.time + 1 + wait ≤ _; omega
            · split at hy
              · obtain rfl := List.mem_singleton.1 hy
                show b.time + 1 + again ≤ _; omega
              · cases hy)
      clear hwz R9 kz O10 hO7 RL9 u0 uz0 O9 G9 LI PA HAL x0 xlt y0 y1 y2 y3 y4 y5 y6 y7 y8 y9 yz0 yz1 yz2 yz3 yz4 yz5 yz6 yz7 yz8 yz9 ylt ylu
      go_wp2
      go_roundw
      case rel => exact ⟨k + 1, sendB b ⟨s, up, bt⟩ ⟨lost, twice, wait, again, at5, tu5⟩, E8, A9, na + 1, c9, _, _, by omega, by go_num, T9, by rw [hlk8.1]; omega, Nat.le_trans hlk8.2 (by omega), by omega, HU9⟩
      case measure => simp [intOf]; omega
end Go.Proofs.Ythigkmoilfdciaa
