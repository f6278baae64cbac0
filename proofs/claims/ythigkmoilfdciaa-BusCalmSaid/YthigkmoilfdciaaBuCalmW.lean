/- Layer 11: the walk of BusCalm. -/
import Derived.Test.YthigkmoilfdciaaBuCalm2
namespace Go.Proofs.Ythigkmoilfdciaa
open Go.RowKit
set_option linter.unusedVariables false
set_option linter.unusedSimpArgs false
attribute [local go_sem] Later.cell Later.frozen setCell_twice
attribute [local go_sem high] sliced_zero'
structure CalmAt (w0 wr : World) (wb base gs gm rg rc : Nat) (rtu : List Bool) (t : Nat) (E : List En) (A : Option Addr) (n c : Nat) (l : List Pc) : Prop where
  bus : BusAt wr base gs gm rg rc (calm rtu t l) E
  want : Want wr wb (fun x => x < w0.heap.size) (bfoot gs gm rg E) A n c l
  below : Below w0.heap.size w0 wr
  wb : wb ≤ wr.heap.size
theorem CalmAt.to {w0 wr w' : World} {wb base gs gm rg rc : Nat} {rtu : List Bool} {t : Nat} {E : List En} {A : Option Addr} {n c : Nat} {l : List Pc} (h : CalmAt w0 wr wb base gs gm rg rc rtu t E A n c l) (k : Below wr.heap.size wr w') : CalmAt w0 w' wb base gs gm rg rc rtu t E A n c l :=
  ⟨h.bus.to k, h.want.to k, h.below.trans (k.mono h.below.size), Nat.le_trans h.wb k.size⟩
theorem calm_len (rtu : List Bool) (t : Nat) (l : List Pc) : (calm rtu t l).l.length = l.length := List.length_map _
theorem calm_time (rtu : List Bool) (t : Nat) (l : List Pc) : (calm rtu t l).time = t := rfl
theorem right_dec (n : Nat) (p : Par) : Bu.right n p = true ∨ Bu.right n p = false := by cases Bu.right n p <;> simp
set_option maxRecDepth 100000 in
set_option maxHeartbeats 4000000 in
theorem busCalm_any (w : World) (A0 : Option Addr) (rl : List Bool) (c0 nr : Nat) (hr : Sq Value.bool w w.heap.size A0 rl) (hnr : rl.length = nr) (A1 : Option Addr) (l : List Bop) (c1 m : Nat) (hl : Bops w w.heap.size A1 l) (hm : l.length = m) (hmc : m ≤ c1) (hc1 : c1 ≤ 9223372036854775807) (hA1 : A1 = none → c1 = 0) (a b : Nat) (ha : a < 256) (hb : b < 256) :
    Calls Try.prog 5 #[.slice A0 nr c0, .slice A1 m c1, .int .u8 (a : Int), .int .u8 (b : Int)] w fun e w' => e = .returned (.bool true) ∧ Below w.heap.size w w' := by
  obtain ⟨iP, hifP, hp0, hp1, hp2⟩ := info_parts info_parcel
  have HR := Lib.hid hr
  have HL := Lib.hid hl
  have HNR := Lib.hid hnr
  have HM := Lib.hid hm
  obtain ⟨n, hn⟩ : ∃ n, n = min m 120 := ⟨_, rfl⟩
  have KL := Lib.hid (blight_any A1 l m c1 n w hl hm hmc hc1 hA1 hn)
  have hnm : n ≤ m := by omega
  have hnc : n ≤ c1 := by omega
  clear hr hl hnr hm hn
  go_enter Try.func5, Try.ntmps5
  go_wp2_with fail
  (with_reducible refine KL.out.mono ?_)
  rintro e w1 ⟨b1, hcase⟩
  have BL := Lib.hid b1
  have HL1 := Lib.hid (HL.out.to b1)
  have HR1 := Lib.hid ((HR.out.below b1).more b1.size)
  clear b1 HR KL
  rcases hcase with rfl | ⟨rfl, hall⟩
  · go_wp2_with fail
    (with_reducible refine (awake_any _).mono ?_)
    rintro e wx ⟨rfl, bx⟩
    have BX := Lib.hid (BL.out.trans (bx.mono BL.out.size))
    clear bx
    go_wp2
    go_ret
    exact ⟨rfl, BX.out⟩
  · by_cases h1 : nr < 1
    · have g1 : (nr : Int) < 1 := by omega
      go_wp2_with fail
      (with_reducible refine (awake_any _).mono ?_)
      rintro e wx ⟨rfl, bx⟩
      have BX := Lib.hid (BL.out.trans (bx.mono BL.out.size))
      clear bx
      go_wp2
      go_ret
      exact ⟨rfl, BX.out⟩
    by_cases h8 : 8 < nr
    · have g1 : ¬ (nr : Int) < 1 := by omega
      have g2 : (8 : Int) < (nr : Int) := by omega
      go_wp2_with fail
      (with_reducible refine (awake_any _).mono ?_)
      rintro e wx ⟨rfl, bx⟩
      have BX := Lib.hid (BL.out.trans (bx.mono BL.out.size))
      clear bx
      go_wp2
      go_ret
      exact ⟨rfl, BX.out⟩
    have g1 : ¬ (nr : Int) < 1 := by omega
    have g2 : ¬ (8 : Int) < (nr : Int) := by omega
    have h1' : 1 ≤ nr := by omega
    have h8' : nr ≤ 8 := by omega
    go_wp2_with fail
    (with_reducible refine (new_yes A0 rl nr c0 w1 HR1.out HNR.out h1' h8').mono ?_)
    rintro e w2 ⟨gs, gm, rg, rc, rfl, h2, b2⟩
    have H2 : Hid (BusAt w2 w1.heap.size gs gm rg rc (calm rl 0 []) []) := Lib.hid h2
    have BL2 := Lib.hid (BL.out.trans (b2.mono BL.out.size))
    have HZ1 : Hid (w.heap.size ≤ w1.heap.size ∧ w1.heap.size ≤ w2.heap.size) := Lib.hid ⟨BL.out.size, b2.size⟩
    clear h2 b2 BL HR1 HL1 h1 h8 g1 g2
    obtain ⟨base, hbase⟩ : ∃ base, w1.heap.size = base := ⟨_, rfl⟩
    rw [hbase] at H2 HZ1
    clear hbase
    obtain ⟨nn, hnn⟩ : ∃ nn, nn = min n 60 := ⟨_, rfl⟩
    have hmin : ∀ w, (Builtin.min_ #[3, 3] 3 #[.int .i64 (n : Int), .int .i64 60]).run Try.prog w = .ok (.int .i64 (nn : Int)) w := fun w => run_min2n w _ _ n 60 nn hnn
    have hnnc : (nn : Int) ≤ (c1 : Int) := by omega
    have hnn60 : nn ≤ 60 := by omega
    have hnnm : nn ≤ m := by omega
    clear hnn
    go_wp2
    clear hmin
    go_loopw [12, 49] (fun u i wr => ∃ (k t : Nat) (E : List En) (A' : Option Addr) (n' c' : Nat) (wl : List Pc), k ≤ nn ∧ t ≤ k ∧ n' ≤ k ∧ i = .int .i64 (k : Int) ∧ u = .slice A' n' c' ∧ Hid (CalmAt w wr w2.heap.size base gs gm rg rc rl t E A' n' c' wl)) (fun _ i _ => nn - (intOf i).toNat)
    case atStart => exact ⟨0, 0, [], none, 0, 0, [], by omega, by omega, by omega, rfl, rfl, Lib.hid ⟨H2.out, Want.nil _ _ _ _, BL2.out, Nat.le_refl _⟩⟩
    case round =>
      rename World => wr
      obtain ⟨k, t, E, A', n', c', wl, hk, htk, hnk, rfl, rfl, HC⟩ := hrel
      by_cases hlt : k < nn
      · obtain ⟨g, o, x, rfl, hg, hx, hxm, hok, hd⟩ := (HL.out.to HC.out.below).at_ (k := k) (by rw [HM.out]; omega)
        obtain ⟨g0, o0, x0, hA0', hg0, hx0, _, hok0, _⟩ := HL.out.at_ (k := k) (by rw [HM.out]; omega)
        have hltI : (k : Int) < (nn : Int) := by omega
        have h0I : (0 : Int) ≤ (k : Int) := by omega
        obtain rfl : x0 = x := Option.some.inj (hx0.symm.trans hx)
        have HOK0 := Lib.hid hok0
        clear hx0 hA0' hg0 hok0
        obtain ⟨tick, ⟨⟨s, up, by_⟩, XA, xc⟩, ⟨lost, twice, wait, again, at_, turns⟩⟩ := x0
        obtain ⟨q, hq⟩ : ∃ q, by_.length = q := ⟨_, rfl⟩
        have HQ := Lib.hid hq
        have HOK := Lib.hid hok.p
        have d0 : wr.cell? ⟨g, o + k * 10, none⟩ = some (.bool tick) := hd 0 _ rfl
        have d1 : wr.cell? ⟨g, o + k * 10 + 1, none⟩ = some (.int .i64 s) := hd 1 _ rfl
        have d2 : wr.cell? ⟨g, o + k * 10 + 2, none⟩ = some (.bool up) := hd 2 _ rfl
        have d3 : wr.cell? ⟨g, o + k * 10 + 3, none⟩ = some (.slice XA q xc) := by have := hd 3 _ rfl; rw [← hq]; exact this
        have d4 : wr.cell? ⟨g, o + k * 10 + 4, none⟩ = some (.bool lost) := hd 4 _ rfl
        have d5 : wr.cell? ⟨g, o + k * 10 + 5, none⟩ = some (.bool twice) := hd 5 _ rfl
        have d6 : wr.cell? ⟨g, o + k * 10 + 6, none⟩ = some (.int .u8 (wait : Int)) := hd 6 _ rfl
        have d7 : wr.cell? ⟨g, o + k * 10 + 7, none⟩ = some (.int .u8 (again : Int)) := hd 7 _ rfl
        have d8 : wr.cell? ⟨g, o + k * 10 + 8, none⟩ = some (.int .u16 (at_ : Int)) := hd 8 _ rfl
        have d9 : wr.cell? ⟨g, o + k * 10 + 9, none⟩ = some (.int .u16 (turns : Int)) := hd 9 _ rfl
        have HNL : Hid (wl.length = n') := Lib.hid HC.out.want.ol.len
        clear hx hxm hok hd hq
        go_upto_region 11 with fail
        obtain ⟨wa, hwa⟩ : ∃ wa, wr.alloc (.cells #[.bool tick, .int .i64 s, .bool up, .slice XA q xc, .bool lost, .bool twice, .int .u8 (wait : Int), .int .u8 (again : Int), .int .u16 (at_ : Int), .int .u16 (turns : Int)] 41) = wa := ⟨_, rfl⟩
        obtain ⟨gx, hgx⟩ : ∃ gx, wr.heap.size = gx := ⟨_, rfl⟩
        have bA : Below wr.heap.size wr wa := by rw [← hwa]; exact bel_alloc (Below.refl _ _) _
        have RX : Hid (RowAt wa gx 41 [.bool tick, .int .i64 s, .bool up, .slice XA q xc, .bool lost, .bool twice, .int .u8 (wait : Int), .int .u8 (again : Int), .int .u16 (at_ : Int), .int .u16 (turns : Int)]) := Lib.hid (by rw [← hwa, ← hgx]; exact RowAt.new _ _ _)
        have HAX : Hid (∀ q', A' = some q' → q'.block ≠ gx) := Lib.hid (fun q' hq => by have := (own_at_s HC.out.want.ol.own q' hq).2.1; omega)
        have HNX : Hid (gx ∉ bfoot gs gm rg E) := Lib.hid (fun hm => by have := (HC.out.bus.foot_ge gx hm).2; omega)
        have HS0 : Hid (0 < by_.length → ∀ q, XA = some q → q.block < w.heap.size) := Lib.hid (fun hn p hp => by
          obtain ⟨b, o, h1, h2, _⟩ := HOK0.out.p.sq hn
          have h1' : XA = some ⟨b, o, none⟩ := h1
          rw [hp] at h1'
          obtain rfl := Option.some.inj h1'
          exact h2)
        rw [hwa, hgx]
        have HCa := Lib.hid (HC.out.to bA)
        have OKa := Lib.hid (HOK.out.to bA)
        clear hwa hgx bA HC HOK HOK0 d0 d1 d2 d3 d4 d5 d6 d7 d8 d9 hltI
        have ylt : gx < (wa).heap.size := RX.out.lt
        have ylu : gx < (wa).heap.size + 1 := Nat.lt_succ_of_lt RX.out.lt
        have y0 : (wa).cell? ⟨gx, 0, none⟩ = some (.bool tick) := RX.out.cells 0
        have yz0 : (wa).frozen? ⟨gx, 0, none⟩ = false := RX.out.frozen 0
        have y1 : (wa).cell? ⟨gx, 1, none⟩ = some (.int .i64 s) := RX.out.cells 1
        have yz1 : (wa).frozen? ⟨gx, 1, none⟩ = false := RX.out.frozen 1
        have y2 : (wa).cell? ⟨gx, 2, none⟩ = some (.bool up) := RX.out.cells 2
        have yz2 : (wa).frozen? ⟨gx, 2, none⟩ = false := RX.out.frozen 2
        have y3 : (wa).cell? ⟨gx, 3, none⟩ = some (.slice XA q xc) := RX.out.cells 3
        have yz3 : (wa).frozen? ⟨gx, 3, none⟩ = false := RX.out.frozen 3
        have y4 : (wa).cell? ⟨gx, 4, none⟩ = some (.bool lost) := RX.out.cells 4
        have yz4 : (wa).frozen? ⟨gx, 4, none⟩ = false := RX.out.frozen 4
        have y5 : (wa).cell? ⟨gx, 5, none⟩ = some (.bool twice) := RX.out.cells 5
        have yz5 : (wa).frozen? ⟨gx, 5, none⟩ = false := RX.out.frozen 5
        have y6 : (wa).cell? ⟨gx, 6, none⟩ = some (.int .u8 (wait : Int)) := RX.out.cells 6
        have yz6 : (wa).frozen? ⟨gx, 6, none⟩ = false := RX.out.frozen 6
        have y7 : (wa).cell? ⟨gx, 7, none⟩ = some (.int .u8 (again : Int)) := RX.out.cells 7
        have yz7 : (wa).frozen? ⟨gx, 7, none⟩ = false := RX.out.frozen 7
        have y8 : (wa).cell? ⟨gx, 8, none⟩ = some (.int .u16 (at_ : Int)) := RX.out.cells 8
        have yz8 : (wa).frozen? ⟨gx, 8, none⟩ = false := RX.out.frozen 8
        have y9 : (wa).cell? ⟨gx, 9, none⟩ = some (.int .u16 (turns : Int)) := RX.out.cells 9
        have yz9 : (wa).frozen? ⟨gx, 9, none⟩ = false := RX.out.frozen 9
        go_wp2_with fail
        (with_reducible refine (send_calm HCa.out.bus (Nat.le_trans HZ1.out.2 HCa.out.wb) s up by_ XA q xc HQ.out OKa.out.sq OKa.out.nl OKa.out.u (fun hn p hp hm => by have h1 := HS0.out (by rw [HQ.out]; exact hn) p hp; have h2 := (HCa.out.bus.foot_ge _ hm).1; have h3 := HZ1.out.1; omega) (by rw [calm_len, HNL.out]; omega) (by rw [calm_time]; omega)).mono ?_)
        rintro e ws ⟨E1, rfl, h, f, tt⟩
        have hb1 : Below w.heap.size w ws := HCa.out.below.trans (f.below (B := w.heap.size) (fun x hx => by have := (HCa.out.bus.foot_ge x hx).1; have := HZ1.out.1; omega) HCa.out.below.size)
        have hw1 := HCa.out.want.fr f tt (fun x hx hS => by have := (HCa.out.bus.foot_ge x hx).1; have := HZ1.out.1; omega)
        have hz1 : w2.heap.size ≤ ws.heap.size := Nat.le_trans HCa.out.wb f.size
        have RX1 := Lib.hid (f.row RX.out HNX.out)
        clear y0 y1 y2 y3 y4 y5 y6 y7 y8 y9 yz0 yz1 yz2 yz3 yz4 yz5 yz6 yz7 yz8 yz9 ylt ylu RX
        rcases right_dec rl.length ⟨s, up, by_⟩ with hrt | hrt
        · rw [sendE_yes (b := calm rl t wl) hrt]
          have HBS := Lib.hid (by have h1 := h; rw [calm_send (x := ⟨⟨s, up, by_⟩, XA, xc⟩) hrt] at h1; exact h1)
          have HWS := Lib.hid hw1
          have HB1 := Lib.hid hb1
          have HSQ := Lib.hid ((OKa.out.sq.below (Below.refl _ _)))
          have SQ1 : Hid (Sq byw ws ws.heap.size XA by_) := Lib.hid (Sq.fr' OKa.out.sq f (fun hn p hp hm => by have h1 := HS0.out hn p hp; have h2 := (HCa.out.bus.foot_ge _ hm).1; have h3 := HZ1.out.1; omega))
          have HOFF : Hid (parK.Off A' ⟨⟨s, up, by_⟩, XA, xc⟩) := Lib.hid (fun hn p q' hp hq hh => by
            have h1 := HS0.out hn p hp
            have h2 := (own_at_s HWS.out.ol.own q' hq).1
            have h3 := HZ1.out
            omega)
          have OKu := Lib.hid (show (∀ y ∈ by_, y < 256) ∧ (XA = none → xc = 0) from ⟨OKa.out.u, OKa.out.nl⟩)
          clear h f tt hw1 hb1 HCa OKa HSQ hrt HNX
          have ylt : gx < (ws).heap.size := RX1.out.lt
          have ylu : gx < (ws).heap.size + 1 := Nat.lt_succ_of_lt RX1.out.lt
          have y0 : (ws).cell? ⟨gx, 0, none⟩ = some (.bool tick) := RX1.out.cells 0
          have yz0 : (ws).frozen? ⟨gx, 0, none⟩ = false := RX1.out.frozen 0
          have y1 : (ws).cell? ⟨gx, 1, none⟩ = some (.int .i64 s) := RX1.out.cells 1
          have yz1 : (ws).frozen? ⟨gx, 1, none⟩ = false := RX1.out.frozen 1
          have y2 : (ws).cell? ⟨gx, 2, none⟩ = some (.bool up) := RX1.out.cells 2
          have yz2 : (ws).frozen? ⟨gx, 2, none⟩ = false := RX1.out.frozen 2
          have y3 : (ws).cell? ⟨gx, 3, none⟩ = some (.slice XA q xc) := RX1.out.cells 3
          have yz3 : (ws).frozen? ⟨gx, 3, none⟩ = false := RX1.out.frozen 3
          have y4 : (ws).cell? ⟨gx, 4, none⟩ = some (.bool lost) := RX1.out.cells 4
          have yz4 : (ws).frozen? ⟨gx, 4, none⟩ = false := RX1.out.frozen 4
          have y5 : (ws).cell? ⟨gx, 5, none⟩ = some (.bool twice) := RX1.out.cells 5
          have yz5 : (ws).frozen? ⟨gx, 5, none⟩ = false := RX1.out.frozen 5
          have y6 : (ws).cell? ⟨gx, 6, none⟩ = some (.int .u8 (wait : Int)) := RX1.out.cells 6
          have yz6 : (ws).frozen? ⟨gx, 6, none⟩ = false := RX1.out.frozen 6
          have y7 : (ws).cell? ⟨gx, 7, none⟩ = some (.int .u8 (again : Int)) := RX1.out.cells 7
          have yz7 : (ws).frozen? ⟨gx, 7, none⟩ = false := RX1.out.frozen 7
          have y8 : (ws).cell? ⟨gx, 8, none⟩ = some (.int .u16 (at_ : Int)) := RX1.out.cells 8
          have yz8 : (ws).frozen? ⟨gx, 8, none⟩ = false := RX1.out.frozen 8
          have y9 : (ws).cell? ⟨gx, 9, none⟩ = some (.int .u16 (turns : Int)) := RX1.out.cells 9
          have yz9 : (ws).frozen? ⟨gx, 9, none⟩ = false := RX1.out.frozen 9
          go_upto_region 13 with (at_builtin; go_loud (rw [← HQ.out]; refine wpList_append_el ws rfl (.tmp 59) (.tmp 62) 42 rfl parK_fine w2.heap.size 36 iP _ 40 Try.underlying42 hifP hp0 hp1 hp2 rfl A' n' c' wl rfl 36 ⟨⟨s, up, by_⟩, XA, xc⟩ ws.heap.size rfl HWS.out.ol rfl SQ1.out HOFF.out (by omega) (by omega) hz1 ?_; intro A5 c5 w5 ol5 g5 wh5 b5; rw [HQ.out]; have HZZ : Hid (CalmAt w w5 w2.heap.size base gs gm rg rc rl t E1 A5 (n' + 1) c5 (wl ++ [⟨⟨s, up, by_⟩, XA, xc⟩])) := Lib.hid ⟨(HBS.out.to (bel_alloc (Below.refl _ _) _)).app g5 HWS.out.apart, HWS.out.push _ ol5 wh5 (fun y hy => (HBS.out.foot_ge y hy).2) HS0.out OKu.out.1 OKu.out.2, HB1.out.trans (b5.mono (by have := HZ1.out; omega)), Nat.le_trans hz1 b5.size⟩; have RX5 : Hid (RowAt w5 gx 41 _) := Lib.hid ((Fr.of_app g5).row (RX1.out.to (bel_alloc (Below.refl _ _) _)) (fun hmx => by obtain ⟨q', hq', hb'⟩ := rowB_mem hmx; exact HAX.out q' hq' hb')); clear ol5 g5 wh5 b5))
          have LB5 : (wl ++ [(⟨⟨s, up, by_⟩, XA, xc⟩ : Pc)]).length = n' + 1 := by rw [List.length_append, HNL.out]; rfl
          clear y0 y1 y2 y3 y4 y5 y6 y7 y8 y9 yz0 yz1 yz2 yz3 yz4 yz5 yz6 yz7 yz8 yz9 ylt ylu RX1 HBS HWS HB1 SQ1 HOFF
          generalize wl ++ [(⟨⟨s, up, by_⟩, XA, xc⟩ : Pc)] = wl5 at *
          obtain ⟨n5, hn5⟩ : ∃ n5, n' + 1 = n5 := ⟨_, rfl⟩
          rw [hn5] at HZZ LB5 ⊢
          have hn5k : n5 ≤ k + 1 := by omega
          have ylt : gx < (w5).heap.size := RX5.out.lt
          have ylu : gx < (w5).heap.size + 1 := Nat.lt_succ_of_lt RX5.out.lt
          have y0 : (w5).cell? ⟨gx, 0, none⟩ = some (.bool tick) := RX5.out.cells 0
          have yz0 : (w5).frozen? ⟨gx, 0, none⟩ = false := RX5.out.frozen 0
          have y1 : (w5).cell? ⟨gx, 1, none⟩ = some (.int .i64 s) := RX5.out.cells 1
          have yz1 : (w5).frozen? ⟨gx, 1, none⟩ = false := RX5.out.frozen 1
          have y2 : (w5).cell? ⟨gx, 2, none⟩ = some (.bool up) := RX5.out.cells 2
          have yz2 : (w5).frozen? ⟨gx, 2, none⟩ = false := RX5.out.frozen 2
          have y3 : (w5).cell? ⟨gx, 3, none⟩ = some (.slice XA q xc) := RX5.out.cells 3
          have yz3 : (w5).frozen? ⟨gx, 3, none⟩ = false := RX5.out.frozen 3
          have y4 : (w5).cell? ⟨gx, 4, none⟩ = some (.bool lost) := RX5.out.cells 4
          have yz4 : (w5).frozen? ⟨gx, 4, none⟩ = false := RX5.out.frozen 4
          have y5 : (w5).cell? ⟨gx, 5, none⟩ = some (.bool twice) := RX5.out.cells 5
          have yz5 : (w5).frozen? ⟨gx, 5, none⟩ = false := RX5.out.frozen 5
          have y6 : (w5).cell? ⟨gx, 6, none⟩ = some (.int .u8 (wait : Int)) := RX5.out.cells 6
          have yz6 : (w5).frozen? ⟨gx, 6, none⟩ = false := RX5.out.frozen 6
          have y7 : (w5).cell? ⟨gx, 7, none⟩ = some (.int .u8 (again : Int)) := RX5.out.cells 7
          have yz7 : (w5).frozen? ⟨gx, 7, none⟩ = false := RX5.out.frozen 7
          have y8 : (w5).cell? ⟨gx, 8, none⟩ = some (.int .u16 (at_ : Int)) := RX5.out.cells 8
          have yz8 : (w5).frozen? ⟨gx, 8, none⟩ = false := RX5.out.frozen 8
          have y9 : (w5).cell? ⟨gx, 9, none⟩ = some (.int .u16 (turns : Int)) := RX5.out.cells 9
          have yz9 : (w5).frozen? ⟨gx, 9, none⟩ = false := RX5.out.frozen 9
          cases tick
          · go_wp2
            go_roundw
            case rel => exact ⟨k + 1, t, E1, A5, n5, c5, wl5, by omega, by omega, by omega, by go_num, rfl, HZZ⟩
            case measure => simp [intOf]; omega
          · go_wp2_with fail
            (with_reducible refine (tick_q HZZ.out.bus (calm_tick rl t wl5) (by rw [calm_time]; omega) (by rw [calm_len, LB5]; omega)).mono ?_)
            rintro e wt ⟨E9, A9, n9, c9, pl, rfl, h, f, tt, pc, pn, pp⟩
            have H9 := Lib.hid h
            have W9 := Lib.hid (HZZ.out.want.fr f (fun x hx => .inl (tt x hx)) (fun x hx hS => by have := (HZZ.out.bus.foot_ge x hx).1; have := HZ1.out.1; omega))
            have B9 := Lib.hid (HZZ.out.below.trans (f.below (B := w.heap.size) (fun x hx => by have := (HZZ.out.bus.foot_ge x hx).1; have := HZ1.out.1; omega) HZZ.out.below.size))
            have Z9 : Hid (w2.heap.size ≤ wt.heap.size) := Lib.hid (Nat.le_trans HZZ.out.wb f.size)
            have PC := Lib.hid pc
            have hn9 : n9 ≤ 100 := by
              have h8 := congrArg List.length pp.out
              rw [pars, pars, List.length_map, List.length_map, pn, LB5] at h8
              omega
            have LB : Hid (wl5.length = n5) := Lib.hid LB5
            clear h f tt pc y0 y1 y2 y3 y4 y5 y6 y7 y8 y9 yz0 yz1 yz2 yz3 yz4 yz5 yz6 yz7 yz8 yz9 ylt ylu
            go_wp2_with fail
            (with_reducible refine (psame_same PC.out W9.out.pcs pn LB.out pp (Lib.hid rfl) (by omega)).mono ?_)
            rintro e wu ⟨rfl, bu⟩
            have HU := Lib.hid (H9.out.to bu)
            have BU := Lib.hid (B9.out.trans (bu.mono B9.out.size))
            have ZU : Hid (w2.heap.size ≤ wu.heap.size) := Lib.hid (Nat.le_trans Z9.out bu.size)
            have KW : Hid (Calls Try.prog 17 #[.pointer (some ⟨gs, 0, none⟩)] wu fun e w' => e = .returned (.int .i64 0) ∧ wu = w') := Lib.hid (waiting_yes HU.out)
            clear bu H9 W9 B9 PC Z9 LB pn pp
            go_wp2_with fail
            (with_reducible refine KW.out.mono ?_)
            rintro e wv ⟨rfl, rfl⟩
            go_wp2
            go_roundw
            case rel => exact ⟨k + 1, t + 1, E9, none, 0, 0, [], by omega, by omega, by omega, by go_num, rfl, Lib.hid ⟨HU.out, Want.nil _ _ _ _, BU.out, ZU.out⟩⟩
            case measure => simp [intOf]; omega
        · rw [sendE_no (b := calm rl t wl) hrt]
          have HZZ : Hid (CalmAt w ws w2.heap.size base gs gm rg rc rl t E1 A' n' c' wl) := Lib.hid ⟨by have h1 := h; rw [sendB_no (b := calm rl t wl) hrt] at h1; exact h1, hw1, hb1, hz1⟩
          have LB5 := HNL.out
          clear h f tt hw1 hb1 hz1 HCa OKa hrt HNX
          have ylt : gx < (ws).heap.size := RX1.out.lt
          have ylu : gx < (ws).heap.size + 1 := Nat.lt_succ_of_lt RX1.out.lt
          have y0 : (ws).cell? ⟨gx, 0, none⟩ = some (.bool tick) := RX1.out.cells 0
          have yz0 : (ws).frozen? ⟨gx, 0, none⟩ = false := RX1.out.frozen 0
          have y1 : (ws).cell? ⟨gx, 1, none⟩ = some (.int .i64 s) := RX1.out.cells 1
          have yz1 : (ws).frozen? ⟨gx, 1, none⟩ = false := RX1.out.frozen 1
          have y2 : (ws).cell? ⟨gx, 2, none⟩ = some (.bool up) := RX1.out.cells 2
          have yz2 : (ws).frozen? ⟨gx, 2, none⟩ = false := RX1.out.frozen 2
          have y3 : (ws).cell? ⟨gx, 3, none⟩ = some (.slice XA q xc) := RX1.out.cells 3
          have yz3 : (ws).frozen? ⟨gx, 3, none⟩ = false := RX1.out.frozen 3
          have y4 : (ws).cell? ⟨gx, 4, none⟩ = some (.bool lost) := RX1.out.cells 4
          have yz4 : (ws).frozen? ⟨gx, 4, none⟩ = false := RX1.out.frozen 4
          have y5 : (ws).cell? ⟨gx, 5, none⟩ = some (.bool twice) := RX1.out.cells 5
          have yz5 : (ws).frozen? ⟨gx, 5, none⟩ = false := RX1.out.frozen 5
          have y6 : (ws).cell? ⟨gx, 6, none⟩ = some (.int .u8 (wait : Int)) := RX1.out.cells 6
          have yz6 : (ws).frozen? ⟨gx, 6, none⟩ = false := RX1.out.frozen 6
          have y7 : (ws).cell? ⟨gx, 7, none⟩ = some (.int .u8 (again : Int)) := RX1.out.cells 7
          have yz7 : (ws).frozen? ⟨gx, 7, none⟩ = false := RX1.out.frozen 7
          have y8 : (ws).cell? ⟨gx, 8, none⟩ = some (.int .u16 (at_ : Int)) := RX1.out.cells 8
          have yz8 : (ws).frozen? ⟨gx, 8, none⟩ = false := RX1.out.frozen 8
          have y9 : (ws).cell? ⟨gx, 9, none⟩ = some (.int .u16 (turns : Int)) := RX1.out.cells 9
          have yz9 : (ws).frozen? ⟨gx, 9, none⟩ = false := RX1.out.frozen 9
          cases tick
          · go_wp2
            go_roundw
            case rel => exact ⟨k + 1, t, E1, A', n', c', wl, by omega, by omega, by omega, by go_num, rfl, HZZ⟩
            case measure => simp [intOf]; omega
          · go_wp2_with fail
            (with_reducible refine (tick_q HZZ.out.bus (calm_tick rl t wl) (by rw [calm_time]; omega) (by rw [calm_len, LB5]; omega)).mono ?_)
            rintro e wt ⟨E9, A9, n9, c9, pl, rfl, h, f, tt, pc, pn, pp⟩
            have H9 := Lib.hid h
            have W9 := Lib.hid (HZZ.out.want.fr f (fun x hx => .inl (tt x hx)) (fun x hx hS => by have := (HZZ.out.bus.foot_ge x hx).1; have := HZ1.out.1; omega))
            have B9 := Lib.hid (HZZ.out.below.trans (f.below (B := w.heap.size) (fun x hx => by have := (HZZ.out.bus.foot_ge x hx).1; have := HZ1.out.1; omega) HZZ.out.below.size))
            have Z9 : Hid (w2.heap.size ≤ wt.heap.size) := Lib.hid (Nat.le_trans HZZ.out.wb f.size)
            have PC := Lib.hid pc
            have hn9 : n9 ≤ 100 := by
              have h8 := congrArg List.length pp.out
              rw [pars, pars, List.length_map, List.length_map, pn, LB5] at h8
              omega
            have LB : Hid (wl.length = n') := Lib.hid LB5
            clear h f tt pc y0 y1 y2 y3 y4 y5 y6 y7 y8 y9 yz0 yz1 yz2 yz3 yz4 yz5 yz6 yz7 yz8 yz9 ylt ylu
            go_wp2_with fail
            (with_reducible refine (psame_same PC.out W9.out.pcs pn LB.out pp (Lib.hid rfl) (by omega)).mono ?_)
            rintro e wu ⟨rfl, bu⟩
            have HU := Lib.hid (H9.out.to bu)
            have BU := Lib.hid (B9.out.trans (bu.mono B9.out.size))
            have ZU : Hid (w2.heap.size ≤ wu.heap.size) := Lib.hid (Nat.le_trans Z9.out bu.size)
            have KW : Hid (Calls Try.prog 17 #[.pointer (some ⟨gs, 0, none⟩)] wu fun e w' => e = .returned (.int .i64 0) ∧ wu = w') := Lib.hid (waiting_yes HU.out)
            clear bu H9 W9 B9 PC Z9 LB pn pp
            go_wp2_with fail
            (with_reducible refine KW.out.mono ?_)
            rintro e wv ⟨rfl, rfl⟩
            go_wp2
            go_roundw
            case rel => exact ⟨k + 1, t + 1, E9, none, 0, 0, [], by omega, by omega, by omega, by go_num, rfl, Lib.hid ⟨HU.out, Want.nil _ _ _ _, BU.out, ZU.out⟩⟩
            case measure => simp [intOf]; omega
      · obtain rfl : k = nn := by omega
        have hFB : ∀ x, x ∈ bfoot gs gm rg E → w.heap.size ≤ x := fun x hx => by have := (HC.out.bus.foot_ge x hx).1; have := HZ1.out.1; omega
        go_wp2_with fail
        (with_reducible refine (tick_q HC.out.bus (calm_tick rl t wl) (by rw [calm_time]; omega) (by rw [calm_len, HC.out.want.ol.len]; omega)).mono ?_)
        rintro e wt ⟨E9, A9, n9, c9, pl, rfl, h, f, tt, pc, pn, pp⟩
        have H9 := Lib.hid h
        have W9 := Lib.hid (HC.out.want.fr f (fun x hx => .inl (tt x hx)) (fun x hx hS => by have := hFB x hx; omega))
        have B9 := Lib.hid (HC.out.below.trans (f.below (B := w.heap.size) hFB HC.out.below.size))
        have PC := Lib.hid pc
        have LB : Hid (wl.length = n') := Lib.hid HC.out.want.ol.len
        have hn9 : n9 ≤ 100 := by
          have h8 := congrArg List.length pp.out
          rw [pars, pars, List.length_map, List.length_map, pn, LB.out] at h8
          omega
        clear h f tt pc HC hFB
        go_wp2_with fail
        (with_reducible refine (psame_same PC.out W9.out.pcs pn LB.out pp (Lib.hid rfl) (by omega)).mono ?_)
        rintro e wu ⟨rfl, bu⟩
        obtain ⟨T, hT⟩ : ∃ T, t + 1 = T := ⟨_, rfl⟩
        have HU : Hid (BusAt wu base gs gm rg rc ⟨rl, T, []⟩ E9) := Lib.hid (by rw [← hT]; exact H9.out.to bu)
        have BU := Lib.hid (B9.out.trans (bu.mono B9.out.size))
        have hT100 : T ≤ 100 := by omega
        clear bu H9 W9 B9 PC LB pn pp hT hlt hk htk hnk hn9
        go_upto_region 21 with fail
        have v2 : TwoAt _ wu.heap.size (wu.heap.size + 1) (wu.heap.size + 1 + 1) (wu.heap.size + 1 + 1 + 1) := ⟨(((RowAt.new wu 5 [.int .u8 1]).alloc (.cells #[.int .u8 2] 5)).alloc (.cells #[.int .i64 0, .bool false, .slice (some ⟨wu.heap.size, 0, none⟩) 1 1] 36)).alloc (.cells #[.int .i64 0, .bool true, .slice (some ⟨wu.heap.size + 1, 0, none⟩) 1 1] 36), ((RowAt.new' _ _ _ _ (by simp)).alloc _).alloc _, (RowAt.new' _ _ _ _ (by simp)).alloc _, RowAt.new' _ _ _ _ (by simp)⟩
        obtain ⟨W2, hW2⟩ : ∃ W2, (((wu.alloc (.cells #[.int .u8 1] 5)).alloc (.cells #[.int .u8 2] 5)).alloc (.cells #[.int .i64 0, .bool false, .slice (some ⟨wu.heap.size, 0, none⟩) 1 1] 36)).alloc (.cells #[.int .i64 0, .bool true, .slice (some ⟨wu.heap.size + 1, 0, none⟩) 1 1] 36) = W2 := ⟨_, rfl⟩
        have b2 : Below wu.heap.size wu W2 := by rw [← hW2]; exact bel_alloc (bel_alloc (bel_alloc (bel_alloc (Below.refl _ _) _) _) _) _
        have hz2 : wu.heap.size + 4 ≤ W2.heap.size := by rw [← hW2]; simp
        rw [hW2] at v2 ⊢
        clear hW2
        obtain ⟨h1, hh1⟩ : ∃ h1, wu.heap.size = h1 := ⟨_, rfl⟩
        obtain ⟨h2, hh2⟩ : ∃ h2, h1 + 1 = h2 := ⟨_, rfl⟩
        obtain ⟨h3, hh3⟩ : ∃ h3, h2 + 1 = h3 := ⟨_, rfl⟩
        obtain ⟨h4, hh4⟩ : ∃ h4, h3 + 1 = h4 := ⟨_, rfl⟩
        have FT2 : Hid (∀ x, x ∈ bfoot gs gm rg E9 → x < h1 ∨ h4 < x) := Lib.hid (fun x hx => .inl (by rw [← hh1]; exact (HU.out.foot_ge x hx).2))
        have H2 := Lib.hid (HU.out.to b2)
        have B2 := Lib.hid (BU.out.trans (b2.mono BU.out.size))
        rw [hh1, hh2, hh3, hh4] at v2 ⊢
        have V2 := Lib.hid v2
        have HLE : Hid (h1 < h2 ∧ h2 < h3 ∧ h3 < h4 ∧ base ≤ W2.heap.size ∧ w.heap.size ≤ base ∧ h4 < W2.heap.size ∧ h1 + 4 ≤ W2.heap.size) := Lib.hid (by have h5 := HZ1.out.1; have h6 := (HU.out.foot_ge gs (bfoot_mem.2 (.inl rfl))); omega)
        have HRT : Hid (1 ≤ rl.length) := Lib.hid (by rw [HNR.out]; exact h1')
        clear v2 b2 hz2 hh1 hh2 hh3 hh4 HU BU
        have R3 := Lib.hid V2.out.one
        have R4 := Lib.hid V2.out.two
        have ylt : h3 < (W2).heap.size := R3.out.lt
        have ylu : h3 < (W2).heap.size + 1 := Nat.lt_succ_of_lt R3.out.lt
        have y0 : (W2).cell? ⟨h3, 0, none⟩ = some (.int .i64 0) := R3.out.cells 0
        have yz0 : (W2).frozen? ⟨h3, 0, none⟩ = false := R3.out.frozen 0
        have y1 : (W2).cell? ⟨h3, 1, none⟩ = some (.bool false) := R3.out.cells 1
        have yz1 : (W2).frozen? ⟨h3, 1, none⟩ = false := R3.out.frozen 1
        have y2 : (W2).cell? ⟨h3, 2, none⟩ = some (.slice (some ⟨h1, 0, none⟩) 1 1) := R3.out.cells 2
        have yz2 : (W2).frozen? ⟨h3, 2, none⟩ = false := R3.out.frozen 2
        have zlt : h4 < (W2).heap.size := R4.out.lt
        have zlu : h4 < (W2).heap.size + 1 := Nat.lt_succ_of_lt R4.out.lt
        have z0 : (W2).cell? ⟨h4, 0, none⟩ = some (.int .i64 0) := R4.out.cells 0
        have zz0 : (W2).frozen? ⟨h4, 0, none⟩ = false := R4.out.frozen 0
        have z1 : (W2).cell? ⟨h4, 1, none⟩ = some (.bool true) := R4.out.cells 1
        have zz1 : (W2).frozen? ⟨h4, 1, none⟩ = false := R4.out.frozen 1
        have z2 : (W2).cell? ⟨h4, 2, none⟩ = some (.slice (some ⟨h2, 0, none⟩) 1 1) := R4.out.cells 2
        have zz2 : (W2).frozen? ⟨h4, 2, none⟩ = false := R4.out.frozen 2
        go_wp2_with fail
        (with_reducible refine (send_wait H2.out HLE.out.2.2.2.1 0 false [1] (some ⟨h1, 0, none⟩) 1 1 rfl (byte1 V2.out.a) (by simp) (by simp) (fun _ p hp hm => by obtain rfl := Option.some.inj hp; have h5 := FT2.out _ hm; have h6 := HLE.out; dsimp only at h5; omega) a ha (by simp) (by show T ≤ 100000; omega)).mono ?_)
        rintro e w3 ⟨E3, rfl, h, f, tt⟩
        have hR1 : Bu.right rl.length onP = true := by unfold Bu.right onP; exact decide_eq_true ⟨by decide, by have := HRT.out; show (0 : Int) < (rl.length : Int); omega, by decide, by decide⟩
        have hR2 : Bu.right rl.length twP = true := by unfold Bu.right twP; exact decide_eq_true ⟨by decide, by have := HRT.out; show (0 : Int) < (rl.length : Int); omega, by decide, by decide⟩
        rw [show sendE ⟨rl, T, []⟩ ⟨0, false, [1]⟩ = 0 from sendE_yes (b := ⟨rl, T, []⟩) (p := onP) hR1]
        have H3 : Hid (BusAt w3 base gs gm rg rc ⟨rl, T, [(T + 1 + a, onP)]⟩ E3) := Lib.hid (by have h9 := h; rw [show sendB ⟨rl, T, []⟩ ⟨0, false, [1]⟩ ⟨false, false, a, 0, 0, 0⟩ = ⟨rl, T, [(T + 1 + a, onP)]⟩ from sendB_wait (b := ⟨rl, T, []⟩) (p := onP) hR1] at h9; exact h9)
        have V3 := Lib.hid (V2.out.fr f (fun x hx => by have h5 := HLE.out; have h6 := FT2.out x hx; omega))
        have FT3 : Hid (∀ x, x ∈ bfoot gs gm rg E3 → x < h1 ∨ h4 < x) := Lib.hid (fun x hx => by
          rcases tt x hx with h5 | h5
          · exact FT2.out x h5
          · have := HLE.out; exact .inr (by omega))
        have B3 := Lib.hid (B2.out.trans (f.below (B := w.heap.size) (fun x hx => by have := (H2.out.foot_ge x hx).1; have := HLE.out; omega) B2.out.size))
        have hz3 : base ≤ w3.heap.size := Nat.le_trans HLE.out.2.2.2.1 f.size
        have HZ3 : Hid (h4 < w3.heap.size) := Lib.hid (Nat.lt_of_lt_of_le HLE.out.2.2.2.2.2.1 f.size)
        clear h f tt H2 V2 FT2 B2 R3 R4 hR1 y0 y1 y2 yz0 yz1 yz2 ylt ylu z0 z1 z2 zz0 zz1 zz2 zlt zlu
        have HR2 := Lib.hid hR2
        clear hR2
        have R4 := Lib.hid V3.out.two
        have zlt : h4 < (w3).heap.size := R4.out.lt
        have zlu : h4 < (w3).heap.size + 1 := Nat.lt_succ_of_lt R4.out.lt
        have z0 : (w3).cell? ⟨h4, 0, none⟩ = some (.int .i64 0) := R4.out.cells 0
        have zz0 : (w3).frozen? ⟨h4, 0, none⟩ = false := R4.out.frozen 0
        have z1 : (w3).cell? ⟨h4, 1, none⟩ = some (.bool true) := R4.out.cells 1
        have zz1 : (w3).frozen? ⟨h4, 1, none⟩ = false := R4.out.frozen 1
        have z2 : (w3).cell? ⟨h4, 2, none⟩ = some (.slice (some ⟨h2, 0, none⟩) 1 1) := R4.out.cells 2
        have zz2 : (w3).frozen? ⟨h4, 2, none⟩ = false := R4.out.frozen 2
        go_wp2_with fail
        (with_reducible refine (send_wait H3.out hz3 0 true [2] (some ⟨h2, 0, none⟩) 1 1 rfl (byte2 V3.out.b) (by simp) (by simp) (fun _ p hp hm => by obtain rfl := Option.some.inj hp; have h5 := FT3.out _ hm; have h6 := HLE.out; dsimp only at h5; omega) b hb (by simp) (by show T ≤ 100000; omega)).mono ?_)
        rintro e w4 ⟨E4, rfl, h, f, tt⟩
        rw [show sendE ⟨rl, T, [(T + 1 + a, onP)]⟩ ⟨0, true, [2]⟩ = 0 from sendE_yes (b := ⟨rl, T, [(T + 1 + a, onP)]⟩) (p := twP) HR2.out]
        have H4 : Hid (BusAt w4 base gs gm rg rc (wt2 rl T a b 0) E4) := Lib.hid (by have h9 := h; rw [show sendB ⟨rl, T, [(T + 1 + a, onP)]⟩ ⟨0, true, [2]⟩ ⟨false, false, b, 0, 0, 0⟩ = ⟨rl, T, [(T + 1 + a, onP), (T + 1 + b, twP)]⟩ from sendB_wait (b := ⟨rl, T, [(T + 1 + a, onP)]⟩) (p := twP) HR2.out] at h9; rw [wt2_zero]; exact h9)
        have V4 := Lib.hid (V3.out.fr f (fun x hx => by have h5 := HLE.out; have h6 := FT3.out x hx; omega))
        have FT4 : Hid (∀ x, x ∈ bfoot gs gm rg E4 → x < h1 ∨ h4 < x) := Lib.hid (fun x hx => by
          rcases tt x hx with h5 | h5
          · exact FT3.out x h5
          · have := HZ3.out; exact .inr (by omega))
        have B4 := Lib.hid (B3.out.trans (f.below (B := w.heap.size) (fun x hx => by have := (H3.out.foot_ge x hx).1; have := HLE.out; omega) B3.out.size))
        clear h f tt H3 V3 FT3 B3 R4 hz3 HZ3 z0 z1 z2 zz0 zz1 zz2 zlt zlu
        have HWB : Hid (w.heap.size ≤ base) := Lib.hid HLE.out.2.2.2.2.1
        have HL4 : Hid (h1 < h2 ∧ h2 < h3 ∧ h3 < h4) := Lib.hid ⟨HLE.out.1, HLE.out.2.1, HLE.out.2.2.1⟩
        clear HLE
        go_upto_region 24 with fail
        go_loopw [100] (fun i wr => ∃ (k : Nat) (E : List En), k ≤ 257 ∧ i = .int .i64 (k : Int) ∧ Hid (BusAt wr base gs gm rg rc (wt2 rl T a b k) E ∧ TwoAt wr h1 h2 h3 h4 ∧ Below w.heap.size w wr ∧ ∀ x, x ∈ bfoot gs gm rg E → x < h1 ∨ h4 < x)) (fun i _ => 257 - (intOf i).toNat)
        case atStart => exact ⟨0, E4, by omega, rfl, Lib.hid ⟨H4.out, V4.out, B4.out, FT4.out⟩⟩
        case round =>
          rename World => wr
          obtain ⟨k, E, hk, rfl, HC⟩ := hrel
          by_cases hlt : k < 257
          · have hltI : (k : Int) < 257 := by omega
            have HHW : Hid (h4 < wr.heap.size) := Lib.hid HC.out.2.1.two.lt
            have HWR : Hid (w.heap.size ≤ wr.heap.size) := Lib.hid HC.out.2.2.1.size
            have FT := Lib.hid HC.out.2.2.2
            have HN : Hid (BusAt wr base gs gm rg rc (wt2 rl T a b k) E ∧ TwoAt wr h1 h2 h3 h4 ∧ Below w.heap.size w wr ∧ Want wr wr.heap.size (fun x => x = h1 ∨ x = h2) (bfoot gs gm rg E) none 0 0 [] ∧ wr.heap.size ≤ wr.heap.size) := Lib.hid ⟨HC.out.1, HC.out.2.1, HC.out.2.2.1, Want.nil _ _ _ _, Nat.le_refl _⟩
            clear HC
            by_cases hka : k = a
            · have ga' : ((k : Int) == (a : Int)) = true := by simp; omega
              have RV := Lib.hid HN.out.2.1.one
              have ylt : h3 < (wr).heap.size := RV.out.lt
              have ylu : h3 < (wr).heap.size + 1 := Nat.lt_succ_of_lt RV.out.lt
              have y0 : (wr).cell? ⟨h3, 0, none⟩ = some (.int .i64 0) := RV.out.cells 0
              have yz0 : (wr).frozen? ⟨h3, 0, none⟩ = false := RV.out.frozen 0
              have y1 : (wr).cell? ⟨h3, 1, none⟩ = some (.bool false) := RV.out.cells 1
              have yz1 : (wr).frozen? ⟨h3, 1, none⟩ = false := RV.out.frozen 1
              have y2 : (wr).cell? ⟨h3, 2, none⟩ = some (.slice (some ⟨h1, 0, none⟩) 1 1) := RV.out.cells 2
              have yz2 : (wr).frozen? ⟨h3, 2, none⟩ = false := RV.out.frozen 2
              have hzW : wr.heap.size ≤ wr.heap.size := HN.out.2.2.2.2
              have SQ := Lib.hid (byte1 HN.out.2.1.a)
              have HOFF : Hid (parK.Off none (onC h1)) := Lib.hid (fun _ p q hp hq hh => by
                obtain rfl := Option.some.inj hp
                have h5 := (own_at_s HN.out.2.2.2.1.ol.own q hq).1
                have h6 := HL4.out
                have h7 := HHW.out
                dsimp only at hh
                omega)
              go_upto_region 29 with (at_builtin; go_loud (refine wpList_append_el wr rfl (.tmp 107) (.tmp 109) 42 rfl parK_fine wr.heap.size 36 iP _ 40 Try.underlying42 hifP hp0 hp1 hp2 rfl none 0 0 [] rfl 36 (onC h1) wr.heap.size rfl HN.out.2.2.2.1.ol rfl SQ.out HOFF.out (by omega) (by omega) hzW ?_; intro A7 c7 w7 ol5 g5 wh5 b5; have H7 : Hid (BusAt w7 base gs gm rg rc (wt2 rl T a b k) E ∧ TwoAt w7 h1 h2 h3 h4 ∧ Below w.heap.size w w7 ∧ Want w7 wr.heap.size (fun x => x = h1 ∨ x = h2) (bfoot gs gm rg E) A7 (0 + 1) c7 [onC h1] ∧ wr.heap.size ≤ w7.heap.size) := Lib.hid ⟨(HN.out.1.to (bel_alloc (Below.refl _ _) _)).app g5 HN.out.2.2.2.1.apart, (HN.out.2.1.to (bel_alloc (Below.refl _ _) _)).fr (Fr.of_app g5) (fun x hx => by obtain ⟨q, hq, hb'⟩ := rowB_mem hx; have h5 := (own_at_s HN.out.2.2.2.1.ol.own q hq).1; have h6 := HL4.out; have h7 := HHW.out; omega), HN.out.2.2.1.trans (b5.mono HWR.out), HN.out.2.2.2.1.push _ ol5 wh5 (fun y hy => (HN.out.1.foot_ge y hy).2) (fun _ q hq => by obtain rfl := Option.some.inj hq; exact .inl rfl) (by simp [onP]) (by simp), Nat.le_trans hzW b5.size⟩; clear ol5 g5 wh5 b5))
              clear y0 y1 y2 yz0 yz1 yz2 ylt ylu RV SQ HOFF HN hzW
              by_cases hkb : k = b
              · have gb' : ((k : Int) == (b : Int)) = true := by simp; omega
                have RV := Lib.hid H7.out.2.1.two
                have ylt : h4 < (w7).heap.size := RV.out.lt
                have ylu : h4 < (w7).heap.size + 1 := Nat.lt_succ_of_lt RV.out.lt
                have y0 : (w7).cell? ⟨h4, 0, none⟩ = some (.int .i64 0) := RV.out.cells 0
                have yz0 : (w7).frozen? ⟨h4, 0, none⟩ = false := RV.out.frozen 0
                have y1 : (w7).cell? ⟨h4, 1, none⟩ = some (.bool true) := RV.out.cells 1
                have yz1 : (w7).frozen? ⟨h4, 1, none⟩ = false := RV.out.frozen 1
                have y2 : (w7).cell? ⟨h4, 2, none⟩ = some (.slice (some ⟨h2, 0, none⟩) 1 1) := RV.out.cells 2
                have yz2 : (w7).frozen? ⟨h4, 2, none⟩ = false := RV.out.frozen 2
                have hzW : wr.heap.size ≤ w7.heap.size := H7.out.2.2.2.2
                have SQ := Lib.hid (byte2 H7.out.2.1.b)
                have HOFF : Hid (parK.Off A7 (twC h2)) := Lib.hid (fun _ p q hp hq hh => by
                  obtain rfl := Option.some.inj hp
                  have h5 := (own_at_s H7.out.2.2.2.1.ol.own q hq).1
                  have h6 := HL4.out
                  have h7 := HHW.out
                  dsimp only at hh
                  omega)
                go_upto_region 31 with (at_builtin; go_loud (refine wpList_append_el w7 rfl (.tmp 115) (.tmp 117) 42 rfl parK_fine wr.heap.size 36 iP _ 40 Try.underlying42 hifP hp0 hp1 hp2 rfl A7 1 c7 [onC h1] rfl 36 (twC h2) w7.heap.size rfl H7.out.2.2.2.1.ol rfl SQ.out HOFF.out (by omega) (by omega) hzW ?_; intro A8 c8 w8 ol5 g5 wh5 b5; have H8 : Hid (BusAt w8 base gs gm rg rc (wt2 rl T a b k) E ∧ TwoAt w8 h1 h2 h3 h4 ∧ Below w.heap.size w w8 ∧ Want w8 wr.heap.size (fun x => x = h1 ∨ x = h2) (bfoot gs gm rg E) A8 (1 + 1) c8 ([onC h1] ++ [twC h2]) ∧ wr.heap.size ≤ w8.heap.size) := Lib.hid ⟨(H7.out.1.to (bel_alloc (Below.refl _ _) _)).app g5 H7.out.2.2.2.1.apart, (H7.out.2.1.to (bel_alloc (Below.refl _ _) _)).fr (Fr.of_app g5) (fun x hx => by obtain ⟨q, hq, hb'⟩ := rowB_mem hx; have h5 := (own_at_s H7.out.2.2.2.1.ol.own q hq).1; have h6 := HL4.out; have h7 := HHW.out; omega), H7.out.2.2.1.trans (b5.mono HWR.out), H7.out.2.2.2.1.push _ ol5 wh5 (fun y hy => (H7.out.1.foot_ge y hy).2) (fun _ q hq => by obtain rfl := Option.some.inj hq; exact .inr rfl) (by simp [twP]) (by simp), Nat.le_trans hzW b5.size⟩; clear ol5 g5 wh5 b5))
                clear y0 y1 y2 yz0 yz1 yz2 ylt ylu RV SQ HOFF H7 hzW
                have LB : (([onC h1] ++ [twC h2]) : List Pc).length = 2 := rfl
                have PW : Hid (pars ([onC h1] ++ [twC h2]) = wantL a b k) := Lib.hid (by unfold wantL; rw [if_pos hka, if_pos hkb]; rfl)
                go_wp2_with fail
                (with_reducible refine (tick_q H8.out.1 (wt2_tick rl T a b k) (by rw [wt2_time]; omega) (by have := wt2_len rl T a b k; omega)).mono ?_)
                rintro e wt ⟨E9, A9, n9, c9, pl, rfl, h, f, tt, pc, pn, pp⟩
                have hFB : ∀ x, x ∈ bfoot gs gm rg E → w.heap.size ≤ x := fun x hx => by have := (H8.out.1.foot_ge x hx).1; have := HWB.out; omega
                have H9 := Lib.hid h
                have V9 := Lib.hid (H8.out.2.1.fr f (fun x hx => by have h5 := HL4.out; have h6 := FT.out x hx; omega))
                have W9 := Lib.hid (H8.out.2.2.2.1.fr f (fun x hx => .inl (tt x hx)) (fun x hx hS => by have h5 := HL4.out; have h6 := FT.out x hx; omega))
                have B9 := Lib.hid (H8.out.2.2.1.trans (f.below (B := w.heap.size) hFB H8.out.2.2.1.size))
                have FT9 : Hid (∀ x, x ∈ bfoot gs gm rg E9 → x < h1 ∨ h4 < x) := Lib.hid (fun x hx => FT.out x (tt x hx))
                have PC := Lib.hid pc
                have hn9 : n9 ≤ 100 := by
                  have h8 := congrArg List.length pp.out
                  have h9 := wantL_len a b k
                  rw [pars, List.length_map, pn] at h8
                  omega
                clear h f tt pc H8 hFB FT
                go_wp2_with fail
                (with_reducible refine (psame_same PC.out W9.out.pcs pn LB pp PW (by omega)).mono ?_)
                rintro e wv ⟨rfl, bv⟩
                have HV := Lib.hid (H9.out.to bv)
                have VV := Lib.hid (V9.out.to bv)
                have BV := Lib.hid (B9.out.trans (bv.mono B9.out.size))
                clear bv H9 V9 W9 B9 PC pn pp PW LB
                go_wp2
                go_roundw
                case rel => exact ⟨k + 1, E9, by omega, by go_num, Lib.hid ⟨HV.out, VV.out, BV.out, FT9.out⟩⟩
                case measure => simp [intOf]; omega
              · have gb' : ((k : Int) == (b : Int)) = false := by simp; omega
                go_upto_region 31 with fail
                have LB : ([onC h1] : List Pc).length = 1 := rfl
                have PW : Hid (pars [onC h1] = wantL a b k) := Lib.hid (by unfold wantL; rw [if_pos hka, if_neg hkb]; rfl)
                go_wp2_with fail
                (with_reducible refine (tick_q H7.out.1 (wt2_tick rl T a b k) (by rw [wt2_time]; omega) (by have := wt2_len rl T a b k; omega)).mono ?_)
                rintro e wt ⟨E9, A9, n9, c9, pl, rfl, h, f, tt, pc, pn, pp⟩
                have hFB : ∀ x, x ∈ bfoot gs gm rg E → w.heap.size ≤ x := fun x hx => by have := (H7.out.1.foot_ge x hx).1; have := HWB.out; omega
                have H9 := Lib.hid h
                have V9 := Lib.hid (H7.out.2.1.fr f (fun x hx => by have h5 := HL4.out; have h6 := FT.out x hx; omega))
                have W9 := Lib.hid (H7.out.2.2.2.1.fr f (fun x hx => .inl (tt x hx)) (fun x hx hS => by have h5 := HL4.out; have h6 := FT.out x hx; omega))
                have B9 := Lib.hid (H7.out.2.2.1.trans (f.below (B := w.heap.size) hFB H7.out.2.2.1.size))
                have FT9 : Hid (∀ x, x ∈ bfoot gs gm rg E9 → x < h1 ∨ h4 < x) := Lib.hid (fun x hx => FT.out x (tt x hx))
                have PC := Lib.hid pc
                have hn9 : n9 ≤ 100 := by
                  have h8 := congrArg List.length pp.out
                  have h9 := wantL_len a b k
                  rw [pars, List.length_map, pn] at h8
                  omega
                clear h f tt pc H7 hFB FT
                go_wp2_with fail
                (with_reducible refine (psame_same PC.out W9.out.pcs pn LB pp PW (by omega)).mono ?_)
                rintro e wv ⟨rfl, bv⟩
                have HV := Lib.hid (H9.out.to bv)
                have VV := Lib.hid (V9.out.to bv)
                have BV := Lib.hid (B9.out.trans (bv.mono B9.out.size))
                clear bv H9 V9 W9 B9 PC pn pp PW LB
                go_wp2
                go_roundw
                case rel => exact ⟨k + 1, E9, by omega, by go_num, Lib.hid ⟨HV.out, VV.out, BV.out, FT9.out⟩⟩
                case measure => simp [intOf]; omega
            · have ga' : ((k : Int) == (a : Int)) = false := by simp; omega
              go_upto_region 29 with fail
              by_cases hkb : k = b
              · have gb' : ((k : Int) == (b : Int)) = true := by simp; omega
                have RV := Lib.hid HN.out.2.1.two
                have ylt : h4 < (wr).heap.size := RV.out.lt
                have ylu : h4 < (wr).heap.size + 1 := Nat.lt_succ_of_lt RV.out.lt
                have y0 : (wr).cell? ⟨h4, 0, none⟩ = some (.int .i64 0) := RV.out.cells 0
                have yz0 : (wr).frozen? ⟨h4, 0, none⟩ = false := RV.out.frozen 0
                have y1 : (wr).cell? ⟨h4, 1, none⟩ = some (.bool true) := RV.out.cells 1
                have yz1 : (wr).frozen? ⟨h4, 1, none⟩ = false := RV.out.frozen 1
                have y2 : (wr).cell? ⟨h4, 2, none⟩ = some (.slice (some ⟨h2, 0, none⟩) 1 1) := RV.out.cells 2
                have yz2 : (wr).frozen? ⟨h4, 2, none⟩ = false := RV.out.frozen 2
                have hzW : wr.heap.size ≤ wr.heap.size := HN.out.2.2.2.2
                have SQ := Lib.hid (byte2 HN.out.2.1.b)
                have HOFF : Hid (parK.Off none (twC h2)) := Lib.hid (fun _ p q hp hq hh => by
                  obtain rfl := Option.some.inj hp
                  have h5 := (own_at_s HN.out.2.2.2.1.ol.own q hq).1
                  have h6 := HL4.out
                  have h7 := HHW.out
                  dsimp only at hh
                  omega)
                go_upto_region 31 with (at_builtin; go_loud (refine wpList_append_el wr rfl (.tmp 115) (.tmp 117) 42 rfl parK_fine wr.heap.size 36 iP _ 40 Try.underlying42 hifP hp0 hp1 hp2 rfl none 0 0 [] rfl 36 (twC h2) wr.heap.size rfl HN.out.2.2.2.1.ol rfl SQ.out HOFF.out (by omega) (by omega) hzW ?_; intro A8 c8 w8 ol5 g5 wh5 b5; have H8 : Hid (BusAt w8 base gs gm rg rc (wt2 rl T a b k) E ∧ TwoAt w8 h1 h2 h3 h4 ∧ Below w.heap.size w w8 ∧ Want w8 wr.heap.size (fun x => x = h1 ∨ x = h2) (bfoot gs gm rg E) A8 (0 + 1) c8 [twC h2] ∧ wr.heap.size ≤ w8.heap.size) := Lib.hid ⟨(HN.out.1.to (bel_alloc (Below.refl _ _) _)).app g5 HN.out.2.2.2.1.apart, (HN.out.2.1.to (bel_alloc (Below.refl _ _) _)).fr (Fr.of_app g5) (fun x hx => by obtain ⟨q, hq, hb'⟩ := rowB_mem hx; have h5 := (own_at_s HN.out.2.2.2.1.ol.own q hq).1; have h6 := HL4.out; have h7 := HHW.out; omega), HN.out.2.2.1.trans (b5.mono HWR.out), HN.out.2.2.2.1.push _ ol5 wh5 (fun y hy => (HN.out.1.foot_ge y hy).2) (fun _ q hq => by obtain rfl := Option.some.inj hq; exact .inr rfl) (by simp [twP]) (by simp), Nat.le_trans hzW b5.size⟩; clear ol5 g5 wh5 b5))
                clear y0 y1 y2 yz0 yz1 yz2 ylt ylu RV SQ HOFF HN hzW
                have LB : ([twC h2] : List Pc).length = 1 := rfl
                have PW : Hid (pars [twC h2] = wantL a b k) := Lib.hid (by unfold wantL; rw [if_neg hka, if_pos hkb]; rfl)
                go_wp2_with fail
                (with_reducible refine (tick_q H8.out.1 (wt2_tick rl T a b k) (by rw [wt2_time]; omega) (by have := wt2_len rl T a b k; omega)).mono ?_)
                rintro e wt ⟨E9, A9, n9, c9, pl, rfl, h, f, tt, pc, pn, pp⟩
                have hFB : ∀ x, x ∈ bfoot gs gm rg E → w.heap.size ≤ x := fun x hx => by have := (H8.out.1.foot_ge x hx).1; have := HWB.out; omega
                have H9 := Lib.hid h
                have V9 := Lib.hid (H8.out.2.1.fr f (fun x hx => by have h5 := HL4.out; have h6 := FT.out x hx; omega))
                have W9 := Lib.hid (H8.out.2.2.2.1.fr f (fun x hx => .inl (tt x hx)) (fun x hx hS => by have h5 := HL4.out; have h6 := FT.out x hx; omega))
                have B9 := Lib.hid (H8.out.2.2.1.trans (f.below (B := w.heap.size) hFB H8.out.2.2.1.size))
                have FT9 : Hid (∀ x, x ∈ bfoot gs gm rg E9 → x < h1 ∨ h4 < x) := Lib.hid (fun x hx => FT.out x (tt x hx))
                have PC := Lib.hid pc
                have hn9 : n9 ≤ 100 := by
                  have h8 := congrArg List.length pp.out
                  have h9 := wantL_len a b k
                  rw [pars, List.length_map, pn] at h8
                  omega
                clear h f tt pc H8 hFB FT
                go_wp2_with fail
                (with_reducible refine (psame_same PC.out W9.out.pcs pn LB pp PW (by omega)).mono ?_)
                rintro e wv ⟨rfl, bv⟩
                have HV := Lib.hid (H9.out.to bv)
                have VV := Lib.hid (V9.out.to bv)
                have BV := Lib.hid (B9.out.trans (bv.mono B9.out.size))
                clear bv H9 V9 W9 B9 PC pn pp PW LB
                go_wp2
                go_roundw
                case rel => exact ⟨k + 1, E9, by omega, by go_num, Lib.hid ⟨HV.out, VV.out, BV.out, FT9.out⟩⟩
                case measure => simp [intOf]; omega
              · have gb' : ((k : Int) == (b : Int)) = false := by simp; omega
                go_upto_region 31 with fail
                have LB : ([] : List Pc).length = 0 := rfl
                have PW : Hid (pars [] = wantL a b k) := Lib.hid (by unfold wantL; rw [if_neg hka, if_neg hkb]; rfl)
                go_wp2_with fail
                (with_reducible refine (tick_q HN.out.1 (wt2_tick rl T a b k) (by rw [wt2_time]; omega) (by have := wt2_len rl T a b k; omega)).mono ?_)
                rintro e wt ⟨E9, A9, n9, c9, pl, rfl, h, f, tt, pc, pn, pp⟩
                have hFB : ∀ x, x ∈ bfoot gs gm rg E → w.heap.size ≤ x := fun x hx => by have := (HN.out.1.foot_ge x hx).1; have := HWB.out; omega
                have H9 := Lib.hid h
                have V9 := Lib.hid (HN.out.2.1.fr f (fun x hx => by have h5 := HL4.out; have h6 := FT.out x hx; omega))
                have W9 := Lib.hid (HN.out.2.2.2.1.fr f (fun x hx => .inl (tt x hx)) (fun x hx hS => by have h5 := HL4.out; have h6 := FT.out x hx; omega))
                have B9 := Lib.hid (HN.out.2.2.1.trans (f.below (B := w.heap.size) hFB HN.out.2.2.1.size))
                have FT9 : Hid (∀ x, x ∈ bfoot gs gm rg E9 → x < h1 ∨ h4 < x) := Lib.hid (fun x hx => FT.out x (tt x hx))
                have PC := Lib.hid pc
                have hn9 : n9 ≤ 100 := by
                  have h8 := congrArg List.length pp.out
                  have h9 := wantL_len a b k
                  rw [pars, List.length_map, pn] at h8
                  omega
                clear h f tt pc HN hFB FT
                go_wp2_with fail
                (with_reducible refine (psame_same PC.out W9.out.pcs pn LB pp PW (by omega)).mono ?_)
                rintro e wv ⟨rfl, bv⟩
                have HV := Lib.hid (H9.out.to bv)
                have VV := Lib.hid (V9.out.to bv)
                have BV := Lib.hid (B9.out.trans (bv.mono B9.out.size))
                clear bv H9 V9 W9 B9 PC pn pp PW LB
                go_wp2
                go_roundw
                case rel => exact ⟨k + 1, E9, by omega, by go_num, Lib.hid ⟨HV.out, VV.out, BV.out, FT9.out⟩⟩
                case measure => simp [intOf]; omega
          · obtain rfl : k = 257 := by omega
            have BL := Lib.hid HC.out.2.2.1
            clear HC
            go_wp2_with fail
            (with_reducible refine (awake_any _).mono ?_)
            rintro e wx ⟨rfl, bx⟩
            have BX := Lib.hid (BL.out.trans (bx.mono BL.out.size))
            clear bx
            go_wp2
            go_ret
            exact ⟨rfl, BX.out⟩
end Go.Proofs.Ythigkmoilfdciaa
