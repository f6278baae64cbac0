/- Layer 11: the walk of BusTells. -/
import Derived.Test.YthigkmoilfdciaaBuRfTk
import Derived.Test.YthigkmoilfdciaaBuRfS
import Derived.Test.YthigkmoilfdciaaBuLight
import Derived.Test.YthigkmoilfdciaaBuAwkW
import Derived.Deep.CutBlock
namespace Go.Proofs.Ythigkmoilfdciaa
open Go.RowKit
set_option linter.unusedVariables false
set_option linter.unusedSimpArgs false
attribute [local go_sem] Later.cell Later.frozen setCell_twice
attribute [local go_sem high] sliced_zero'
theorem WOff.sub {F F' : List Nat} {A : Option Addr} {l : List Wy} (h : WOff F A l) (hF : ∀ x ∈ F', x ∈ F) : WOff F' A l :=
  ⟨fun hn p hp hm => h.1 hn p hp (hF _ hm), fun x hx hn p hp hm => h.2 x hx hn p hp (hF _ hm)⟩
theorem POff.sub {F F' : List Nat} {A : Option Addr} {l : List Pc} (h : POff F A l) (hF : ∀ x ∈ F', x ∈ F) : POff F' A l :=
  ⟨fun hn p hp hm => h.1 hn p hp (hF _ hm), fun x hx hn p hp hm => h.2 x hx hn p hp (hF _ hm)⟩
/-- both buses of the law -/
structure TellAt (w wr : World) (base gs gm rg rc gM : Nat) (A0 : Option Addr) (nr c0 : Nat) (b : Bu) (E : List En) (Aw : Option Addr) (nw cw : Nat) (wl : List Wy) : Prop where
  bus : BusAt wr base gs gm rg rc b E
  rb : RBus wr A0 b Aw nw cw wl
  row : RowAt wr gM 33 (rbC A0 nr c0 (b.time : Int) Aw nw cw)
  off : WOff (gM :: bfoot gs gm rg E) Aw wl
  gmo : gM ∉ bfoot gs gm rg E
  bk : Below w.heap.size w wr
  hb : w.heap.size ≤ base
  hg : base ≤ gM
  o0 : 0 < b.rtu.length → ∀ p, A0 = some p → p.block < w.heap.size
section
variable {w wr w' : World} {base gs gm rg rc gM nr c0 nw cw : Nat} {A0 Aw : Option Addr} {b : Bu} {E : List En} {wl : List Wy}
theorem TellAt.to (h : TellAt w wr base gs gm rg rc gM A0 nr c0 b E Aw nw cw wl) (k : Below wr.heap.size wr w') : TellAt w w' base gs gm rg rc gM A0 nr c0 b E Aw nw cw wl :=
  ⟨h.bus.to k, h.rb.to k, h.row.to k, h.off, h.gmo, h.bk.trans (k.mono h.bk.size), h.hb, h.hg, h.o0⟩
theorem TellAt.len (h : TellAt w wr base gs gm rg rc gM A0 nr c0 b E Aw nw cw wl) : nw = b.l.length := by rw [← h.rb.val, List.length_map, h.rb.len]
theorem TellAt.lt (h : TellAt w wr base gs gm rg rc gM A0 nr c0 b E Aw nw cw wl) : ∀ x ∈ gM :: bfoot gs gm rg E, x < wr.heap.size := fun x hx => by
  rcases List.mem_cons.1 hx with rfl | hx
  · exact h.row.lt
  · exact (h.bus.foot_ge x hx).2
/-- the reference's bus moves on: what it answers is stored -/
theorem TellAt.ref (h : TellAt w wr base gs gm rg rc gM A0 nr c0 b E Aw nw cw wl) {w2 : World} {b' : Bu} {Aw' : Option Addr} {nw' cw' : Nat} {wl' : List Wy} (k : Below wr.heap.size wr w') (hr : RBus w' A0 b' Aw' nw' cw' wl') (ho : WOff (gM :: bfoot gs gm rg E) Aw' wl') (hu : b'.rtu = b.rtu) (k2 : Only gM w' w2) (row : RowAt w2 gM 33 (rbC A0 nr c0 (b'.time : Int) Aw' nw' cw')) :
    BusAt w2 base gs gm rg rc b E ∧ RBus w2 A0 b' Aw' nw' cw' wl' ∧ Below w.heap.size w w2 := by
  have f2 : Fr [gM] w' w2 := Fr.of_only k2 (List.mem_singleton.2 rfl)
  have hgw : w.heap.size ≤ gM := Nat.le_trans h.hb h.hg
  refine ⟨(h.bus.to k).fr f2 (fun x hx hm => ?_), hr.fr f2 (ho.sub (fun x hx => by rw [List.mem_singleton.1 hx]; exact List.mem_cons_self)) (fun hn p hp hm => ?_), (h.bk.trans (k.mono h.bk.size)).trans (k2.below hgw)⟩
  · rw [List.mem_singleton.1 hm] at hx
    exact h.gmo hx
  · have h1 := h.o0 (by rw [← hu]; exact hn) p hp
    have h2 := List.mem_singleton.1 hm
    omega
/-- the program's bus moves on -/
theorem TellAt.next {b' : Bu} {E' : List En} (hb : BusAt wr base gs gm rg rc b E) (hr : RBus wr A0 b' Aw nw cw wl) (row : RowAt wr gM 33 (rbC A0 nr c0 (b'.time : Int) Aw nw cw)) (ho : WOff (gM :: bfoot gs gm rg E) Aw wl) (hg : gM ∉ bfoot gs gm rg E) (bk : Below w.heap.size w wr) (h1 : w.heap.size ≤ base) (h2 : base ≤ gM) (o0 : 0 < b'.rtu.length → ∀ p, A0 = some p → p.block < w.heap.size)
    (hb' : BusAt w' base gs gm rg rc b' E') (f : Fr (bfoot gs gm rg E) wr w') (t : ∀ x, x ∈ bfoot gs gm rg E' → x ∈ bfoot gs gm rg E ∨ wr.heap.size ≤ x) : TellAt w w' base gs gm rg rc gM A0 nr c0 b' E' Aw nw cw wl := by
  have hge : ∀ x, x ∈ bfoot gs gm rg E → w.heap.size ≤ x := fun x hx => by have := (hb.foot_ge x hx).1; omega
  refine ⟨hb', hr.fr f (ho.sub (fun x hx => List.mem_cons_of_mem _ hx)) (fun hn p hp hm => ?_), f.row row hg, ho.grow hr.ways (fun x hx => ?_), fun hm => ?_, bk.trans (f.below hge bk.size), h1, h2, o0⟩
  · have := o0 hn p hp; have := hge _ hm; omega
  · rcases List.mem_cons.1 hx with rfl | hx
    · exact .inl List.mem_cons_self
    · exact (t x hx).imp (fun h => List.mem_cons_of_mem _ h) id
  · rcases t _ hm with h | h
    · exact hg h
    · have := row.lt; omega
end
theorem send_rtu (b : Bu) (p : Par) (f : Fa) : (b.send p f).rtu = b.rtu ∧ (b.send p f).time = b.time ∧ (b.send p f).l.length ≤ b.l.length + 2 := by
  unfold Bu.send
  split
  · exact ⟨rfl, rfl, by omega⟩
  · refine ⟨rfl, rfl, ?_⟩
    cases f.twice <;> simp
theorem sendB_rtu (b : Bu) (p : Par) (f : Fa) : (sendB b p f).rtu = b.rtu ∧ (sendB b p f).time = b.time ∧ (sendB b p f).l.length ≤ b.l.length + 2 := by
  unfold sendB
  split
  · exact send_rtu b p f
  · exact ⟨rfl, rfl, by omega⟩
theorem tick_rtu (b : Bu) : b.tick.1.rtu = b.rtu ∧ b.tick.1.time = b.time + 1 ∧ b.tick.1.l.length ≤ b.l.length :=
  ⟨rfl, rfl, by unfold Bu.tick; exact List.length_filter_le _ _⟩
set_option maxRecDepth 100000 in
set_option maxHeartbeats 4000000 in
theorem busTells_any (w : World) (A0 : Option Addr) (rl : List Bool) (c0 nr : Nat) (hr : Sq Value.bool w w.heap.size A0 rl) (hnr : rl.length = nr) (A1 : Option Addr) (l : List Bop) (c1 m : Nat) (hl : Bops w w.heap.size A1 l) (hm : l.length = m) (hmc : m ≤ c1) (hc1 : c1 ≤ 9223372036854775807) (hA1 : A1 = none → c1 = 0) :
    Calls Try.prog 3 #[.slice A0 nr c0, .slice A1 m c1] w fun e w' => e = .returned (.bool true) ∧ Below w.heap.size w w' := by
  have HR := Lib.hid hr
  have HL := Lib.hid hl
  have HNR := Lib.hid hnr
  have HM := Lib.hid hm
  obtain ⟨n, hn⟩ : ∃ n, n = min m 120 := ⟨_, rfl⟩
  have KL := Lib.hid (blight_any A1 l m c1 n w hl hm hmc hc1 hA1 hn)
  have hnm : n ≤ m := by omega
  have hnc : n ≤ c1 := by omega
  have hn120 : n ≤ 120 := by omega
  clear hr hl hnr hm hn
  go_enter Try.func3, Try.ntmps3
  go_wp2_with fail
  (with_reducible refine KL.out.mono ?_)
  rintro e w1 ⟨b1, hcase⟩
  have BL := Lib.hid b1
  have HR1 := Lib.hid ((HR.out.below b1).more b1.size)
  clear b1 KL
  rcases hcase with rfl | ⟨rfl, hall⟩
  · go_wp2_with fail
    (with_reducible refine (awake_any _).mono ?_)
    rintro e wx ⟨rfl, bx⟩
    have BX := Lib.hid (BL.out.trans (bx.mono BL.out.size))
    clear bx
    go_wp2
    go_ret
    exact ⟨rfl, BX.out⟩
  have HALL := hall
  clear hall
  by_cases h12 : 12 < nr
  · have g0 : decide ((12 : Int) < (nr : Int)) = true := decide_eq_true (by omega)
    go_wp2_with fail
    (with_reducible refine (awake_any _).mono ?_)
    rintro e wx ⟨rfl, bx⟩
    have BX := Lib.hid (BL.out.trans (bx.mono BL.out.size))
    clear bx
    go_wp2
    go_ret
    exact ⟨rfl, BX.out⟩
  have g0 : decide ((12 : Int) < (nr : Int)) = false := decide_eq_false (by omega)
  by_cases h1 : nr < 1
  · have g1 : decide ((nr : Int) < 1) = true := decide_eq_true (by omega)
    have kn := Lib.hid (new_no A0 nr c0 w1 (.inl h1))
    clear h1 h12
    go_wp2_with fail
    (with_reducible refine (kn.out).mono ?_)
    rintro e w2 ⟨rfl, rfl⟩
    clear kn
    go_wp2_with fail
    (with_reducible refine (awake_any _).mono ?_)
    rintro e wx ⟨rfl, bx⟩
    have BX := Lib.hid (BL.out.trans (bx.mono BL.out.size))
    clear bx
    go_wp2
    go_ret
    exact ⟨rfl, BX.out⟩
  by_cases h8 : 8 < nr
  · have g1 : decide ((nr : Int) < 1) = false := decide_eq_false (by omega)
    have g2 : decide ((8 : Int) < (nr : Int)) = true := decide_eq_true (by omega)
    have kn := Lib.hid (new_no A0 nr c0 w1 (.inr h8))
    clear h1 h8 h12
    go_wp2_with fail
    (with_reducible refine (kn.out).mono ?_)
    rintro e w2 ⟨rfl, rfl⟩
    clear kn
    go_wp2_with fail
    (with_reducible refine (awake_any _).mono ?_)
    rintro e wx ⟨rfl, bx⟩
    have BX := Lib.hid (BL.out.trans (bx.mono BL.out.size))
    clear bx
    go_wp2
    go_ret
    exact ⟨rfl, BX.out⟩
  have g1 : decide ((nr : Int) < 1) = false := decide_eq_false (by omega)
  have g2 : decide ((8 : Int) < (nr : Int)) = false := decide_eq_false (by omega)
  have h1' : 1 ≤ nr := by omega
  have h8' : nr ≤ 8 := by omega
  go_wp2_with fail
  (with_reducible refine (new_yes A0 rl nr c0 w1 HR1.out HNR.out h1' h8').mono ?_)
  rintro e w2 ⟨gs, gm, rg, rc, rfl, h2, b2⟩
  have H2 : Hid (BusAt w2 w1.heap.size gs gm rg rc ⟨rl, 0, []⟩ []) := Lib.hid h2
  have BL2 := Lib.hid (BL.out.trans (b2.mono BL.out.size))
  have HZ1 : Hid (w.heap.size ≤ w1.heap.size ∧ w1.heap.size ≤ w2.heap.size) := Lib.hid ⟨BL.out.size, b2.size⟩
  have HR2 := Lib.hid ((HR1.out.below b2).more b2.size)
  clear h2 b2 BL HR1 h1 h8 h12
  obtain ⟨base, hbase⟩ : ∃ base, w1.heap.size = base := ⟨_, rfl⟩
  rw [hbase] at H2 HZ1
  clear hbase
  have HA0 : Hid (0 < rl.length → ∀ p, A0 = some p → p.block < w.heap.size) := Lib.hid (fun hn p hp => by
    obtain ⟨b, o, hA, hb, _⟩ := HR.out hn
    rw [hp] at hA
    obtain rfl := Option.some.inj hA
    exact hb)
  go_upto_region 10 with fail
  clear g0 g1 g2
  obtain ⟨w3, hw3⟩ : ∃ w3, w2.alloc (.cells #[.slice A0 nr c0, .int .i64 0, .slice none 0 0] 33) = w3 := ⟨_, rfl⟩
  obtain ⟨gM, hgM⟩ : ∃ gM, w2.heap.size = gM := ⟨_, rfl⟩
  have bA : Below w2.heap.size w2 w3 := by rw [← hw3]; exact bel_alloc (Below.refl _ _) _
  have RM : RowAt w3 gM 33 (rbC A0 nr c0 0 none 0 0) := by rw [← hw3, ← hgM]; exact RowAt.new _ _ (rbC A0 nr c0 0 none 0 0)
  rw [hw3, hgM]
  have T0 : Hid (TellAt w w3 base gs gm rg rc gM A0 nr c0 ⟨rl, 0, []⟩ [] none 0 0 []) := Lib.hid ⟨H2.out.to bA, ⟨(HR2.out.below bA).more bA.size, ⟨Recs.nil, by simp, by simp, by simp⟩, rfl, fun _ => rfl, rfl⟩, RM, ⟨by simp, by simp⟩, fun hm => by have := (H2.out.foot_ge _ hm).2; omega, BL2.out.trans (bA.mono BL2.out.size), HZ1.out.1, by have := HZ1.out.2; omega, HA0.out⟩
  clear hw3 hgM bA RM H2 BL2 HR2 HZ1 HR HA0
  go_wp2
  go_loopw [54] (fun i wr => ∃ (k : Nat) (b : Bu) (E : List En) (Aw : Option Addr) (nw cw : Nat) (wl : List Wy), k ≤ n ∧ i = .int .i64 (k : Int) ∧ Hid (TellAt w wr base gs gm rg rc gM A0 nr c0 b E Aw nw cw wl) ∧ Hid (b.rtu = rl) ∧ b.time ≤ k ∧ b.l.length ≤ 2 * k) (fun i _ => n - (intOf i).toNat)
  case atStart => exact ⟨0, _, _, _, _, _, _, by omega, rfl, T0, Lib.hid rfl, Nat.le_refl _, Nat.le_refl _⟩
  case round =>
    rename World => wr
    clear T0
    obtain ⟨k, b, E, Aw, nw, cw, wl, hk, rfl, TT, HRL, htk, hlk⟩ := hrel
    by_cases hlt : k < n
    rotate_left
    · obtain rfl : k = n := by omega
      have BL := Lib.hid TT.out.bk
      go_wp2_with fail
      (with_reducible refine (awake_any _).mono ?_)
      rintro e wx ⟨rfl, bx⟩
      have BX := Lib.hid (BL.out.trans (bx.mono BL.out.size))
      clear bx
      go_wp2
      go_ret
      exact ⟨rfl, BX.out⟩
    obtain ⟨g, o, x, rfl, hg, hx, hxm, hok, hd⟩ := (HL.out.to TT.out.bk).at_ (k := k) (by rw [HM.out]; omega)
    obtain ⟨g0, o0, x0, hA0', hg0, hx0, _, hok0, _⟩ := HL.out.at_ (k := k) (by rw [HM.out]; omega)
    have hltI : (k : Int) < (n : Int) := by omega
    have h0I : (0 : Int) ≤ (k : Int) := by omega
    obtain rfl : x0 = x := Option.some.inj (hx0.symm.trans hx)
    have HOK0 := Lib.hid hok0
    have HXT : Hid (x0.p.p.b.length ≤ 310) := Lib.hid (HALL.out x0 (by rw [List.mem_iff_getElem?]; exact ⟨k, by rw [List.getElem?_take, if_pos hlt]; exact hx⟩))
    clear hx0 hA0' hg0 hok0
    obtain ⟨tick, ⟨⟨s, up, by_⟩, XA, xc⟩, ⟨lost, twice, wait, again, at_, turns⟩⟩ := x0
    obtain ⟨q, hq⟩ : ∃ q, by_.length = q := ⟨_, rfl⟩
    have HQ := Lib.hid hq
    have HOK := Lib.hid hok.p
    have HFT := Lib.hid hok.f
    have d0 : wr.cell? ⟨g, o + k * 10, none⟩ = some (.bool tick) := hd 0 _ rfl
    have d1 : wr.cell? ⟨g, o + k * 10 + 1, none⟩ = some (.int .i64 s) := hd 1 _ rfl
    have d2 : wr.cell? ⟨g, o + k * 10 + 2, none⟩ = some (.bool up) := hd 2 _ rfl
    have d3 : wr.cell? ⟨g, o + k * 10 + 3, none⟩ = some (.slice XA q xc) := by have := hd 3 _ rfl; rw [← hq]; exact this
    have d4 : wr.cell? ⟨g, o + k * 10 + 4, none⟩ = some (.bool lost) := hd 4 _ rfl
    have d5 : wr.cell? ⟨g, o + k * 10 + 5, none⟩ = some (.bool twice) := hd 5 _ rfl
    have d6 : wr.cell? ⟨g, o + k * 10 + 6, none⟩ = some (.int .u8 (wait : Int)) := hd 6 _ rfl
    have d7 : wr.cell? ⟨g, o + k * 10 + 7, none⟩ = some (.int .u8 (again : Int)) := hd 7 _ rfl
    have d8 : wr.cell? ⟨g, o + k * 10 + 8, none⟩ = some (.int .u16 (at_ : Int)) := hd 8 _ rfl
    have d9 : wr.cell? ⟨g, o + k * 10 + 9, none⟩ = some (.int .u16 (turns : Int)) := hd 9 _ rfl
    clear hx hxm hok hd hq
    go_upto_region 13 with fail
    obtain ⟨wa, hwa⟩ : ∃ wa, wr.alloc (.cells #[.bool tick, .int .i64 s, .bool up, .slice XA q xc, .bool lost, .bool twice, .int .u8 (wait : Int), .int .u8 (again : Int), .int .u16 (at_ : Int), .int .u16 (turns : Int)] 41) = wa := ⟨_, rfl⟩
    obtain ⟨gx, hgx⟩ : ∃ gx, wr.heap.size = gx := ⟨_, rfl⟩
    have bA : Below wr.heap.size wr wa := by rw [← hwa]; exact bel_alloc (Below.refl _ _) _
    have RX : Hid (RowAt wa gx 41 [.bool tick, .int .i64 s, .bool up, .slice XA q xc, .bool lost, .bool twice, .int .u8 (wait : Int), .int .u8 (again : Int), .int .u16 (at_ : Int), .int .u16 (turns : Int)]) := Lib.hid (by rw [← hwa, ← hgx]; exact RowAt.new _ _ _)
    have HNX : Hid (gx ∉ bfoot gs gm rg E ∧ gx ≠ gM) := Lib.hid ⟨fun hm => by have := (TT.out.bus.foot_ge gx hm).2; omega, fun e => by have := TT.out.row.lt; omega⟩
    have HS0 : Hid (0 < by_.length → ∀ q, XA = some q → q.block < w.heap.size) := Lib.hid (fun hn p hp => by
      obtain ⟨b, o, h1, h2, _⟩ := HOK0.out.p.sq hn
      have h1' : XA = some ⟨b, o, none⟩ := h1
      rw [hp] at h1'
      obtain rfl := Option.some.inj h1'
      exact h2)
    rw [hwa, hgx]
    replace TT := Lib.hid (TT.out.to bA)
    replace HOK := Lib.hid (HOK.out.to bA)
    clear hwa hgx bA d0 d1 d2 d3 d4 d5 d6 d7 d8 d9 hltI
    have hnw : nw ≤ 2 * k := by rw [TT.out.len]; exact hlk
    have ltM := TT.out.row.lt
    have y0 : wa.cell? ⟨gx, 0, none⟩ = some (.bool tick) := RX.out.cells 0
    go_upto_if 59 with fail
    clear y0
    go_cut [] (fun wx => ∃ (b' : Bu) (E' : List En) (Aw' : Option Addr) (nw' cw' : Nat) (wl' : List Wy), Hid (TellAt w wx base gs gm rg rc gM A0 nr c0 b' E' Aw' nw' cw' wl') ∧ Hid (b'.rtu = rl) ∧ b'.time ≤ k + 1 ∧ b'.l.length ≤ 2 * (k + 1))
    case first =>
      cases tick
      · have ylt : gx < (wa).heap.size := RX.out.lt
        have ylu : gx < (wa).heap.size + 1 := Nat.lt_succ_of_lt RX.out.lt
        have y0 : (wa).cell? ⟨gx, 0, none⟩ = some (.bool false) := RX.out.cells 0
        have yz0 : (wa).frozen? ⟨gx, 0, none⟩ = false := RX.out.frozen 0
        have y1 : (wa).cell? ⟨gx, 1, none⟩ = some (.int .i64 s) := RX.out.cells 1
        have yz1 : (wa).frozen? ⟨gx, 1, none⟩ = false := RX.out.frozen 1
        have y2 : (wa).cell? ⟨gx, 2, none⟩ = some (.bool up) := RX.out.cells 2
        have yz2 : (wa).frozen? ⟨gx, 2, none⟩ = false := RX.out.frozen 2
        have y3 : (wa).cell? ⟨gx, 3, none⟩ = some (.slice XA q xc) := RX.out.cells 3
        have yz3 : (wa).frozen? ⟨gx, 3, none⟩ = false := RX.out.frozen 3
        have y4 : (wa).cell? ⟨gx, 4, none⟩ = some (.bool lost) := RX.out.cells 4
        have yz4 : (wa).frozen? ⟨gx, 4, none⟩ = false := RX.out.frozen 4
        have y5 : (wa).cell? ⟨gx, 5, none⟩ = some (.bool twice) := RX.out.cells 5
        have yz5 : (wa).frozen? ⟨gx, 5, none⟩ = false := RX.out.frozen 5
        have y6 : (wa).cell? ⟨gx, 6, none⟩ = some (.int .u8 (wait : Int)) := RX.out.cells 6
        have yz6 : (wa).frozen? ⟨gx, 6, none⟩ = false := RX.out.frozen 6
        have y7 : (wa).cell? ⟨gx, 7, none⟩ = some (.int .u8 (again : Int)) := RX.out.cells 7
        have yz7 : (wa).frozen? ⟨gx, 7, none⟩ = false := RX.out.frozen 7
        have y8 : (wa).cell? ⟨gx, 8, none⟩ = some (.int .u16 (at_ : Int)) := RX.out.cells 8
        have yz8 : (wa).frozen? ⟨gx, 8, none⟩ = false := RX.out.frozen 8
        have y9 : (wa).cell? ⟨gx, 9, none⟩ = some (.int .u16 (turns : Int)) := RX.out.cells 9
        have yz9 : (wa).frozen? ⟨gx, 9, none⟩ = false := RX.out.frozen 9
        obtain ⟨r, hr⟩ : ∃ r, decide (0 ≤ s ∧ s < (nr : Int) ∧ 1 ≤ q ∧ q ≤ 300) = r := ⟨_, rfl⟩
        have hrB : Bu.right b.rtu.length ⟨s, up, by_⟩ = r := by rw [HRL.out, HNR.out, ← hr, ← HQ.out]; rfl
        have HRB := Lib.hid hrB
        have HRD := Lib.hid hr
        have kr := Lib.hid (fun W => rright_any nr s up XA q xc W r hr)
        clear hr hrB
        go_wp2_with fail
        with_reducible refine (kr.out _).mono ?_
        rintro e4 w4 ⟨rfl, b4⟩
        replace TT := Lib.hid (TT.out.to b4)
        replace RX := Lib.hid (RX.out.to b4)
        replace HOK := Lib.hid (HOK.out.to b4)
        clear b4 kr y0 y1 y2 y3 y4 y5 y6 y7 y8 y9 yz0 yz1 yz2 yz3 yz4 yz5 yz6 yz7 yz8 yz9 ylt ylu ltM
        go_upto_if 74 with fail
        obtain ⟨eE, heE⟩ : ∃ eE, sendE b ⟨s, up, by_⟩ = eE := ⟨_, rfl⟩
        have HEE := Lib.hid heE
        clear heE
        go_cut [12] (fun v wx => ∃ (Aw' : Option Addr) (nw' cw' : Nat) (wl' : List Wy), v = .int .i64 eE ∧ Hid (BusAt wx base gs gm rg rc b E ∧ RBus wx A0 (sendB b ⟨s, up, by_⟩ ⟨lost, twice, wait, again, at_, turns⟩) Aw' nw' cw' wl' ∧ Below w.heap.size w wx) ∧ Hid (RowAt wx gM 33 (rbC A0 nr c0 (b.time : Int) Aw' nw' cw')) ∧ Hid (WOff (gM :: bfoot gs gm rg E) Aw' wl') ∧ Hid (RowAt wx gx 41 [.bool false, .int .i64 s, .bool up, .slice XA q xc, .bool lost, .bool twice, .int .u8 (wait : Int), .int .u8 (again : Int), .int .u16 (at_ : Int), .int .u16 (turns : Int)]))
        case first =>
          cases r
          · obtain rfl : 2 = eE := by rw [← HEE.out]; exact (sendE_no HRB.out).symm
            go_wp2
            go_meet
            case rel => exact ⟨Aw, nw, cw, wl, rfl, Lib.hid ⟨TT.out.bus, by rw [sendB_no HRB.out]; exact TT.out.rb, TT.out.bk⟩, Lib.hid TT.out.row, Lib.hid TT.out.off, RX⟩
          · obtain rfl : 0 = eE := by rw [← HEE.out]; exact (sendE_yes HRB.out).symm
            have hrd := of_decide_eq_true HRD.out
            obtain ⟨ns, rfl⟩ : ∃ ns : Nat, s = (ns : Int) := ⟨s.toNat, by omega⟩
            have hsB : sendB b ⟨(ns : Int), up, by_⟩ ⟨lost, twice, wait, again, at_, turns⟩ = b.send ⟨(ns : Int), up, by_⟩ ⟨lost, twice, wait, again, at_, turns⟩ := by unfold sendB; rw [if_pos HRB.out]
            have HSB := Lib.hid hsB
            have ksd := Lib.hid (rsend_any w4 (c0 := c0) TT.out.rb (by omega) (by omega) ns up by_ XA q xc HQ.out HOK.out.sq HOK.out.nl HOK.out.u (by rw [HRL.out, HNR.out]; omega) (by omega) (by omega) lost twice wait again at_ turns HFT.out.wait HFT.out.again HFT.out.at_ HFT.out.turns)
            rw [HRL.out, HNR.out] at ksd
            have RM := Lib.hid TT.out.row
            clear hrd hsB
            have ylt : gx < (w4).heap.size := RX.out.lt
            have ylu : gx < (w4).heap.size + 1 := Nat.lt_succ_of_lt RX.out.lt
            have y0 : (w4).cell? ⟨gx, 0, none⟩ = some (.bool false) := RX.out.cells 0
            have yz0 : (w4).frozen? ⟨gx, 0, none⟩ = false := RX.out.frozen 0
            have y1 : (w4).cell? ⟨gx, 1, none⟩ = some (.int .i64 (ns : Int)) := RX.out.cells 1
            have yz1 : (w4).frozen? ⟨gx, 1, none⟩ = false := RX.out.frozen 1
            have y2 : (w4).cell? ⟨gx, 2, none⟩ = some (.bool up) := RX.out.cells 2
            have yz2 : (w4).frozen? ⟨gx, 2, none⟩ = false := RX.out.frozen 2
            have y3 : (w4).cell? ⟨gx, 3, none⟩ = some (.slice XA q xc) := RX.out.cells 3
            have yz3 : (w4).frozen? ⟨gx, 3, none⟩ = false := RX.out.frozen 3
            have y4 : (w4).cell? ⟨gx, 4, none⟩ = some (.bool lost) := RX.out.cells 4
            have yz4 : (w4).frozen? ⟨gx, 4, none⟩ = false := RX.out.frozen 4
            have y5 : (w4).cell? ⟨gx, 5, none⟩ = some (.bool twice) := RX.out.cells 5
            have yz5 : (w4).frozen? ⟨gx, 5, none⟩ = false := RX.out.frozen 5
            have y6 : (w4).cell? ⟨gx, 6, none⟩ = some (.int .u8 (wait : Int)) := RX.out.cells 6
            have yz6 : (w4).frozen? ⟨gx, 6, none⟩ = false := RX.out.frozen 6
            have y7 : (w4).cell? ⟨gx, 7, none⟩ = some (.int .u8 (again : Int)) := RX.out.cells 7
            have yz7 : (w4).frozen? ⟨gx, 7, none⟩ = false := RX.out.frozen 7
            have y8 : (w4).cell? ⟨gx, 8, none⟩ = some (.int .u16 (at_ : Int)) := RX.out.cells 8
            have yz8 : (w4).frozen? ⟨gx, 8, none⟩ = false := RX.out.frozen 8
            have y9 : (w4).cell? ⟨gx, 9, none⟩ = some (.int .u16 (turns : Int)) := RX.out.cells 9
            have yz9 : (w4).frozen? ⟨gx, 9, none⟩ = false := RX.out.frozen 9
            go_wp2_with (refine wpList_load_var rfl 33 (.tmp 8) rfl gM rfl _ _ 3 RM.out Try.underlying33 rfl size_rbus rfl ?_)
            with_reducible refine (ksd.out).mono ?_
            rintro e5 w5 ⟨A5, n5, c5, l5, rfl, rb5, b5, off5⟩
            have OF5 := Lib.hid (off5.out _ TT.out.lt TT.out.off)
            have RB5 := Lib.hid rb5
            have B5 := Lib.hid b5
            replace RM := Lib.hid (RM.out.to b5)
            replace RX := Lib.hid (RX.out.to b5)
            clear off5 rb5 b5 ksd y0 y1 y2 y3 y4 y5 y6 y7 y8 y9 yz0 yz1 yz2 yz3 yz4 yz5 yz6 yz7 yz8 yz9 ylt ylu
            go_wp2_with (refine wpList_store_var rfl 33 (.tmp 8) (.tmp 80) rfl gM _ (rbC A0 nr c0 (b.time : Int) A5 n5 c5) 3 rfl rfl RM.out size_rbus rfl rfl (rbC_one _ _ _ _ _ _ _) ?_; intro w6 r6 k6; have R6 := Lib.hid r6; have K6 := Lib.hid k6; clear r6 k6)
            have H6 := Lib.hid (TT.out.ref B5.out RB5.out OF5.out (send_rtu _ _ _).1 K6.out (by rw [(send_rtu _ _ _).2.1]; exact R6.out))
            replace RX := Lib.hid (RX.out.only K6.out HNX.out.2)
            clear K6 RM RB5 B5
            try simp only [Act.put]
            go_wp2
            go_meet
            case rel => exact ⟨A5, n5, c5, l5, rfl, Lib.hid ⟨H6.out.1, by rw [HSB.out]; exact H6.out.2.1, H6.out.2.2⟩, R6, OF5, RX⟩
        case rest =>
        obtain ⟨A5, n5, c5, l5, rfl, H6, R6, OF5, RX6⟩ := hcut
        rename World => w6
        have OK6 : Hid (PcOk w6 w6.heap.size ⟨⟨s, up, by_⟩, XA, xc⟩) := Lib.hid (HOK0.out.p.to H6.out.2.2)
        have hEE : (eE != eE) = false := by simp
        have HBZ : Hid (base ≤ w6.heap.size) := Lib.hid (by have := R6.out.lt; have := TT.out.hg; omega)
        have ylt : gx < (w6).heap.size := RX6.out.lt
        have ylu : gx < (w6).heap.size + 1 := Nat.lt_succ_of_lt RX6.out.lt
        have y0 : (w6).cell? ⟨gx, 0, none⟩ = some (.bool false) := RX6.out.cells 0
        have yz0 : (w6).frozen? ⟨gx, 0, none⟩ = false := RX6.out.frozen 0
        have y1 : (w6).cell? ⟨gx, 1, none⟩ = some (.int .i64 s) := RX6.out.cells 1
        have yz1 : (w6).frozen? ⟨gx, 1, none⟩ = false := RX6.out.frozen 1
        have y2 : (w6).cell? ⟨gx, 2, none⟩ = some (.bool up) := RX6.out.cells 2
        have yz2 : (w6).frozen? ⟨gx, 2, none⟩ = false := RX6.out.frozen 2
        have y3 : (w6).cell? ⟨gx, 3, none⟩ = some (.slice XA q xc) := RX6.out.cells 3
        have yz3 : (w6).frozen? ⟨gx, 3, none⟩ = false := RX6.out.frozen 3
        have y4 : (w6).cell? ⟨gx, 4, none⟩ = some (.bool lost) := RX6.out.cells 4
        have yz4 : (w6).frozen? ⟨gx, 4, none⟩ = false := RX6.out.frozen 4
        have y5 : (w6).cell? ⟨gx, 5, none⟩ = some (.bool twice) := RX6.out.cells 5
        have yz5 : (w6).frozen? ⟨gx, 5, none⟩ = false := RX6.out.frozen 5
        have y6 : (w6).cell? ⟨gx, 6, none⟩ = some (.int .u8 (wait : Int)) := RX6.out.cells 6
        have yz6 : (w6).frozen? ⟨gx, 6, none⟩ = false := RX6.out.frozen 6
        have y7 : (w6).cell? ⟨gx, 7, none⟩ = some (.int .u8 (again : Int)) := RX6.out.cells 7
        have yz7 : (w6).frozen? ⟨gx, 7, none⟩ = false := RX6.out.frozen 7
        have y8 : (w6).cell? ⟨gx, 8, none⟩ = some (.int .u16 (at_ : Int)) := RX6.out.cells 8
        have yz8 : (w6).frozen? ⟨gx, 8, none⟩ = false := RX6.out.frozen 8
        have y9 : (w6).cell? ⟨gx, 9, none⟩ = some (.int .u16 (turns : Int)) := RX6.out.cells 9
        have yz9 : (w6).frozen? ⟨gx, 9, none⟩ = false := RX6.out.frozen 9
        go_wp2_with fail
        (with_reducible refine (send_any H6.out.1 HBZ.out s up by_ XA q xc HQ.out OK6.out.sq OK6.out.nl OK6.out.u (fun hn p hp hm => by have h1 := HS0.out (by rw [HQ.out]; exact hn) p hp; have h2 := (H6.out.1.foot_ge _ hm).1; have h3 := TT.out.hb; omega) lost twice wait again at_ turns HFT.out.wait HFT.out.again HFT.out.at_ HFT.out.turns (by omega) (by omega)).mono ?_)
        rintro e7 w7 ⟨E7, rfl, hb7, f7, t7⟩
        have hsr := sendB_rtu b ⟨s, up, by_⟩ ⟨lost, twice, wait, again, at_, turns⟩
        have T7 : Hid (TellAt w w7 base gs gm rg rc gM A0 nr c0 (sendB b ⟨s, up, by_⟩ ⟨lost, twice, wait, again, at_, turns⟩) E7 A5 n5 c5 l5) := Lib.hid (TellAt.next H6.out.1 H6.out.2.1 (by rw [hsr.2.1]; exact R6.out) OF5.out TT.out.gmo H6.out.2.2 TT.out.hb TT.out.hg (by rw [hsr.1]; exact TT.out.o0) hb7 f7 t7)
        have hl7 : (sendB b ⟨s, up, by_⟩ ⟨lost, twice, wait, again, at_, turns⟩).time ≤ k + 1 ∧ (sendB b ⟨s, up, by_⟩ ⟨lost, twice, wait, again, at_, turns⟩).l.length ≤ 2 * (k + 1) := ⟨by rw [hsr.2.1]; omega, by have := hsr.2.2; omega⟩
        have HRL7 : Hid ((sendB b ⟨s, up, by_⟩ ⟨lost, twice, wait, again, at_, turns⟩).rtu = rl) := Lib.hid (by rw [hsr.1]; exact HRL.out)
        have HL7 := Lib.hid hl7
        rw [HEE.out]
        clear hsr hl7 hb7 f7 t7 y0 y1 y2 y3 y4 y5 y6 y7 y8 y9 yz0 yz1 yz2 yz3 yz4 yz5 yz6 yz7 yz8 yz9 ylt ylu
        go_wp2
        go_meet
        case rel => exact ⟨_, E7, A5, n5, c5, l5, T7, HRL7, HL7.out.1, HL7.out.2⟩
      · have RM := Lib.hid TT.out.row
        have kt := Lib.hid (rtick_any wa (c0 := c0) TT.out.rb (by omega) (by omega))
        rw [HRL.out, HNR.out] at kt
        go_wp2_with (refine wpList_load_var rfl 33 (.tmp 8) rfl gM rfl _ _ 3 RM.out Try.underlying33 rfl size_rbus rfl ?_)
        with_reducible refine (kt.out).mono ?_
        rintro e4 w4 ⟨A5, n5, c5, l5, Ao, no, co, lo, he, rb5, pc5, hno, hpo, b5, off5⟩
        rw [HRL.out, HNR.out] at he
        subst he
        have OF5 := Lib.hid (off5.out _ TT.out.lt TT.out.off)
        have RB5 := Lib.hid rb5
        have B5 := Lib.hid b5
        have PC5 := Lib.hid pc5
        have HNO := Lib.hid hno
        replace RM := Lib.hid (RM.out.to b5)
        clear off5 rb5 b5 kt pc5 hno ltM
        go_upto_region 16 with (refine wpList_store_var rfl 33 (.tmp 8) (.tmp 63) rfl gM _ (rbC A0 nr c0 ((b.time + 1 : Nat) : Int) A5 n5 c5) 3 rfl rfl RM.out size_rbus rfl rfl (rbC_one _ _ _ _ _ _ _) ?_; intro w6 r6 k6; have R6 := Lib.hid r6; have K6 := Lib.hid k6; clear r6 k6)
        have H6 := Lib.hid (TT.out.ref B5.out RB5.out OF5.out.1 rfl K6.out R6.out)
        have PC6 := Lib.hid (PC5.out.fr2 (Fr.of_only K6.out (List.mem_singleton.2 rfl)) (OF5.out.2.sub (fun x hx => by rw [List.mem_singleton.1 hx]; exact List.mem_cons_self)))
        clear K6 RM RB5 B5 PC5
        try simp only [Act.put]
        have htk2 : b.tick.2.length ≤ 240 := by have := Bu.tick_len b; omega
        go_wp2_with fail
        (with_reducible refine (tick_q H6.out.1 rfl (by omega) (by omega)).mono ?_)
        rintro e7 w7 ⟨E7, A7, n7, c7, pl, rfl, hb7, f7, t7, pc7, pn7, pp7⟩
        have T7 : Hid (TellAt w w7 base gs gm rg rc gM A0 nr c0 b.tick.1 E7 A5 n5 c5 l5) := Lib.hid (TellAt.next H6.out.1 H6.out.2.1 R6.out OF5.out.1 TT.out.gmo H6.out.2.2 TT.out.hb TT.out.hg TT.out.o0 hb7 f7 (fun x hx => .inl (t7 x hx)))
        have PO7 := Lib.hid (PC6.out.fr2 f7 (OF5.out.2.sub (fun x hx => List.mem_cons_of_mem _ hx)))
        have PC7 := Lib.hid pc7
        have hn7 : n7 ≤ 200000 := by
          have h9 := congrArg List.length pp7.out
          rw [pars, List.length_map, pn7] at h9
          omega
        clear hb7 f7 t7 pc7 PC6
        go_wp2_with fail
        (with_reducible refine (psame_same PC7.out PO7.out pn7 HNO.out pp7 hpo hn7).mono ?_)
        rintro e8 w8 ⟨rfl, b8⟩
        replace T7 := Lib.hid (T7.out.to b8)
        have HRL7 : Hid (b.tick.1.rtu = rl) := Lib.hid HRL.out
        have HL7 : Hid (b.tick.1.time ≤ k + 1 ∧ b.tick.1.l.length ≤ 2 * (k + 1)) := Lib.hid ⟨by rw [(tick_rtu b).2.1]; omega, by have := (tick_rtu b).2.2; omega⟩
        clear b8 PO7 PC7 pn7 pp7 hpo hn7
        go_wp2
        go_meet
        case rel => exact ⟨_, E7, A5, n5, c5, l5, T7, HRL7, HL7.out.1, HL7.out.2⟩
    case rest =>
    obtain ⟨b', E', Aw', nw', cw', wl', TT', HRL', htk', hlk'⟩ := hcut
    clear TT RX HNX
    rename World => wx
    have hln := TT'.out.len
    have hne : ((b'.l.length : Int) != (nw' : Int)) = false := by rw [← hln]; simp
    have htt : ((b'.time : Int) != (b'.time : Int)) = false := by simp
    have z1 : wx.cell? ⟨gM, 1, none⟩ = some (.int .i64 (b'.time : Int)) := TT'.out.row.cells 1
    have z2 : wx.cell? ⟨gM, 2, none⟩ = some (.slice Aw' nw' cw') := TT'.out.row.cells 2
    have BD := Lib.hid (TT'.out.bus.to (Below.refl _ _).drew)
    clear hln
    go_upto_region 23 with fail
    refine wp_region_held_drew (S := (fun w' => w'.cell? ⟨gM, 1, none⟩ = some (.int .i64 (b'.time : Int)) ∧ w'.cell? ⟨gM, 2, none⟩ = some (.slice Aw' nw' cw'))) (by kernel_rfl) ?_ (fun hHeld => ?_)
    · exact ⟨z1, z2⟩
    refine takeD (i := 0) (oi := _) (v := ?vv1) (d := some 89) rfl (by kernel_rfl) (by kernel_rfl) (by kernel_rfl) (by kernel_rfl) (fun _ _ _ h => h) (Or.inl ⟨by kernel_rfl, ?_⟩) (by assumption) ?_
    rotate_left 1
    · intro W_ hSw; (try dsimp only at hSw); go_simp; (first | done | with_reducible rfl)
    try simp only [Act.put, List.setIfInBounds_toArray, List.set_cons_zero, List.set_cons_succ]
    refine takeD (i := 2) (oi := _) (v := ?vv2) (d := some 91) rfl (by kernel_rfl) (by kernel_rfl) (by kernel_rfl) (by kernel_rfl) (fun _ _ _ h => h) (Or.inl ⟨by kernel_rfl, ?_⟩) (by assumption) ?_
    rotate_left 1
    · intro W_ hSw; (try dsimp only at hSw); go_simp; (first | done | with_reducible rfl)
    try simp only [Act.put, List.setIfInBounds_toArray, List.set_cons_zero, List.set_cons_succ]
    refine takeD (i := 3) (oi := _) (v := ?vv3) (d := some 92) rfl (by kernel_rfl) (by kernel_rfl) (by kernel_rfl) (by kernel_rfl) (fun _ _ _ h => h) (Or.inl ⟨by kernel_rfl, ?_⟩) (by assumption) ?_
    rotate_left 1
    · intro W_ hSw; (try dsimp only at hSw); go_simp; (first | done | with_reducible rfl)
    try simp only [Act.put, List.setIfInBounds_toArray, List.set_cons_zero, List.set_cons_succ]
    refine takeD (i := 4) (oi := _) (v := ?vv4) (d := some 93) rfl (by kernel_rfl) (by kernel_rfl) (by kernel_rfl) (by kernel_rfl) (fun _ _ _ h => h) (Or.inl ⟨by kernel_rfl, ?_⟩) (by assumption) ?_
    rotate_left 1
    · intro W_ hSw; (try dsimp only at hSw); go_simp; (first | done | with_reducible rfl)
    try simp only [Act.put, List.setIfInBounds_toArray, List.set_cons_zero, List.set_cons_succ]
    refine wpAnyH_ready (rs := [1]) (by kernel_rfl) (by simp) ?_
    refine AllReadyH.cons (o := _) rfl (fun K hK => ?_) AllReadyH.nil
    go_simp
    (go_at_call 17; (with_reducible refine (waiting_yes BD.out).mono ?_); rintro e_ w_ ⟨rfl, rfl⟩)
    go_wp2_with fail
    refine hK.out _ _ ?_ (fun hHeld => ?_)
    · exact hHeld
    clear hK K
    try simp only [Act.put, List.setIfInBounds_toArray, List.set_cons_zero, List.set_cons_succ]
    refine takeD (i := 5) (oi := _) (v := ?vv5) (d := some 94) rfl (by kernel_rfl) (by kernel_rfl) (by kernel_rfl) (by kernel_rfl) (fun _ _ _ h => h) (Or.inl ⟨by kernel_rfl, ?_⟩) (by assumption) ?_
    rotate_left 1
    · intro W_ hSw; (try dsimp only at hSw); go_simp; (first | done | with_reducible rfl)
    try simp only [Act.put, List.setIfInBounds_toArray, List.set_cons_zero, List.set_cons_succ]
    refine takeD (i := 6) (oi := _) (v := ?vv6) (d := some 95) rfl (by kernel_rfl) (by kernel_rfl) (by kernel_rfl) (by kernel_rfl) (fun _ _ _ h => h) (Or.inl ⟨by kernel_rfl, ?_⟩) (by assumption) ?_
    rotate_left 1
    · intro W_ hSw; (try dsimp only at hSw); go_simp; (first | done | with_reducible rfl)
    try simp only [Act.put, List.setIfInBounds_toArray, List.set_cons_zero, List.set_cons_succ]
    refine takeD (i := 7) (oi := _) (v := ?vv7) (d := some 96) rfl (by kernel_rfl) (by kernel_rfl) (by kernel_rfl) (by kernel_rfl) (fun _ _ _ h => h) (Or.inl ⟨by kernel_rfl, ?_⟩) (by assumption) ?_
    rotate_left 1
    · intro W_ hSw; (try dsimp only at hSw); go_simp; (first | done | with_reducible rfl)
    try simp only [Act.put, List.setIfInBounds_toArray, List.set_cons_zero, List.set_cons_succ]
    refine takeD (i := 9) (oi := _) (v := ?vv8) (d := some 98) rfl (by kernel_rfl) (by kernel_rfl) (by kernel_rfl) (by kernel_rfl) (fun _ _ _ h => h) (Or.inl ⟨by kernel_rfl, ?_⟩) (by assumption) ?_
    rotate_left 1
    · intro W_ hSw; (try dsimp only at hSw); go_simp; (first | done | with_reducible rfl)
    try simp only [Act.put, List.setIfInBounds_toArray, List.set_cons_zero, List.set_cons_succ]
    refine takeD (i := 10) (oi := _) (v := ?vv9) (d := some 99) rfl (by kernel_rfl) (by kernel_rfl) (by kernel_rfl) (by kernel_rfl) (fun _ _ _ h => h) (Or.inl ⟨by kernel_rfl, ?_⟩) (by assumption) ?_
    rotate_left 1
    · intro W_ hSw; (try dsimp only at hSw); go_simp; (first | done | with_reducible rfl)
    try simp only [Act.put, List.setIfInBounds_toArray, List.set_cons_zero, List.set_cons_succ]
    refine wpAnyH_ready (rs := [8]) (by kernel_rfl) (by simp) ?_
    refine AllReadyH.cons (o := _) rfl (fun K hK => ?_) AllReadyH.nil
    go_simp
    (go_at_call 18; (with_reducible refine (time_yes BD.out).mono ?_); rintro e_ w_ ⟨rfl, rfl⟩)
    go_wp2_with fail
    refine hK.out _ _ ?_ (fun hHeld => ?_)
    · exact hHeld
    clear hK K
    try simp only [Act.put, List.setIfInBounds_toArray, List.set_cons_zero, List.set_cons_succ]
    refine takeD (i := 11) (oi := _) (v := ?vv10) (d := some 100) rfl (by kernel_rfl) (by kernel_rfl) (by kernel_rfl) (by kernel_rfl) (fun _ _ _ h => h) (Or.inl ⟨by kernel_rfl, ?_⟩) (by assumption) ?_
    rotate_left 1
    · intro W_ hSw; (try dsimp only at hSw); go_simp; (first | done | with_reducible rfl)
    try simp only [Act.put, List.setIfInBounds_toArray, List.set_cons_zero, List.set_cons_succ]
    refine takeD (i := 12) (oi := _) (v := ?vv11) (d := some 101) rfl (by kernel_rfl) (by kernel_rfl) (by kernel_rfl) (by kernel_rfl) (fun _ _ _ h => h) (Or.inl ⟨by kernel_rfl, ?_⟩) (by assumption) ?_
    rotate_left 1
    · intro W_ hSw; (try dsimp only at hSw); go_simp; (first | done | with_reducible rfl)
    try simp only [Act.put, List.setIfInBounds_toArray, List.set_cons_zero, List.set_cons_succ]
    refine wpAnyH_done (by kernel_rfl) ?_ _
    have TD := Lib.hid (TT'.out.to (Below.refl _ _).drew)
    clear z1 z2 BD hne htt TT'
    go_wp2
    go_roundw
    case rel => exact ⟨k + 1, b', E', Aw', nw', cw', wl', by omega, by go_num, TD, HRL', htk', hlk'⟩
    case measure => simp [intOf]; omega
end Go.Proofs.Ythigkmoilfdciaa
