/- DiskSparks: the walk. -/
import Derived.Test.YtpjdgnoekplldaaDkOp
import Derived.Test.YtpjdgnoekplldaaDkAwk
import Derived.Test.YtpjdgnoekplldaaDkKLaw
import Derived.Test.YtpjdgnoekplldaaVarB
import Derived.Test.YtpjdgnoekplldaaHeld
namespace Go.Proofs.Ytpjdgnoekplldaa
open Go.RowKit
set_option linter.unusedVariables false
attribute [local go_sem] Later.cell Later.frozen setCell_twice
set_option maxRecDepth 100000 in
set_option maxHeartbeats 4000000 in
theorem diskSparks_walk (a : Nat) (ha : a < 65536) (A : Option Addr) (l : List DOp) (c : Nat) (w : World) (h : DOps w w.heap.size A l) (hlc : l.length ≤ c) (hc : c ≤ 9223372036854775807) (hA : A = none → c = 0) :
    Calls Try.prog 4 #[.int .u16 (a : Int), .slice A l.length c] w fun e w' => e = .returned (.bool true) ∧ Below w.heap.size w w' := by
  have HB := Lib.hid h
  have kw := Lib.hid (fun w => awake_any w)
  obtain ⟨r, hr⟩ : ∃ r, a % 3001 = r := ⟨_, rfl⟩
  have hrI : (a : Int) % 3001 = (r : Int) := by omega
  have hr2 : r ≤ 3000 := by omega
  clear h hr
  go_enter Try.func4, Try.ntmps4
  go_wp2_with fail
  refine (new_any 262144 w (by decide)).mono ?_
  rintro e w1 ⟨rfl, k1, b1⟩
  have K1 := Lib.hid k1
  have B1 := Lib.hid b1
  have HO1 := Lib.hid (HB.out.to b1)
  clear k1 b1
  go_wp2_with fail
  refine (dlight_any A l c w1 HO1.out hlc hc hA).mono ?_
  rintro e w2 ⟨b2, hif⟩
  replace K1 := Lib.hid (K1.out.to b2)
  replace B1 := Lib.hid (B1.out.trans (b2.mono B1.out.size))
  clear b2
  by_cases hL : DLight l = true
  · rw [if_pos hL] at hif
    obtain ⟨c', rfl⟩ := hif
    obtain ⟨n, hn⟩ : ∃ n, (l.take 60).length = n := ⟨_, rfl⟩
    have HN := Lib.hid hn
    rw [hn]
    have hn60 : n ≤ 60 := by rw [← hn, List.length_take]; omega
    clear hn
    go_wp2_with fail
    refine (sparks_any K1.out (r : Int) (by omega)).mono ?_
    rintro e w3 ⟨rfl, k3, o3⟩
    have K3 := Lib.hid k3
    have B3 := Lib.hid (B1.out.trans ((Moves.of_only o3).below (A := none) K1.out.base (fun p hp => by cases hp) (Nat.le_of_lt K1.out.lt)))
    clear k3 o3 K1 B1
    go_wp2
    go_loopw [8, 42] (fun lv i wr => ∃ (k : Nat) (D : Dk) (Ad : Option Addr) (cd : Nat) (left : Int), k ≤ n ∧ lv = .int .i64 left ∧ i = .int .i64 (k : Int) ∧ -(200 + (k : Int)) ≤ left ∧ left ≤ 3000 ∧ D.Spk left ∧ D.room = 262144 ∧ D.l.length ≤ 200 * k ∧ DkAt wr w.heap.size w.heap.size Ad cd D ∧ Below w.heap.size w wr) (fun _ i _ => n - (intOf i).toNat)
    case atStart =>
      refine ⟨0, _, none, 0, (r : Int), by omega, rfl, rfl, by omega, by omega, ⟨⟨fun h => by simp [Dk.sparks, Dk.new] at h, fun h => by omega⟩, fun _ => ?_⟩, rfl, by simp [Dk.sparks, Dk.new], K3.out, B3.out⟩
      simp only [Dk.sparks]
      rw [if_neg (by omega)]
    case round =>
      clear K3 HO1 B3
      obtain ⟨k, D, Ad, cd, left, hk, rfl, rfl, hlo, hhi, hsp, hrm, hln, hdk, hbe⟩ := hrel
      by_cases hlt : k < n
      · obtain ⟨go, oo, o, hA', hg, ho, hok, d0, d1, d2⟩ := (HB.out.below hbe).at_ (k := k) (by have := HN.out; rw [List.length_take] at this; omega)
        have hltI : (k : Int) < (n : Int) := by omega
        have h0I : (0 : Int) ≤ (k : Int) := by omega
        have hgr : go < wr.heap.size := Nat.lt_of_lt_of_le hg hbe.size
        cases hA'
        have hob : o.b.length ≤ 200 := of_decide_eq_true (show decide (∀ o ∈ l.take 60, o.b.length ≤ 200) = true from hL) o (List.mem_of_getElem? (i := k) (by rw [List.getElem?_take, if_pos (by omega)]; exact ho))
        have HAL : Hid (∀ q, Ad = some q → q.block < wr.heap.size) := Lib.hid (fun q hq => (own_at hdk.own q hq).2.1)
        have hgw : w.heap.size < wr.heap.size := hdk.lt
        have DOK := Lib.hid hdk.ok
        have ba := bel_alloc (Below.refl wr.heap.size wr) (.cells o.C.toArray 38)
        have DK := Lib.hid (hdk.to ba)
        have BE := Lib.hid (hbe.trans (ba.mono hbe.size))
        have OK := Lib.hid (hok.below (ba.mono (Nat.le_of_lt hgw)))
        have OR := Lib.hid (RowAt.new' wr wr.heap.size 38 o.C rfl)
        have SP := Lib.hid hsp
        have HRM := Lib.hid hrm
        have HOFF : Hid (D.off = decide (left < 0)) := Lib.hid (by rw [Bool.eq_iff_iff]; simpa using hsp.1)
        have hlen : D.l.length ≤ 12000 := by omega
        have HLN := Lib.hid hln
        obtain ⟨ql, gql⟩ : ∃ q, decide (left < 0) = q := ⟨_, rfl⟩
        obtain ⟨m, hm⟩ : ∃ m, o.what % 3 = m := ⟨_, rfl⟩
        have hmI : (o.what : Int) % 3 = (m : Int) := by omega
        have hm3 : m = 0 ∨ m = 1 ∨ m = 2 := by omega
        clear hdk hbe hok ho ba hsp hrm hln hm
        have kap := append_any DK.out o.A o.c o.b.length o.b rfl (by omega) (OK.out.bs.sq.more (by have := OR.out.lt; omega)) OK.out.bs.u
            (fun hn p hp => by obtain ⟨b, o', h1, h2⟩ := OK.out.bs.lt hn; rw [h1] at hp; obtain rfl := Option.some.inj hp; show b ≠ w.heap.size; omega)
            (fun hn p q hp hq => by obtain ⟨b, o', h1, h2⟩ := OK.out.bs.lt hn; rw [h1] at hp; obtain rfl := Option.some.inj hp; have := (own_at DK.out.own q hq).1; show q.block ≠ b; omega)
        have KAP := Lib.hid kap
        clear kap
        go_wp2_with fail
        refine (len_any DK.out).mono ?_
        rintro e_ w_ ⟨rfl, rfl⟩
        go_wp2_with fail
        refine (off_any DK.out).mono ?_
        rintro e_ w_ ⟨rfl, rfl⟩
        rw [HOFF.out, gql]
        rcases hm3 with rfl | rfl | rfl
        · have hs := Dk.append_sparks SP.out o.b (by rw [HRM.out]; omega)
          obtain ⟨D1, E1, hd⟩ : ∃ D1 E1, D.append o.b = (D1, E1) := ⟨_, _, rfl⟩
          have kd := KAP.out
          rw [hd] at hs kd
          obtain ⟨hs1, hs2, hs3, hs4, _⟩ := hs
          obtain ⟨mn, hmn⟩ : ∃ mn, min o.b.length left.toNat = mn := ⟨_, rfl⟩
          replace hs1 : D1.l.length = D.l.length + min o.b.length left.toNat := hs1
          rw [hmn] at hs1
          have HS1 := Lib.hid hs1
          have HS4 : Hid (D1.room = 262144) := Lib.hid (by rw [← HRM.out]; exact hs4)
          have hln1 : D1.l.length ≤ 200 * (k + 1) := by have := HLN.out; omega
          have HLN1 := Lib.hid hln1
          replace hs2 : E1 = 0 ↔ (0 ≤ left ∧ (o.b.length : Int) ≤ left) := hs2
          replace hs3 : D1.Spk (if 0 ≤ left then left - o.b.length else left) := hs3
          have gL : ((D1.l.length : Int) != (D.l.length : Int) + (mn : Int)) = false := by simp; omega
          clear hd hs1 hs4 hln1
          by_cases hneg : left < 0
          · have g0 : decide (0 ≤ left) = false := decide_eq_false (by omega)
            have gE : (E1 == 0) = false := by simp; intro h; have := hs2.1 h; omega
            have hmx : max left 0 = ((0 : Nat) : Int) := by omega
            have hmn2 : min (o.b.length : Int) 0 = (mn : Int) := by omega
            rw [if_neg (by omega)] at hs3
            have HS := Lib.hid hs3
            have hql : ql = true := by rw [← gql]; exact decide_eq_true hneg
            subst hql
            clear hs2 hs3 hmn
            go_wp2_with fail
            with_reducible refine kd.mono ?_
            rintro e w5 ⟨rfl, Ad1, cd1, dk1, mv1, fr1⟩
            replace OR := Lib.hid (mv1.row OR.out (by omega) (fun p hp => by have := HAL.out p hp; omega))
            replace BE := Lib.hid (BE.out.trans (DK.out.moves mv1))
            replace DK := Lib.hid dk1
            clear dk1 mv1 fr1 kd
            have kl := Lib.hid (fun W (hW : Below w5.heap.size w5 W) => len_any (DK.out.to hW))
            have oclt : wr.heap.size < (w5).heap.size := OR.out.lt
            have oclu : wr.heap.size < (w5).heap.size + 1 := Nat.lt_succ_of_lt OR.out.lt
            have oc0 : (w5).cell? ⟨wr.heap.size, 0, none⟩ = some (.int .u8 (o.what : Int)) := OR.out.cells 0
            have ocz0 : (w5).frozen? ⟨wr.heap.size, 0, none⟩ = false := OR.out.frozen 0
            have oc1 : (w5).cell? ⟨wr.heap.size, 1, none⟩ = some (.slice o.A o.b.length o.c) := OR.out.cells 1
            have ocz1 : (w5).frozen? ⟨wr.heap.size, 1, none⟩ = false := OR.out.frozen 1
            have oc2 : (w5).cell? ⟨wr.heap.size, 2, none⟩ = some (.int .i64 o.n) := OR.out.cells 2
            have ocz2 : (w5).frozen? ⟨wr.heap.size, 2, none⟩ = false := OR.out.frozen 2
            go_wp2_with fail
            refine wp_region_lat (by kernel_rfl) (by kernel_rfl) ?_
            repeat (go_big_quiet_step (fail))
            go_big_quiet_step (exact later_same (kl.out _ (Later.bel _)))
            repeat (go_big_quiet_step (fail))
            refine wpQuiet_nil ?_
            rintro _ ⟨x, rfl⟩
            have hbx := x.bel
            replace DK := Lib.hid (DK.out.to hbx)
            replace BE := Lib.hid (BE.out.trans (hbx.mono BE.out.size))
            clear hbx
            go_wp2
            go_roundw
            case rel => exact ⟨k + 1, D1, Ad1, cd1, left, by omega, rfl, by go_num, by omega, by omega, HS.out, HS4.out, HLN1.out, DK.out, BE.out⟩
            case measure => simp [intOf]; omega
          · have g0 : decide (0 ≤ left) = true := decide_eq_true (by omega)
            have hql : ql = false := by rw [← gql]; exact decide_eq_false hneg
            have hmx : max left 0 = left := by omega
            have hmn2 : min (o.b.length : Int) left = (mn : Int) := by omega
            rw [if_pos (by omega)] at hs3
            have HS := Lib.hid hs3
            subst hql
            by_cases hle : (o.b.length : Int) ≤ left
            · have gb : decide ((o.b.length : Int) ≤ left) = true := decide_eq_true hle
              obtain rfl : E1 = 0 := hs2.2 ⟨by omega, hle⟩
              clear hs2 hs3 hmn
              go_wp2_with fail
              with_reducible refine kd.mono ?_
              rintro e w5 ⟨rfl, Ad1, cd1, dk1, mv1, fr1⟩
              replace OR := Lib.hid (mv1.row OR.out (by omega) (fun p hp => by have := HAL.out p hp; omega))
              replace BE := Lib.hid (BE.out.trans (DK.out.moves mv1))
              replace DK := Lib.hid dk1
              clear dk1 mv1 fr1 kd
              have kl := Lib.hid (fun W (hW : Below w5.heap.size w5 W) => len_any (DK.out.to hW))
              have oclt : wr.heap.size < (w5).heap.size := OR.out.lt
              have oclu : wr.heap.size < (w5).heap.size + 1 := Nat.lt_succ_of_lt OR.out.lt
              have oc0 : (w5).cell? ⟨wr.heap.size, 0, none⟩ = some (.int .u8 (o.what : Int)) := OR.out.cells 0
              have ocz0 : (w5).frozen? ⟨wr.heap.size, 0, none⟩ = false := OR.out.frozen 0
              have oc1 : (w5).cell? ⟨wr.heap.size, 1, none⟩ = some (.slice o.A o.b.length o.c) := OR.out.cells 1
              have ocz1 : (w5).frozen? ⟨wr.heap.size, 1, none⟩ = false := OR.out.frozen 1
              have oc2 : (w5).cell? ⟨wr.heap.size, 2, none⟩ = some (.int .i64 o.n) := OR.out.cells 2
              have ocz2 : (w5).frozen? ⟨wr.heap.size, 2, none⟩ = false := OR.out.frozen 2
              go_wp2_with fail
              refine wp_region_lat (by kernel_rfl) (by kernel_rfl) ?_
              repeat (go_big_quiet_step (fail))
              go_big_quiet_step (exact later_same (kl.out _ (Later.bel _)))
              repeat (go_big_quiet_step (fail))
              refine wpQuiet_nil ?_
              rintro _ ⟨x, rfl⟩
              have hbx := x.bel
              replace DK := Lib.hid (DK.out.to hbx)
              replace BE := Lib.hid (BE.out.trans (hbx.mono BE.out.size))
              clear hbx
              go_wp2
              go_roundw
              case rel => exact ⟨k + 1, D1, Ad1, cd1, left - o.b.length, by omega, rfl, by go_num, by omega, by omega, HS.out, HS4.out, HLN1.out, DK.out, BE.out⟩
              case measure => simp [intOf]; omega
            · have gb : decide ((o.b.length : Int) ≤ left) = false := decide_eq_false hle
              have gE : (E1 == 0) = false := by simp; intro h; exact hle (hs2.1 h).2
              clear hs2 hs3 hmn
              go_wp2_with fail
              with_reducible refine kd.mono ?_
              rintro e w5 ⟨rfl, Ad1, cd1, dk1, mv1, fr1⟩
              replace OR := Lib.hid (mv1.row OR.out (by omega) (fun p hp => by have := HAL.out p hp; omega))
              replace BE := Lib.hid (BE.out.trans (DK.out.moves mv1))
              replace DK := Lib.hid dk1
              clear dk1 mv1 fr1 kd
              have kl := Lib.hid (fun W (hW : Below w5.heap.size w5 W) => len_any (DK.out.to hW))
              have oclt : wr.heap.size < (w5).heap.size := OR.out.lt
              have oclu : wr.heap.size < (w5).heap.size + 1 := Nat.lt_succ_of_lt OR.out.lt
              have oc0 : (w5).cell? ⟨wr.heap.size, 0, none⟩ = some (.int .u8 (o.what : Int)) := OR.out.cells 0
              have ocz0 : (w5).frozen? ⟨wr.heap.size, 0, none⟩ = false := OR.out.frozen 0
              have oc1 : (w5).cell? ⟨wr.heap.size, 1, none⟩ = some (.slice o.A o.b.length o.c) := OR.out.cells 1
              have ocz1 : (w5).frozen? ⟨wr.heap.size, 1, none⟩ = false := OR.out.frozen 1
              have oc2 : (w5).cell? ⟨wr.heap.size, 2, none⟩ = some (.int .i64 o.n) := OR.out.cells 2
              have ocz2 : (w5).frozen? ⟨wr.heap.size, 2, none⟩ = false := OR.out.frozen 2
              go_wp2_with fail
              refine wp_region_lat (by kernel_rfl) (by kernel_rfl) ?_
              repeat (go_big_quiet_step (fail))
              go_big_quiet_step (exact later_same (kl.out _ (Later.bel _)))
              repeat (go_big_quiet_step (fail))
              refine wpQuiet_nil ?_
              rintro _ ⟨x, rfl⟩
              have hbx := x.bel
              replace DK := Lib.hid (DK.out.to hbx)
              replace BE := Lib.hid (BE.out.trans (hbx.mono BE.out.size))
              clear hbx
              go_wp2
              go_roundw
              case rel => exact ⟨k + 1, D1, Ad1, cd1, left - o.b.length, by omega, rfl, by go_num, by omega, by omega, HS.out, HS4.out, HLN1.out, DK.out, BE.out⟩
              case measure => simp [intOf]; omega
        · have hs := Dk.sync_sparks SP.out
          obtain ⟨D1, E1, hd⟩ : ∃ D1 E1, D.sync = (D1, E1) := ⟨_, _, rfl⟩
          have kd := sync_any DK.out
          rw [hd] at hs kd
          have HS1 : Hid (D1.Spk (left - 1) ∧ D1.room = 262144 ∧ D1.l.length ≤ 200 * (k + 1)) := Lib.hid ⟨hs.2.1, hs.2.2.2.trans HRM.out, by have h1 : D1.l = D.l := hs.2.2.1; rw [h1]; have := HLN.out; omega⟩
          have hs2 : E1 = 0 ↔ 0 < left := hs.1
          clear hd hs
          by_cases hp : 0 < left
          · have gp : decide (0 < left) = true := decide_eq_true hp
            obtain rfl : E1 = 0 := hs2.2 hp
            clear hs2
            go_wp2_with fail
            with_reducible refine kd.mono ?_
            rintro e w5 ⟨rfl, Ad1, cd1, dk1, mv1, fr1⟩
            replace OR := Lib.hid (mv1.row OR.out (by omega) (fun p hp => by have := HAL.out p hp; omega))
            replace BE := Lib.hid (BE.out.trans (DK.out.moves mv1))
            replace DK := Lib.hid dk1
            clear dk1 mv1 fr1 kd
            go_wp2
            go_roundw
            case rel => exact ⟨k + 1, D1, Ad1, cd1, left - 1, by omega, rfl, by go_num, by omega, by omega, HS1.out.1, HS1.out.2.1, HS1.out.2.2, DK.out, BE.out⟩
            case measure => simp [intOf]; omega
          · have gp : decide (0 < left) = false := decide_eq_false hp
            have gE : (E1 == 0) = false := by simp; intro h; exact hp (hs2.1 h)
            clear hs2
            go_wp2_with fail
            with_reducible refine kd.mono ?_
            rintro e w5 ⟨rfl, Ad1, cd1, dk1, mv1, fr1⟩
            replace OR := Lib.hid (mv1.row OR.out (by omega) (fun p hp => by have := HAL.out p hp; omega))
            replace BE := Lib.hid (BE.out.trans (DK.out.moves mv1))
            replace DK := Lib.hid dk1
            clear dk1 mv1 fr1 kd
            go_wp2
            go_roundw
            case rel => exact ⟨k + 1, D1, Ad1, cd1, left - 1, by omega, rfl, by go_num, by omega, by omega, HS1.out.1, HS1.out.2.1, HS1.out.2.2, DK.out, BE.out⟩
            case measure => simp [intOf]; omega
        · have hs := Dk.cut_sparks SP.out
          obtain ⟨D1, E1, hd⟩ : ∃ D1 E1, D.cut D.l.length = (D1, E1) := ⟨_, _, rfl⟩
          have kd := cut_any DK.out (D.l.length : Int) (by omega) (by omega)
          rw [hd] at hs kd
          have HS1 : Hid (D1.Spk (left - 1) ∧ D1.room = 262144 ∧ D1.l.length ≤ 200 * (k + 1)) := Lib.hid ⟨hs.2.1, hs.2.2.2.trans HRM.out, by have h1 : D1.l = D.l := hs.2.2.1; rw [h1]; have := HLN.out; omega⟩
          have hs2 : E1 = 0 ↔ 0 < left := hs.1
          clear hd hs
          by_cases hp : 0 < left
          · have gp : decide (0 < left) = true := decide_eq_true hp
            obtain rfl : E1 = 0 := hs2.2 hp
            clear hs2
            go_wp2_with fail
            with_reducible refine kd.mono ?_
            rintro e w5 ⟨rfl, Ad1, cd1, dk1, mv1, fr1⟩
            replace OR := Lib.hid (mv1.row OR.out (by omega) (fun p hp => by have := HAL.out p hp; omega))
            replace BE := Lib.hid (BE.out.trans (DK.out.moves mv1))
            replace DK := Lib.hid dk1
            clear dk1 mv1 fr1 kd
            go_wp2
            go_roundw
            case rel => exact ⟨k + 1, D1, Ad1, cd1, left - 1, by omega, rfl, by go_num, by omega, by omega, HS1.out.1, HS1.out.2.1, HS1.out.2.2, DK.out, BE.out⟩
            case measure => simp [intOf]; omega
          · have gp : decide (0 < left) = false := decide_eq_false hp
            have gE : (E1 == 0) = false := by simp; intro h; exact hp (hs2.1 h)
            clear hs2
            go_wp2_with fail
            with_reducible refine kd.mono ?_
            rintro e w5 ⟨rfl, Ad1, cd1, dk1, mv1, fr1⟩
            replace OR := Lib.hid (mv1.row OR.out (by omega) (fun p hp => by have := HAL.out p hp; omega))
            replace BE := Lib.hid (BE.out.trans (DK.out.moves mv1))
            replace DK := Lib.hid dk1
            clear dk1 mv1 fr1 kd
            go_wp2
            go_roundw
            case rel => exact ⟨k + 1, D1, Ad1, cd1, left - 1, by omega, rfl, by go_num, by omega, by omega, HS1.out.1, HS1.out.2.1, HS1.out.2.2, DK.out, BE.out⟩
            case measure => simp [intOf]; omega
      · obtain rfl : k = n := by omega
        have BE := Lib.hid hbe
        have DK := Lib.hid hdk
        clear hbe hdk hsp
        go_wp2_with fail
        refine (crash_any DK.out 1048576 (by decide) (by decide)).mono ?_
        rintro e w4 ⟨rfl, k4, o4⟩
        have hc := Dk.crash_same DK.out.ok 1048576
        replace BE := Lib.hid (BE.out.trans (DK.out.moves (Moves.of_only o4)))
        replace DK := Lib.hid k4
        obtain ⟨D2, hD2⟩ : ∃ D2, D.crash 1048576 = D2 := ⟨_, rfl⟩
        have HS : Hid ((D2.sync).2 = 0) := Lib.hid (by rw [← hD2]; rfl)
        rw [hD2] at hc DK
        have HC := Lib.hid hc
        have gE : ((D2.safe : Int) == (D2.l.length : Int)) = true := by rw [hc.2.2.1]; simp
        clear k4 o4 hc hD2
        go_wp2_with fail
        refine (off_any DK.out).mono ?_
        rintro e_ w_ ⟨rfl, rfl⟩
        rw [HC.out.2.2.2]
        go_wp2_with fail
        refine (safe_any DK.out).mono ?_
        rintro e_ w_ ⟨rfl, rfl⟩
        go_wp2_with fail
        refine (len_any DK.out).mono ?_
        rintro e_ w_ ⟨rfl, rfl⟩
        go_wp2_with fail
        refine (sync_any DK.out).mono ?_
        rintro e w5 ⟨rfl, Ad1, cd1, dk1, mv1, fr1⟩
        replace BE := Lib.hid (BE.out.trans (DK.out.moves mv1))
        rw [HS.out]
        go_wp2_with fail
        refine (kw.out _).mono ?_
        rintro e w7 ⟨rfl, b7⟩
        go_wp2
        go_ret
        exact ⟨rfl, BE.out.trans (b7.mono BE.out.size)⟩
  · rw [if_neg hL] at hif
    subst hif
    go_wp2_with fail
    refine (kw.out _).mono ?_
    rintro e w7 ⟨rfl, b7⟩
    go_wp2
    go_ret
    exact ⟨rfl, B1.out.trans (b7.mono B1.out.size)⟩
end Go.Proofs.Ytpjdgnoekplldaa
