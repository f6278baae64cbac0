/- DiskKeeps: the walk. -/
import Derived.Test.YtpjdgnoekplldaaDkBeg
import Derived.Test.YtpjdgnoekplldaaDkAwk
import Derived.Test.YtpjdgnoekplldaaDkKLaw
import Derived.Test.YtpjdgnoekplldaaVarB
import Derived.Test.YtpjdgnoekplldaaHeld
namespace Go.Proofs.Ytpjdgnoekplldaa
open Go.RowKit
set_option linter.unusedVariables false
attribute [local go_sem] Later.cell Later.frozen setCell_twice
theorem size_dop3 : (Try.prog.info? 38).map (·.size) = some 3 := by kernel_rfl
theorem prefix_take {a b : List Nat} (h : a <+: b) : decide (b.take a.length = a) = true := decide_eq_true (List.prefix_iff_eq_take.1 h).symm
set_option maxRecDepth 100000 in
set_option maxHeartbeats 4000000 in
theorem diskKeeps_walk (a : Nat) (ha : a < 65536) (A : Option Addr) (l : List DOp) (c : Nat) (w : World) (h : DOps w w.heap.size A l) (hlc : l.length ≤ c) (hc : c ≤ 9223372036854775807) (hA : A = none → c = 0) :
    Calls Try.prog 6 #[.int .u16 (a : Int), .slice A l.length c] w fun e w' => e = .returned (.bool true) ∧ Below w.heap.size w w' := by
  have HB := Lib.hid h
  have kw := Lib.hid (fun w => awake_any w)
  obtain ⟨r, hr⟩ : ∃ r, a % 2001 = r := ⟨_, rfl⟩
  have hrI : (a : Int) % 2001 = (r : Int) := by omega
  have hr2 : r ≤ 262144 := by omega
  clear h hr
  go_enter Try.func6, Try.ntmps6
  go_wp2_with fail
  with_reducible refine (new_any r w hr2).mono ?_
  rintro e w1 ⟨rfl, k1, b1⟩
  have K1 := Lib.hid k1
  have B1 := Lib.hid b1
  have HO1 := Lib.hid (HB.out.to b1)
  clear k1 b1
  go_wp2_with fail
  refine (dlight_any A l c w1 HO1.out hlc hc hA).mono ?_
  rintro e w2 ⟨b2, hif⟩
  replace K1 := Lib.hid (K1.out.to b2)
  replace B1 := Lib.hid (B1.out.trans (b2.mono B1.out.size))
  clear b2
  by_cases hL : DLight l = true
  · rw [if_pos hL] at hif
    obtain ⟨c', rfl⟩ := hif
    obtain ⟨n, hn⟩ : ∃ n, (l.take 60).length = n := ⟨_, rfl⟩
    have HN := Lib.hid hn
    rw [hn]
    have hn60 : n ≤ 60 := by rw [← hn, List.length_take]; omega
    clear hn
    go_wp2
    go_loopw [40] (fun i wr => ∃ (k : Nat) (D : Dk) (Ad : Option Addr) (cd : Nat), k ≤ n ∧ i = .int .i64 (k : Int) ∧ DkAt wr w.heap.size w.heap.size Ad cd D ∧ Below w.heap.size w wr) (fun i _ => n - (intOf i).toNat)
    case atStart => exact ⟨0, Dk.new r, none, 0, by omega, rfl, K1.out, B1.out⟩
    case round =>
      clear K1 HO1 B1
      obtain ⟨k, D, Ad, cd, hk, rfl, hdk, hbe⟩ := hrel
      by_cases hlt : k < n
      · obtain ⟨go, oo, o, hA', hg, ho, hok, d0, d1, d2⟩ := (HB.out.below hbe).at_ (k := k) (by have := HN.out; rw [List.length_take] at this; omega)
        have hltI : (k : Int) < (n : Int) := by omega
        have h0I : (0 : Int) ≤ (k : Int) := by omega
        have hgr : go < wr.heap.size := Nat.lt_of_lt_of_le hg hbe.size
        cases hA'
        have HOB : Hid (o.b.length ≤ 200) := Lib.hid (of_decide_eq_true (show decide (∀ o ∈ l.take 60, o.b.length ≤ 200) = true from hL) o (List.mem_of_getElem? (i := k) (by rw [List.getElem?_take, if_pos (by omega)]; exact ho)))
        have HAL : Hid (∀ q, Ad = some q → q.block < wr.heap.size) := Lib.hid (fun q hq => (own_at hdk.own q hq).2.1)
        have hgw : w.heap.size < wr.heap.size := hdk.lt
        have DOK := Lib.hid hdk.ok
        have ba := bel_alloc (Below.refl wr.heap.size wr) (.cells o.C.toArray 38)
        have DK := Lib.hid (hdk.to ba)
        have BE := Lib.hid (hbe.trans (ba.mono hbe.size))
        have OK := Lib.hid (hok.below (ba.mono (Nat.le_of_lt hgw)))
        have OR := Lib.hid (RowAt.new' wr wr.heap.size 38 o.C rfl)
        have HWA : Hid ((wr.alloc (.cells o.C.toArray 38)).heap.size = wr.heap.size + 1) := Lib.hid (by simp)
        obtain ⟨D1, E1, hd⟩ : ∃ D1 E1, D.doOp o.what o.b o.n = (D1, E1) := ⟨_, _, rfl⟩
        have HD := Lib.hid hd
        clear hdk hbe hok ho hd ba
        go_wp2_with fail
        refine (bytes_new DK.out).mono ?_
        rintro e w4 ⟨rfl, ow, b4⟩
        obtain ⟨gw, hgw1⟩ : ∃ gw, (wr.alloc (.cells o.C.toArray 38)).heap.size = gw := ⟨_, rfl⟩
        have hgw2 : wr.heap.size < gw := by have := hgw1.symm.trans HWA.out; omega
        rw [hgw1] at ow ⊢
        have OW := Lib.hid ow
        replace OR := Lib.hid (OR.out.to b4)
        replace DK := Lib.hid (DK.out.to b4)
        replace OK := Lib.hid (OK.out.below (b4.mono (by omega)))
        replace BE := Lib.hid (BE.out.trans (b4.mono BE.out.size))
        clear ow b4 hgw1 HWA
        go_wp2_with fail
        refine (safe_any DK.out).mono ?_
        rintro e_ w_ ⟨rfl, rfl⟩
        go_wp2_with (refine wpList_load_var rfl 38 (.tmp 9) rfl wr.heap.size rfl o.C _ 3 OR.out Try.underlying38 rfl size_dop3 rfl ?_)
        have kd := do_any DK.out o.what OK.out.what o.n OK.out.lo OK.out.hi o.A o.c o.b.length o.b rfl (by have := HOB.out; omega) (OK.out.bs.sq.more (by have := OR.out.lt; omega)) OK.out.bs.u
            (fun hn p hp => by obtain ⟨b, o', h1, h2⟩ := OK.out.bs.lt hn; rw [h1] at hp; obtain rfl := Option.some.inj hp; show b ≠ w.heap.size; omega)
            (fun hn p q hp hq => by obtain ⟨b, o', h1, h2⟩ := OK.out.bs.lt hn; rw [h1] at hp; obtain rfl := Option.some.inj hp; have := (own_at DK.out.own q hq).1; show q.block ≠ b; omega)
        rw [HD.out] at kd
        with_reducible refine kd.mono ?_
        clear kd
        rintro e w5 ⟨rfl, Ad1, cd1, dk1, mv1, fr1⟩
        replace OR := Lib.hid (mv1.row OR.out (by omega) (fun p hp => by have := HAL.out p hp; omega))
        replace OW := Lib.hid (mv1.own OW.out (fun p hp => by obtain rfl := Option.some.inj hp; show gw ≠ w.heap.size; omega) (fun p q hp hq => by obtain rfl := Option.some.inj hp; have := HAL.out q hq; show q.block ≠ gw; omega))
        replace OK := Lib.hid (OK.out.below (DK.out.moves mv1))
        replace BE := Lib.hid (BE.out.trans (DK.out.moves mv1))
        replace DK := Lib.hid dk1
        clear dk1 mv1 fr1
        go_wp2_with fail
        refine (bytes_new DK.out).mono ?_
        rintro e w6 ⟨rfl, on, b6⟩
        obtain ⟨gn, hgn⟩ : ∃ gn, w5.heap.size = gn := ⟨_, rfl⟩
        rw [hgn] at on ⊢
        have ON := Lib.hid on
        replace OW := Lib.hid (own_below OW.out b6)
        replace OK := Lib.hid (OK.out.below (b6.mono (by have := OR.out.lt; omega)))
        replace OR := Lib.hid (OR.out.to b6)
        replace DK := Lib.hid (DK.out.to b6)
        replace BE := Lib.hid (BE.out.trans (b6.mono BE.out.size))
        clear on b6 hgn
        have gS : decide (D.l.length < D.safe) = false := decide_eq_false (by have := DOK.out.safe; omega)
        have gS1 : decide (D1.l.length < D1.safe) = false := decide_eq_false (by have := DK.out.ok.safe; omega)
        have gR : decide (D1.room < D1.l.length) = false := decide_eq_false (by have := DK.out.ok.room; omega)
        go_wp2_with fail
        refine (safe_any DK.out).mono ?_
        rintro e_ w_ ⟨rfl, rfl⟩
        go_wp2_with fail
        refine (len_any DK.out).mono ?_
        rintro e_ w_ ⟨rfl, rfl⟩
        go_wp2_with fail
        refine (room_any DK.out).mono ?_
        rintro e_ w_ ⟨rfl, rfl⟩
        have oclt : wr.heap.size < (w6).heap.size := OR.out.lt
        have oclu : wr.heap.size < (w6).heap.size + 1 := Nat.lt_succ_of_lt OR.out.lt
        have oc0 : (w6).cell? ⟨wr.heap.size, 0, none⟩ = some (.int .u8 (o.what : Int)) := OR.out.cells 0
        have ocz0 : (w6).frozen? ⟨wr.heap.size, 0, none⟩ = false := OR.out.frozen 0
        have oc1 : (w6).cell? ⟨wr.heap.size, 1, none⟩ = some (.slice o.A o.b.length o.c) := OR.out.cells 1
        have ocz1 : (w6).frozen? ⟨wr.heap.size, 1, none⟩ = false := OR.out.frozen 1
        have oc2 : (w6).cell? ⟨wr.heap.size, 2, none⟩ = some (.int .i64 o.n) := OR.out.cells 2
        have ocz2 : (w6).frozen? ⟨wr.heap.size, 2, none⟩ = false := OR.out.frozen 2
        obtain ⟨m, hm⟩ : ∃ m, o.what % 5 = m := ⟨_, rfl⟩
        have hmI : (o.what : Int) % 5 = (m : Int) := by omega
        have hm5 : m = 0 ∨ m = 1 ∨ m = 2 ∨ m = 3 ∨ m = 4 := by omega
        have hD := HD.out
        unfold Dk.doOp at hD
        rw [hm] at hD
        have hDok := DOK.out
        have hD1ok := DK.out.ok
        have hSq : Sq byw w6 w6.heap.size (some ⟨gw, 0, none⟩) D.l := Sq.of_own OW.out
        have hSn : Sq byw w6 w6.heap.size (some ⟨gn, 0, none⟩) D1.l := Sq.of_own ON.out
        have hl1 : D.l.length ≤ 262144 := Nat.le_trans hDok.room hDok.hi
        have hl2 : D1.l.length ≤ 262144 := Nat.le_trans hD1ok.room hD1ok.hi
        have kb14 : D.l.take D.safe <+: D1.l → Hid (Calls Try.prog 25 #[.slice (some ⟨gn, 0, none⟩) D1.l.length D1.l.length, .slice (some ⟨gw, 0, none⟩) D.safe D.l.length] w6 fun e w' => e = .returned (.bool true) ∧ w6 = w') := fun hp => Lib.hid (by
          have hs := hDok.safe
          have e1 : (D.l.take D.safe).length = D.safe := by rw [List.length_take]; omega
          have := prefix_take hp
          rw [e1] at this
          exact begins_any _ _ D1.l (D.l.take D.safe) _ _ _ _ true w6 rfl e1 (Nat.le_refl _) (by omega) (fun h => by cases h) (by omega) hSn (hSq.take _) hD1ok.u (fun x hx => hDok.u x (List.mem_of_mem_take hx)) this)
        have kbW : D1.l <+: D.l → Hid (Calls Try.prog 25 #[.slice (some ⟨gw, 0, none⟩) D.l.length D.l.length, .slice (some ⟨gn, 0, none⟩) D1.l.length D1.l.length] w6 fun e w' => e = .returned (.bool true) ∧ w6 = w') := fun hp => Lib.hid (begins_any _ _ D.l D1.l _ _ _ _ true w6 rfl rfl (Nat.le_refl _) (by omega) (fun h => by cases h) (by omega) hSq hSn hDok.u hD1ok.u (prefix_take hp))
        have kbS : D.l = D1.l → Hid (Calls Try.prog 12 #[.slice (some ⟨gw, 0, none⟩) D.l.length D.l.length, .slice (some ⟨gn, 0, none⟩) D1.l.length D1.l.length] w6 fun e w' => e = .returned (.bool true) ∧ w6 = w') := fun hp => Lib.hid (same_by _ _ D.l D1.l _ _ _ _ true w6 rfl rfl hSq hSn hDok.u hD1ok.u (decide_eq_true hp))
        have hsafe := hDok.safe
        have HW := Lib.hid hSq
        have HNN := Lib.hid hSn
        clear hSq hSn hDok hD1ok HD hm
        rcases hm5 with rfl | rfl | rfl | rfl | rfl
        · rw [if_pos rfl] at hD
          obtain ⟨j, hj, hl, hsf, hE⟩ := Dk.append_take D o.b
          rw [hD] at hl hsf hE
          replace hl : D1.l = D.l ++ o.b.take j := hl
          replace hsf : D1.safe = D.safe := hsf
          have hE : 0 < o.b.length → (E1 = 0 ↔ j = o.b.length) := hE
          have hlen : D1.l.length = D.l.length + j := by rw [hl, List.length_append, List.length_take]; omega
          replace kb14 := kb14 (by rw [hl]; exact (List.take_prefix _ _).trans (List.prefix_append _ _))
          have gK : decide (D1.safe < D.safe) = false := decide_eq_false (by omega)
          have kbP : Hid (∀ W, Below w6.heap.size w6 W → Calls Try.prog 25 #[.slice (some ⟨gn, 0, none⟩) D1.l.length D1.l.length, .slice (some ⟨gw, 0, none⟩) D.l.length D.l.length] W fun e w' => e = .returned (.bool true) ∧ W = w') := Lib.hid (fun W hW => begins_any _ _ D1.l D.l _ _ _ _ true W rfl rfl (Nat.le_refl _) (by omega) (fun h => by cases h) (by omega) ((HNN.out.below hW).more hW.size) ((HW.out.below hW).more hW.size) DK.out.ok.u DOK.out.u (prefix_take (by rw [hl]; exact List.prefix_append _ _)))
          have kbD : Hid (∀ W, Below w6.heap.size w6 W → Calls Try.prog 25 #[.slice o.A o.b.length o.c, .slice (if D1.l.length = D.l.length then some ⟨gn, 0, none⟩ else some ⟨gn, D.l.length, none⟩) (D1.l.length - D.l.length) (D1.l.length - D.l.length)] W fun e w' => e = .returned (.bool true) ∧ W = w') := Lib.hid (fun W hW => by
            have hjl : (o.b.take j).length = D1.l.length - D.l.length := by rw [List.length_take]; omega
            have ob := OK.out.bs
            have hob := HOB.out
            have hsz : w.heap.size ≤ w6.heap.size := BE.out.size
            refine begins_any _ _ o.b (o.b.take j) _ _ _ _ true W rfl hjl ob.ln ob.cap ob.nl (by omega) ((ob.sq.below (hW.mono hsz)).more (Nat.le_trans hsz hW.size)) ?_ ob.u (fun x hx => ob.u x (List.mem_of_mem_take hx)) ?_
            · by_cases h0 : D1.l.length = D.l.length
              · rw [show o.b.take j = [] from List.eq_nil_of_length_eq_zero (by rw [hjl]; omega)]
                exact Sq.nil
              · rw [if_neg h0, show o.b.take j = D1.l.drop D.l.length by rw [hl, List.drop_left]]
                have := Sq.drop (n := D.l.length) ((HNN.out.below hW).more hW.size)
                rwa [Nat.zero_add] at this
            · rw [← hjl]
              exact prefix_take (List.take_prefix _ _))
          have HL := Lib.hid hl
          have hmn : min (D.l.length : Int) (D1.l.length : Int) = (D.l.length : Int) := by omega
          have hmn2 : D.l.length ≤ D1.l.length := by omega
          have HLEN := Lib.hid hlen
          clear kbW kbS hD hl hsf hlen
          obtain ⟨q1, gq1⟩ : ∃ q1, (E1 == 0) = q1 := ⟨_, rfl⟩
          obtain ⟨q2, gq2'⟩ : ∃ q2, decide (D1.l.length = D.l.length + o.b.length) = q2 := ⟨_, rfl⟩
          obtain ⟨q3, gq3⟩ : ∃ q3, decide (0 < o.b.length) = q3 := ⟨_, rfl⟩
          have hob := HOB.out
          have gq2 : ((D1.l.length : Int) == (D.l.length : Int) + (o.b.length : Int)) = q2 := by
            rw [← gq2', Bool.eq_iff_iff]
            simp
            omega
          have hcond : q3 = true → q1 = q2 := fun hq => by
            rw [hq] at gq3
            have h1 := hE (of_decide_eq_true gq3)
            rw [← gq1, ← gq2', Bool.eq_iff_iff]
            simp
            rw [h1, HLEN.out]
            omega
          clear gq2' hE
          go_wp2_with fail
          refine (safe_any DK.out).mono ?_
          rintro e_ w_ ⟨rfl, rfl⟩
          go_wp2_with fail
          refine (kb14.out).mono ?_
          rintro e_ w_ ⟨rfl, rfl⟩
          go_wp2_with fail
          cases q1 <;> cases q2 <;> cases q3 <;> first | (exfalso; have := hcond rfl; simp at this; done) | skip
          all_goals (
            clear hcond
            refine wp_region_lat (by kernel_rfl) (by kernel_rfl) ?_
            repeat (go_big_quiet_step (fail))
            go_big_quiet_step (exact later_same (kbP.out _ (Later.bel _)))
            repeat (go_big_quiet_step (fail))
            go_big_quiet_step (exact later_same (kbD.out _ (Later.bel _)))
            repeat (go_big_quiet_step (fail))
            refine wpQuiet_nil ?_
            rintro _ ⟨x, rfl⟩
            have hbx := x.bel
            replace DK := Lib.hid (DK.out.to hbx)
            replace BE := Lib.hid (BE.out.trans (hbx.mono BE.out.size))
            clear hbx
            go_wp2
            go_roundw
            case rel => exact ⟨k + 1, D1, Ad1, cd1, by omega, by go_num, DK.out, BE.out⟩
            case measure => simp [intOf]; omega)
        · rw [if_neg (by decide), if_pos rfl] at hD
          have hs := Dk.sync_same DOK.out
          rw [hD] at hs
          replace kb14 := kb14 (by rw [hs.1]; exact List.take_prefix _ _)
          replace kbS := kbS hs.1.symm
          have gK : decide (D1.safe < D.safe) = false := decide_eq_false (by have : D.safe ≤ D1.safe := hs.2; omega)
          clear kbW hD hs
          go_wp2_with fail
          refine (safe_any DK.out).mono ?_
          rintro e_ w_ ⟨rfl, rfl⟩
          go_wp2_with fail
          refine (kb14.out).mono ?_
          rintro e_ w_ ⟨rfl, rfl⟩
          go_wp2_with fail
          refine (kbS.out).mono ?_
          rintro e_ w_ ⟨rfl, rfl⟩
          go_wp2
          go_roundw
          case rel => exact ⟨k + 1, D1, Ad1, cd1, by omega, by go_num, DK.out, BE.out⟩
          case measure => simp [intOf]; omega
        · rw [if_neg (by decide), if_neg (by decide), if_pos rfl] at hD
          have hs := Dk.cut_same (D := D) o.n
          rw [hD] at hs
          rcases hs with ⟨he, hl, hn1⟩ | ⟨he, hl, hsf⟩
          · replace he : E1 = 0 := he
            subst he
            replace hl : D1.l = D.l.take o.n.toNat := hl
            replace hn1 : (D1.l.length : Int) = o.n := hn1
            replace kbW := kbW (by rw [hl]; exact List.take_prefix _ _)
            have gn1 : ((D1.l.length : Int) != o.n) = false := by simpa using hn1
            clear kbS kb14 hD hl hn1
            go_wp2_with fail
            with_reducible refine kbW.out.mono ?_
            rintro e_ w_ ⟨rfl, rfl⟩
            go_wp2
            go_roundw
            case rel => exact ⟨k + 1, D1, Ad1, cd1, by omega, by go_num, DK.out, BE.out⟩
            case measure => simp [intOf]; omega
          · have ge : (E1 == 0) = false := by simpa using he
            replace hl : D1.l = D.l := hl
            replace hsf : D1.safe = D.safe := hsf
            replace kb14 := kb14 (by rw [hl]; exact List.take_prefix _ _)
            replace kbS := kbS hl.symm
            have gK : decide (D1.safe < D.safe) = false := decide_eq_false (by omega)
            clear kbW hD hl hsf he
            go_wp2_with fail
            refine (safe_any DK.out).mono ?_
            rintro e_ w_ ⟨rfl, rfl⟩
            go_wp2_with fail
            refine (kb14.out).mono ?_
            rintro e_ w_ ⟨rfl, rfl⟩
            go_wp2_with fail
            refine (kbS.out).mono ?_
            rintro e_ w_ ⟨rfl, rfl⟩
            go_wp2
            go_roundw
            case rel => exact ⟨k + 1, D1, Ad1, cd1, by omega, by go_num, DK.out, BE.out⟩
            case measure => simp [intOf]; omega
        · rw [if_neg (by decide), if_neg (by decide), if_neg (by decide), if_pos rfl] at hD
          have hl : D1.l = D.l := by rw [← (Prod.mk.inj hD).1]; rfl
          have hsf : D1.safe = D.safe := by rw [← (Prod.mk.inj hD).1]; rfl
          replace kb14 := kb14 (by rw [hl]; exact List.take_prefix _ _)
          replace kbS := kbS hl.symm
          have gK : decide (D1.safe < D.safe) = false := decide_eq_false (by omega)
          clear kbW hD hl hsf
          go_wp2_with fail
          refine (safe_any DK.out).mono ?_
          rintro e_ w_ ⟨rfl, rfl⟩
          go_wp2_with fail
          refine (kb14.out).mono ?_
          rintro e_ w_ ⟨rfl, rfl⟩
          go_wp2_with fail
          refine (kbS.out).mono ?_
          rintro e_ w_ ⟨rfl, rfl⟩
          go_wp2
          go_roundw
          case rel => exact ⟨k + 1, D1, Ad1, cd1, by omega, by go_num, DK.out, BE.out⟩
          case measure => simp [intOf]; omega
        · rw [if_neg (by decide), if_neg (by decide), if_neg (by decide), if_neg (by decide)] at hD
          have hs := Dk.crash_same DOK.out o.n
          rw [(Prod.mk.inj hD).1] at hs
          obtain ⟨hp, h1, h2, h3⟩ := hs
          have hp2 : D.l.take D.safe <+: D1.l := List.prefix_of_prefix_length_le (List.take_prefix _ _) hp (by rw [List.length_take]; omega)
          replace kb14 := kb14 hp2
          replace kbW := kbW hp
          have gK : decide (D1.safe < D.safe) = false := decide_eq_false (by omega)
          have gE : ((D1.safe : Int) != (D1.l.length : Int)) = false := by simp; omega
          have H3 := Lib.hid h3
          clear kbS hD hp h1 h2 hp2 h3
          go_wp2_with fail
          refine (safe_any DK.out).mono ?_
          rintro e_ w_ ⟨rfl, rfl⟩
          go_wp2_with fail
          refine (kb14.out).mono ?_
          rintro e_ w_ ⟨rfl, rfl⟩
          go_wp2_with fail
          refine (kbW.out).mono ?_
          rintro e_ w_ ⟨rfl, rfl⟩
          go_wp2_with fail
          refine (safe_any DK.out).mono ?_
          rintro e_ w_ ⟨rfl, rfl⟩
          go_wp2_with fail
          refine (off_any DK.out).mono ?_
          rintro e_ w_ ⟨rfl, rfl⟩
          rw [H3.out]
          go_wp2
          go_roundw
          case rel => exact ⟨k + 1, D1, Ad1, cd1, by omega, by go_num, DK.out, BE.out⟩
          case measure => simp [intOf]; omega
      · obtain rfl : k = n := by omega
        have BE := Lib.hid hbe
        go_wp2_with fail
        refine (kw.out _).mono ?_
        rintro e w7 ⟨rfl, b7⟩
        go_wp2
        go_ret
        exact ⟨rfl, BE.out.trans (b7.mono BE.out.size)⟩
  · rw [if_neg hL] at hif
    subst hif
    go_wp2_with fail
    refine (kw.out _).mono ?_
    rintro e w7 ⟨rfl, b7⟩
    go_wp2
    go_ret
    exact ⟨rfl, B1.out.trans (b7.mono B1.out.size)⟩
end Go.Proofs.Ytpjdgnoekplldaa
