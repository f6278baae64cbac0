/- NvlogNone: the walk. -/
import Derived.Test.YtbokggilfepdhaaNvOpen
import Derived.Test.YtbokggilfepdhaaNvAwk
namespace Go.Proofs.Ytbokggilfepdhaa
open Go.RowKit
set_option linter.unusedVariables false
attribute [local go_sem] Later.cell Later.frozen setCell_twice
def NoLog (p : Option Addr) (w : World) : Prop := ∀ W, Below w.heap.size w W → Calls Try.prog 43 #[.pointer p] W fun e w' => e = .returned (.bool false) ∧ W = w'
section
variable {p : Option Addr} {w w' : World}
theorem NoLog.to (h : NoLog p w) (k : Below w.heap.size w w') : NoLog p w' := fun W hW => h W (k.trans (hW.mono k.size))
theorem NoLog.now (h : NoLog p w) : Calls Try.prog 43 #[.pointer p] w fun e w' => e = .returned (.bool false) ∧ w = w' := h w (Below.refl _ _)
theorem noLog_nil (w : World) : NoLog none w := fun W _ => lmade_nil W
theorem noLog_new {g : Nat} (c0 : w.cell? ⟨g, 0, none⟩ = some (.pointer none)) : NoLog (some ⟨g, 0, none⟩) w := fun W hW => lmade_no ((hW.cell (p := ⟨g, 0, none⟩) (block_lt_of_cell c0)).trans c0)
theorem lappend_no (h : NoLog p w) (C : Array Value) : Calls Try.prog 18 #[.pointer p, .agg C] w fun e w' => e = .returned (.int .i64 1) ∧ Below w.heap.size w w' := by
  have km := Lib.hid (h.to (bel_alloc (Below.refl _ _) (.cells C 34))).now
  clear h
  go_enter Try.func18, Try.ntmps18
  go_wp2_with fail
  refine (km.out).mono ?_
  rintro e_ w_ ⟨rfl, rfl⟩
  go_wp2
  go_ret
  exact ⟨rfl, bel_alloc (Below.refl _ _) _⟩
theorem free_no (h : NoLog p w) : Calls Try.prog 24 #[.pointer p] w fun e w' => e = .returned (.int .i64 0) ∧ w = w' := by
  have km := Lib.hid h.now
  clear h
  go_enter Try.func24, Try.ntmps24
  go_wp2_with fail
  refine (km.out).mono ?_
  rintro e_ w_ ⟨rfl, rfl⟩
  go_wp2
  go_ret
  exact ⟨rfl, rfl⟩
theorem open_no (h : NoDk p w) : Calls Try.prog 17 #[.pointer p] w fun e w' => e = .returned (.tuple #[.pointer none, .slice none 0 0, .int .i64 1]) ∧ Below w.heap.size w w' := by
  have HH := Lib.hid h
  have kb := Lib.hid (bytes_no h)
  clear h
  go_enter Try.func17, Try.ntmps17
  go_wp2_with fail
  refine (kb.out).mono ?_
  rintro e_ w_ ⟨rfl, rfl⟩
  go_wp2_with fail
  refine (nread_any none 0 0 [] rfl w Sq.nil (by simp) (fun _ => rfl) (Nat.le_refl _) (by decide) (by decide)).mono ?_
  rintro e w1 ⟨A1, c1, m1, rs1, rfl, ol1, hrs1, _, b1⟩
  rw [Nr.read_nil] at hrs1 ⊢
  have B1 := Lib.hid b1
  have ks := sync_no (HH.out.to b1)
  clear ol1 hrs1 b1
  go_wp2_with fail
  refine ks.mono ?_
  rintro e w2 ⟨rfl, b2⟩
  go_wp2
  go_ret3
  exact ⟨rfl, B1.out.trans (b2.mono B1.out.size)⟩
end
abbrev lz0 : List Value := [.pointer none, .pointer none]
abbrev dz0 : List Value := [.pointer none, .int .i64 0, .slice none 0 0, .int .i64 0, .bool false, .int .i64 0, .bool false]
def offD : Dk := ⟨50, [], 0, some 0, true⟩
set_option maxRecDepth 100000 in
set_option maxHeartbeats 1000000 in
theorem nvlogNone_walk (x : Rc) (w : World) :
    Calls Try.prog 7 #[.agg (recK.f x).toArray] w fun e w' => e = .returned (.bool true) ∧ Below w.heap.size w w' := by
  have XR := Lib.hid (((RowAt.new' w w.heap.size 34 (recK.f x) rfl).alloc (.cells lz0.toArray 60)).alloc (.cells #[.pointer none, .pointer (some ⟨w.heap.size + 1, 0, none⟩)] 47))
  have ZR := Lib.hid ((RowAt.new' (w.alloc (.cells (recK.f x).toArray 34)) (w.heap.size + 1) 60 lz0 (by simp)).alloc (.cells #[.pointer none, .pointer (some ⟨w.heap.size + 1, 0, none⟩)] 47))
  have PR := Lib.hid (RowAt.new' ((w.alloc (.cells (recK.f x).toArray 34)).alloc (.cells lz0.toArray 60)) (w.heap.size + 1 + 1) 47 [.pointer none, .pointer (some ⟨w.heap.size + 1, 0, none⟩)] (by simp))
  go_enter Try.func7, Try.ntmps7
  go_wp2
  go_loopw [17] (fun i wr => ∃ k : Nat, k ≤ 2 ∧ i = .int .i64 (k : Int) ∧ RowAt wr w.heap.size 34 (recK.f x) ∧ RowAt wr (w.heap.size + 1) 60 lz0 ∧ RowAt wr (w.heap.size + 1 + 1) 47 [.pointer none, .pointer (some ⟨w.heap.size + 1, 0, none⟩)] ∧ Below w.heap.size w wr) (fun i _ => 2 - (intOf i).toNat)
  case atStart => exact ⟨0, by omega, rfl, XR.out, ZR.out, PR.out, (by repeat (first | with_reducible exact Below.refl _ _ | with_reducible refine bel_later _ ?_ | with_reducible refine bel_alloc ?_ _ | refine bel_set ?_ (by first | omega | (simp; done) | (simp; omega)) _ | with_reducible refine Below.drew ?_ | with_reducible refine bel_drewN ?_ _ | with_reducible assumption | assumption))⟩
  case round =>
    clear XR ZR PR
    rename World => wr
    obtain ⟨k, hk, rfl, hxr, hzr, hpr, hbe⟩ := hrel
    have XR := Lib.hid hxr
    have ZR := Lib.hid hzr
    have PR := Lib.hid hpr
    have BE := Lib.hid hbe
    clear hxr hzr hpr hbe
    have pclt : w.heap.size + 1 + 1 < (wr).heap.size := PR.out.lt
    have pclu : w.heap.size + 1 + 1 < (wr).heap.size + 1 := Nat.lt_succ_of_lt PR.out.lt
    have pc0 : (wr).cell? ⟨w.heap.size + 1 + 1, 0, none⟩ = some (.pointer none) := PR.out.cells 0
    have pcz0 : (wr).frozen? ⟨w.heap.size + 1 + 1, 0, none⟩ = false := PR.out.frozen 0
    have pc1 : (wr).cell? ⟨w.heap.size + 1 + 1, 1, none⟩ = some (.pointer (some ⟨w.heap.size + 1, 0, none⟩)) := PR.out.cells 1
    have pcz1 : (wr).frozen? ⟨w.heap.size + 1 + 1, 1, none⟩ = false := PR.out.frozen 1
    by_cases hk0 : k = 0
    · subst hk0
      have HNL := Lib.hid (noLog_nil wr)
      have xclt : w.heap.size < (wr).heap.size := XR.out.lt
      have xclu : w.heap.size < (wr).heap.size + 1 := Nat.lt_succ_of_lt XR.out.lt
      have xc0 : (wr).cell? ⟨w.heap.size, 0, none⟩ = some (.int .u8 (x.p.what : Int)) := XR.out.cells 0
      have xcz0 : (wr).frozen? ⟨w.heap.size, 0, none⟩ = false := XR.out.frozen 0
      have xc1 : (wr).cell? ⟨w.heap.size, 1, none⟩ = some (.int .u32 (x.p.tx : Int)) := XR.out.cells 1
      have xcz1 : (wr).frozen? ⟨w.heap.size, 1, none⟩ = false := XR.out.frozen 1
      have xc2 : (wr).cell? ⟨w.heap.size, 2, none⟩ = some (.int .u8 (x.p.who : Int)) := XR.out.cells 2
      have xcz2 : (wr).frozen? ⟨w.heap.size, 2, none⟩ = false := XR.out.frozen 2
      have xc3 : (wr).cell? ⟨w.heap.size, 3, none⟩ = some (.bool x.p.yes) := XR.out.cells 3
      have xcz3 : (wr).frozen? ⟨w.heap.size, 3, none⟩ = false := XR.out.frozen 3
      have xc4 : (wr).cell? ⟨w.heap.size, 4, none⟩ = some (.slice x.A x.p.text.length x.c) := XR.out.cells 4
      have xcz4 : (wr).frozen? ⟨w.heap.size, 4, none⟩ = false := XR.out.frozen 4
      go_wp2_with (refine wpList_load_var rfl 34 (.tmp 1) rfl w.heap.size rfl (recK.f x) _ 5 XR.out Try.underlying34 rfl size_rec rfl ?_)
      refine (lappend_no HNL.out _).mono ?_
      rintro e w1 ⟨rfl, b1⟩
      replace HNL := Lib.hid (HNL.out.to b1)
      replace XR := Lib.hid (XR.out.to b1)
      replace ZR := Lib.hid (ZR.out.to b1)
      replace PR := Lib.hid (PR.out.to b1)
      replace BE := Lib.hid (BE.out.trans (b1.mono BE.out.size))
      clear b1
      go_wp2_with fail
      refine (free_no HNL.out).mono ?_
      rintro e_ w_ ⟨rfl, rfl⟩
      go_wp2
      go_roundw
      case rel => exact ⟨1, by omega, rfl, XR.out, ZR.out, PR.out, BE.out⟩
      case measure => simp [intOf]
    · by_cases hk1 : k = 1
      · subst hk1
        have HNL := Lib.hid (noLog_new (w := wr) (g := w.heap.size + 1) (ZR.out.cells 0))
        have xclt : w.heap.size < (wr).heap.size := XR.out.lt
        have xclu : w.heap.size < (wr).heap.size + 1 := Nat.lt_succ_of_lt XR.out.lt
        have xc0 : (wr).cell? ⟨w.heap.size, 0, none⟩ = some (.int .u8 (x.p.what : Int)) := XR.out.cells 0
        have xcz0 : (wr).frozen? ⟨w.heap.size, 0, none⟩ = false := XR.out.frozen 0
        have xc1 : (wr).cell? ⟨w.heap.size, 1, none⟩ = some (.int .u32 (x.p.tx : Int)) := XR.out.cells 1
        have xcz1 : (wr).frozen? ⟨w.heap.size, 1, none⟩ = false := XR.out.frozen 1
        have xc2 : (wr).cell? ⟨w.heap.size, 2, none⟩ = some (.int .u8 (x.p.who : Int)) := XR.out.cells 2
        have xcz2 : (wr).frozen? ⟨w.heap.size, 2, none⟩ = false := XR.out.frozen 2
        have xc3 : (wr).cell? ⟨w.heap.size, 3, none⟩ = some (.bool x.p.yes) := XR.out.cells 3
        have xcz3 : (wr).frozen? ⟨w.heap.size, 3, none⟩ = false := XR.out.frozen 3
        have xc4 : (wr).cell? ⟨w.heap.size, 4, none⟩ = some (.slice x.A x.p.text.length x.c) := XR.out.cells 4
        have xcz4 : (wr).frozen? ⟨w.heap.size, 4, none⟩ = false := XR.out.frozen 4
        go_wp2_with (refine wpList_load_var rfl 34 (.tmp 1) rfl w.heap.size rfl (recK.f x) _ 5 XR.out Try.underlying34 rfl size_rec rfl ?_)
        refine (lappend_no HNL.out _).mono ?_
        rintro e w1 ⟨rfl, b1⟩
        replace HNL := Lib.hid (HNL.out.to b1)
        replace XR := Lib.hid (XR.out.to b1)
        replace ZR := Lib.hid (ZR.out.to b1)
        replace PR := Lib.hid (PR.out.to b1)
        replace BE := Lib.hid (BE.out.trans (b1.mono BE.out.size))
        clear b1
        go_wp2_with fail
        refine (free_no HNL.out).mono ?_
        rintro e_ w_ ⟨rfl, rfl⟩
        go_wp2
        go_roundw
        case rel => exact ⟨2, by omega, rfl, XR.out, ZR.out, PR.out, BE.out⟩
        case measure => simp [intOf]
      · obtain rfl : k = 2 := by omega
        clear XR ZR PR
        go_wp2_with fail
        refine (new_any 50 wr (by decide)).mono ?_
        rintro e w1 ⟨rfl, k1, b1⟩
        have K1 := Lib.hid k1
        have BN := Lib.hid b1
        clear k1 b1
        go_wp2_with fail
        refine (sparks_any K1.out 0 (by decide)).mono ?_
        rintro e w2 ⟨rfl, k2, o2⟩
        have K2 : Hid (DkAt w2 wr.heap.size wr.heap.size none 0 ⟨50, [], 0, some 0, false⟩) := Lib.hid k2
        have B2 := Lib.hid (BN.out.trans (K1.out.moves (Moves.of_only (A := none) o2)))
        clear k2 o2 K1
        go_wp2_with fail
        refine (sync_any K2.out).mono ?_
        rintro e w3 ⟨rfl, Ad, cd, k3, m3, f3⟩
        have K3 : Hid (DkAt w3 wr.heap.size wr.heap.size Ad cd offD) := Lib.hid k3
        have hlt3 : wr.heap.size < w3.heap.size := k3.lt
        replace B2 := Lib.hid (B2.out.trans (K2.out.moves m3))
        have HF3 : Hid (∀ p, Ad = some p → p.block < w3.heap.size) := Lib.hid (fun p hp => (own_at k3.own p hp).2.1)
        clear k3 m3 f3 K2
        obtain ⟨gz, hgz⟩ : ∃ gz, w3.heap.size = gz := ⟨_, rfl⟩
        have HGZ := Lib.hid hgz
        rw [hgz] at hlt3 HF3
        have ZR := Lib.hid ((RowAt.new' w3 gz 64 dz0 hgz.symm).alloc (.cells #[.pointer none, .pointer (some ⟨gz, 0, none⟩), .pointer (some ⟨wr.heap.size, 0, none⟩)] 44))
        have PR := Lib.hid (RowAt.new' (w3.alloc (.cells dz0.toArray 64)) (gz + 1) 44 [.pointer none, .pointer (some ⟨gz, 0, none⟩), .pointer (some ⟨wr.heap.size, 0, none⟩)] (by simp; omega))
        have b5 : Below w3.heap.size w3 ((w3.alloc (.cells dz0.toArray 64)).alloc (.cells #[.pointer none, .pointer (some ⟨gz, 0, none⟩), .pointer (some ⟨wr.heap.size, 0, none⟩)] 44)) := bel_alloc (bel_alloc (Below.refl _ _) _) _
        have K5 := Lib.hid (K3.out.to b5)
        have B5 := Lib.hid (B2.out.trans (b5.mono (by omega)))
        clear hgz b5 K3 B2
        go_wp2
        rw [HGZ.out]
        go_loopw [46] (fun i wr2 => ∃ k : Nat, k ≤ 3 ∧ i = .int .i64 (k : Int) ∧ RowAt wr2 gz 64 dz0 ∧ RowAt wr2 (gz + 1) 44 [.pointer none, .pointer (some ⟨gz, 0, none⟩), .pointer (some ⟨wr.heap.size, 0, none⟩)] ∧ Hid (k ≤ 2 → ∃ Ad cd, DkAt wr2 wr.heap.size wr.heap.size Ad cd offD ∧ ∀ p, Ad = some p → p.block < gz) ∧ Below wr.heap.size wr wr2) (fun i _ => 3 - (intOf i).toNat)
        case atStart => exact ⟨0, by omega, rfl, ZR.out, PR.out, Lib.hid (fun _ => ⟨Ad, cd, K5.out, HF3.out⟩), B5.out⟩
        case round =>
          clear ZR PR K5 B5 HF3
          rename World => wq
          obtain ⟨k, hk, rfl, hzr, hpr, hdk, hbe⟩ := hrel
          have ZR := Lib.hid hzr
          have PR := Lib.hid hpr
          have BQ := Lib.hid hbe
          clear hzr hpr hbe
          have qclt : gz + 1 < (wq).heap.size := PR.out.lt
          have qclu : gz + 1 < (wq).heap.size + 1 := Nat.lt_succ_of_lt PR.out.lt
          have qc0 : (wq).cell? ⟨gz + 1, 0, none⟩ = some (.pointer none) := PR.out.cells 0
          have qcz0 : (wq).frozen? ⟨gz + 1, 0, none⟩ = false := PR.out.frozen 0
          have qc1 : (wq).cell? ⟨gz + 1, 1, none⟩ = some (.pointer (some ⟨gz, 0, none⟩)) := PR.out.cells 1
          have qcz1 : (wq).frozen? ⟨gz + 1, 1, none⟩ = false := PR.out.frozen 1
          have qc2 : (wq).cell? ⟨gz + 1, 2, none⟩ = some (.pointer (some ⟨wr.heap.size, 0, none⟩)) := PR.out.cells 2
          have qcz2 : (wq).frozen? ⟨gz + 1, 2, none⟩ = false := PR.out.frozen 2
          by_cases hk0 : k = 0
          · subst hk0
            have HND := Lib.hid (noDk_nil wq)
            go_wp2_with fail
            refine (open_no HND.out).mono ?_
            rintro e w1 ⟨rfl, b1⟩
            have HB1 := Lib.hid b1
            replace ZR := Lib.hid (ZR.out.to b1)
            replace PR := Lib.hid (PR.out.to b1)
            replace BQ := Lib.hid (BQ.out.trans (b1.mono BQ.out.size))
            clear b1
            go_wp2
            go_roundw
            case rel => exact ⟨1, by omega, rfl, ZR.out, PR.out, Lib.hid (fun _ => by obtain ⟨A7, c7, h7, h8⟩ := hdk.out (by omega); exact ⟨A7, c7, h7.to HB1.out, h8⟩), BQ.out⟩
            case measure => simp [intOf]
          · by_cases hk1 : k = 1
            · subst hk1
              have HND := Lib.hid (noDk_new (w := wq) (g := gz) (ZR.out.cells 0))
              go_wp2_with fail
              refine (open_no HND.out).mono ?_
              rintro e w1 ⟨rfl, b1⟩
              have HB1 := Lib.hid b1
              replace ZR := Lib.hid (ZR.out.to b1)
              replace PR := Lib.hid (PR.out.to b1)
              replace BQ := Lib.hid (BQ.out.trans (b1.mono BQ.out.size))
              clear b1
              go_wp2
              go_roundw
              case rel => exact ⟨2, by omega, rfl, ZR.out, PR.out, Lib.hid (fun _ => by obtain ⟨A7, c7, h7, h8⟩ := hdk.out (by omega); exact ⟨A7, c7, h7.to HB1.out, h8⟩), BQ.out⟩
              case measure => simp [intOf]
            · by_cases hk2 : k = 2
              · subst hk2
                obtain ⟨A7, c7, k7, h7⟩ := hdk.out (by omega)
                have K7 := Lib.hid k7
                have H7 := Lib.hid h7
                have ko := open_any k7
                rw [show offD.lopen = (offD, [], 6) by unfold Dk.lopen; rw [show Nr.read offD.l = ([], 0) from Nr.read_nil]; rfl] at ko
                clear k7 h7 hdk
                go_wp2_with fail
                refine ko.mono ?_
                clear ko
                rintro e w8 ⟨A8, c8, pl, Ar, m, cr, rs, dk8, mv8, fr8, rfl, ol8, hrs8, hnl8, apg, apa, hz8, hnz8⟩
                obtain rfl : pl = none := hnz8 (by decide)
                obtain rfl : rs = [] := by simpa using hrs8
                obtain rfl : m = 0 := ol8.len.symm
                replace ZR := Lib.hid (mv8.row ZR.out (by omega) (fun p hp => by have := H7.out p hp; omega))
                replace PR := Lib.hid (mv8.row PR.out (by omega) (fun p hp => by have := H7.out p hp; omega))
                replace BQ := Lib.hid (BQ.out.trans (K7.out.moves mv8))
                clear dk8 mv8 fr8 ol8 hrs8 hnl8 apg apa hz8 hnz8
                go_wp2
                go_roundw
                case rel => exact ⟨3, by omega, rfl, ZR.out, PR.out, Lib.hid (fun h => by omega), BQ.out⟩
                case measure => simp [intOf]
              · obtain rfl : k = 3 := by omega
                go_wp2_with fail
                refine (awake_any _).mono ?_
                rintro e w7 ⟨rfl, b7⟩
                go_wp2
                go_ret
                have hz := BE.out.size
                exact ⟨rfl, BE.out.trans ((BQ.out.trans (b7.mono BQ.out.size)).mono hz)⟩
end Go.Proofs.Ytbokggilfepdhaa
