/- DiskTells: the walk. -/
import Derived.Test.YtpjdgnoekplldaaDkMod
import Derived.Test.YtpjdgnoekplldaaDkAwk
import Derived.Test.YtpjdgnoekplldaaHeld
namespace Go.Proofs.Ytpjdgnoekplldaa
open Go.RowKit
set_option linter.unusedVariables false
attribute [local go_sem] Later.cell Later.frozen setCell_twice
theorem size_dop : (Try.prog.info? 38).map (·.size) = some 3 := by kernel_rfl
theorem Rb.only {w w' : World} {A : Option Addr} {c g : Nat} {l : List Nat} (h : Rb w A c l) (k : Only g w w') (hg : ∀ p, A = some p → p.block ≠ g) : Rb w' A c l :=
  ⟨fun hn => by
    obtain ⟨b, o, hA, hb, hc⟩ := h.sq hn
    exact ⟨b, o, hA, by rw [k.size]; exact hb, fun i x hx => (k.cell (p := ⟨b, o + i, Option.none⟩) (show b ≠ g from hg _ hA)).trans (hc i x hx)⟩, h.nil, h.le, h.cap, fun p hp => by rw [k.size]; exact h.lt p hp⟩
theorem Rb.moves {w w' : World} {A A' : Option Addr} {c g : Nat} {l : List Nat} (h : Rb w A c l) (k : Moves g A' w w') (h1 : ∀ p, A = some p → p.block ≠ g) (h2 : ∀ p q, A = some p → A' = some q → q.block ≠ p.block) : Rb w' A c l := ⟨k.sq h.sq (fun _ => h1) (fun _ => h2), h.nil, h.le, h.cap, fun p hp => Nat.lt_of_lt_of_le (h.lt p hp) k.size⟩
theorem Dk.doOp_room (D : Dk) (what : Nat) (b : List Nat) (n : Int) (hok : D.Ok) : (D.doOp what b n).1.room = D.room := by
  have hp : ∀ (b : List Nat) (D : Dk), (Dk.puts D b).1.room = D.room := by
    intro b
    induction b with
    | nil => intro D; rfl
    | cons x b ih =>
      intro D
      unfold Dk.puts
      have h := (Dk.sparked_l D).2.2
      split
      · rw [ih]; exact h
      · exact h
  have h := (Dk.sparked_l D).2.2
  unfold Dk.doOp
  split
  · unfold Dk.append
    split
    · rfl
    split
    · rfl
    · exact hp _ _
  split
  · unfold Dk.sync
    split
    · rfl
    split
    · exact h
    · exact h
  split
  · unfold Dk.cut
    split
    · rfl
    split
    · rfl
    split
    · exact h
    · exact h
  split
  · rfl
  · rfl
set_option maxRecDepth 100000 in
set_option maxHeartbeats 4000000 in
theorem diskTells_walk (room : Int) (A : Option Addr) (l : List DOp) (c : Nat) (w : World) (hlo : -9223372036854775808 ≤ room) (hhi : room ≤ 9223372036854775807) (h : DOps w w.heap.size A l) (hlc : l.length ≤ c) (hc : c ≤ 9223372036854775807) (hA : A = none → c = 0) :
    Calls Try.prog 5 #[.int .i64 room, .slice A l.length c] w fun e w' => e = .returned (.bool true) ∧ Below w.heap.size w w' := by
  by_cases hr : room < 0 ∨ 262144 < room
  · have kn := Lib.hid (new_bad room w hr)
    have kw := Lib.hid (fun w => awake_any w)
    have g1 : decide (room < 0) = true ∨ (decide (room < 0) = false ∧ decide (262144 < room) = true) := by
      by_cases h1 : room < 0
      · exact .inl (decide_eq_true h1)
      · exact .inr ⟨decide_eq_false h1, decide_eq_true (by omega)⟩
    clear hr
    rcases g1 with g1 | ⟨g1, g2⟩
    · go_enter Try.func5, Try.ntmps5
      go_wp2_with fail
      refine (kn.out).mono ?_
      rintro e_ w_ ⟨rfl, rfl⟩
      go_wp2_with fail
      refine (kw.out _).mono ?_
      rintro e_x1 w_x1 ⟨rfl, hb_x1⟩
      obtain ⟨x1, rfl⟩ := later_is hb_x1
      clear hb_x1
      have hz_x1 := x1.bel.size
      try simp at hz_x1
      go_wp2
      go_ret
      exact ⟨rfl, (by repeat (first | with_reducible exact Below.refl _ _ | with_reducible refine bel_later _ ?_ | with_reducible refine bel_alloc ?_ _ | refine bel_set ?_ (by first | omega | (simp; done) | (simp; omega)) _ | with_reducible refine Below.drew ?_ | with_reducible refine bel_drewN ?_ _ | with_reducible assumption | assumption))⟩
    · go_enter Try.func5, Try.ntmps5
      go_wp2_with fail
      refine (kn.out).mono ?_
      rintro e_ w_ ⟨rfl, rfl⟩
      go_wp2_with fail
      refine (kw.out _).mono ?_
      rintro e_x1 w_x1 ⟨rfl, hb_x1⟩
      obtain ⟨x1, rfl⟩ := later_is hb_x1
      clear hb_x1
      have hz_x1 := x1.bel.size
      try simp at hz_x1
      go_wp2
      go_ret
      exact ⟨rfl, (by repeat (first | with_reducible exact Below.refl _ _ | with_reducible refine bel_later _ ?_ | with_reducible refine bel_alloc ?_ _ | refine bel_set ?_ (by first | omega | (simp; done) | (simp; omega)) _ | with_reducible refine Below.drew ?_ | with_reducible refine bel_drewN ?_ _ | with_reducible assumption | assumption))⟩
  · obtain ⟨r, rfl⟩ : ∃ r : Nat, room = (r : Int) := ⟨room.toNat, by omega⟩
    have hr2 : r ≤ 262144 := by omega
    have g1 : decide ((r : Int) < 0) = false := decide_eq_false (by omega)
    have g2 : decide ((262144 : Int) < (r : Int)) = false := decide_eq_false (by omega)
    have HB := Lib.hid h
    have kw := Lib.hid (fun w => awake_any w)
    clear hr h hlo hhi
    go_enter Try.func5, Try.ntmps5
    go_wp2_with fail
    refine (new_any r w hr2).mono ?_
    rintro e w1 ⟨rfl, k1, b1⟩
    have K1 := Lib.hid k1
    have B1 := Lib.hid b1
    have HO1 := Lib.hid (HB.out.to b1)
    clear k1 b1
    go_wp2_with fail
    refine (dlight_any A l c w1 HO1.out hlc hc hA).mono ?_
    rintro e w2 ⟨b2, hif⟩
    replace K1 := Lib.hid (K1.out.to b2)
    replace B1 := Lib.hid (B1.out.trans (b2.mono B1.out.size))
    clear b2
    by_cases hL : DLight l = true
    · rw [if_pos hL] at hif
      obtain ⟨c', rfl⟩ := hif
      obtain ⟨n, hn⟩ : ∃ n, (l.take 60).length = n := ⟨_, rfl⟩
      have HN := Lib.hid hn
      rw [hn]
      have hn60 : n ≤ 60 := by rw [← hn, List.length_take]; omega
      clear hn
      go_wp2_with fail
      refine (rnew_any r w2).mono ?_
      rintro e w3 ⟨rfl, b3⟩
      replace K1 := Lib.hid (K1.out.to b3)
      replace B1 := Lib.hid (B1.out.trans (b3.mono B1.out.size))
      obtain ⟨gm, hgm⟩ : ∃ gm, w3.heap.size = gm := ⟨_, rfl⟩
      have hgm2 : w.heap.size < gm := by rw [← hgm]; exact K1.out.lt
      clear b3
      go_wp2
      have M0 : RowAt (w3.alloc (.cells (Dk.RC none 0 (Dk.new r).l.length (Dk.new r)).toArray 44)) gm 44 (Dk.RC none 0 (Dk.new r).l.length (Dk.new r)) := RowAt.new' _ _ _ _ hgm.symm
      have HGM := Lib.hid hgm
      clear hgm
      go_loopw [52] (fun i wr => ∃ (k : Nat) (D : Dk) (Ad : Option Addr) (cd : Nat) (Am : Option Addr) (cm : Nat), k ≤ n ∧ i = .int .i64 (k : Int) ∧ DkAt wr w.heap.size w.heap.size Ad cd D ∧ RowAt wr gm 44 (D.RC Am cm D.l.length) ∧ Rb wr Am cm D.l
          ∧ Hid (∀ p, Am = some p → p.block ≠ w.heap.size ∧ p.block ≠ gm ∧ ∀ q, Ad = some q → q.block ≠ p.block) ∧ Hid (∀ q, Ad = some q → q.block ≠ gm) ∧ Hid (D.room = r) ∧ Below w.heap.size w wr) (fun i _ => n - (intOf i).toNat)
      case atStart => exact ⟨0, Dk.new r, none, 0, none, 0, by omega, rfl, K1.out.to (bel_alloc (Below.refl _ _) _), M0, Rb.nothing _, Lib.hid (fun p hp => by cases hp), Lib.hid (fun p hp => by cases hp), Lib.hid rfl, bel_alloc B1.out _⟩
      case round =>
        clear M0 K1 HO1
        obtain ⟨k, D, Ad, cd, Am, cm, hk, rfl, hdk, hmr, hrb, hap, hag, hroom, hbe⟩ := hrel
        by_cases hlt : k < n
        · obtain ⟨go, oo, o, hA', hg, ho, hok, d0, d1, d2⟩ := (HB.out.below hbe).at_ (k := k) (by have := HN.out; rw [List.length_take] at this; omega)
          have hltI : (k : Int) < (n : Int) := by omega
          have h0I : (0 : Int) ≤ (k : Int) := by omega
          have hgr : go < wr.heap.size := Nat.lt_of_lt_of_le hg hbe.size
          cases hA'
          have HOB : Hid (o.b.length ≤ 200) := Lib.hid (of_decide_eq_true (show decide (∀ o ∈ l.take 60, o.b.length ≤ 200) = true from hL) o (List.mem_of_getElem? (i := k) (by rw [List.getElem?_take, if_pos (by omega)]; exact ho)))
          have DK := Lib.hid hdk
          have HAL : Hid (∀ q, Ad = some q → q.block < wr.heap.size) := Lib.hid (fun q hq => (own_at hdk.own q hq).2.1)
          have MR := Lib.hid hmr
          have RB := Lib.hid hrb
          have BE := Lib.hid hbe
          have OK := Lib.hid hok
          obtain ⟨D1, E1, hd⟩ : ∃ D1 E1, D.doOp o.what o.b o.n = (D1, E1) := ⟨_, _, rfl⟩
          have HR1 : Hid (D1.room = r) := Lib.hid (by have := Dk.doOp_room D o.what o.b o.n hdk.ok; rw [hd] at this; rw [this, hroom.out])
          have hgw : w.heap.size < wr.heap.size := hdk.lt
          have hgmw : gm < wr.heap.size := hmr.lt
          have km := Lib.hid (fun W (hW : Below wr.heap.size wr W) => rmodel_any D Am cm W hdk.ok (hrb.to hW) o.what hok.what o.n hok.lo hok.hi o.A o.c o.b.length o.b rfl (by have := HOB.out; omega) ((hok.bs.sq.below (hW.mono (by omega))).more (by have := hW.size; omega)) hok.bs.u)
          rw [hd] at km
          have HD := Lib.hid hd
          clear hdk hmr hrb hbe hok ho hd
          have mrlt : gm < (wr).heap.size := MR.out.lt
          have mrlu : gm < (wr).heap.size + 1 := Nat.lt_succ_of_lt MR.out.lt
          have mr0 : (wr).cell? ⟨gm, 0, none⟩ = some (.int .i64 (D.room : Int)) := MR.out.cells 0
          have mrz0 : (wr).frozen? ⟨gm, 0, none⟩ = false := MR.out.frozen 0
          have mr1 : (wr).cell? ⟨gm, 1, none⟩ = some (.int .i64 (D.safe : Int)) := MR.out.cells 1
          have mrz1 : (wr).frozen? ⟨gm, 1, none⟩ = false := MR.out.frozen 1
          have mr2 : (wr).cell? ⟨gm, 2, none⟩ = some (.int .i64 (lf D.left)) := MR.out.cells 2
          have mrz2 : (wr).frozen? ⟨gm, 2, none⟩ = false := MR.out.frozen 2
          have mr3 : (wr).cell? ⟨gm, 3, none⟩ = some (.slice Am D.l.length cm) := MR.out.cells 3
          have mrz3 : (wr).frozen? ⟨gm, 3, none⟩ = false := MR.out.frozen 3
          have mr4 : (wr).cell? ⟨gm, 4, none⟩ = some (.bool D.off) := MR.out.cells 4
          have mrz4 : (wr).frozen? ⟨gm, 4, none⟩ = false := MR.out.frozen 4
          go_wp2_with fail
          refine (km.out _ (bel_alloc (Below.refl _ _) _)).mono ?_
          rintro e w4 ⟨Am1, cm1, rfl, rb1, b4, fr1⟩
          have hzo : wr.heap.size < w4.heap.size := by have := b4.size; simp at this; omega
          have b4' : Below wr.heap.size wr w4 := Below.trans (bel_alloc (Below.refl _ _) _) (b4.mono (by simp))
          have OR := Lib.hid ((RowAt.new' wr wr.heap.size 38 o.C rfl).to b4)
          replace DK := Lib.hid (DK.out.to b4')
          replace MR := Lib.hid (MR.out.to b4')
          replace BE := Lib.hid (BE.out.trans (b4'.mono BE.out.size))
          replace OK := Lib.hid ((OK.out.below (b4'.mono (Nat.le_of_lt hgw))))
          have hap1 : ∀ p, Am1 = some p → p.block ≠ w.heap.size ∧ p.block ≠ gm ∧ p.block ≠ wr.heap.size ∧ ∀ q, Ad = some q → q.block ≠ p.block := fun p hp => by
            rcases fr1 with h | h
            · obtain ⟨h2, h3, h4⟩ := hap.out p (h.symm.trans hp)
              have h1 := RB.out.lt p (h.symm.trans hp)
              exact ⟨h2, h3, by omega, h4⟩
            · have h1 := h p hp
              simp at h1
              exact ⟨by omega, by omega, by omega, fun q hq => by have h2 := HAL.out q hq; omega⟩
          have HAP := Lib.hid hap1
          have RB1 := Lib.hid rb1
          clear hap1 rb1 b4 b4' fr1 km RB
          go_wp2_with ((
            refine wpList_store_var rfl 44 (.tmp 8) (.tmp 60) rfl gm (D.RC Am cm D.l.length) (D1.RC Am1 cm1 D1.l.length) 5 rfl rfl MR.out size_rd rfl rfl (RC_one Am1 cm1 _ D1) ?_
            intro w5 r5 k5
            have MR5 := Lib.hid r5
            have OR5 := Lib.hid (OR.out.only k5 (by omega))
            have DK5 := Lib.hid (DK.out.other k5 (by omega) hag.out)
            have RB5 := Lib.hid (RB1.out.only k5 (fun p hp => (HAP.out p hp).2.1))
            have BE5 := Lib.hid (BE.out.trans (k5.below (Nat.le_of_lt hgm2)))
            have OK5 := Lib.hid (OK.out.below (k5.below (Nat.le_of_lt hgm2)))
            clear r5 k5))
          have hzo5 : wr.heap.size < w5.heap.size := OR5.out.lt
          have kd := Lib.hid (fun W (hW : Below w5.heap.size w5 W) => do_any (DK5.out.to hW) o.what OK5.out.what o.n OK5.out.lo OK5.out.hi o.A o.c o.b.length o.b rfl (by have := HOB.out; omega) ((OK5.out.bs.sq.below (hW.mono (by omega))).more (by have := hW.size; omega)) OK5.out.bs.u
            (fun hn p hp => by obtain ⟨b, o', h1, h2⟩ := OK5.out.bs.lt hn; rw [h1] at hp; obtain rfl := Option.some.inj hp; show b ≠ w.heap.size; omega)
            (fun hn p q hp hq => by obtain ⟨b, o', h1, h2⟩ := OK5.out.bs.lt hn; rw [h1] at hp; obtain rfl := Option.some.inj hp; have := (own_at DK5.out.own q hq).1; show q.block ≠ b; omega))
          rw [HD.out] at kd
          refine wp_region_held_drew (S := (fun w' => RowAt w' wr.heap.size 38 o.C ∧ w'.cell? ⟨gm, 1, none⟩ = some (.int .i64 (D1.safe : Int)) ∧ w'.cell? ⟨gm, 3, none⟩ = some (.slice Am1 D1.l.length cm1) ∧ w'.cell? ⟨gm, 4, none⟩ = some (.bool D1.off))) (by kernel_rfl) ?_ (fun hHeld => ?_)
          · exact ⟨OR5.out, MR5.out.cells 1, MR5.out.cells 3, MR5.out.cells 4⟩
          refine takeD (i := 0) (oi := _) (v := ?vv1) (d := some 62) rfl (by kernel_rfl) (by kernel_rfl) (by kernel_rfl) (by kernel_rfl) (fun _ _ _ h => h) (Or.inl ⟨by kernel_rfl, ?_⟩) (by assumption) ?_
          rotate_left 1
          · intro W_ hSw; (try dsimp only at hSw); go_simp; (first | done | with_reducible rfl)
          try simp only [Act.put, List.setIfInBounds_toArray, List.set_cons_zero, List.set_cons_succ]
          refine takeD (i := 1) (oi := _) (v := _) (d := some 63) rfl (by kernel_rfl) (by kernel_rfl) (by kernel_rfl) (by kernel_rfl) (fun _ _ _ h => h) (yieldsIf_load_mid (by kernel_rfl) 38 (.tmp 10) (by kernel_rfl) wr.heap.size 0 (by kernel_rfl) o.C _ (fun W h => h.1.all) Try.underlying38 rfl size_dop) (by assumption) ?_
          try simp only [Act.put, List.setIfInBounds_toArray, List.set_cons_zero, List.set_cons_succ]
          refine takeD (i := 3) (oi := _) (v := ?vv2) (d := some 65) rfl (by kernel_rfl) (by kernel_rfl) (by kernel_rfl) (by kernel_rfl) (fun _ _ _ h => h) (Or.inl ⟨by kernel_rfl, ?_⟩) (by assumption) ?_
          rotate_left 1
          · intro W_ hSw; (try dsimp only at hSw); go_simp; (first | done | with_reducible rfl)
          try simp only [Act.put, List.setIfInBounds_toArray, List.set_cons_zero, List.set_cons_succ]
          refine wpAnyH_ready (rs := [2]) (by kernel_rfl) (by simp) ?_
          refine AllReadyH.cons (o := _) rfl (fun K hK => ?_) AllReadyH.nil
          go_simp
          (go_at_call 23; (with_reducible refine (kd.out _ (Below.refl _ _).drew).mono ?_); rintro e v1 ⟨rfl, Ad1, cd1, dk1, mv1, fr1⟩; have OV := Lib.hid (mv1.row OR5.out.drew (by omega) (fun p hp => by have := HAL.out p hp; omega)); have MV := Lib.hid (mv1.row MR5.out.drew (by omega) (fun p hp => hag.out p hp)); have RBV := Lib.hid ((RB5.out.to (Below.refl _ _).drew).moves mv1 (fun p hp => (HAP.out p hp).1) (fun p q hp hq => (HAP.out p hp).2.2.2 q hq)); have BEV := Lib.hid (BE5.out.drew.trans ((DK5.out.to (Below.refl _ _).drew).moves mv1)); have DKV := Lib.hid dk1; have hag1 : Hid (∀ q, Ad1 = some q → q.block ≠ gm) := Lib.hid (fun q hq => (by rcases fr1 with h | h; exact hag.out q (h.symm.trans hq); have h1 := h q hq; have h2 : gm < w5.heap.size := MR5.out.lt; simp at h1; omega)); have hap2 : Hid (∀ p, Am1 = some p → p.block ≠ w.heap.size ∧ p.block ≠ gm ∧ ∀ q, Ad1 = some q → q.block ≠ p.block) := Lib.hid (fun p hp => ⟨(HAP.out p hp).1, (HAP.out p hp).2.1, fun q hq => (by rcases fr1 with h | h; exact (HAP.out p hp).2.2.2 q (h.symm.trans hq); have h1 := h q hq; have h2 := RB5.out.lt p hp; simp at h1; omega)⟩); clear dk1 mv1 fr1)
          go_wp2_with fail
          refine hK.out _ _ ?_ (fun hHeld => ?_)
          · exact ⟨OV.out, MV.out.cells 1, MV.out.cells 3, MV.out.cells 4⟩
          clear hK K
          try simp only [Act.put, List.setIfInBounds_toArray, List.set_cons_zero, List.set_cons_succ]
          refine takeD (i := 4) (oi := _) (v := ?vv3) (d := some 66) rfl (by kernel_rfl) (by kernel_rfl) (by kernel_rfl) (by kernel_rfl) (fun _ _ _ h => h) (Or.inl ⟨by kernel_rfl, ?_⟩) (by assumption) ?_
          rotate_left 1
          · intro W_ hSw; (try dsimp only at hSw); go_simp; (first | done | with_reducible rfl)
          try simp only [Act.put, List.setIfInBounds_toArray, List.set_cons_zero, List.set_cons_succ]
          refine takeD (i := 5) (oi := _) (v := ?vv4) (d := some 67) rfl (by kernel_rfl) (by kernel_rfl) (by kernel_rfl) (by kernel_rfl) (fun _ _ _ h => h) (Or.inl ⟨by kernel_rfl, ?_⟩) (by assumption) ?_
          rotate_left 1
          · intro W_ hSw; (try dsimp only at hSw); go_simp; (first | done | with_reducible rfl)
          try simp only [Act.put, List.setIfInBounds_toArray, List.set_cons_zero, List.set_cons_succ]
          refine takeD (i := 6) (oi := _) (v := ?vv5) (d := some 68) rfl (by kernel_rfl) (by kernel_rfl) (by kernel_rfl) (by kernel_rfl) (fun _ _ _ h => h) (Or.inl ⟨by kernel_rfl, ?_⟩) (by assumption) ?_
          rotate_left 1
          · intro W_ hSw; (try dsimp only at hSw); go_simp; (first | done | with_reducible rfl)
          try simp only [Act.put, List.setIfInBounds_toArray, List.set_cons_zero, List.set_cons_succ]
          refine takeD (i := 8) (oi := _) (v := ?vv6) (d := some 70) rfl (by kernel_rfl) (by kernel_rfl) (by kernel_rfl) (by kernel_rfl) (fun _ _ _ h => h) (Or.inl ⟨by kernel_rfl, ?_⟩) (by assumption) ?_
          rotate_left 1
          · intro W_ hSw; (try dsimp only at hSw); go_simp; (first | done | with_reducible rfl)
          try simp only [Act.put, List.setIfInBounds_toArray, List.set_cons_zero, List.set_cons_succ]
          refine takeD (i := 9) (oi := _) (v := ?vv7) (d := some 71) rfl (by kernel_rfl) (by kernel_rfl) (by kernel_rfl) (by kernel_rfl) (fun _ _ _ h => h) (Or.inl ⟨by kernel_rfl, ?_⟩) (by assumption) ?_
          rotate_left 1
          · intro W_ hSw; (try dsimp only at hSw); go_simp; (first | done | with_reducible rfl)
          try simp only [Act.put, List.setIfInBounds_toArray, List.set_cons_zero, List.set_cons_succ]
          refine wpAnyH_ready (rs := [7]) (by kernel_rfl) (by simp) ?_
          refine AllReadyH.cons (o := _) rfl (fun K hK => ?_) AllReadyH.nil
          go_simp
          (go_at_call 11; (with_reducible refine (bytes_any DKV.out).mono ?_); rintro e v2 ⟨Ab, cb, rfl, ob, bb⟩; have OV2 := Lib.hid (OV.out.to bb); have MV2 := Lib.hid (MV.out.to bb); have RBV2 := Lib.hid (RBV.out.to bb); have BEV2 := Lib.hid (BEV.out.trans (bb.mono BEV.out.size)); have DKV2 := Lib.hid (DKV.out.to bb); have OB := Lib.hid ob; clear ob bb)
          go_wp2_with fail
          refine hK.out _ _ ?_ (fun hHeld => ?_)
          · exact ⟨OV2.out, MV2.out.cells 1, MV2.out.cells 3, MV2.out.cells 4⟩
          clear hK K
          try simp only [Act.put, List.setIfInBounds_toArray, List.set_cons_zero, List.set_cons_succ]
          refine wpAnyH_ready (rs := [10]) (by kernel_rfl) (by simp) ?_
          refine AllReadyH.cons (o := _) rfl (fun K hK => ?_) AllReadyH.nil
          go_simp
          (go_at_call 12; (with_reducible refine (same_by Ab Am1 D1.l D1.l cb cm1 D1.l.length D1.l.length true v2 rfl rfl (Sq.of_own OB.out) RBV2.out.sq DKV2.out.ok.u DKV2.out.ok.u (by simp)).mono ?_); rintro e v3 ⟨rfl, rfl⟩)
          go_wp2_with fail
          refine hK.out _ _ ?_ (fun hHeld => ?_)
          · exact ⟨OV2.out, MV2.out.cells 1, MV2.out.cells 3, MV2.out.cells 4⟩
          clear hK K
          try simp only [Act.put, List.setIfInBounds_toArray, List.set_cons_zero, List.set_cons_succ]
          refine takeD (i := 11) (oi := _) (v := ?vv8) (d := some 73) rfl (by kernel_rfl) (by kernel_rfl) (by kernel_rfl) (by kernel_rfl) (fun _ _ _ h => h) (Or.inl ⟨by kernel_rfl, ?_⟩) (by assumption) ?_
          rotate_left 1
          · intro W_ hSw; (try dsimp only at hSw); go_simp; (first | done | with_reducible rfl)
          try simp only [Act.put, List.setIfInBounds_toArray, List.set_cons_zero, List.set_cons_succ]
          refine takeD (i := 12) (oi := _) (v := ?vv9) (d := some 74) rfl (by kernel_rfl) (by kernel_rfl) (by kernel_rfl) (by kernel_rfl) (fun _ _ _ h => h) (Or.inl ⟨by kernel_rfl, ?_⟩) (by assumption) ?_
          rotate_left 1
          · intro W_ hSw; (try dsimp only at hSw); go_simp; (first | done | with_reducible rfl)
          try simp only [Act.put, List.setIfInBounds_toArray, List.set_cons_zero, List.set_cons_succ]
          refine takeD (i := 13) (oi := _) (v := ?vv10) (d := some 75) rfl (by kernel_rfl) (by kernel_rfl) (by kernel_rfl) (by kernel_rfl) (fun _ _ _ h => h) (Or.inl ⟨by kernel_rfl, ?_⟩) (by assumption) ?_
          rotate_left 1
          · intro W_ hSw; (try dsimp only at hSw); go_simp; (first | done | with_reducible rfl)
          try simp only [Act.put, List.setIfInBounds_toArray, List.set_cons_zero, List.set_cons_succ]
          refine takeD (i := 14) (oi := _) (v := ?vv11) (d := some 76) rfl (by kernel_rfl) (by kernel_rfl) (by kernel_rfl) (by kernel_rfl) (fun _ _ _ h => h) (Or.inl ⟨by kernel_rfl, ?_⟩) (by assumption) ?_
          rotate_left 1
          · intro W_ hSw; (try dsimp only at hSw); go_simp; (first | done | with_reducible rfl)
          try simp only [Act.put, List.setIfInBounds_toArray, List.set_cons_zero, List.set_cons_succ]
          refine takeD (i := 16) (oi := _) (v := ?vv12) (d := some 78) rfl (by kernel_rfl) (by kernel_rfl) (by kernel_rfl) (by kernel_rfl) (fun _ _ _ h => h) (Or.inl ⟨by kernel_rfl, ?_⟩) (by assumption) ?_
          rotate_left 1
          · intro W_ hSw; (try dsimp only at hSw); go_simp; (first | done | with_reducible rfl)
          try simp only [Act.put, List.setIfInBounds_toArray, List.set_cons_zero, List.set_cons_succ]
          refine takeD (i := 17) (oi := _) (v := ?vv13) (d := some 79) rfl (by kernel_rfl) (by kernel_rfl) (by kernel_rfl) (by kernel_rfl) (fun _ _ _ h => h) (Or.inl ⟨by kernel_rfl, ?_⟩) (by assumption) ?_
          rotate_left 1
          · intro W_ hSw; (try dsimp only at hSw); go_simp; (first | done | with_reducible rfl)
          try simp only [Act.put, List.setIfInBounds_toArray, List.set_cons_zero, List.set_cons_succ]
          refine takeD (i := 18) (oi := _) (v := ?vv14) (d := some 80) rfl (by kernel_rfl) (by kernel_rfl) (by kernel_rfl) (by kernel_rfl) (fun _ _ _ h => h) (Or.inl ⟨by kernel_rfl, ?_⟩) (by assumption) ?_
          rotate_left 1
          · intro W_ hSw; (try dsimp only at hSw); go_simp; (first | done | with_reducible rfl)
          try simp only [Act.put, List.setIfInBounds_toArray, List.set_cons_zero, List.set_cons_succ]
          refine wpAnyH_ready (rs := [15]) (by kernel_rfl) (by simp) ?_
          refine AllReadyH.cons (o := _) rfl (fun K hK => ?_) AllReadyH.nil
          go_simp
          (go_at_call 15; (with_reducible refine (len_any DKV2.out).mono ?_); rintro e v3 ⟨rfl, rfl⟩)
          go_wp2_with fail
          refine hK.out _ _ ?_ (fun hHeld => ?_)
          · exact ⟨OV2.out, MV2.out.cells 1, MV2.out.cells 3, MV2.out.cells 4⟩
          clear hK K
          try simp only [Act.put, List.setIfInBounds_toArray, List.set_cons_zero, List.set_cons_succ]
          refine takeD (i := 19) (oi := _) (v := ?vv15) (d := some 81) rfl (by kernel_rfl) (by kernel_rfl) (by kernel_rfl) (by kernel_rfl) (fun _ _ _ h => h) (Or.inl ⟨by kernel_rfl, ?_⟩) (by assumption) ?_
          rotate_left 1
          · intro W_ hSw; (try dsimp only at hSw); go_simp; (first | done | with_reducible rfl)
          try simp only [Act.put, List.setIfInBounds_toArray, List.set_cons_zero, List.set_cons_succ]
          refine takeD (i := 20) (oi := _) (v := ?vv16) (d := some 82) rfl (by kernel_rfl) (by kernel_rfl) (by kernel_rfl) (by kernel_rfl) (fun _ _ _ h => h) (Or.inl ⟨by kernel_rfl, ?_⟩) (by assumption) ?_
          rotate_left 1
          · intro W_ hSw; (try dsimp only at hSw); go_simp; (first | done | with_reducible rfl)
          try simp only [Act.put, List.setIfInBounds_toArray, List.set_cons_zero, List.set_cons_succ]
          refine takeD (i := 21) (oi := _) (v := ?vv17) (d := some 83) rfl (by kernel_rfl) (by kernel_rfl) (by kernel_rfl) (by kernel_rfl) (fun _ _ _ h => h) (Or.inl ⟨by kernel_rfl, ?_⟩) (by assumption) ?_
          rotate_left 1
          · intro W_ hSw; (try dsimp only at hSw); go_simp; (first | done | with_reducible rfl)
          try simp only [Act.put, List.setIfInBounds_toArray, List.set_cons_zero, List.set_cons_succ]
          refine takeD (i := 22) (oi := _) (v := ?vv18) (d := some 84) rfl (by kernel_rfl) (by kernel_rfl) (by kernel_rfl) (by kernel_rfl) (fun _ _ _ h => h) (Or.inl ⟨by kernel_rfl, ?_⟩) (by assumption) ?_
          rotate_left 1
          · intro W_ hSw; (try dsimp only at hSw); go_simp; (first | done | with_reducible rfl)
          try simp only [Act.put, List.setIfInBounds_toArray, List.set_cons_zero, List.set_cons_succ]
          refine takeD (i := 24) (oi := _) (v := ?vv19) (d := some 86) rfl (by kernel_rfl) (by kernel_rfl) (by kernel_rfl) (by kernel_rfl) (fun _ _ _ h => h) (Or.inl ⟨by kernel_rfl, ?_⟩) (by assumption) ?_
          rotate_left 1
          · intro W_ hSw; (try dsimp only at hSw); go_simp; (first | done | with_reducible rfl)
          try simp only [Act.put, List.setIfInBounds_toArray, List.set_cons_zero, List.set_cons_succ]
          refine takeD (i := 25) (oi := _) (v := ?vv20) (d := some 87) rfl (by kernel_rfl) (by kernel_rfl) (by kernel_rfl) (by kernel_rfl) (fun _ _ _ h => h) (Or.inl ⟨by kernel_rfl, ?_⟩) (by assumption) ?_
          rotate_left 1
          · intro W_ hSw; (try dsimp only at hSw); go_simp; (first | done | with_reducible rfl)
          try simp only [Act.put, List.setIfInBounds_toArray, List.set_cons_zero, List.set_cons_succ]
          refine wpAnyH_ready (rs := [23]) (by kernel_rfl) (by simp) ?_
          refine AllReadyH.cons (o := _) rfl (fun K hK => ?_) AllReadyH.nil
          go_simp
          (go_at_call 20; (with_reducible refine (safe_any DKV2.out).mono ?_); rintro e v3 ⟨rfl, rfl⟩)
          go_wp2_with fail
          refine hK.out _ _ ?_ (fun hHeld => ?_)
          · exact ⟨OV2.out, MV2.out.cells 1, MV2.out.cells 3, MV2.out.cells 4⟩
          clear hK K
          try simp only [Act.put, List.setIfInBounds_toArray, List.set_cons_zero, List.set_cons_succ]
          refine takeD (i := 26) (oi := _) (v := ?vv21) (d := some 88) rfl (by kernel_rfl) (by kernel_rfl) (by kernel_rfl) (by kernel_rfl) (fun _ _ _ h => h) (Or.inl ⟨by kernel_rfl, ?_⟩) (by assumption) ?_
          rotate_left 1
          · intro W_ hSw; (try dsimp only at hSw); go_simp; (first | done | with_reducible rfl)
          try simp only [Act.put, List.setIfInBounds_toArray, List.set_cons_zero, List.set_cons_succ]
          refine takeD (i := 27) (oi := _) (v := ?vv22) (d := some 89) rfl (by kernel_rfl) (by kernel_rfl) (by kernel_rfl) (by kernel_rfl) (fun _ _ _ h => h) (Or.inl ⟨by kernel_rfl, ?_⟩) (by assumption) ?_
          rotate_left 1
          · intro W_ hSw; (try dsimp only at hSw); go_simp; (first | done | with_reducible rfl)
          try simp only [Act.put, List.setIfInBounds_toArray, List.set_cons_zero, List.set_cons_succ]
          refine takeD (i := 28) (oi := _) (v := ?vv23) (d := some 90) rfl (by kernel_rfl) (by kernel_rfl) (by kernel_rfl) (by kernel_rfl) (fun _ _ _ h => h) (Or.inl ⟨by kernel_rfl, ?_⟩) (by assumption) ?_
          rotate_left 1
          · intro W_ hSw; (try dsimp only at hSw); go_simp; (first | done | with_reducible rfl)
          try simp only [Act.put, List.setIfInBounds_toArray, List.set_cons_zero, List.set_cons_succ]
          refine takeD (i := 29) (oi := _) (v := ?vv24) (d := some 91) rfl (by kernel_rfl) (by kernel_rfl) (by kernel_rfl) (by kernel_rfl) (fun _ _ _ h => h) (Or.inl ⟨by kernel_rfl, ?_⟩) (by assumption) ?_
          rotate_left 1
          · intro W_ hSw; (try dsimp only at hSw); go_simp; (first | done | with_reducible rfl)
          try simp only [Act.put, List.setIfInBounds_toArray, List.set_cons_zero, List.set_cons_succ]
          refine takeD (i := 31) (oi := _) (v := ?vv25) (d := some 93) rfl (by kernel_rfl) (by kernel_rfl) (by kernel_rfl) (by kernel_rfl) (fun _ _ _ h => h) (Or.inl ⟨by kernel_rfl, ?_⟩) (by assumption) ?_
          rotate_left 1
          · intro W_ hSw; (try dsimp only at hSw); go_simp; (first | done | with_reducible rfl)
          try simp only [Act.put, List.setIfInBounds_toArray, List.set_cons_zero, List.set_cons_succ]
          refine wpAnyH_ready (rs := [30]) (by kernel_rfl) (by simp) ?_
          refine AllReadyH.cons (o := _) rfl (fun K hK => ?_) AllReadyH.nil
          go_simp
          (go_at_call 24; (with_reducible refine (room_any DKV2.out).mono ?_); rintro e v3 ⟨rfl, rfl⟩; rw [HR1.out])
          go_wp2_with fail
          refine hK.out _ _ ?_ (fun hHeld => ?_)
          · exact ⟨OV2.out, MV2.out.cells 1, MV2.out.cells 3, MV2.out.cells 4⟩
          clear hK K
          try simp only [Act.put, List.setIfInBounds_toArray, List.set_cons_zero, List.set_cons_succ]
          refine takeD (i := 32) (oi := _) (v := ?vv26) (d := some 94) rfl (by kernel_rfl) (by kernel_rfl) (by kernel_rfl) (by kernel_rfl) (fun _ _ _ h => h) (Or.inl ⟨by kernel_rfl, ?_⟩) (by assumption) ?_
          rotate_left 1
          · intro W_ hSw; (try dsimp only at hSw); go_simp; (first | done | with_reducible rfl)
          try simp only [Act.put, List.setIfInBounds_toArray, List.set_cons_zero, List.set_cons_succ]
          refine takeD (i := 33) (oi := _) (v := ?vv27) (d := some 95) rfl (by kernel_rfl) (by kernel_rfl) (by kernel_rfl) (by kernel_rfl) (fun _ _ _ h => h) (Or.inl ⟨by kernel_rfl, ?_⟩) (by assumption) ?_
          rotate_left 1
          · intro W_ hSw; (try dsimp only at hSw); go_simp; (first | done | with_reducible rfl)
          try simp only [Act.put, List.setIfInBounds_toArray, List.set_cons_zero, List.set_cons_succ]
          refine takeD (i := 34) (oi := _) (v := ?vv28) (d := some 96) rfl (by kernel_rfl) (by kernel_rfl) (by kernel_rfl) (by kernel_rfl) (fun _ _ _ h => h) (Or.inl ⟨by kernel_rfl, ?_⟩) (by assumption) ?_
          rotate_left 1
          · intro W_ hSw; (try dsimp only at hSw); go_simp; (first | done | with_reducible rfl)
          try simp only [Act.put, List.setIfInBounds_toArray, List.set_cons_zero, List.set_cons_succ]
          refine takeD (i := 35) (oi := _) (v := ?vv29) (d := some 97) rfl (by kernel_rfl) (by kernel_rfl) (by kernel_rfl) (by kernel_rfl) (fun _ _ _ h => h) (Or.inl ⟨by kernel_rfl, ?_⟩) (by assumption) ?_
          rotate_left 1
          · intro W_ hSw; (try dsimp only at hSw); go_simp; (first | done | with_reducible rfl)
          try simp only [Act.put, List.setIfInBounds_toArray, List.set_cons_zero, List.set_cons_succ]
          refine takeD (i := 37) (oi := _) (v := ?vv30) (d := some 99) rfl (by kernel_rfl) (by kernel_rfl) (by kernel_rfl) (by kernel_rfl) (fun _ _ _ h => h) (Or.inl ⟨by kernel_rfl, ?_⟩) (by assumption) ?_
          rotate_left 1
          · intro W_ hSw; (try dsimp only at hSw); go_simp; (first | done | with_reducible rfl)
          try simp only [Act.put, List.setIfInBounds_toArray, List.set_cons_zero, List.set_cons_succ]
          refine takeD (i := 38) (oi := _) (v := ?vv31) (d := some 100) rfl (by kernel_rfl) (by kernel_rfl) (by kernel_rfl) (by kernel_rfl) (fun _ _ _ h => h) (Or.inl ⟨by kernel_rfl, ?_⟩) (by assumption) ?_
          rotate_left 1
          · intro W_ hSw; (try dsimp only at hSw); go_simp; (first | done | with_reducible rfl)
          try simp only [Act.put, List.setIfInBounds_toArray, List.set_cons_zero, List.set_cons_succ]
          refine wpAnyH_ready (rs := [36]) (by kernel_rfl) (by simp) ?_
          refine AllReadyH.cons (o := _) rfl (fun K hK => ?_) AllReadyH.nil
          go_simp
          (go_at_call 16; (with_reducible refine (off_any DKV2.out).mono ?_); rintro e v3 ⟨rfl, rfl⟩)
          go_wp2_with fail
          refine hK.out _ _ ?_ (fun hHeld => ?_)
          · exact ⟨OV2.out, MV2.out.cells 1, MV2.out.cells 3, MV2.out.cells 4⟩
          clear hK K
          try simp only [Act.put, List.setIfInBounds_toArray, List.set_cons_zero, List.set_cons_succ]
          refine takeD (i := 39) (oi := _) (v := ?vv32) (d := some 101) rfl (by kernel_rfl) (by kernel_rfl) (by kernel_rfl) (by kernel_rfl) (fun _ _ _ h => h) (Or.inl ⟨by kernel_rfl, ?_⟩) (by assumption) ?_
          rotate_left 1
          · intro W_ hSw; (try dsimp only at hSw); go_simp; (first | done | with_reducible rfl)
          try simp only [Act.put, List.setIfInBounds_toArray, List.set_cons_zero, List.set_cons_succ]
          refine takeD (i := 40) (oi := _) (v := ?vv33) (d := some 102) rfl (by kernel_rfl) (by kernel_rfl) (by kernel_rfl) (by kernel_rfl) (fun _ _ _ h => h) (Or.inl ⟨by kernel_rfl, ?_⟩) (by assumption) ?_
          rotate_left 1
          · intro W_ hSw; (try dsimp only at hSw); go_simp; (first | done | with_reducible rfl)
          try simp only [Act.put, List.setIfInBounds_toArray, List.set_cons_zero, List.set_cons_succ]
          refine wpAnyH_done (by kernel_rfl) ?_ _
          clear kd
          go_wp2
          go_roundw
          case rel => exact ⟨k + 1, D1, Ad1, cd1, Am1, cm1, by omega, by go_num, DKV2.out, MV2.out, RBV2.out, hap2, hag1, HR1, BEV2.out⟩
          case measure => simp [intOf]; omega
        · obtain rfl : k = n := by omega
          have BE := Lib.hid hbe
          go_wp2_with fail
          refine (kw.out _).mono ?_
          rintro e w7 ⟨rfl, b7⟩
          go_wp2
          go_ret
          exact ⟨rfl, BE.out.trans (b7.mono BE.out.size)⟩
    · rw [if_neg hL] at hif
      subst hif
      go_wp2_with fail
      refine (kw.out _).mono ?_
      rintro e_x1 w_x1 ⟨rfl, hb_x1⟩
      obtain ⟨x1, rfl⟩ := later_is hb_x1
      clear hb_x1
      have hz_x1 := x1.bel.size
      try simp at hz_x1
      go_wp2
      go_ret
      have BW := B1.out
      exact ⟨rfl, Below.trans BW (x1.bel.mono BW.size)⟩
end Go.Proofs.Ytpjdgnoekplldaa
