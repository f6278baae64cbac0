/- Layer 10: Open. -/
import Derived.Test.YtalaobpehkgilaaNvLog
namespace Go.Proofs.Ytalaobpehkgilaa
open Go.RowKit
set_option linter.unusedVariables false
attribute [local go_sem] Later.cell Later.frozen setCell_twice
/-- the second half of opening: a syncing -/
def Dk.lopen2 (D : Dk) (rs : List Nr) : Dk × List Nr × Int := if (D.sync).2 = 0 then ((D.sync).1, rs, 0) else ((D.sync).1, [], (D.sync).2)
/-- a log opened upon a disk: the disk, the records, an error -/
def Dk.lopen (D : Dk) : Dk × List Nr × Int :=
  if (Nr.read D.l).2 < D.l.length then
    (if (D.cut ((Nr.read D.l).2 : Nat)).2 = 0 then (D.cut ((Nr.read D.l).2 : Nat)).1.lopen2 (Nr.read D.l).1 else ((D.cut ((Nr.read D.l).2 : Nat)).1, [], (D.cut ((Nr.read D.l).2 : Nat)).2))
  else D.lopen2 (Nr.read D.l).1
theorem Dk.lopen_ok {D : Dk} (h : D.Ok) : (D.lopen).1.Ok := by
  have h1 := cut_ok h ((Nr.read D.l).2 : Nat)
  unfold Dk.lopen Dk.lopen2
  split
  · split
    · split
      · exact sync_ok h1
      · exact sync_ok h1
    · exact h1
  · split
    · exact sync_ok h
    · exact sync_ok h
/-- nothing of a list lies in block b -/
def Kind.Apart {α : Type} (K : Kind α) (b : Nat) (A : Option Addr) (l : List α) : Prop := (∀ q, A = some q → q.block ≠ b) ∧ ∀ a ∈ l, 0 < (K.l a).length → ∀ q, K.A a = some q → q.block ≠ b
section
variable {α : Type} {K : Kind α} {w w' : World} {base n c : Nat} {e : TypeId} {A : Option Addr} {l : List α}
theorem Olist.apart_new (h : Olist K w base e A n c l) {b : Nat} (hb : w.heap.size ≤ b) : K.Apart b A l :=
  ⟨fun q hq => by have := (own_at_s h.own q hq).2.1; omega, fun a ha hn q hq => by
    obtain ⟨b', o, hA, hb', _⟩ := h.ok a ha hn
    rw [hq] at hA
    obtain rfl := Option.some.inj hA
    show b' ≠ b
    omega⟩
theorem Olist.moves {g : Nat} {A2 : Option Addr} (h : Olist K w base e A n c l) (k : Moves g A2 w w') (h1 : K.Apart g A l) (h2 : ∀ p, A2 = some p → K.Apart p.block A l) : Olist K w' base e A n c l := by
  refine ⟨h.len, ?_, fun a ha hn => ?_, h.off⟩
  · obtain ⟨e1, e2⟩ := h.own
    refine ⟨e1, ?_⟩
    rcases e2 with e2 | ⟨gg, cap, cur, hv, hb, hh, r⟩
    · exact .inl e2
    · have hA : A = some ⟨gg, 0, none⟩ := by simp at hv; exact hv.1
      exact .inr ⟨gg, cap, cur, hv, hb, (k.block gg (Array.getElem?_eq_some_iff.1 hh).1 (h1.1 _ hA) (fun p hp e => (h2 p hp).1 _ hA e.symm)).trans hh, r⟩
  · obtain ⟨b, o, hA, hb, hc⟩ := h.ok a ha hn
    exact ⟨b, o, hA, Nat.lt_of_lt_of_le hb k.size, fun j x hx => (World.cell?_of_block (a := ⟨b, o + j, none⟩) (k.block b hb (h1.2 a ha hn _ hA) (fun p hp e => (h2 p hp).2 a ha hn _ hA e.symm))).trans (hc j x hx)⟩
end
theorem Kind.Apart.nil {α : Type} (K : Kind α) (b : Nat) : K.Apart b none [] := ⟨(fun q hq => by cases hq), by simp⟩
def OpenP (w : World) (B gd : Nat) (A : Option Addr) (r : Dk × List Nr × Int) (e : Ending) (w' : World) : Prop :=
  ∃ (A' : Option Addr) (c' : Nat) (pl : Option Addr) (Ar : Option Addr) (m cr : Nat) (rs : List Rc), DkAt w' B gd A' c' r.1 ∧ Moves gd A w w' ∧ (A' = A ∨ ∀ p, A' = some p → w.heap.size ≤ p.block)
    ∧ e = .returned (.tuple #[.pointer pl, .slice Ar m cr, .int .i64 r.2.2]) ∧ Olist recK w' w.heap.size 35 Ar m cr rs ∧ rs.map Rc.p = r.2.1 ∧ (∀ x ∈ rs, x.Nl ∧ x.In w.heap.size)
    ∧ recK.Apart gd Ar rs ∧ (∀ p, A' = some p → recK.Apart p.block Ar rs)
    ∧ (r.2.2 = 0 → ∃ gl, pl = some ⟨gl, 0, none⟩ ∧ LogAt w' gl gd ∧ w.heap.size ≤ gl ∧ (∀ p, A' = some p → p.block ≠ gl) ∧ ∀ q, Ar = some q → q.block ≠ gl) ∧ (r.2.2 ≠ 0 → pl = none)
section
variable {w : World} {B gd c : Nat} {A : Option Addr} {D : Dk}
set_option maxRecDepth 100000 in
set_option maxHeartbeats 1000000 in
theorem open_any (h : DkAt w B gd A c D) :
    Calls Try.prog 5 #[.pointer (some ⟨gd, 0, none⟩)] w (OpenP w B gd A D.lopen) := by
  have DK0 := Lib.hid h
  have hlen : D.l.length ≤ 262144 := Nat.le_trans h.ok.room h.ok.hi
  have HAB : Hid (∀ p, A = some p → p.block < w.heap.size) := Lib.hid (fun p hp => (own_at h.own p hp).2.1)
  have hgd : gd < w.heap.size := h.lt
  obtain ⟨q, hq⟩ : ∃ q, D.l.length = q := ⟨_, rfl⟩
  rw [hq] at hlen
  have HQ := Lib.hid hq
  obtain ⟨rb, n, hrd⟩ : ∃ rb n, Nr.read D.l = (rb, n) := ⟨_, _, rfl⟩
  have hnq : n ≤ q := by have := Nr.read_le D.l; rw [hrd, hq] at this; exact this
  have HRD := Lib.hid hrd
  have HU := Lib.hid h.ok.u
  clear h hq hrd
  obtain ⟨R, hR⟩ : ∃ R, D.lopen = R := ⟨_, rfl⟩
  rw [hR]
  have HR := Lib.hid hR
  clear hR
  go_enter Try.func5, Try.ntmps5
  go_wp2_with fail
  refine (bytes_any DK0.out).mono ?_
  rintro e w1 ⟨Ab, cb, rfl, ob, b1⟩
  rw [HQ.out] at ob ⊢
  have DK1 := Lib.hid (DK0.out.to b1)
  have hlt1 := b1.size
  have MV1 := Lib.hid (Moves.of_below (g := gd) (A := A) b1)
  have hnl := own_nil_c ob
  have hcap := own_cap ob
  have kr := nread_any Ab cb q D.l HQ.out w1 (Sq.of_own ob) HU.out hnl.1 hnl.2 hcap (by omega)
  clear b1 ob DK0 hnl
  go_wp2_with fail
  refine kr.mono ?_
  rintro e w2 ⟨Ar, cr, m, rs, rfl, ol, hrs, hnls, b2⟩
  rw [HRD.out] at hrs ⊢
  have DK := Lib.hid (DK1.out.to b2)
  have OL := Lib.hid (ol.base_le hlt1)
  have HRS := Lib.hid hrs
  have HNL : Hid (∀ x ∈ rs, x.Nl ∧ x.In w.heap.size) := Lib.hid (fun x hx => ⟨(hnls x hx).1, fun p hp => Nat.le_trans hlt1 ((hnls x hx).2 p hp)⟩)
  have MV := Lib.hid (MV1.out.trans (.inl rfl) (.of_below b2))
  have hlt2 : w.heap.size ≤ w2.heap.size := Nat.le_trans hlt1 b2.size
  have hol : ∀ p, Ar = some p → w.heap.size ≤ p.block := fun p hp => (own_at_s OL.out.own p hp).1
  clear kr ol hrs hnls b2 DK1 MV1 hcap
  have hgdA : recK.Apart gd Ar rs := ⟨fun q hq => by have := hol q hq; omega, fun a ha hn q hq => by have := (HNL.out a ha).2 q hq; omega⟩
  have hapA : ∀ p, A = some p → recK.Apart p.block Ar rs := fun p hp => by
    have h1 := HAB.out p hp
    exact ⟨fun q hq => by have := hol q hq; omega, fun a ha hn q hq => by have := (HNL.out a ha).2 q hq; omega⟩
  have APG := Lib.hid hgdA
  have APA := Lib.hid hapA
  clear hol hgdA hapA
  by_cases hnq2 : n < q
  · have g1 : decide (n < q) = true := decide_eq_true hnq2
    obtain ⟨Dc, E1, hc⟩ : ∃ Dc E1, D.cut (n : Int) = (Dc, E1) := ⟨_, _, rfl⟩
    have kc := cut_any DK.out (n : Int) (by omega) (by omega)
    rw [hc] at kc
    have HRC : Hid (R = if E1 = 0 then Dc.lopen2 rb else (Dc, [], E1)) := Lib.hid (by rw [← HR.out, Dk.lopen, HRD.out, HQ.out, if_pos hnq2]; simp only [hc])
    clear hc
    go_wp2_with fail
    refine kc.mono ?_
    clear kc
    rintro e w4 ⟨rfl, Ad1, cd1, dk1, mv1, fr1⟩
    have FR : Hid (Ad1 = A ∨ ∀ p, Ad1 = some p → w.heap.size ≤ p.block) := Lib.hid (fr1.imp id (fun f p hp => by have := f p hp; omega))
    have APA1 : Hid (∀ p, Ad1 = some p → recK.Apart p.block Ar rs) := Lib.hid (fun p hp => by rcases fr1 with f | f; exact APA.out p (f.symm.trans hp); exact OL.out.apart_new (f p hp))
    replace OL := Lib.hid (OL.out.moves mv1 APG.out APA.out)
    replace MV := Lib.hid (MV.out.trans (.inl rfl) mv1)
    replace DK := Lib.hid dk1
    replace APA := APA1
    clear dk1 mv1 fr1 APA1
    by_cases hE1 : E1 = 0
    · subst hE1
      have HRX : Hid (R = Dc.lopen2 rb) := Lib.hid (by rw [HRC.out, if_pos rfl])
      obtain ⟨D2, E2, hs⟩ : ∃ D2 E2, Dc.sync = (D2, E2) := ⟨_, _, rfl⟩
      have ks := sync_any DK.out
      rw [hs] at ks
      have HS := Lib.hid hs
      clear hs
      go_wp2_with fail
      refine ks.mono ?_
      clear ks
      rintro e w5 ⟨rfl, Ad2, cd2, dk2, mv2, fr2⟩
      have DK5 := Lib.hid dk2
      have MV5 := Lib.hid (MV.out.trans FR.out mv2)
      have FR5 : Hid (Ad2 = A ∨ ∀ p, Ad2 = some p → w.heap.size ≤ p.block) := Lib.hid (by rcases fr2 with f | f; rw [f]; exact FR.out; exact .inr (fun p hp => by have := f p hp; have := MV.out.size; omega))
      have OL5 := Lib.hid (OL.out.moves mv2 APG.out APA.out)
      have APA5 : Hid (∀ p, Ad2 = some p → recK.Apart p.block Ar rs) := Lib.hid (fun p hp => by rcases fr2 with f | f; exact APA.out p (f.symm.trans hp); exact OL.out.apart_new (f p hp))
      clear dk2 mv2 fr2 DK MV OL APA
      by_cases hE : E2 = 0
      · subst hE
        obtain rfl : R = (D2, rb, 0) := by rw [HRX.out, Dk.lopen2, HS.out, if_pos rfl]
        go_wp2
        go_ret3
        have h5 := MV5.out.size
        exact ⟨Ad2, cd2, some ⟨w5.heap.size, 0, none⟩, Ar, m, cr, rs, DK5.out.to (bel_alloc (Below.refl _ _) _), MV5.out.alloc _, FR5.out, rfl, OL5.out.to (bel_alloc (Below.refl _ _) _), HRS.out, HNL.out, APG.out, APA5.out, fun _ => ⟨w5.heap.size, rfl, RowAt.new' w5 _ _ [.pointer (some ⟨w5.heap.size, 0, none⟩), .pointer (some ⟨gd, 0, none⟩)] rfl, h5, (fun p hp => by have := (own_at DK5.out.own p hp).2.1; omega), fun q hq => by have := (own_at_s OL5.out.own q hq).2.1; omega⟩, fun h => absurd rfl h⟩
      · have gE : (E2 != 0) = true := by simpa using hE
        obtain rfl : R = (D2, [], E2) := by rw [HRX.out, Dk.lopen2, HS.out, if_neg hE]
        have HEE := Lib.hid hE
        clear hE
        go_wp2
        go_ret3
        exact ⟨Ad2, cd2, none, none, 0, 0, [], DK5.out, MV5.out, FR5.out, rfl, Olist.nil _ _ _ _, rfl, by simp, Kind.Apart.nil _ _, fun _ _ => Kind.Apart.nil _ _, fun h => absurd h HEE.out, fun _ => rfl⟩
    · have gE : (E1 != 0) = true := by simpa using hE1
      obtain rfl : R = (Dc, [], E1) := by rw [HRC.out, if_neg hE1]
      have HEE := Lib.hid hE1
      clear hE1
      go_wp2
      go_ret3
      exact ⟨Ad1, cd1, none, none, 0, 0, [], DK.out, MV.out, FR.out, rfl, Olist.nil _ _ _ _, rfl, by simp, Kind.Apart.nil _ _, fun _ _ => Kind.Apart.nil _ _, fun h => absurd h HEE.out, fun _ => rfl⟩
  · have g1 : decide (n < q) = false := decide_eq_false hnq2
    have HRX : Hid (R = D.lopen2 rb) := Lib.hid (by rw [← HR.out, Dk.lopen, HRD.out, HQ.out, if_neg hnq2])
    obtain ⟨Ac, hAc⟩ : ∃ Ac, Ac = A := ⟨_, rfl⟩
    have FR : Hid (Ac = A ∨ ∀ p, Ac = some p → w.heap.size ≤ p.block) := Lib.hid (.inl hAc)
    rw [← hAc] at DK APA
    clear hAc
    obtain ⟨Dc, hDc⟩ : ∃ Dc, Dc = D := ⟨_, rfl⟩
    rw [← hDc] at DK HRX
    clear hDc
    obtain ⟨D2, E2, hs⟩ : ∃ D2 E2, Dc.sync = (D2, E2) := ⟨_, _, rfl⟩
    have ks := sync_any DK.out
    rw [hs] at ks
    have HS := Lib.hid hs
    clear hs
    go_wp2_with fail
    refine ks.mono ?_
    clear ks
    rintro e w5 ⟨rfl, Ad2, cd2, dk2, mv2, fr2⟩
    have DK5 := Lib.hid dk2
    have MV5 := Lib.hid (MV.out.trans FR.out mv2)
    have FR5 : Hid (Ad2 = A ∨ ∀ p, Ad2 = some p → w.heap.size ≤ p.block) := Lib.hid (by rcases fr2 with f | f; rw [f]; exact FR.out; exact .inr (fun p hp => by have := f p hp; have := MV.out.size; omega))
    have OL5 := Lib.hid (OL.out.moves mv2 APG.out APA.out)
    have APA5 : Hid (∀ p, Ad2 = some p → recK.Apart p.block Ar rs) := Lib.hid (fun p hp => by rcases fr2 with f | f; exact APA.out p (f.symm.trans hp); exact OL.out.apart_new (f p hp))
    clear dk2 mv2 fr2 DK MV OL APA
    by_cases hE : E2 = 0
    · subst hE
      obtain rfl : R = (D2, rb, 0) := by rw [HRX.out, Dk.lopen2, HS.out, if_pos rfl]
      go_wp2
      go_ret3
      have h5 := MV5.out.size
      exact ⟨Ad2, cd2, some ⟨w5.heap.size, 0, none⟩, Ar, m, cr, rs, DK5.out.to (bel_alloc (Below.refl _ _) _), MV5.out.alloc _, FR5.out, rfl, OL5.out.to (bel_alloc (Below.refl _ _) _), HRS.out, HNL.out, APG.out, APA5.out, fun _ => ⟨w5.heap.size, rfl, RowAt.new' w5 _ _ [.pointer (some ⟨w5.heap.size, 0, none⟩), .pointer (some ⟨gd, 0, none⟩)] rfl, h5, (fun p hp => by have := (own_at DK5.out.own p hp).2.1; omega), fun q hq => by have := (own_at_s OL5.out.own q hq).2.1; omega⟩, fun h => absurd rfl h⟩
    · have gE : (E2 != 0) = true := by simpa using hE
      obtain rfl : R = (D2, [], E2) := by rw [HRX.out, Dk.lopen2, HS.out, if_neg hE]
      have HEE := Lib.hid hE
      clear hE
      go_wp2
      go_ret3
      exact ⟨Ad2, cd2, none, none, 0, 0, [], DK5.out, MV5.out, FR5.out, rfl, Olist.nil _ _ _ _, rfl, by simp, Kind.Apart.nil _ _, fun _ _ => Kind.Apart.nil _ _, fun h => absurd h HEE.out, fun _ => rfl⟩
end
end Go.Proofs.Ytalaobpehkgilaa
