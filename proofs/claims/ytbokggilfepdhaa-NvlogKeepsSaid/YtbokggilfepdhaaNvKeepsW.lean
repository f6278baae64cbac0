/- NvlogKeeps: the walk (printed by genkeeps.py). -/
import Derived.Test.YtbokggilfepdhaaNvOp
import Derived.Test.YtbokggilfepdhaaNvSame
import Derived.Test.YtbokggilfepdhaaNvAwk
import Derived.Test.YtbokggilfepdhaaNvKLaw
import Derived.Test.YtbokggilfepdhaaAppRN
namespace Go.Proofs.Ytbokggilfepdhaa
open Go.RowKit
set_option linter.unusedVariables false
attribute [local go_sem] Later.cell Later.frozen setCell_twice
theorem Dk.lopen_new (r : Nat) : (Dk.new r).lopen = (Dk.new r, [], 0) := by
  unfold Dk.lopen
  rw [show Nr.read (Dk.new r).l = ([], 0) from Nr.read_nil]
  rfl
theorem own_grown1 {w w' : World} {B e s n c : Nat} {A : Option Addr} {xs : List Value} {row : Option Nat} (h : w.ownsRow B e s (.slice A n c) n xs) (hg : w.grownBy w' row) (ho : ∀ p, A = some p → some p.block ≠ row) : w'.ownsRow B e s (.slice A n c) n xs := by
  obtain ⟨h1, h2⟩ := h
  refine ⟨h1, ?_⟩
  rcases h2 with h2 | ⟨g, cap, cur, hv, hB, hh, r⟩
  · exact .inl h2
  · have hA : A = some ⟨g, 0, none⟩ := by simp at hv; exact hv.1
    exact .inr ⟨g, cap, cur, hv, hB, (hg.block g (Array.getElem?_eq_some_iff.1 hh).1 (ho _ hA)).trans hh, r⟩
theorem DkAt.grown {w w' : World} {B g c : Nat} {A : Option Addr} {D : Dk} {row : Option Nat} (h : DkAt w B g A c D) (k : w.grownBy w' row) (hg : some g ≠ row) (hA : ∀ p, A = some p → some p.block ≠ row) : DkAt w' B g A c D :=
  ⟨h.row.grown k hg, own_grown1 h.own k hA, h.base, h.ok, h.ne⟩
theorem not_row {A : Option Addr} {n c b : Nat} (h : ∀ q, A = some q → q.block ≠ b) : some b ≠ (Value.slice A n c).ownBlock := fun e => by
  obtain ⟨q, hq, hb⟩ := ownBlock_slice A n c b e.symm
  exact h q hq hb
theorem apart_push {b N : Nat} {Ah A4 : Option Addr} {hs : List Rc} {x : Rc} (h : recK.Apart b Ah hs) (wh : ∀ q, A4 = some q → (∃ q0, Ah = some q0 ∧ q0.block = q.block) ∨ N ≤ q.block) (hb : b < N) (hx : 0 < x.p.text.length → ∀ q, x.A = some q → q.block ≠ b) : recK.Apart b A4 (hs ++ [x]) := by
  refine ⟨fun q hq => ?_, fun a ha hn q hq => ?_⟩
  · rcases wh q hq with ⟨q0, h0, h1⟩ | h1
    · rw [← h1]; exact h.1 q0 h0
    · omega
  · rcases List.mem_append.1 ha with ha | ha
    · exact h.2 a ha hn q hq
    · obtain rfl := List.mem_singleton.1 ha
      exact hx hn q hq
theorem below_of_new {w w' : World} (k : w.grownBy w' (Value.slice none 0 0).ownBlock) : Below w.heap.size w w' := (Below.refl _ _).grown k (Nat.le_refl _) (fun g hg => by simp [Value.ownBlock] at hg)
theorem text_lt {w : World} {B b : Nat} {x : Rc} (h : RcOk w B x) (hb : B ≤ b) : 0 < x.p.text.length → ∀ q, x.A = some q → q.block ≠ b := fun hn q hq => by
  obtain ⟨b', o', hA, hb', _⟩ := h.sq hn
  rw [hq] at hA
  obtain rfl := Option.some.inj hA
  show b' ≠ b
  omega
theorem own_empty_s (w : World) (e : TypeId) (s : Nat) : (w.alloc (.cells #[] e)).ownsRow w.heap.size e s (.slice (some ⟨w.heap.size, 0, none⟩) 0 0) 0 [] :=
  ⟨by simp, .inr ⟨w.heap.size, 0, #[], rfl, Nat.le_refl _, heap_alloc_new w _, Nat.le_refl _, by simp [maxLen], by simp, by simp⟩⟩
set_option maxRecDepth 100000 in
set_option maxHeartbeats 4000000 in
theorem nvlogKeeps_walk (A : Option Addr) (l : List NOp) (c : Nat) (w : World) (h : NOps w w.heap.size A l) (hlc : l.length ≤ c) (hc : c ≤ 9223372036854775807) (hA : A = none → c = 0) :
    Calls Try.prog 5 #[.slice A l.length c] w fun e w' => e = .returned (.bool true) ∧ Below w.heap.size w w' := by
  obtain ⟨i1, hif1, hy0, hy1, hy2⟩ := info_parts info_record
  have HB := Lib.hid h
  have kw := Lib.hid (fun w => awake_any w)
  have kl := nlight_any A l c w h hlc hc hA
  clear h
  go_enter Try.func5, Try.ntmps5
  go_wp2_with fail
  refine kl.mono ?_
  rintro e w1 ⟨b1, hif⟩
  have B1 := Lib.hid b1
  have hgd0 := b1.size
  clear kl b1
  by_cases hL : NLight l = true
  · rw [if_pos hL] at hif
    obtain ⟨c', rfl⟩ := hif
    obtain ⟨n, hn⟩ : ∃ n, (l.take 40).length = n := ⟨_, rfl⟩
    have HN := Lib.hid hn
    rw [hn]
    have hn60 : n ≤ 40 := by rw [← hn, List.length_take]; omega
    clear hn
    go_wp2_with fail
    refine (new_any 3000 w1 (by decide)).mono ?_
    rintro e w2 ⟨rfl, k2, b2⟩
    have K2 := Lib.hid k2
    have B2 := Lib.hid (B1.out.trans (b2.mono hgd0))
    obtain ⟨gd, hgd⟩ : ∃ gd, w1.heap.size = gd := ⟨_, rfl⟩
    rw [hgd] at K2 hgd0 ⊢
    clear hgd k2 b2
    have ko := open_any K2.out
    rw [Dk.lopen_new] at ko
    go_wp2_with fail
    refine ko.mono ?_
    clear ko
    rintro e w3 ⟨A3, c3, pl, Ar, m, cr, rs, dk3, mv3, fr3, rfl, ol3, hrs3, hnl3, apg, apa, hz3, hnz3⟩
    obtain ⟨gl0, rfl, lg3, hgl3, hag3, haq3⟩ := hz3 rfl
    have hgd2 : gl0 ≠ gd := by have := K2.out.lt; omega
    obtain rfl : rs = [] := by simpa using hrs3
    obtain rfl : m = 0 := ol3.len.symm
    have K3 := Lib.hid dk3
    have L3 := Lib.hid lg3
    have B3 := Lib.hid (B2.out.trans ((K2.out.moves mv3).mono hgd0))
    have HA3 := Lib.hid hag3
    have HQ3 := Lib.hid haq3
    have OL3 := Lib.hid (ol3.base_le (base' := w.heap.size) (by have := B2.out.size; omega))
    have HAP3 : Hid (recK.Apart gd Ar [] ∧ ∀ p, A3 = some p → recK.Apart p.block Ar []) := Lib.hid ⟨apg, apa⟩
    clear dk3 mv3 fr3 ol3 hrs3 hnl3 apg apa hz3 hnz3 lg3 hag3 haq3 K2 B2
    go_wp2
    go_loopw [6, 7, 8, 54] (fun v6 v7 v8 i wr => ∃ (k : Nat) (D : Dk) (Ad : Option Addr) (cd gl : Nat) (Ah : Option Addr) (ch : Nat) (hs : List Rc) (mh : Nat), k ≤ n ∧ v6 = .pointer (some ⟨gl, 0, none⟩) ∧ v7 = .slice Ah mh ch ∧ v8 = .slice none 0 0 ∧ i = .int .i64 (k : Int) ∧ DkAt wr gd gd Ad cd D ∧ LogAt wr gl gd ∧ gl ≠ gd ∧ Hid (∀ p, Ad = some p → p.block ≠ gl) ∧ Hid (∀ q, Ah = some q → q.block ≠ gl) ∧ Olist recK wr w.heap.size 34 Ah mh ch hs ∧ Hid (D.Has (hs.map Rc.p) ∧ Good (hs.map Rc.p) ∧ ∀ x ∈ hs, x.Nl) ∧ Hid (recK.Apart gd Ah hs ∧ ∀ p, Ad = some p → recK.Apart p.block Ah hs) ∧ Below w.heap.size w wr) (fun _ _ _ i _ => n - (intOf i).toNat)
    case atStart => exact ⟨0, Dk.new 3000, A3, c3, gl0, Ar, cr, [], 0, by omega, rfl, rfl, rfl, rfl, K3.out, L3.out, hgd2, HA3, HQ3, OL3.out, Lib.hid ⟨Dk.has_new _, (by intro x hx; cases hx), by simp⟩, HAP3, B3.out⟩
    case round =>
      clear K3 L3 HA3 HQ3 OL3 HAP3 hgd2 B3
      rename World => wr
      obtain ⟨k, D, Ad, cd, gl, Ah, ch, hs, mh, hk, rfl, rfl, rfl, rfl, hdk, hlg, hglgd, HAGL, HAQ, hol, HPL, hap, hbe⟩ := hrel
      by_cases hlt : k < n
      · obtain ⟨go, oo, o, hA', hg, ho, hok, hd⟩ := (HB.out.below hbe).at_ (k := k) (by have := HN.out; rw [List.length_take] at this; omega)
        have d0 := hd 0 _ rfl
        have d1 := hd 1 _ rfl
        have d2 := hd 2 _ rfl
        have d3 := hd 3 _ rfl
        have d4 := hd 4 _ rfl
        have d5 := hd 5 _ rfl
        have d6 := hd 6 _ rfl
        rw [Nat.add_zero] at d0
        have hltI : (k : Int) < (n : Int) := by omega
        have h0I : (0 : Int) ≤ (k : Int) := by omega
        have hgr : go < wr.heap.size := Nat.lt_of_lt_of_le hg hbe.size
        cases hA'
        have HAO : Hid (∀ p, Ad = some p → p.block ≠ wr.heap.size) := Lib.hid (fun q hq => by have := (own_at hdk.own q hq).2.1; omega)
        have hgw : gd < wr.heap.size := hdk.lt
        have DOK := Lib.hid hdk.ok
        have ba := bel_alloc (Below.refl wr.heap.size wr) (.cells o.C.toArray 51)
        have DK := Lib.hid (hdk.to ba)
        have LG := Lib.hid (hlg.to ba)
        have OL := Lib.hid (hol.to ba)
        have BE := Lib.hid (hbe.trans (ba.mono hbe.size))
        have XOK := Lib.hid (hok.x.below (ba.mono hbe.size))
        have XN := Lib.hid (And.intro hok.lo hok.hi)
        have OR := Lib.hid (RowAt.new' wr wr.heap.size 51 o.C rfl)
        have APG := Lib.hid hap.out.1
        have APA := Lib.hid hap.out.2
        have HOFF := Lib.hid HPL.out.1.off
        clear hdk hlg hol hbe hok ho hd hap ba
        obtain ⟨m, hm⟩ : ∃ m, o.what % 6 = m := ⟨_, rfl⟩
        have hmI : (o.what : Int) % 6 = (m : Int) := by omega
        have hm6 : m = 0 ∨ m = 1 ∨ m = 2 ∨ m = 3 ∨ m = 4 ∨ m = 5 := by omega
        clear hm
        rcases hm6 with rfl | rfl | rfl | rfl | rfl | rfl
        · obtain ⟨D1, E1, hd⟩ : ∃ D1 E1, D.lappend o.x.p = (D1, E1) := ⟨_, _, rfl⟩
          have hla := Dk.lappend_has HPL.out.1 o.x.p
          have kap := lappend_any DK.out LG.out hglgd HAGL.out o.x.p o.x.A o.x.c o.x.p.text.length rfl XOK.out.fit (XOK.out.sq.more BE.out.size) XOK.out.nl.1
          rw [hd] at hla kap
          have HLA := Lib.hid hla
          clear hd hla
          go_wp2_with (refine wpList_load_mid rfl 34 (.tmp 69) rfl wr.heap.size 1 rfl (rcV o.x.p.what o.x.p.tx o.x.p.who o.x.p.yes o.x.A o.x.p.text.length o.x.c) _ (OR.out.range 1 5) Try.underlying34 rfl size_rec ?_)
          refine kap.mono ?_
          clear kap
          rintro e w7 ⟨rfl, Ad1, cd1, dk1, mv1, fr1⟩
          have hlt_gl : gl < (wr.alloc (.cells o.C.toArray 51)).heap.size := LG.out.lt
          have hlt_or : wr.heap.size < (wr.alloc (.cells o.C.toArray 51)).heap.size := OR.out.lt
          replace XOK := Lib.hid (XOK.out.below ((DK.out.moves mv1).mono hgd0))
          replace OR := Lib.hid (mv1.row OR.out (by omega) HAO.out)
          replace LG := Lib.hid (mv1.row LG.out hglgd HAGL.out)
          have APA' : Hid (∀ p, Ad1 = some p → recK.Apart p.block Ah hs) := Lib.hid (fun p hp => by rcases fr1 with f | f; exact APA.out p (f.symm.trans hp); exact OL.out.apart_new (f p hp))
          replace OL := Lib.hid (OL.out.moves mv1 APG.out APA.out)
          replace APA := APA'
          clear APA'
          replace HAGL : Hid (∀ p, Ad1 = some p → p.block ≠ gl) := Lib.hid (fun p hp => by rcases fr1 with f | f; exact HAGL.out p (f.symm.trans hp); have := f p hp; omega)
          replace HAO : Hid (∀ p, Ad1 = some p → p.block ≠ wr.heap.size) := Lib.hid (fun p hp => by rcases fr1 with f | f; exact HAO.out p (f.symm.trans hp); have := f p hp; omega)
          replace BE := Lib.hid (BE.out.trans ((DK.out.moves mv1).mono hgd0))
          replace DK := Lib.hid dk1
          clear mv1 dk1 fr1 hlt_gl hlt_or
          have hw7 : wr.heap.size < w7.heap.size := OR.out.lt
          have hgd7 : gd < w7.heap.size := DK.out.lt
          rcases HLA.out with ⟨hE, hr, hh⟩ | ⟨hE, hr, ht⟩ | ⟨hE, hh⟩
          · replace hE : E1 = 0 := hE
            subst hE
            have HH : Hid (D1.Has (hs.map Rc.p ++ [o.x.p])) := Lib.hid hh
            have HR := Lib.hid hr
            clear hh hr
            have hoff : recK.Off Ah o.x := fun hn p q hp hq => by
              obtain ⟨b, o', hA, hb, _⟩ := XOK.out.sq hn
              rw [show o.x.A = some p from hp] at hA
              obtain rfl := Option.some.inj hA
              have := (own_at_s OL.out.own q hq).1
              show q.block ≠ b
              omega
            have HOF := Lib.hid hoff
            have hfew : mh * 13 ≤ 262144 := by have := HPL.out.1.few DOK.out; rw [List.length_map, OL.out.len] at this; have := DOK.out.hi; omega
            clear hoff
            go_wp2_with (first | (refine wpList_load_mid rfl 34 (.tmp 76) rfl wr.heap.size 1 rfl (rcV o.x.p.what o.x.p.tx o.x.p.who o.x.p.yes o.x.A o.x.p.text.length o.x.c) _ (OR.out.range 1 5) Try.underlying34 rfl size_rec ?_) | (at_builtin; refine wpList_append_el w7 rfl (.tmp 75) (.tmp 78) 22 rfl recK_fine w.heap.size 34 i1 _ 40 Try.underlying22 hif1 hy0 hy1 hy2 rfl Ah mh ch hs rfl 34 o.x w7.heap.size rfl OL.out rfl (XOK.out.sq.more BE.out.size) HOF.out (by omega) (by omega) BE.out.size ?_; intro A4 c4 w8 ol4 g4 wh4 b4; have OL4 := Lib.hid ol4; have G4 := Lib.hid g4; have WH4 := Lib.hid wh4; have B4 := Lib.hid b4; clear ol4 g4 wh4 b4))
            have b70 : Below w7.heap.size w7 (w7.alloc (.cells (recK.f o.x).toArray 34)) := bel_alloc (Below.refl _ _) _
            have DK8 := Lib.hid ((DK.out.to b70).grown G4.out (not_row APG.out.1) (fun p hp => not_row (APA.out p hp).1))
            have LG8 := Lib.hid ((LG.out.to b70).grown G4.out (not_row HAQ.out))
            have hgl7 : gl < w7.heap.size := LG.out.lt
            have HAQ8 : Hid (∀ q, A4 = some q → q.block ≠ gl) := Lib.hid (fun q hq => by rcases WH4.out q hq with ⟨q0, h0, h1⟩ | h1; rw [← h1]; exact HAQ.out q0 h0; omega)
            have APG8 := Lib.hid (apart_push APG.out WH4.out hgd7 (text_lt XOK.out hgd0))
            have APA8 : Hid (∀ p, Ad1 = some p → recK.Apart p.block A4 (hs ++ [o.x])) := Lib.hid (fun p hp => by have h1 := own_at DK.out.own p hp; exact apart_push (APA.out p hp) WH4.out h1.2.1 (text_lt XOK.out (by omega)))
            replace BE := Lib.hid (BE.out.trans B4.out)
            have HGD : Hid (Good ((hs ++ [o.x]).map Rc.p)) := Lib.hid (by rw [List.map_append]; exact HPL.out.2.1.snoc ⟨HR.out, XOK.out.fit⟩)
            have HNL : Hid (∀ x ∈ hs ++ [o.x], x.Nl) := Lib.hid (fun x hx => by rcases List.mem_append.1 hx with h1 | h1; exact HPL.out.2.2 x h1; rw [List.mem_singleton.1 h1]; exact XOK.out.nl)
            clear b70
            go_wp2
            go_roundw
            case rel => exact ⟨k + 1, D1, Ad1, cd1, gl, A4, c4, (hs ++ [o.x]), (mh + 1), by omega, rfl, rfl, rfl, by go_num, DK8.out, LG8.out, hglgd, HAGL, HAQ8, OL4.out, Lib.hid ⟨by rw [List.map_append]; exact HH.out, HGD.out, HNL.out⟩, Lib.hid ⟨APG8.out, APA8.out⟩, BE.out⟩
            case measure => simp [intOf]; omega
          · replace hE : E1 = 6 := hE
            subst hE
            have HT : Hid (D1.Tail (hs.map Rc.p) o.x.p) := Lib.hid ht
            have HR := Lib.hid hr
            clear ht hr
            have kr := nright_any o.x.p o.x.A o.x.c o.x.p.text.length rfl w7
            rw [HR.out] at kr
            go_wp2_with (refine wpList_load_mid rfl 34 (.tmp 83) rfl wr.heap.size 1 rfl (rcV o.x.p.what o.x.p.tx o.x.p.who o.x.p.yes o.x.A o.x.p.text.length o.x.c) _ (OR.out.range 1 5) Try.underlying34 rfl size_rec ?_)
            refine kr.mono ?_
            clear kr
            rintro e w8 ⟨rfl, bb⟩
            replace XOK := Lib.hid (XOK.out.below (bb.mono BE.out.size))
            replace DK := Lib.hid (DK.out.to bb)
            replace OL := Lib.hid (OL.out.to bb)
            replace OR := Lib.hid (OR.out.to bb)
            replace BE := Lib.hid (BE.out.trans (bb.mono BE.out.size))
            have hw8 := bb.size
            clear bb LG HAGL HAQ
            go_wp2_with (first | (refine wpList_load_mid rfl 34 (.tmp 87) rfl wr.heap.size 1 rfl (rcV o.x.p.what o.x.p.tx o.x.p.who o.x.p.yes o.x.A o.x.p.text.length o.x.c) _ (OR.out.range 1 5) Try.underlying34 rfl size_rec ?_) | (at_builtin; refine wpList_append_el w8 rfl (.tmp 86) (.tmp 89) 22 rfl recK_fine w.heap.size 34 i1 _ 40 Try.underlying22 hif1 hy0 hy1 hy2 rfl none 0 0 [] rfl 34 o.x w8.heap.size rfl (Olist.nil _ _ _ _) rfl (XOK.out.sq.more BE.out.size) (fun _ _ _ _ hq => by cases hq) (by omega) (by omega) BE.out.size ?_; intro A5 c5 w9 ol5 g5 wh5 b5; have OP := Lib.hid ol5; have BB := Lib.hid ((bel_alloc (Below.refl w8.heap.size w8) _).trans ((below_of_new g5).mono (by simp))); have WH5 := Lib.hid wh5; have oclt : wr.heap.size < w9.heap.size := (OR.out.to BB.out).lt; have oc6 : w9.cell? ⟨wr.heap.size, 6, none⟩ = some (.int .i64 o.n) := (OR.out.to BB.out).cells 6; have ocz6 : w9.frozen? ⟨wr.heap.size, 6, none⟩ = false := (OR.out.to BB.out).frozen 6; clear ol5 g5 wh5 b5))
            have hgd8 : gd < w8.heap.size := by omega
            have APP := Lib.hid (apart_push (Kind.Apart.nil recK gd) WH5.out hgd8 (text_lt XOK.out hgd0))
            have APQ : Hid (∀ p, Ad1 = some p → recK.Apart p.block A5 [o.x]) := Lib.hid (fun p hp => by have h1 := own_at DK.out.own p hp; exact apart_push (Kind.Apart.nil recK p.block) WH5.out h1.2.1 (text_lt XOK.out (by omega)))
            replace XOK := Lib.hid (XOK.out.below (BB.out.mono BE.out.size))
            replace DK := Lib.hid (DK.out.to BB.out)
            replace OL := Lib.hid (OL.out.to BB.out)
            replace OR := Lib.hid (OR.out.to BB.out)
            replace BE := Lib.hid (BE.out.trans (BB.out.mono BE.out.size))
            clear BB WH5
            have HTC0 := Lib.hid (HT.out.crash DK.out.ok.safe o.n)
            refine (crash_any DK.out o.n XN.out.1 XN.out.2).mono ?_
            rintro e wa ⟨rfl, dk1, ko⟩
            have mv1 := Moves.of_only (A := Ad1) ko
            have fr1 : Ad1 = Ad1 ∨ ∀ p, Ad1 = some p → w9.heap.size ≤ p.block := .inl rfl
            clear ko
            have hlt_or : wr.heap.size < w9.heap.size := OR.out.lt
            replace XOK := Lib.hid (XOK.out.below ((DK.out.moves mv1).mono hgd0))
            replace OR := Lib.hid (mv1.row OR.out (by omega) HAO.out)
            have APA' : Hid (∀ p, Ad1 = some p → recK.Apart p.block Ah hs) := Lib.hid (fun p hp => by rcases fr1 with f | f; exact APA.out p (f.symm.trans hp); exact OL.out.apart_new (f p hp))
            replace OL := Lib.hid (OL.out.moves mv1 APG.out APA.out)
            replace APA := APA'
            clear APA'
            have APQ' : Hid (∀ p, Ad1 = some p → recK.Apart p.block A5 [o.x]) := Lib.hid (fun p hp => by rcases fr1 with f | f; exact APQ.out p (f.symm.trans hp); exact OP.out.apart_new (f p hp))
            replace OP := Lib.hid (OP.out.moves mv1 APP.out APQ.out)
            replace APQ := APQ'
            clear APQ'
            replace HAO : Hid (∀ p, Ad1 = some p → p.block ≠ wr.heap.size) := Lib.hid (fun p hp => by rcases fr1 with f | f; exact HAO.out p (f.symm.trans hp); have := f p hp; omega)
            replace BE := Lib.hid (BE.out.trans ((DK.out.moves mv1).mono hgd0))
            replace DK := Lib.hid dk1
            clear mv1 dk1 fr1 hlt_or
            have htc := HTC0.out
            clear HTC0
            obtain ⟨D2, hD2⟩ : ∃ D2, D1.crash o.n = D2 := ⟨_, rfl⟩
            rw [hD2] at DK htc
            clear hD2
            have odlt : wr.heap.size < (wa).heap.size := OR.out.lt
            have odlu : wr.heap.size < (wa).heap.size + 1 := Nat.lt_succ_of_lt OR.out.lt
            have od0 : (wa).cell? ⟨wr.heap.size, 0, none⟩ = some (.int .u8 (o.what : Int)) := OR.out.cells 0
            have odz0 : (wa).frozen? ⟨wr.heap.size, 0, none⟩ = false := OR.out.frozen 0
            have od1 : (wa).cell? ⟨wr.heap.size, 1, none⟩ = some (.int .u8 (o.x.p.what : Int)) := OR.out.cells 1
            have odz1 : (wa).frozen? ⟨wr.heap.size, 1, none⟩ = false := OR.out.frozen 1
            have od2 : (wa).cell? ⟨wr.heap.size, 2, none⟩ = some (.int .u32 (o.x.p.tx : Int)) := OR.out.cells 2
            have odz2 : (wa).frozen? ⟨wr.heap.size, 2, none⟩ = false := OR.out.frozen 2
            have od3 : (wa).cell? ⟨wr.heap.size, 3, none⟩ = some (.int .u8 (o.x.p.who : Int)) := OR.out.cells 3
            have odz3 : (wa).frozen? ⟨wr.heap.size, 3, none⟩ = false := OR.out.frozen 3
            have od4 : (wa).cell? ⟨wr.heap.size, 4, none⟩ = some (.bool o.x.p.yes) := OR.out.cells 4
            have odz4 : (wa).frozen? ⟨wr.heap.size, 4, none⟩ = false := OR.out.frozen 4
            have od5 : (wa).cell? ⟨wr.heap.size, 5, none⟩ = some (.slice o.x.A o.x.p.text.length o.x.c) := OR.out.cells 5
            have odz5 : (wa).frozen? ⟨wr.heap.size, 5, none⟩ = false := OR.out.frozen 5
            have od6 : (wa).cell? ⟨wr.heap.size, 6, none⟩ = some (.int .i64 o.n) := OR.out.cells 6
            have odz6 : (wa).frozen? ⟨wr.heap.size, 6, none⟩ = false := OR.out.frozen 6
            have HTC := Lib.hid htc
            clear htc
            go_wp2_with fail
            refine (sparks_any DK.out o.n XN.out.2).mono ?_
            rintro e wb ⟨rfl, dk1, ko⟩
            have mv1 := Moves.of_only (A := Ad1) ko
            have fr1 : Ad1 = Ad1 ∨ ∀ p, Ad1 = some p → wa.heap.size ≤ p.block := .inl rfl
            clear ko
            have hlt_or : wr.heap.size < wa.heap.size := OR.out.lt
            replace XOK := Lib.hid (XOK.out.below ((DK.out.moves mv1).mono hgd0))
            replace OR := Lib.hid (mv1.row OR.out (by omega) HAO.out)
            have APA' : Hid (∀ p, Ad1 = some p → recK.Apart p.block Ah hs) := Lib.hid (fun p hp => by rcases fr1 with f | f; exact APA.out p (f.symm.trans hp); exact OL.out.apart_new (f p hp))
            replace OL := Lib.hid (OL.out.moves mv1 APG.out APA.out)
            replace APA := APA'
            clear APA'
            have APQ' : Hid (∀ p, Ad1 = some p → recK.Apart p.block A5 [o.x]) := Lib.hid (fun p hp => by rcases fr1 with f | f; exact APQ.out p (f.symm.trans hp); exact OP.out.apart_new (f p hp))
            replace OP := Lib.hid (OP.out.moves mv1 APP.out APQ.out)
            replace APQ := APQ'
            clear APQ'
            replace HAO : Hid (∀ p, Ad1 = some p → p.block ≠ wr.heap.size) := Lib.hid (fun p hp => by rcases fr1 with f | f; exact HAO.out p (f.symm.trans hp); have := f p hp; omega)
            replace BE := Lib.hid (BE.out.trans ((DK.out.moves mv1).mono hgd0))
            replace DK := Lib.hid dk1
            clear mv1 dk1 fr1 hlt_or
            have hto := Dk.lopen_tail (HTC.out.1.sparks o.n) HPL.out.2.1 ⟨HR.out, XOK.out.fit⟩ HTC.out.2.1 HTC.out.2.2.1
            obtain ⟨D3, hD3⟩ : ∃ D3, D2.sparks o.n = D3 := ⟨_, rfl⟩
            rw [hD3] at DK hto
            clear hD3
            obtain ⟨D4, G, E4, hd4⟩ : ∃ D4 G E4, D3.lopen = (D4, G, E4) := ⟨_, _, _, rfl⟩
            have ko := open_any DK.out
            rw [hd4] at ko hto
            have HTO := Lib.hid hto
            have hgdb : gd < wb.heap.size := DK.out.lt
            clear hto hd4
            go_wp2_with fail
            refine ko.mono ?_
            clear ko
            rintro e wc ⟨Ad4, cd4, pl, Ag, mg, cg, rs, dk1, mv1, fr1, rfl, og, hrs, hnl, apg, apa, hz, hnz⟩
            have OG := Lib.hid (og.base_le (base' := w.heap.size) BE.out.size)
            have AQG := Lib.hid apg
            have AQA : Hid (∀ p, Ad4 = some p → recK.Apart p.block Ag rs) := Lib.hid apa
            have HRS : Hid (rs.map Rc.p = G) := Lib.hid hrs
            have HNLG := Lib.hid (fun x hx => (hnl x hx).1)
            have HZ := Lib.hid hz
            clear og hrs hnl apg apa hz hnz
            have hlt_or : wr.heap.size < wb.heap.size := OR.out.lt
            replace XOK := Lib.hid (XOK.out.below ((DK.out.moves mv1).mono hgd0))
            replace OR := Lib.hid (mv1.row OR.out (by omega) HAO.out)
            have APA' : Hid (∀ p, Ad4 = some p → recK.Apart p.block Ah hs) := Lib.hid (fun p hp => by rcases fr1 with f | f; exact APA.out p (f.symm.trans hp); exact OL.out.apart_new (f p hp))
            replace OL := Lib.hid (OL.out.moves mv1 APG.out APA.out)
            replace APA := APA'
            clear APA'
            have APQ' : Hid (∀ p, Ad4 = some p → recK.Apart p.block A5 [o.x]) := Lib.hid (fun p hp => by rcases fr1 with f | f; exact APQ.out p (f.symm.trans hp); exact OP.out.apart_new (f p hp))
            replace OP := Lib.hid (OP.out.moves mv1 APP.out APQ.out)
            replace APQ := APQ'
            clear APQ'
            replace HAO : Hid (∀ p, Ad4 = some p → p.block ≠ wr.heap.size) := Lib.hid (fun p hp => by rcases fr1 with f | f; exact HAO.out p (f.symm.trans hp); have := f p hp; omega)
            replace BE := Lib.hid (BE.out.trans ((DK.out.moves mv1).mono hgd0))
            replace DK := Lib.hid dk1
            clear mv1 dk1 fr1 hlt_or
            rcases HTO.out with ⟨hE, hG, hh⟩ | ⟨hE, ht, hl⟩
            · replace hE : E4 = 0 := hE
              subst hE
              have HH6 : Hid (D4.Has G) := Lib.hid hh
              have HG6 : Hid (G = hs.map Rc.p ∨ G = hs.map Rc.p ++ [o.x.p]) := Lib.hid hG
              clear hh hG HTO
              obtain ⟨gl6, rfl, lg6, hgl6, hag6, haq6⟩ := HZ.out rfl
              have LG6 := Lib.hid lg6
              have HAG6 : Hid (∀ p, Ad4 = some p → p.block ≠ gl6) := Lib.hid hag6
              have HAQ6 : Hid (∀ q, Ag = some q → q.block ≠ gl6) := Lib.hid haq6
              have hgl6gd : gl6 ≠ gd := by omega
              clear lg6 hag6 haq6 HZ
              have HGG : Hid (Good G) := Lib.hid (by
                rcases HG6.out with e | e
                · rw [e]; exact HPL.out.2.1
                · rw [e]; exact HPL.out.2.1.snoc ⟨HR.out, XOK.out.fit⟩)
              have hfewG : mg * 13 ≤ 262144 := by
                have h1 := HH6.out.few DK.out.ok
                have h2 := DK.out.ok.hi
                rw [← HRS.out, List.length_map, OG.out.len] at h1
                exact Nat.le_trans h1 h2
              have hmh : mh ≤ mg := by
                have h1 : (rs.map Rc.p).length = G.length := by rw [HRS.out]
                have h2 : (hs.map Rc.p).length ≤ G.length := by rcases HG6.out with e | e <;> rw [e] <;> simp
                rw [List.length_map, OG.out.len] at h1
                rw [List.length_map, OL.out.len] at h2
                omega
              have HLH := Lib.hid OL.out.len
              have HLG := Lib.hid OG.out.len
              have RH := Lib.hid (OL.out.rcs (fun x hx => ⟨(HPL.out.2.1 _ (List.mem_map_of_mem hx)).2, HPL.out.2.2 x hx⟩))
              have RP := Lib.hid (OP.out.rcs (fun x hx => by rw [show x = o.x by simpa using hx]; exact ⟨XOK.out.fit, XOK.out.nl⟩))
              have RG := Lib.hid (OG.out.rcs (fun x hx => ⟨(HGG.out _ (by rw [← HRS.out]; exact List.mem_map_of_mem hx)).2, HNLG.out x hx⟩))
              have NH := Lib.hid (own_nil_s OL.out.own).1
              have NP := Lib.hid (own_nil_s OP.out.own).1
              have e0 := own_empty_s wc 34 5
              go_wp2_with (at_builtin; first
                | (refine wpList_append_rn (f := recK.f) (s := 5) _ rfl (.tmp 125) (.tmp 126) 22 rfl recK_fine.hf recK_fine.hs recK_fine.one wc.heap.size 34 i1 _ 40 Try.underlying22 hif1 hy0 hy1 hy2 (by decide) rfl (some ⟨wc.heap.size, 0, none⟩) 0 0 [] rfl rfl e0 wc.heap.size Ah hs ch mh HLH.out rfl (RH.out.rc.alloc (Nat.le_refl _) _) (fun e => (NH.out e).1) mh (by omega) (by omega) (by simp) ?_; intro A7 c7 wg o7 g7 b7; have O7 := Lib.hid o7; have BX := Lib.hid ((bel_alloc (Below.refl wc.heap.size wc) _).trans b7); clear o7 g7 b7)
                | (refine wpList_append_rn (f := recK.f) (s := 5) _ rfl (.tmp 127) (.tmp 128) 22 rfl recK_fine.hf recK_fine.hs recK_fine.one wc.heap.size 34 i1 _ 40 Try.underlying22 hif1 hy0 hy1 hy2 (by decide) rfl A7 c7 mh ([] ++ hs) rfl HLH.out O7.out wg.heap.size A5 [o.x] c5 1 rfl rfl (RP.out.to BX.out).rc (fun e => (NP.out e).1) (mh + 1) rfl (by omega) BX.out.size ?_; intro A8 c8 wh o8 g8 b8; have O8 := Lib.hid o8; have BX2 := Lib.hid (BX.out.trans b8); clear o8 g8 b8))
              clear e0 O7 BX
              have RALL : Hid (Rcs wh wh.heap.size A8 (hs ++ [o.x])) := Lib.hid ⟨Recs.of_own recK_fine.hf recK_fine.hs O8.out, fun b hb => by
                rcases List.mem_append.1 hb with hb | hb
                · exact (RH.out.to BX2.out).ok b hb
                · exact (RP.out.to BX2.out).ok b hb⟩
              clear O8 RP NH NP OL OP APG APA APP APQ
              replace RH := Lib.hid (RH.out.to BX2.out)
              replace RG := Lib.hid (RG.out.to BX2.out)
              replace XOK := Lib.hid (XOK.out.below (BX2.out.mono BE.out.size))
              replace DK := Lib.hid (DK.out.to BX2.out)
              replace OG := Lib.hid (OG.out.to BX2.out)
              replace LG6 := Lib.hid (LG6.out.to BX2.out)
              replace OR := Lib.hid (OR.out.to BX2.out)
              replace BE := Lib.hid (BE.out.trans (BX2.out.mono BE.out.size))
              clear BX2
              refine (all_any Ag Ah rs hs cg ch mg mh wh HLG.out HLH.out RG.out RH.out (by omega)).mono ?_
              rintro e wi ⟨rfl, b9⟩
              clear RH
              replace RG := Lib.hid (RG.out.to b9)
              replace RALL := Lib.hid (RALL.out.to b9)
              replace XOK := Lib.hid (XOK.out.below (b9.mono BE.out.size))
              replace DK := Lib.hid (DK.out.to b9)
              replace OG := Lib.hid (OG.out.to b9)
              replace LG6 := Lib.hid (LG6.out.to b9)
              replace OR := Lib.hid (OR.out.to b9)
              replace BE := Lib.hid (BE.out.trans (b9.mono BE.out.size))
              clear b9
              rcases HG6.out with hG | hG
              · have he : Nr.eqs (rs.map Rc.p) (hs.map Rc.p) = true := (Nr.eqs_iff _ _).2 (HRS.out.trans hG)
                rw [he]
                clear hG he RG RALL
                go_wp2_with fail
                refine (sparks_any DK.out (-1) (by decide)).mono ?_
                rintro e wk ⟨rfl, dk1, ko⟩
                have mv1 := Moves.of_only (A := Ad4) ko
                have fr1 : Ad4 = Ad4 ∨ ∀ p, Ad4 = some p → wi.heap.size ≤ p.block := .inl rfl
                clear ko
                have hlt_gl6 : gl6 < wi.heap.size := LG6.out.lt
                have hlt_or : wr.heap.size < wi.heap.size := OR.out.lt
                replace XOK := Lib.hid (XOK.out.below ((DK.out.moves mv1).mono hgd0))
                replace OR := Lib.hid (mv1.row OR.out (by omega) HAO.out)
                replace LG6 := Lib.hid (mv1.row LG6.out hgl6gd HAG6.out)
                have AQA' : Hid (∀ p, Ad4 = some p → recK.Apart p.block Ag rs) := Lib.hid (fun p hp => by rcases fr1 with f | f; exact AQA.out p (f.symm.trans hp); exact OG.out.apart_new (f p hp))
                replace OG := Lib.hid (OG.out.moves mv1 AQG.out AQA.out)
                replace AQA := AQA'
                clear AQA'
                replace HAG6 : Hid (∀ p, Ad4 = some p → p.block ≠ gl6) := Lib.hid (fun p hp => by rcases fr1 with f | f; exact HAG6.out p (f.symm.trans hp); have := f p hp; omega)
                replace HAO : Hid (∀ p, Ad4 = some p → p.block ≠ wr.heap.size) := Lib.hid (fun p hp => by rcases fr1 with f | f; exact HAO.out p (f.symm.trans hp); have := f p hp; omega)
                replace BE := Lib.hid (BE.out.trans ((DK.out.moves mv1).mono hgd0))
                replace DK := Lib.hid dk1
                clear mv1 dk1 fr1 hlt_gl6 hlt_or
                have hlh := Dk.lopen_has (HH6.out.sparks (-1)) HGG.out rfl
                obtain ⟨D8, hD8⟩ : ∃ D8, D4.sparks (-1) = D8 := ⟨_, rfl⟩
                rw [hD8] at DK hlh
                clear hD8
                obtain ⟨D9, G9, E9, hd9⟩ : ∃ D9 G9 E9, D8.lopen = (D9, G9, E9) := ⟨_, _, _, rfl⟩
                have ko := open_any DK.out
                rw [hd9] at ko hlh
                obtain ⟨h9a, h9b, h9c⟩ := hlh
                replace h9a : E9 = 0 := h9a
                replace h9b : G9 = G := h9b
                replace h9c : D9.Has G9 := h9b.symm ▸ h9c
                subst h9a
                have HG9 := Lib.hid h9b
                have HH9 := Lib.hid h9c
                clear hd9 h9b h9c
                go_wp2_with fail
                refine ko.mono ?_
                clear ko
                rintro e wm ⟨Ad9, cd9, pl9, At, mt, ct, ts, dk1, mv1, fr1, rfl, og, hts, hnlt, apg, apa, hz, hnz⟩
                have OT := Lib.hid og
                have HTS : Hid (ts.map Rc.p = G) := Lib.hid (hts.trans HG9.out)
                have HNLT := Lib.hid (fun x hx => (hnlt x hx).1)
                clear og hts hnlt apg apa hz hnz
                have hlt_gl6 : gl6 < wk.heap.size := LG6.out.lt
                have hlt_or : wr.heap.size < wk.heap.size := OR.out.lt
                replace XOK := Lib.hid (XOK.out.below ((DK.out.moves mv1).mono hgd0))
                replace OR := Lib.hid (mv1.row OR.out (by omega) HAO.out)
                replace LG6 := Lib.hid (mv1.row LG6.out hgl6gd HAG6.out)
                have AQA' : Hid (∀ p, Ad9 = some p → recK.Apart p.block Ag rs) := Lib.hid (fun p hp => by rcases fr1 with f | f; exact AQA.out p (f.symm.trans hp); exact OG.out.apart_new (f p hp))
                replace OG := Lib.hid (OG.out.moves mv1 AQG.out AQA.out)
                replace AQA := AQA'
                clear AQA'
                replace HAG6 : Hid (∀ p, Ad9 = some p → p.block ≠ gl6) := Lib.hid (fun p hp => by rcases fr1 with f | f; exact HAG6.out p (f.symm.trans hp); have := f p hp; omega)
                replace HAO : Hid (∀ p, Ad9 = some p → p.block ≠ wr.heap.size) := Lib.hid (fun p hp => by rcases fr1 with f | f; exact HAO.out p (f.symm.trans hp); have := f p hp; omega)
                replace BE := Lib.hid (BE.out.trans ((DK.out.moves mv1).mono hgd0))
                replace DK := Lib.hid dk1
                clear mv1 dk1 fr1 hlt_gl6 hlt_or
                have hmt : mt = mg := by
                  have h1 : (ts.map Rc.p).length = (rs.map Rc.p).length := by rw [HTS.out, HRS.out]
                  rwa [List.length_map, OT.out.len, List.length_map, OG.out.len] at h1
                subst hmt
                have ha : Nr.eqs (ts.map Rc.p) (rs.map Rc.p) = true := (Nr.eqs_iff _ _).2 (by rw [HTS.out, HRS.out])
                have ka := all_any At Ag ts rs ct cg mt mt wm OT.out.len OG.out.len (OT.out.rcs (fun x hx => ⟨(HGG.out _ (by rw [← HTS.out]; exact List.mem_map_of_mem hx)).2, HNLT.out x hx⟩)) (OG.out.rcs (fun x hx => ⟨(HGG.out _ (by rw [← HRS.out]; exact List.mem_map_of_mem hx)).2, HNLG.out x hx⟩)) (by omega)
                rw [ha] at ka
                clear ha
                go_wp2_with fail
                refine ka.mono ?_
                clear ka
                rintro e wn ⟨rfl, b11⟩
                replace XOK := Lib.hid (XOK.out.below (b11.mono BE.out.size))
                replace DK := Lib.hid (DK.out.to b11)
                replace OG := Lib.hid (OG.out.to b11)
                replace LG6 := Lib.hid (LG6.out.to b11)
                replace OR := Lib.hid (OR.out.to b11)
                replace BE := Lib.hid (BE.out.trans (b11.mono BE.out.size))
                clear b11 OT
                go_wp2
                go_roundw
                case rel => exact ⟨k + 1, D9, Ad9, cd9, gl6, Ag, cg, rs, mt, by omega, rfl, rfl, rfl, by go_num, DK.out, LG6.out, hgl6gd, HAG6, HAQ6, OG.out, Lib.hid ⟨by rw [HRS.out, ← HG9.out]; exact HH9.out, by rw [HRS.out]; exact HGG.out, HNLG.out⟩, Lib.hid ⟨AQG.out, AQA.out⟩, BE.out⟩
                case measure => simp [intOf]; omega
              · have he : Nr.eqs (rs.map Rc.p) (hs.map Rc.p) = false := Nr.eqs_false (fun h => by
                  have h2 := congrArg List.length (h.symm.trans (HRS.out.trans hG))
                  simp at h2)
                rw [he]
                have ha : Nr.eqs (rs.map Rc.p) ((hs ++ [o.x]).map Rc.p) = true := (Nr.eqs_iff _ _).2 (by rw [HRS.out, hG, List.map_append]; rfl)
                have ka := all_any Ag A8 rs (hs ++ [o.x]) cg c8 mg (mh + 1) wi HLG.out (by rw [List.length_append, HLH.out]; rfl) RG.out RALL.out (by omega)
                rw [ha] at ka
                clear hG he ha RG RALL
                go_wp2_with fail
                refine ka.mono ?_
                clear ka
                rintro e wj ⟨rfl, b10⟩
                replace XOK := Lib.hid (XOK.out.below (b10.mono BE.out.size))
                replace DK := Lib.hid (DK.out.to b10)
                replace OG := Lib.hid (OG.out.to b10)
                replace LG6 := Lib.hid (LG6.out.to b10)
                replace OR := Lib.hid (OR.out.to b10)
                replace BE := Lib.hid (BE.out.trans (b10.mono BE.out.size))
                clear b10
                go_wp2_with fail
                refine (sparks_any DK.out (-1) (by decide)).mono ?_
                rintro e wk ⟨rfl, dk1, ko⟩
                have mv1 := Moves.of_only (A := Ad4) ko
                have fr1 : Ad4 = Ad4 ∨ ∀ p, Ad4 = some p → wj.heap.size ≤ p.block := .inl rfl
                clear ko
                have hlt_gl6 : gl6 < wj.heap.size := LG6.out.lt
                have hlt_or : wr.heap.size < wj.heap.size := OR.out.lt
                replace XOK := Lib.hid (XOK.out.below ((DK.out.moves mv1).mono hgd0))
                replace OR := Lib.hid (mv1.row OR.out (by omega) HAO.out)
                replace LG6 := Lib.hid (mv1.row LG6.out hgl6gd HAG6.out)
                have AQA' : Hid (∀ p, Ad4 = some p → recK.Apart p.block Ag rs) := Lib.hid (fun p hp => by rcases fr1 with f | f; exact AQA.out p (f.symm.trans hp); exact OG.out.apart_new (f p hp))
                replace OG := Lib.hid (OG.out.moves mv1 AQG.out AQA.out)
                replace AQA := AQA'
                clear AQA'
                replace HAG6 : Hid (∀ p, Ad4 = some p → p.block ≠ gl6) := Lib.hid (fun p hp => by rcases fr1 with f | f; exact HAG6.out p (f.symm.trans hp); have := f p hp; omega)
                replace HAO : Hid (∀ p, Ad4 = some p → p.block ≠ wr.heap.size) := Lib.hid (fun p hp => by rcases fr1 with f | f; exact HAO.out p (f.symm.trans hp); have := f p hp; omega)
                replace BE := Lib.hid (BE.out.trans ((DK.out.moves mv1).mono hgd0))
                replace DK := Lib.hid dk1
                clear mv1 dk1 fr1 hlt_gl6 hlt_or
                have hlh := Dk.lopen_has (HH6.out.sparks (-1)) HGG.out rfl
                obtain ⟨D8, hD8⟩ : ∃ D8, D4.sparks (-1) = D8 := ⟨_, rfl⟩
                rw [hD8] at DK hlh
                clear hD8
                obtain ⟨D9, G9, E9, hd9⟩ : ∃ D9 G9 E9, D8.lopen = (D9, G9, E9) := ⟨_, _, _, rfl⟩
                have ko := open_any DK.out
                rw [hd9] at ko hlh
                obtain ⟨h9a, h9b, h9c⟩ := hlh
                replace h9a : E9 = 0 := h9a
                replace h9b : G9 = G := h9b
                replace h9c : D9.Has G9 := h9b.symm ▸ h9c
                subst h9a
                have HG9 := Lib.hid h9b
                have HH9 := Lib.hid h9c
                clear hd9 h9b h9c
                go_wp2_with fail
                refine ko.mono ?_
                clear ko
                rintro e wm ⟨Ad9, cd9, pl9, At, mt, ct, ts, dk1, mv1, fr1, rfl, og, hts, hnlt, apg, apa, hz, hnz⟩
                have OT := Lib.hid og
                have HTS : Hid (ts.map Rc.p = G) := Lib.hid (hts.trans HG9.out)
                have HNLT := Lib.hid (fun x hx => (hnlt x hx).1)
                clear og hts hnlt apg apa hz hnz
                have hlt_gl6 : gl6 < wk.heap.size := LG6.out.lt
                have hlt_or : wr.heap.size < wk.heap.size := OR.out.lt
                replace XOK := Lib.hid (XOK.out.below ((DK.out.moves mv1).mono hgd0))
                replace OR := Lib.hid (mv1.row OR.out (by omega) HAO.out)
                replace LG6 := Lib.hid (mv1.row LG6.out hgl6gd HAG6.out)
                have AQA' : Hid (∀ p, Ad9 = some p → recK.Apart p.block Ag rs) := Lib.hid (fun p hp => by rcases fr1 with f | f; exact AQA.out p (f.symm.trans hp); exact OG.out.apart_new (f p hp))
                replace OG := Lib.hid (OG.out.moves mv1 AQG.out AQA.out)
                replace AQA := AQA'
                clear AQA'
                replace HAG6 : Hid (∀ p, Ad9 = some p → p.block ≠ gl6) := Lib.hid (fun p hp => by rcases fr1 with f | f; exact HAG6.out p (f.symm.trans hp); have := f p hp; omega)
                replace HAO : Hid (∀ p, Ad9 = some p → p.block ≠ wr.heap.size) := Lib.hid (fun p hp => by rcases fr1 with f | f; exact HAO.out p (f.symm.trans hp); have := f p hp; omega)
                replace BE := Lib.hid (BE.out.trans ((DK.out.moves mv1).mono hgd0))
                replace DK := Lib.hid dk1
                clear mv1 dk1 fr1 hlt_gl6 hlt_or
                have hmt : mt = mg := by
                  have h1 : (ts.map Rc.p).length = (rs.map Rc.p).length := by rw [HTS.out, HRS.out]
                  rwa [List.length_map, OT.out.len, List.length_map, OG.out.len] at h1
                subst hmt
                have ha : Nr.eqs (ts.map Rc.p) (rs.map Rc.p) = true := (Nr.eqs_iff _ _).2 (by rw [HTS.out, HRS.out])
                have ka := all_any At Ag ts rs ct cg mt mt wm OT.out.len OG.out.len (OT.out.rcs (fun x hx => ⟨(HGG.out _ (by rw [← HTS.out]; exact List.mem_map_of_mem hx)).2, HNLT.out x hx⟩)) (OG.out.rcs (fun x hx => ⟨(HGG.out _ (by rw [← HRS.out]; exact List.mem_map_of_mem hx)).2, HNLG.out x hx⟩)) (by omega)
                rw [ha] at ka
                clear ha
                go_wp2_with fail
                refine ka.mono ?_
                clear ka
                rintro e wn ⟨rfl, b11⟩
                replace XOK := Lib.hid (XOK.out.below (b11.mono BE.out.size))
                replace DK := Lib.hid (DK.out.to b11)
                replace OG := Lib.hid (OG.out.to b11)
                replace LG6 := Lib.hid (LG6.out.to b11)
                replace OR := Lib.hid (OR.out.to b11)
                replace BE := Lib.hid (BE.out.trans (b11.mono BE.out.size))
                clear b11 OT
                go_wp2
                go_roundw
                case rel => exact ⟨k + 1, D9, Ad9, cd9, gl6, Ag, cg, rs, mt, by omega, rfl, rfl, rfl, by go_num, DK.out, LG6.out, hgl6gd, HAG6, HAQ6, OG.out, Lib.hid ⟨by rw [HRS.out, ← HG9.out]; exact HH9.out, by rw [HRS.out]; exact HGG.out, HNLG.out⟩, Lib.hid ⟨AQG.out, AQA.out⟩, BE.out⟩
                case measure => simp [intOf]; omega
            · replace hE : E4 ≠ 0 := hE
              have HT4 : Hid (D4.Tail (hs.map Rc.p) o.x.p) := Lib.hid ht
              have hEb : (E4 != 0) = true := by simp [hE]
              have hEc : (E4 == 0) = false := by simp [hE]
              clear ht hl HTO HZ OG AQG AQA HRS HNLG
              have oelt : wr.heap.size < (wc).heap.size := OR.out.lt
              have oelu : wr.heap.size < (wc).heap.size + 1 := Nat.lt_succ_of_lt OR.out.lt
              have oe0 : (wc).cell? ⟨wr.heap.size, 0, none⟩ = some (.int .u8 (o.what : Int)) := OR.out.cells 0
              have oez0 : (wc).frozen? ⟨wr.heap.size, 0, none⟩ = false := OR.out.frozen 0
              have oe1 : (wc).cell? ⟨wr.heap.size, 1, none⟩ = some (.int .u8 (o.x.p.what : Int)) := OR.out.cells 1
              have oez1 : (wc).frozen? ⟨wr.heap.size, 1, none⟩ = false := OR.out.frozen 1
              have oe2 : (wc).cell? ⟨wr.heap.size, 2, none⟩ = some (.int .u32 (o.x.p.tx : Int)) := OR.out.cells 2
              have oez2 : (wc).frozen? ⟨wr.heap.size, 2, none⟩ = false := OR.out.frozen 2
              have oe3 : (wc).cell? ⟨wr.heap.size, 3, none⟩ = some (.int .u8 (o.x.p.who : Int)) := OR.out.cells 3
              have oez3 : (wc).frozen? ⟨wr.heap.size, 3, none⟩ = false := OR.out.frozen 3
              have oe4 : (wc).cell? ⟨wr.heap.size, 4, none⟩ = some (.bool o.x.p.yes) := OR.out.cells 4
              have oez4 : (wc).frozen? ⟨wr.heap.size, 4, none⟩ = false := OR.out.frozen 4
              have oe5 : (wc).cell? ⟨wr.heap.size, 5, none⟩ = some (.slice o.x.A o.x.p.text.length o.x.c) := OR.out.cells 5
              have oez5 : (wc).frozen? ⟨wr.heap.size, 5, none⟩ = false := OR.out.frozen 5
              have oe6 : (wc).cell? ⟨wr.heap.size, 6, none⟩ = some (.int .i64 o.n) := OR.out.cells 6
              have oez6 : (wc).frozen? ⟨wr.heap.size, 6, none⟩ = false := OR.out.frozen 6
              have HTC0 := Lib.hid (HT4.out.crash DK.out.ok.safe o.n)
              go_wp2_with fail
              refine (crash_any DK.out o.n XN.out.1 XN.out.2).mono ?_
              rintro e we ⟨rfl, dk1, ko⟩
              have mv1 := Moves.of_only (A := Ad4) ko
              have fr1 : Ad4 = Ad4 ∨ ∀ p, Ad4 = some p → wc.heap.size ≤ p.block := .inl rfl
              clear ko
              have hlt_or : wr.heap.size < wc.heap.size := OR.out.lt
              replace XOK := Lib.hid (XOK.out.below ((DK.out.moves mv1).mono hgd0))
              replace OR := Lib.hid (mv1.row OR.out (by omega) HAO.out)
              have APA' : Hid (∀ p, Ad4 = some p → recK.Apart p.block Ah hs) := Lib.hid (fun p hp => by rcases fr1 with f | f; exact APA.out p (f.symm.trans hp); exact OL.out.apart_new (f p hp))
              replace OL := Lib.hid (OL.out.moves mv1 APG.out APA.out)
              replace APA := APA'
              clear APA'
              have APQ' : Hid (∀ p, Ad4 = some p → recK.Apart p.block A5 [o.x]) := Lib.hid (fun p hp => by rcases fr1 with f | f; exact APQ.out p (f.symm.trans hp); exact OP.out.apart_new (f p hp))
              replace OP := Lib.hid (OP.out.moves mv1 APP.out APQ.out)
              replace APQ := APQ'
              clear APQ'
              replace HAO : Hid (∀ p, Ad4 = some p → p.block ≠ wr.heap.size) := Lib.hid (fun p hp => by rcases fr1 with f | f; exact HAO.out p (f.symm.trans hp); have := f p hp; omega)
              replace BE := Lib.hid (BE.out.trans ((DK.out.moves mv1).mono hgd0))
              replace DK := Lib.hid dk1
              clear mv1 dk1 fr1 hlt_or
              have htc := HTC0.out
              clear HTC0
              obtain ⟨D5, hD5⟩ : ∃ D5, D4.crash o.n = D5 := ⟨_, rfl⟩
              rw [hD5] at DK htc
              clear hD5
              have hto := Dk.lopen_tail htc.1 HPL.out.2.1 ⟨HR.out, XOK.out.fit⟩ htc.2.1 htc.2.2.1
              have HL5 := Lib.hid htc.2.2.2
              obtain ⟨D6, G, E6, hd6⟩ : ∃ D6 G E6, D5.lopen = (D6, G, E6) := ⟨_, _, _, rfl⟩
              have ko := open_any DK.out
              rw [hd6] at ko hto
              clear hd6 htc
              rcases hto with ⟨hE6, hG, hh⟩ | ⟨_, _, hl6⟩
              · replace hE6 : E6 = 0 := hE6
                subst hE6
                have HH6 : Hid (D6.Has G) := Lib.hid hh
                have HG6 : Hid (G = hs.map Rc.p ∨ G = hs.map Rc.p ++ [o.x.p]) := Lib.hid hG
                have hgde : gd < we.heap.size := DK.out.lt
                clear hh hG HL5
                go_wp2_with fail
                refine ko.mono ?_
                clear ko
                rintro e wf ⟨Ad6, cd6, pl6, Ag, mg, cg, rs, dk1, mv1, fr1, rfl, og, hrs, hnl, apg, apa, hz, hnz⟩
                have OG := Lib.hid (og.base_le (base' := w.heap.size) BE.out.size)
                have AQG := Lib.hid apg
                have AQA : Hid (∀ p, Ad6 = some p → recK.Apart p.block Ag rs) := Lib.hid apa
                have HRS : Hid (rs.map Rc.p = G) := Lib.hid hrs
                have HNLG := Lib.hid (fun x hx => (hnl x hx).1)
                have HZ := Lib.hid hz
                clear og hrs hnl apg apa hz hnz
                have hlt_or : wr.heap.size < we.heap.size := OR.out.lt
                replace XOK := Lib.hid (XOK.out.below ((DK.out.moves mv1).mono hgd0))
                replace OR := Lib.hid (mv1.row OR.out (by omega) HAO.out)
                have APA' : Hid (∀ p, Ad6 = some p → recK.Apart p.block Ah hs) := Lib.hid (fun p hp => by rcases fr1 with f | f; exact APA.out p (f.symm.trans hp); exact OL.out.apart_new (f p hp))
                replace OL := Lib.hid (OL.out.moves mv1 APG.out APA.out)
                replace APA := APA'
                clear APA'
                have APQ' : Hid (∀ p, Ad6 = some p → recK.Apart p.block A5 [o.x]) := Lib.hid (fun p hp => by rcases fr1 with f | f; exact APQ.out p (f.symm.trans hp); exact OP.out.apart_new (f p hp))
                replace OP := Lib.hid (OP.out.moves mv1 APP.out APQ.out)
                replace APQ := APQ'
                clear APQ'
                replace HAO : Hid (∀ p, Ad6 = some p → p.block ≠ wr.heap.size) := Lib.hid (fun p hp => by rcases fr1 with f | f; exact HAO.out p (f.symm.trans hp); have := f p hp; omega)
                replace BE := Lib.hid (BE.out.trans ((DK.out.moves mv1).mono hgd0))
                replace DK := Lib.hid dk1
                clear mv1 dk1 fr1 hlt_or
                obtain ⟨gl6, rfl, lg6, hgl6, hag6, haq6⟩ := HZ.out rfl
                have LG6 := Lib.hid lg6
                have HAG6 : Hid (∀ p, Ad6 = some p → p.block ≠ gl6) := Lib.hid hag6
                have HAQ6 : Hid (∀ q, Ag = some q → q.block ≠ gl6) := Lib.hid haq6
                have hgl6gd : gl6 ≠ gd := by omega
                clear lg6 hag6 haq6 HZ
                have HGG : Hid (Good G) := Lib.hid (by
                  rcases HG6.out with e | e
                  · rw [e]; exact HPL.out.2.1
                  · rw [e]; exact HPL.out.2.1.snoc ⟨HR.out, XOK.out.fit⟩)
                have hfewG : mg * 13 ≤ 262144 := by
                  have h1 := HH6.out.few DK.out.ok
                  have h2 := DK.out.ok.hi
                  rw [← HRS.out, List.length_map, OG.out.len] at h1
                  exact Nat.le_trans h1 h2
                have hmh : mh ≤ mg := by
                  have h1 : (rs.map Rc.p).length = G.length := by rw [HRS.out]
                  have h2 : (hs.map Rc.p).length ≤ G.length := by rcases HG6.out with e | e <;> rw [e] <;> simp
                  rw [List.length_map, OG.out.len] at h1
                  rw [List.length_map, OL.out.len] at h2
                  omega
                have HLH := Lib.hid OL.out.len
                have HLG := Lib.hid OG.out.len
                have RH := Lib.hid (OL.out.rcs (fun x hx => ⟨(HPL.out.2.1 _ (List.mem_map_of_mem hx)).2, HPL.out.2.2 x hx⟩))
                have RP := Lib.hid (OP.out.rcs (fun x hx => by rw [show x = o.x by simpa using hx]; exact ⟨XOK.out.fit, XOK.out.nl⟩))
                have RG := Lib.hid (OG.out.rcs (fun x hx => ⟨(HGG.out _ (by rw [← HRS.out]; exact List.mem_map_of_mem hx)).2, HNLG.out x hx⟩))
                have NH := Lib.hid (own_nil_s OL.out.own).1
                have NP := Lib.hid (own_nil_s OP.out.own).1
                have e0 := own_empty_s wf 34 5
                go_wp2_with (at_builtin; first
                  | (refine wpList_append_rn (f := recK.f) (s := 5) _ rfl (.tmp 125) (.tmp 126) 22 rfl recK_fine.hf recK_fine.hs recK_fine.one wf.heap.size 34 i1 _ 40 Try.underlying22 hif1 hy0 hy1 hy2 (by decide) rfl (some ⟨wf.heap.size, 0, none⟩) 0 0 [] rfl rfl e0 wf.heap.size Ah hs ch mh HLH.out rfl (RH.out.rc.alloc (Nat.le_refl _) _) (fun e => (NH.out e).1) mh (by omega) (by omega) (by simp) ?_; intro A7 c7 wg o7 g7 b7; have O7 := Lib.hid o7; have BX := Lib.hid ((bel_alloc (Below.refl wf.heap.size wf) _).trans b7); clear o7 g7 b7)
                  | (refine wpList_append_rn (f := recK.f) (s := 5) _ rfl (.tmp 127) (.tmp 128) 22 rfl recK_fine.hf recK_fine.hs recK_fine.one wf.heap.size 34 i1 _ 40 Try.underlying22 hif1 hy0 hy1 hy2 (by decide) rfl A7 c7 mh ([] ++ hs) rfl HLH.out O7.out wg.heap.size A5 [o.x] c5 1 rfl rfl (RP.out.to BX.out).rc (fun e => (NP.out e).1) (mh + 1) rfl (by omega) BX.out.size ?_; intro A8 c8 wh o8 g8 b8; have O8 := Lib.hid o8; have BX2 := Lib.hid (BX.out.trans b8); clear o8 g8 b8))
                clear e0 O7 BX
                have RALL : Hid (Rcs wh wh.heap.size A8 (hs ++ [o.x])) := Lib.hid ⟨Recs.of_own recK_fine.hf recK_fine.hs O8.out, fun b hb => by
                  rcases List.mem_append.1 hb with hb | hb
                  · exact (RH.out.to BX2.out).ok b hb
                  · exact (RP.out.to BX2.out).ok b hb⟩
                clear O8 RP NH NP OL OP APG APA APP APQ
                replace RH := Lib.hid (RH.out.to BX2.out)
                replace RG := Lib.hid (RG.out.to BX2.out)
                replace XOK := Lib.hid (XOK.out.below (BX2.out.mono BE.out.size))
                replace DK := Lib.hid (DK.out.to BX2.out)
                replace OG := Lib.hid (OG.out.to BX2.out)
                replace LG6 := Lib.hid (LG6.out.to BX2.out)
                replace OR := Lib.hid (OR.out.to BX2.out)
                replace BE := Lib.hid (BE.out.trans (BX2.out.mono BE.out.size))
                clear BX2
                refine (all_any Ag Ah rs hs cg ch mg mh wh HLG.out HLH.out RG.out RH.out (by omega)).mono ?_
                rintro e wi ⟨rfl, b9⟩
                clear RH
                replace RG := Lib.hid (RG.out.to b9)
                replace RALL := Lib.hid (RALL.out.to b9)
                replace XOK := Lib.hid (XOK.out.below (b9.mono BE.out.size))
                replace DK := Lib.hid (DK.out.to b9)
                replace OG := Lib.hid (OG.out.to b9)
                replace LG6 := Lib.hid (LG6.out.to b9)
                replace OR := Lib.hid (OR.out.to b9)
                replace BE := Lib.hid (BE.out.trans (b9.mono BE.out.size))
                clear b9
                rcases HG6.out with hG | hG
                · have he : Nr.eqs (rs.map Rc.p) (hs.map Rc.p) = true := (Nr.eqs_iff _ _).2 (HRS.out.trans hG)
                  rw [he]
                  clear hG he RG RALL
                  go_wp2_with fail
                  refine (sparks_any DK.out (-1) (by decide)).mono ?_
                  rintro e wk ⟨rfl, dk1, ko⟩
                  have mv1 := Moves.of_only (A := Ad6) ko
                  have fr1 : Ad6 = Ad6 ∨ ∀ p, Ad6 = some p → wi.heap.size ≤ p.block := .inl rfl
                  clear ko
                  have hlt_gl6 : gl6 < wi.heap.size := LG6.out.lt
                  have hlt_or : wr.heap.size < wi.heap.size := OR.out.lt
                  replace XOK := Lib.hid (XOK.out.below ((DK.out.moves mv1).mono hgd0))
                  replace OR := Lib.hid (mv1.row OR.out (by omega) HAO.out)
                  replace LG6 := Lib.hid (mv1.row LG6.out hgl6gd HAG6.out)
                  have AQA' : Hid (∀ p, Ad6 = some p → recK.Apart p.block Ag rs) := Lib.hid (fun p hp => by rcases fr1 with f | f; exact AQA.out p (f.symm.trans hp); exact OG.out.apart_new (f p hp))
                  replace OG := Lib.hid (OG.out.moves mv1 AQG.out AQA.out)
                  replace AQA := AQA'
                  clear AQA'
                  replace HAG6 : Hid (∀ p, Ad6 = some p → p.block ≠ gl6) := Lib.hid (fun p hp => by rcases fr1 with f | f; exact HAG6.out p (f.symm.trans hp); have := f p hp; omega)
                  replace HAO : Hid (∀ p, Ad6 = some p → p.block ≠ wr.heap.size) := Lib.hid (fun p hp => by rcases fr1 with f | f; exact HAO.out p (f.symm.trans hp); have := f p hp; omega)
                  replace BE := Lib.hid (BE.out.trans ((DK.out.moves mv1).mono hgd0))
                  replace DK := Lib.hid dk1
                  clear mv1 dk1 fr1 hlt_gl6 hlt_or
                  have hlh := Dk.lopen_has (HH6.out.sparks (-1)) HGG.out rfl
                  obtain ⟨D8, hD8⟩ : ∃ D8, D6.sparks (-1) = D8 := ⟨_, rfl⟩
                  rw [hD8] at DK hlh
                  clear hD8
                  obtain ⟨D9, G9, E9, hd9⟩ : ∃ D9 G9 E9, D8.lopen = (D9, G9, E9) := ⟨_, _, _, rfl⟩
                  have ko := open_any DK.out
                  rw [hd9] at ko hlh
                  obtain ⟨h9a, h9b, h9c⟩ := hlh
                  replace h9a : E9 = 0 := h9a
                  replace h9b : G9 = G := h9b
                  replace h9c : D9.Has G9 := h9b.symm ▸ h9c
                  subst h9a
                  have HG9 := Lib.hid h9b
                  have HH9 := Lib.hid h9c
                  clear hd9 h9b h9c
                  go_wp2_with fail
                  refine ko.mono ?_
                  clear ko
                  rintro e wm ⟨Ad9, cd9, pl9, At, mt, ct, ts, dk1, mv1, fr1, rfl, og, hts, hnlt, apg, apa, hz, hnz⟩
                  have OT := Lib.hid og
                  have HTS : Hid (ts.map Rc.p = G) := Lib.hid (hts.trans HG9.out)
                  have HNLT := Lib.hid (fun x hx => (hnlt x hx).1)
                  clear og hts hnlt apg apa hz hnz
                  have hlt_gl6 : gl6 < wk.heap.size := LG6.out.lt
                  have hlt_or : wr.heap.size < wk.heap.size := OR.out.lt
                  replace XOK := Lib.hid (XOK.out.below ((DK.out.moves mv1).mono hgd0))
                  replace OR := Lib.hid (mv1.row OR.out (by omega) HAO.out)
                  replace LG6 := Lib.hid (mv1.row LG6.out hgl6gd HAG6.out)
                  have AQA' : Hid (∀ p, Ad9 = some p → recK.Apart p.block Ag rs) := Lib.hid (fun p hp => by rcases fr1 with f | f; exact AQA.out p (f.symm.trans hp); exact OG.out.apart_new (f p hp))
                  replace OG := Lib.hid (OG.out.moves mv1 AQG.out AQA.out)
                  replace AQA := AQA'
                  clear AQA'
                  replace HAG6 : Hid (∀ p, Ad9 = some p → p.block ≠ gl6) := Lib.hid (fun p hp => by rcases fr1 with f | f; exact HAG6.out p (f.symm.trans hp); have := f p hp; omega)
                  replace HAO : Hid (∀ p, Ad9 = some p → p.block ≠ wr.heap.size) := Lib.hid (fun p hp => by rcases fr1 with f | f; exact HAO.out p (f.symm.trans hp); have := f p hp; omega)
                  replace BE := Lib.hid (BE.out.trans ((DK.out.moves mv1).mono hgd0))
                  replace DK := Lib.hid dk1
                  clear mv1 dk1 fr1 hlt_gl6 hlt_or
                  have hmt : mt = mg := by
                    have h1 : (ts.map Rc.p).length = (rs.map Rc.p).length := by rw [HTS.out, HRS.out]
                    rwa [List.length_map, OT.out.len, List.length_map, OG.out.len] at h1
                  subst hmt
                  have ha : Nr.eqs (ts.map Rc.p) (rs.map Rc.p) = true := (Nr.eqs_iff _ _).2 (by rw [HTS.out, HRS.out])
                  have ka := all_any At Ag ts rs ct cg mt mt wm OT.out.len OG.out.len (OT.out.rcs (fun x hx => ⟨(HGG.out _ (by rw [← HTS.out]; exact List.mem_map_of_mem hx)).2, HNLT.out x hx⟩)) (OG.out.rcs (fun x hx => ⟨(HGG.out _ (by rw [← HRS.out]; exact List.mem_map_of_mem hx)).2, HNLG.out x hx⟩)) (by omega)
                  rw [ha] at ka
                  clear ha
                  go_wp2_with fail
                  refine ka.mono ?_
                  clear ka
                  rintro e wn ⟨rfl, b11⟩
                  replace XOK := Lib.hid (XOK.out.below (b11.mono BE.out.size))
                  replace DK := Lib.hid (DK.out.to b11)
                  replace OG := Lib.hid (OG.out.to b11)
                  replace LG6 := Lib.hid (LG6.out.to b11)
                  replace OR := Lib.hid (OR.out.to b11)
                  replace BE := Lib.hid (BE.out.trans (b11.mono BE.out.size))
                  clear b11 OT
                  go_wp2
                  go_roundw
                  case rel => exact ⟨k + 1, D9, Ad9, cd9, gl6, Ag, cg, rs, mt, by omega, rfl, rfl, rfl, by go_num, DK.out, LG6.out, hgl6gd, HAG6, HAQ6, OG.out, Lib.hid ⟨by rw [HRS.out, ← HG9.out]; exact HH9.out, by rw [HRS.out]; exact HGG.out, HNLG.out⟩, Lib.hid ⟨AQG.out, AQA.out⟩, BE.out⟩
                  case measure => simp [intOf]; omega
                · have he : Nr.eqs (rs.map Rc.p) (hs.map Rc.p) = false := Nr.eqs_false (fun h => by
                    have h2 := congrArg List.length (h.symm.trans (HRS.out.trans hG))
                    simp at h2)
                  rw [he]
                  have ha : Nr.eqs (rs.map Rc.p) ((hs ++ [o.x]).map Rc.p) = true := (Nr.eqs_iff _ _).2 (by rw [HRS.out, hG, List.map_append]; rfl)
                  have ka := all_any Ag A8 rs (hs ++ [o.x]) cg c8 mg (mh + 1) wi HLG.out (by rw [List.length_append, HLH.out]; rfl) RG.out RALL.out (by omega)
                  rw [ha] at ka
                  clear hG he ha RG RALL
                  go_wp2_with fail
                  refine ka.mono ?_
                  clear ka
                  rintro e wj ⟨rfl, b10⟩
                  replace XOK := Lib.hid (XOK.out.below (b10.mono BE.out.size))
                  replace DK := Lib.hid (DK.out.to b10)
                  replace OG := Lib.hid (OG.out.to b10)
                  replace LG6 := Lib.hid (LG6.out.to b10)
                  replace OR := Lib.hid (OR.out.to b10)
                  replace BE := Lib.hid (BE.out.trans (b10.mono BE.out.size))
                  clear b10
                  go_wp2_with fail
                  refine (sparks_any DK.out (-1) (by decide)).mono ?_
                  rintro e wk ⟨rfl, dk1, ko⟩
                  have mv1 := Moves.of_only (A := Ad6) ko
                  have fr1 : Ad6 = Ad6 ∨ ∀ p, Ad6 = some p → wj.heap.size ≤ p.block := .inl rfl
                  clear ko
                  have hlt_gl6 : gl6 < wj.heap.size := LG6.out.lt
                  have hlt_or : wr.heap.size < wj.heap.size := OR.out.lt
                  replace XOK := Lib.hid (XOK.out.below ((DK.out.moves mv1).mono hgd0))
                  replace OR := Lib.hid (mv1.row OR.out (by omega) HAO.out)
                  replace LG6 := Lib.hid (mv1.row LG6.out hgl6gd HAG6.out)
                  have AQA' : Hid (∀ p, Ad6 = some p → recK.Apart p.block Ag rs) := Lib.hid (fun p hp => by rcases fr1 with f | f; exact AQA.out p (f.symm.trans hp); exact OG.out.apart_new (f p hp))
                  replace OG := Lib.hid (OG.out.moves mv1 AQG.out AQA.out)
                  replace AQA := AQA'
                  clear AQA'
                  replace HAG6 : Hid (∀ p, Ad6 = some p → p.block ≠ gl6) := Lib.hid (fun p hp => by rcases fr1 with f | f; exact HAG6.out p (f.symm.trans hp); have := f p hp; omega)
                  replace HAO : Hid (∀ p, Ad6 = some p → p.block ≠ wr.heap.size) := Lib.hid (fun p hp => by rcases fr1 with f | f; exact HAO.out p (f.symm.trans hp); have := f p hp; omega)
                  replace BE := Lib.hid (BE.out.trans ((DK.out.moves mv1).mono hgd0))
                  replace DK := Lib.hid dk1
                  clear mv1 dk1 fr1 hlt_gl6 hlt_or
                  have hlh := Dk.lopen_has (HH6.out.sparks (-1)) HGG.out rfl
                  obtain ⟨D8, hD8⟩ : ∃ D8, D6.sparks (-1) = D8 := ⟨_, rfl⟩
                  rw [hD8] at DK hlh
                  clear hD8
                  obtain ⟨D9, G9, E9, hd9⟩ : ∃ D9 G9 E9, D8.lopen = (D9, G9, E9) := ⟨_, _, _, rfl⟩
                  have ko := open_any DK.out
                  rw [hd9] at ko hlh
                  obtain ⟨h9a, h9b, h9c⟩ := hlh
                  replace h9a : E9 = 0 := h9a
                  replace h9b : G9 = G := h9b
                  replace h9c : D9.Has G9 := h9b.symm ▸ h9c
                  subst h9a
                  have HG9 := Lib.hid h9b
                  have HH9 := Lib.hid h9c
                  clear hd9 h9b h9c
                  go_wp2_with fail
                  refine ko.mono ?_
                  clear ko
                  rintro e wm ⟨Ad9, cd9, pl9, At, mt, ct, ts, dk1, mv1, fr1, rfl, og, hts, hnlt, apg, apa, hz, hnz⟩
                  have OT := Lib.hid og
                  have HTS : Hid (ts.map Rc.p = G) := Lib.hid (hts.trans HG9.out)
                  have HNLT := Lib.hid (fun x hx => (hnlt x hx).1)
                  clear og hts hnlt apg apa hz hnz
                  have hlt_gl6 : gl6 < wk.heap.size := LG6.out.lt
                  have hlt_or : wr.heap.size < wk.heap.size := OR.out.lt
                  replace XOK := Lib.hid (XOK.out.below ((DK.out.moves mv1).mono hgd0))
                  replace OR := Lib.hid (mv1.row OR.out (by omega) HAO.out)
                  replace LG6 := Lib.hid (mv1.row LG6.out hgl6gd HAG6.out)
                  have AQA' : Hid (∀ p, Ad9 = some p → recK.Apart p.block Ag rs) := Lib.hid (fun p hp => by rcases fr1 with f | f; exact AQA.out p (f.symm.trans hp); exact OG.out.apart_new (f p hp))
                  replace OG := Lib.hid (OG.out.moves mv1 AQG.out AQA.out)
                  replace AQA := AQA'
                  clear AQA'
                  replace HAG6 : Hid (∀ p, Ad9 = some p → p.block ≠ gl6) := Lib.hid (fun p hp => by rcases fr1 with f | f; exact HAG6.out p (f.symm.trans hp); have := f p hp; omega)
                  replace HAO : Hid (∀ p, Ad9 = some p → p.block ≠ wr.heap.size) := Lib.hid (fun p hp => by rcases fr1 with f | f; exact HAO.out p (f.symm.trans hp); have := f p hp; omega)
                  replace BE := Lib.hid (BE.out.trans ((DK.out.moves mv1).mono hgd0))
                  replace DK := Lib.hid dk1
                  clear mv1 dk1 fr1 hlt_gl6 hlt_or
                  have hmt : mt = mg := by
                    have h1 : (ts.map Rc.p).length = (rs.map Rc.p).length := by rw [HTS.out, HRS.out]
                    rwa [List.length_map, OT.out.len, List.length_map, OG.out.len] at h1
                  subst hmt
                  have ha : Nr.eqs (ts.map Rc.p) (rs.map Rc.p) = true := (Nr.eqs_iff _ _).2 (by rw [HTS.out, HRS.out])
                  have ka := all_any At Ag ts rs ct cg mt mt wm OT.out.len OG.out.len (OT.out.rcs (fun x hx => ⟨(HGG.out _ (by rw [← HTS.out]; exact List.mem_map_of_mem hx)).2, HNLT.out x hx⟩)) (OG.out.rcs (fun x hx => ⟨(HGG.out _ (by rw [← HRS.out]; exact List.mem_map_of_mem hx)).2, HNLG.out x hx⟩)) (by omega)
                  rw [ha] at ka
                  clear ha
                  go_wp2_with fail
                  refine ka.mono ?_
                  clear ka
                  rintro e wn ⟨rfl, b11⟩
                  replace XOK := Lib.hid (XOK.out.below (b11.mono BE.out.size))
                  replace DK := Lib.hid (DK.out.to b11)
                  replace OG := Lib.hid (OG.out.to b11)
                  replace LG6 := Lib.hid (LG6.out.to b11)
                  replace OR := Lib.hid (OR.out.to b11)
                  replace BE := Lib.hid (BE.out.trans (b11.mono BE.out.size))
                  clear b11 OT
                  go_wp2
                  go_roundw
                  case rel => exact ⟨k + 1, D9, Ad9, cd9, gl6, Ag, cg, rs, mt, by omega, rfl, rfl, rfl, by go_num, DK.out, LG6.out, hgl6gd, HAG6, HAQ6, OG.out, Lib.hid ⟨by rw [HRS.out, ← HG9.out]; exact HH9.out, by rw [HRS.out]; exact HGG.out, HNLG.out⟩, Lib.hid ⟨AQG.out, AQA.out⟩, BE.out⟩
                  case measure => simp [intOf]; omega
              · exact absurd HL5.out hl6
          · replace hE : E1 = 5 ∨ E1 = 50 := hE
            have HH : Hid (D1.Has (hs.map Rc.p)) := Lib.hid hh
            clear hh
            rcases hE with hE | hE
            · subst hE
              go_wp2
              go_roundw
              case rel => exact ⟨k + 1, D1, Ad1, cd1, gl, Ah, ch, hs, mh, by omega, rfl, rfl, rfl, by go_num, DK.out, LG.out, hglgd, HAGL, HAQ, OL.out, Lib.hid ⟨HH.out, HPL.out.2.1, HPL.out.2.2⟩, Lib.hid ⟨APG.out, APA.out⟩, BE.out⟩
              case measure => simp [intOf]; omega
            · subst hE
              go_wp2
              go_roundw
              case rel => exact ⟨k + 1, D1, Ad1, cd1, gl, Ah, ch, hs, mh, by omega, rfl, rfl, rfl, by go_num, DK.out, LG.out, hglgd, HAGL, HAQ, OL.out, Lib.hid ⟨HH.out, HPL.out.2.1, HPL.out.2.2⟩, Lib.hid ⟨APG.out, APA.out⟩, BE.out⟩
              case measure => simp [intOf]; omega
        · obtain ⟨D1, E1, hd⟩ : ∃ D1 E1, D.lappend o.x.p = (D1, E1) := ⟨_, _, rfl⟩
          have hla := Dk.lappend_has HPL.out.1 o.x.p
          have kap := lappend_any DK.out LG.out hglgd HAGL.out o.x.p o.x.A o.x.c o.x.p.text.length rfl XOK.out.fit (XOK.out.sq.more BE.out.size) XOK.out.nl.1
          rw [hd] at hla kap
          have HLA := Lib.hid hla
          clear hd hla
          go_wp2_with (refine wpList_load_mid rfl 34 (.tmp 69) rfl wr.heap.size 1 rfl (rcV o.x.p.what o.x.p.tx o.x.p.who o.x.p.yes o.x.A o.x.p.text.length o.x.c) _ (OR.out.range 1 5) Try.underlying34 rfl size_rec ?_)
          refine kap.mono ?_
          clear kap
          rintro e w7 ⟨rfl, Ad1, cd1, dk1, mv1, fr1⟩
          have hlt_gl : gl < (wr.alloc (.cells o.C.toArray 51)).heap.size := LG.out.lt
          have hlt_or : wr.heap.size < (wr.alloc (.cells o.C.toArray 51)).heap.size := OR.out.lt
          replace XOK := Lib.hid (XOK.out.below ((DK.out.moves mv1).mono hgd0))
          replace OR := Lib.hid (mv1.row OR.out (by omega) HAO.out)
          replace LG := Lib.hid (mv1.row LG.out hglgd HAGL.out)
          have APA' : Hid (∀ p, Ad1 = some p → recK.Apart p.block Ah hs) := Lib.hid (fun p hp => by rcases fr1 with f | f; exact APA.out p (f.symm.trans hp); exact OL.out.apart_new (f p hp))
          replace OL := Lib.hid (OL.out.moves mv1 APG.out APA.out)
          replace APA := APA'
          clear APA'
          replace HAGL : Hid (∀ p, Ad1 = some p → p.block ≠ gl) := Lib.hid (fun p hp => by rcases fr1 with f | f; exact HAGL.out p (f.symm.trans hp); have := f p hp; omega)
          replace HAO : Hid (∀ p, Ad1 = some p → p.block ≠ wr.heap.size) := Lib.hid (fun p hp => by rcases fr1 with f | f; exact HAO.out p (f.symm.trans hp); have := f p hp; omega)
          replace BE := Lib.hid (BE.out.trans ((DK.out.moves mv1).mono hgd0))
          replace DK := Lib.hid dk1
          clear mv1 dk1 fr1 hlt_gl hlt_or
          have hw7 : wr.heap.size < w7.heap.size := OR.out.lt
          have hgd7 : gd < w7.heap.size := DK.out.lt
          rcases HLA.out with ⟨hE, hr, hh⟩ | ⟨hE, hr, ht⟩ | ⟨hE, hh⟩
          · replace hE : E1 = 0 := hE
            subst hE
            have HH : Hid (D1.Has (hs.map Rc.p ++ [o.x.p])) := Lib.hid hh
            have HR := Lib.hid hr
            clear hh hr
            have hoff : recK.Off Ah o.x := fun hn p q hp hq => by
              obtain ⟨b, o', hA, hb, _⟩ := XOK.out.sq hn
              rw [show o.x.A = some p from hp] at hA
              obtain rfl := Option.some.inj hA
              have := (own_at_s OL.out.own q hq).1
              show q.block ≠ b
              omega
            have HOF := Lib.hid hoff
            have hfew : mh * 13 ≤ 262144 := by have := HPL.out.1.few DOK.out; rw [List.length_map, OL.out.len] at this; have := DOK.out.hi; omega
            clear hoff
            go_wp2_with (first | (refine wpList_load_mid rfl 34 (.tmp 76) rfl wr.heap.size 1 rfl (rcV o.x.p.what o.x.p.tx o.x.p.who o.x.p.yes o.x.A o.x.p.text.length o.x.c) _ (OR.out.range 1 5) Try.underlying34 rfl size_rec ?_) | (at_builtin; refine wpList_append_el w7 rfl (.tmp 75) (.tmp 78) 22 rfl recK_fine w.heap.size 34 i1 _ 40 Try.underlying22 hif1 hy0 hy1 hy2 rfl Ah mh ch hs rfl 34 o.x w7.heap.size rfl OL.out rfl (XOK.out.sq.more BE.out.size) HOF.out (by omega) (by omega) BE.out.size ?_; intro A4 c4 w8 ol4 g4 wh4 b4; have OL4 := Lib.hid ol4; have G4 := Lib.hid g4; have WH4 := Lib.hid wh4; have B4 := Lib.hid b4; clear ol4 g4 wh4 b4))
            have b70 : Below w7.heap.size w7 (w7.alloc (.cells (recK.f o.x).toArray 34)) := bel_alloc (Below.refl _ _) _
            have DK8 := Lib.hid ((DK.out.to b70).grown G4.out (not_row APG.out.1) (fun p hp => not_row (APA.out p hp).1))
            have LG8 := Lib.hid ((LG.out.to b70).grown G4.out (not_row HAQ.out))
            have hgl7 : gl < w7.heap.size := LG.out.lt
            have HAQ8 : Hid (∀ q, A4 = some q → q.block ≠ gl) := Lib.hid (fun q hq => by rcases WH4.out q hq with ⟨q0, h0, h1⟩ | h1; rw [← h1]; exact HAQ.out q0 h0; omega)
            have APG8 := Lib.hid (apart_push APG.out WH4.out hgd7 (text_lt XOK.out hgd0))
            have APA8 : Hid (∀ p, Ad1 = some p → recK.Apart p.block A4 (hs ++ [o.x])) := Lib.hid (fun p hp => by have h1 := own_at DK.out.own p hp; exact apart_push (APA.out p hp) WH4.out h1.2.1 (text_lt XOK.out (by omega)))
            replace BE := Lib.hid (BE.out.trans B4.out)
            have HGD : Hid (Good ((hs ++ [o.x]).map Rc.p)) := Lib.hid (by rw [List.map_append]; exact HPL.out.2.1.snoc ⟨HR.out, XOK.out.fit⟩)
            have HNL : Hid (∀ x ∈ hs ++ [o.x], x.Nl) := Lib.hid (fun x hx => by rcases List.mem_append.1 hx with h1 | h1; exact HPL.out.2.2 x h1; rw [List.mem_singleton.1 h1]; exact XOK.out.nl)
            clear b70
            go_wp2
            go_roundw
            case rel => exact ⟨k + 1, D1, Ad1, cd1, gl, A4, c4, (hs ++ [o.x]), (mh + 1), by omega, rfl, rfl, rfl, by go_num, DK8.out, LG8.out, hglgd, HAGL, HAQ8, OL4.out, Lib.hid ⟨by rw [List.map_append]; exact HH.out, HGD.out, HNL.out⟩, Lib.hid ⟨APG8.out, APA8.out⟩, BE.out⟩
            case measure => simp [intOf]; omega
          · replace hE : E1 = 6 := hE
            subst hE
            have HT : Hid (D1.Tail (hs.map Rc.p) o.x.p) := Lib.hid ht
            have HR := Lib.hid hr
            clear ht hr
            have kr := nright_any o.x.p o.x.A o.x.c o.x.p.text.length rfl w7
            rw [HR.out] at kr
            go_wp2_with (refine wpList_load_mid rfl 34 (.tmp 83) rfl wr.heap.size 1 rfl (rcV o.x.p.what o.x.p.tx o.x.p.who o.x.p.yes o.x.A o.x.p.text.length o.x.c) _ (OR.out.range 1 5) Try.underlying34 rfl size_rec ?_)
            refine kr.mono ?_
            clear kr
            rintro e w8 ⟨rfl, bb⟩
            replace XOK := Lib.hid (XOK.out.below (bb.mono BE.out.size))
            replace DK := Lib.hid (DK.out.to bb)
            replace OL := Lib.hid (OL.out.to bb)
            replace OR := Lib.hid (OR.out.to bb)
            replace BE := Lib.hid (BE.out.trans (bb.mono BE.out.size))
            have hw8 := bb.size
            clear bb LG HAGL HAQ
            go_wp2_with (first | (refine wpList_load_mid rfl 34 (.tmp 87) rfl wr.heap.size 1 rfl (rcV o.x.p.what o.x.p.tx o.x.p.who o.x.p.yes o.x.A o.x.p.text.length o.x.c) _ (OR.out.range 1 5) Try.underlying34 rfl size_rec ?_) | (at_builtin; refine wpList_append_el w8 rfl (.tmp 86) (.tmp 89) 22 rfl recK_fine w.heap.size 34 i1 _ 40 Try.underlying22 hif1 hy0 hy1 hy2 rfl none 0 0 [] rfl 34 o.x w8.heap.size rfl (Olist.nil _ _ _ _) rfl (XOK.out.sq.more BE.out.size) (fun _ _ _ _ hq => by cases hq) (by omega) (by omega) BE.out.size ?_; intro A5 c5 w9 ol5 g5 wh5 b5; have OP := Lib.hid ol5; have BB := Lib.hid ((bel_alloc (Below.refl w8.heap.size w8) _).trans ((below_of_new g5).mono (by simp))); have WH5 := Lib.hid wh5; have oclt : wr.heap.size < w9.heap.size := (OR.out.to BB.out).lt; have oc6 : w9.cell? ⟨wr.heap.size, 6, none⟩ = some (.int .i64 o.n) := (OR.out.to BB.out).cells 6; have ocz6 : w9.frozen? ⟨wr.heap.size, 6, none⟩ = false := (OR.out.to BB.out).frozen 6; clear ol5 g5 wh5 b5))
            have hgd8 : gd < w8.heap.size := by omega
            have APP := Lib.hid (apart_push (Kind.Apart.nil recK gd) WH5.out hgd8 (text_lt XOK.out hgd0))
            have APQ : Hid (∀ p, Ad1 = some p → recK.Apart p.block A5 [o.x]) := Lib.hid (fun p hp => by have h1 := own_at DK.out.own p hp; exact apart_push (Kind.Apart.nil recK p.block) WH5.out h1.2.1 (text_lt XOK.out (by omega)))
            replace XOK := Lib.hid (XOK.out.below (BB.out.mono BE.out.size))
            replace DK := Lib.hid (DK.out.to BB.out)
            replace OL := Lib.hid (OL.out.to BB.out)
            replace OR := Lib.hid (OR.out.to BB.out)
            replace BE := Lib.hid (BE.out.trans (BB.out.mono BE.out.size))
            clear BB WH5
            have HTC0 := Lib.hid (HT.out.crash DK.out.ok.safe o.n)
            refine (crash_any DK.out o.n XN.out.1 XN.out.2).mono ?_
            rintro e wa ⟨rfl, dk1, ko⟩
            have mv1 := Moves.of_only (A := Ad1) ko
            have fr1 : Ad1 = Ad1 ∨ ∀ p, Ad1 = some p → w9.heap.size ≤ p.block := .inl rfl
            clear ko
            have hlt_or : wr.heap.size < w9.heap.size := OR.out.lt
            replace XOK := Lib.hid (XOK.out.below ((DK.out.moves mv1).mono hgd0))
            replace OR := Lib.hid (mv1.row OR.out (by omega) HAO.out)
            have APA' : Hid (∀ p, Ad1 = some p → recK.Apart p.block Ah hs) := Lib.hid (fun p hp => by rcases fr1 with f | f; exact APA.out p (f.symm.trans hp); exact OL.out.apart_new (f p hp))
            replace OL := Lib.hid (OL.out.moves mv1 APG.out APA.out)
            replace APA := APA'
            clear APA'
            have APQ' : Hid (∀ p, Ad1 = some p → recK.Apart p.block A5 [o.x]) := Lib.hid (fun p hp => by rcases fr1 with f | f; exact APQ.out p (f.symm.trans hp); exact OP.out.apart_new (f p hp))
            replace OP := Lib.hid (OP.out.moves mv1 APP.out APQ.out)
            replace APQ := APQ'
            clear APQ'
            replace HAO : Hid (∀ p, Ad1 = some p → p.block ≠ wr.heap.size) := Lib.hid (fun p hp => by rcases fr1 with f | f; exact HAO.out p (f.symm.trans hp); have := f p hp; omega)
            replace BE := Lib.hid (BE.out.trans ((DK.out.moves mv1).mono hgd0))
            replace DK := Lib.hid dk1
            clear mv1 dk1 fr1 hlt_or
            have htc := HTC0.out
            clear HTC0
            obtain ⟨D2, hD2⟩ : ∃ D2, D1.crash o.n = D2 := ⟨_, rfl⟩
            rw [hD2] at DK htc
            clear hD2
            have odlt : wr.heap.size < (wa).heap.size := OR.out.lt
            have odlu : wr.heap.size < (wa).heap.size + 1 := Nat.lt_succ_of_lt OR.out.lt
            have od0 : (wa).cell? ⟨wr.heap.size, 0, none⟩ = some (.int .u8 (o.what : Int)) := OR.out.cells 0
            have odz0 : (wa).frozen? ⟨wr.heap.size, 0, none⟩ = false := OR.out.frozen 0
            have od1 : (wa).cell? ⟨wr.heap.size, 1, none⟩ = some (.int .u8 (o.x.p.what : Int)) := OR.out.cells 1
            have odz1 : (wa).frozen? ⟨wr.heap.size, 1, none⟩ = false := OR.out.frozen 1
            have od2 : (wa).cell? ⟨wr.heap.size, 2, none⟩ = some (.int .u32 (o.x.p.tx : Int)) := OR.out.cells 2
            have odz2 : (wa).frozen? ⟨wr.heap.size, 2, none⟩ = false := OR.out.frozen 2
            have od3 : (wa).cell? ⟨wr.heap.size, 3, none⟩ = some (.int .u8 (o.x.p.who : Int)) := OR.out.cells 3
            have odz3 : (wa).frozen? ⟨wr.heap.size, 3, none⟩ = false := OR.out.frozen 3
            have od4 : (wa).cell? ⟨wr.heap.size, 4, none⟩ = some (.bool o.x.p.yes) := OR.out.cells 4
            have odz4 : (wa).frozen? ⟨wr.heap.size, 4, none⟩ = false := OR.out.frozen 4
            have od5 : (wa).cell? ⟨wr.heap.size, 5, none⟩ = some (.slice o.x.A o.x.p.text.length o.x.c) := OR.out.cells 5
            have odz5 : (wa).frozen? ⟨wr.heap.size, 5, none⟩ = false := OR.out.frozen 5
            have od6 : (wa).cell? ⟨wr.heap.size, 6, none⟩ = some (.int .i64 o.n) := OR.out.cells 6
            have odz6 : (wa).frozen? ⟨wr.heap.size, 6, none⟩ = false := OR.out.frozen 6
            have HTC := Lib.hid htc
            clear htc
            go_wp2_with fail
            refine (sparks_any DK.out o.n XN.out.2).mono ?_
            rintro e wb ⟨rfl, dk1, ko⟩
            have mv1 := Moves.of_only (A := Ad1) ko
            have fr1 : Ad1 = Ad1 ∨ ∀ p, Ad1 = some p → wa.heap.size ≤ p.block := .inl rfl
            clear ko
            have hlt_or : wr.heap.size < wa.heap.size := OR.out.lt
            replace XOK := Lib.hid (XOK.out.below ((DK.out.moves mv1).mono hgd0))
            replace OR := Lib.hid (mv1.row OR.out (by omega) HAO.out)
            have APA' : Hid (∀ p, Ad1 = some p → recK.Apart p.block Ah hs) := Lib.hid (fun p hp => by rcases fr1 with f | f; exact APA.out p (f.symm.trans hp); exact OL.out.apart_new (f p hp))
            replace OL := Lib.hid (OL.out.moves mv1 APG.out APA.out)
            replace APA := APA'
            clear APA'
            have APQ' : Hid (∀ p, Ad1 = some p → recK.Apart p.block A5 [o.x]) := Lib.hid (fun p hp => by rcases fr1 with f | f; exact APQ.out p (f.symm.trans hp); exact OP.out.apart_new (f p hp))
            replace OP := Lib.hid (OP.out.moves mv1 APP.out APQ.out)
            replace APQ := APQ'
            clear APQ'
            replace HAO : Hid (∀ p, Ad1 = some p → p.block ≠ wr.heap.size) := Lib.hid (fun p hp => by rcases fr1 with f | f; exact HAO.out p (f.symm.trans hp); have := f p hp; omega)
            replace BE := Lib.hid (BE.out.trans ((DK.out.moves mv1).mono hgd0))
            replace DK := Lib.hid dk1
            clear mv1 dk1 fr1 hlt_or
            have hto := Dk.lopen_tail (HTC.out.1.sparks o.n) HPL.out.2.1 ⟨HR.out, XOK.out.fit⟩ HTC.out.2.1 HTC.out.2.2.1
            obtain ⟨D3, hD3⟩ : ∃ D3, D2.sparks o.n = D3 := ⟨_, rfl⟩
            rw [hD3] at DK hto
            clear hD3
            obtain ⟨D4, G, E4, hd4⟩ : ∃ D4 G E4, D3.lopen = (D4, G, E4) := ⟨_, _, _, rfl⟩
            have ko := open_any DK.out
            rw [hd4] at ko hto
            have HTO := Lib.hid hto
            have hgdb : gd < wb.heap.size := DK.out.lt
            clear hto hd4
            go_wp2_with fail
            refine ko.mono ?_
            clear ko
            rintro e wc ⟨Ad4, cd4, pl, Ag, mg, cg, rs, dk1, mv1, fr1, rfl, og, hrs, hnl, apg, apa, hz, hnz⟩
            have OG := Lib.hid (og.base_le (base' := w.heap.size) BE.out.size)
            have AQG := Lib.hid apg
            have AQA : Hid (∀ p, Ad4 = some p → recK.Apart p.block Ag rs) := Lib.hid apa
            have HRS : Hid (rs.map Rc.p = G) := Lib.hid hrs
            have HNLG := Lib.hid (fun x hx => (hnl x hx).1)
            have HZ := Lib.hid hz
            clear og hrs hnl apg apa hz hnz
            have hlt_or : wr.heap.size < wb.heap.size := OR.out.lt
            replace XOK := Lib.hid (XOK.out.below ((DK.out.moves mv1).mono hgd0))
            replace OR := Lib.hid (mv1.row OR.out (by omega) HAO.out)
            have APA' : Hid (∀ p, Ad4 = some p → recK.Apart p.block Ah hs) := Lib.hid (fun p hp => by rcases fr1 with f | f; exact APA.out p (f.symm.trans hp); exact OL.out.apart_new (f p hp))
            replace OL := Lib.hid (OL.out.moves mv1 APG.out APA.out)
            replace APA := APA'
            clear APA'
            have APQ' : Hid (∀ p, Ad4 = some p → recK.Apart p.block A5 [o.x]) := Lib.hid (fun p hp => by rcases fr1 with f | f; exact APQ.out p (f.symm.trans hp); exact OP.out.apart_new (f p hp))
            replace OP := Lib.hid (OP.out.moves mv1 APP.out APQ.out)
            replace APQ := APQ'
            clear APQ'
            replace HAO : Hid (∀ p, Ad4 = some p → p.block ≠ wr.heap.size) := Lib.hid (fun p hp => by rcases fr1 with f | f; exact HAO.out p (f.symm.trans hp); have := f p hp; omega)
            replace BE := Lib.hid (BE.out.trans ((DK.out.moves mv1).mono hgd0))
            replace DK := Lib.hid dk1
            clear mv1 dk1 fr1 hlt_or
            rcases HTO.out with ⟨hE, hG, hh⟩ | ⟨hE, ht, hl⟩
            · replace hE : E4 = 0 := hE
              subst hE
              have HH6 : Hid (D4.Has G) := Lib.hid hh
              have HG6 : Hid (G = hs.map Rc.p ∨ G = hs.map Rc.p ++ [o.x.p]) := Lib.hid hG
              clear hh hG HTO
              obtain ⟨gl6, rfl, lg6, hgl6, hag6, haq6⟩ := HZ.out rfl
              have LG6 := Lib.hid lg6
              have HAG6 : Hid (∀ p, Ad4 = some p → p.block ≠ gl6) := Lib.hid hag6
              have HAQ6 : Hid (∀ q, Ag = some q → q.block ≠ gl6) := Lib.hid haq6
              have hgl6gd : gl6 ≠ gd := by omega
              clear lg6 hag6 haq6 HZ
              have HGG : Hid (Good G) := Lib.hid (by
                rcases HG6.out with e | e
                · rw [e]; exact HPL.out.2.1
                · rw [e]; exact HPL.out.2.1.snoc ⟨HR.out, XOK.out.fit⟩)
              have hfewG : mg * 13 ≤ 262144 := by
                have h1 := HH6.out.few DK.out.ok
                have h2 := DK.out.ok.hi
                rw [← HRS.out, List.length_map, OG.out.len] at h1
                exact Nat.le_trans h1 h2
              have hmh : mh ≤ mg := by
                have h1 : (rs.map Rc.p).length = G.length := by rw [HRS.out]
                have h2 : (hs.map Rc.p).length ≤ G.length := by rcases HG6.out with e | e <;> rw [e] <;> simp
                rw [List.length_map, OG.out.len] at h1
                rw [List.length_map, OL.out.len] at h2
                omega
              have HLH := Lib.hid OL.out.len
              have HLG := Lib.hid OG.out.len
              have RH := Lib.hid (OL.out.rcs (fun x hx => ⟨(HPL.out.2.1 _ (List.mem_map_of_mem hx)).2, HPL.out.2.2 x hx⟩))
              have RP := Lib.hid (OP.out.rcs (fun x hx => by rw [show x = o.x by simpa using hx]; exact ⟨XOK.out.fit, XOK.out.nl⟩))
              have RG := Lib.hid (OG.out.rcs (fun x hx => ⟨(HGG.out _ (by rw [← HRS.out]; exact List.mem_map_of_mem hx)).2, HNLG.out x hx⟩))
              have NH := Lib.hid (own_nil_s OL.out.own).1
              have NP := Lib.hid (own_nil_s OP.out.own).1
              have e0 := own_empty_s wc 34 5
              go_wp2_with (at_builtin; first
                | (refine wpList_append_rn (f := recK.f) (s := 5) _ rfl (.tmp 125) (.tmp 126) 22 rfl recK_fine.hf recK_fine.hs recK_fine.one wc.heap.size 34 i1 _ 40 Try.underlying22 hif1 hy0 hy1 hy2 (by decide) rfl (some ⟨wc.heap.size, 0, none⟩) 0 0 [] rfl rfl e0 wc.heap.size Ah hs ch mh HLH.out rfl (RH.out.rc.alloc (Nat.le_refl _) _) (fun e => (NH.out e).1) mh (by omega) (by omega) (by simp) ?_; intro A7 c7 wg o7 g7 b7; have O7 := Lib.hid o7; have BX := Lib.hid ((bel_alloc (Below.refl wc.heap.size wc) _).trans b7); clear o7 g7 b7)
                | (refine wpList_append_rn (f := recK.f) (s := 5) _ rfl (.tmp 127) (.tmp 128) 22 rfl recK_fine.hf recK_fine.hs recK_fine.one wc.heap.size 34 i1 _ 40 Try.underlying22 hif1 hy0 hy1 hy2 (by decide) rfl A7 c7 mh ([] ++ hs) rfl HLH.out O7.out wg.heap.size A5 [o.x] c5 1 rfl rfl (RP.out.to BX.out).rc (fun e => (NP.out e).1) (mh + 1) rfl (by omega) BX.out.size ?_; intro A8 c8 wh o8 g8 b8; have O8 := Lib.hid o8; have BX2 := Lib.hid (BX.out.trans b8); clear o8 g8 b8))
              clear e0 O7 BX
              have RALL : Hid (Rcs wh wh.heap.size A8 (hs ++ [o.x])) := Lib.hid ⟨Recs.of_own recK_fine.hf recK_fine.hs O8.out, fun b hb => by
                rcases List.mem_append.1 hb with hb | hb
                · exact (RH.out.to BX2.out).ok b hb
                · exact (RP.out.to BX2.out).ok b hb⟩
              clear O8 RP NH NP OL OP APG APA APP APQ
              replace RH := Lib.hid (RH.out.to BX2.out)
              replace RG := Lib.hid (RG.out.to BX2.out)
              replace XOK := Lib.hid (XOK.out.below (BX2.out.mono BE.out.size))
              replace DK := Lib.hid (DK.out.to BX2.out)
              replace OG := Lib.hid (OG.out.to BX2.out)
              replace LG6 := Lib.hid (LG6.out.to BX2.out)
              replace OR := Lib.hid (OR.out.to BX2.out)
              replace BE := Lib.hid (BE.out.trans (BX2.out.mono BE.out.size))
              clear BX2
              refine (all_any Ag Ah rs hs cg ch mg mh wh HLG.out HLH.out RG.out RH.out (by omega)).mono ?_
              rintro e wi ⟨rfl, b9⟩
              clear RH
              replace RG := Lib.hid (RG.out.to b9)
              replace RALL := Lib.hid (RALL.out.to b9)
              replace XOK := Lib.hid (XOK.out.below (b9.mono BE.out.size))
              replace DK := Lib.hid (DK.out.to b9)
              replace OG := Lib.hid (OG.out.to b9)
              replace LG6 := Lib.hid (LG6.out.to b9)
              replace OR := Lib.hid (OR.out.to b9)
              replace BE := Lib.hid (BE.out.trans (b9.mono BE.out.size))
              clear b9
              rcases HG6.out with hG | hG
              · have he : Nr.eqs (rs.map Rc.p) (hs.map Rc.p) = true := (Nr.eqs_iff _ _).2 (HRS.out.trans hG)
                rw [he]
                clear hG he RG RALL
                go_wp2_with fail
                refine (sparks_any DK.out (-1) (by decide)).mono ?_
                rintro e wk ⟨rfl, dk1, ko⟩
                have mv1 := Moves.of_only (A := Ad4) ko
                have fr1 : Ad4 = Ad4 ∨ ∀ p, Ad4 = some p → wi.heap.size ≤ p.block := .inl rfl
                clear ko
                have hlt_gl6 : gl6 < wi.heap.size := LG6.out.lt
                have hlt_or : wr.heap.size < wi.heap.size := OR.out.lt
                replace XOK := Lib.hid (XOK.out.below ((DK.out.moves mv1).mono hgd0))
                replace OR := Lib.hid (mv1.row OR.out (by omega) HAO.out)
                replace LG6 := Lib.hid (mv1.row LG6.out hgl6gd HAG6.out)
                have AQA' : Hid (∀ p, Ad4 = some p → recK.Apart p.block Ag rs) := Lib.hid (fun p hp => by rcases fr1 with f | f; exact AQA.out p (f.symm.trans hp); exact OG.out.apart_new (f p hp))
                replace OG := Lib.hid (OG.out.moves mv1 AQG.out AQA.out)
                replace AQA := AQA'
                clear AQA'
                replace HAG6 : Hid (∀ p, Ad4 = some p → p.block ≠ gl6) := Lib.hid (fun p hp => by rcases fr1 with f | f; exact HAG6.out p (f.symm.trans hp); have := f p hp; omega)
                replace HAO : Hid (∀ p, Ad4 = some p → p.block ≠ wr.heap.size) := Lib.hid (fun p hp => by rcases fr1 with f | f; exact HAO.out p (f.symm.trans hp); have := f p hp; omega)
                replace BE := Lib.hid (BE.out.trans ((DK.out.moves mv1).mono hgd0))
                replace DK := Lib.hid dk1
                clear mv1 dk1 fr1 hlt_gl6 hlt_or
                have hlh := Dk.lopen_has (HH6.out.sparks (-1)) HGG.out rfl
                obtain ⟨D8, hD8⟩ : ∃ D8, D4.sparks (-1) = D8 := ⟨_, rfl⟩
                rw [hD8] at DK hlh
                clear hD8
                obtain ⟨D9, G9, E9, hd9⟩ : ∃ D9 G9 E9, D8.lopen = (D9, G9, E9) := ⟨_, _, _, rfl⟩
                have ko := open_any DK.out
                rw [hd9] at ko hlh
                obtain ⟨h9a, h9b, h9c⟩ := hlh
                replace h9a : E9 = 0 := h9a
                replace h9b : G9 = G := h9b
                replace h9c : D9.Has G9 := h9b.symm ▸ h9c
                subst h9a
                have HG9 := Lib.hid h9b
                have HH9 := Lib.hid h9c
                clear hd9 h9b h9c
                go_wp2_with fail
                refine ko.mono ?_
                clear ko
                rintro e wm ⟨Ad9, cd9, pl9, At, mt, ct, ts, dk1, mv1, fr1, rfl, og, hts, hnlt, apg, apa, hz, hnz⟩
                have OT := Lib.hid og
                have HTS : Hid (ts.map Rc.p = G) := Lib.hid (hts.trans HG9.out)
                have HNLT := Lib.hid (fun x hx => (hnlt x hx).1)
                clear og hts hnlt apg apa hz hnz
                have hlt_gl6 : gl6 < wk.heap.size := LG6.out.lt
                have hlt_or : wr.heap.size < wk.heap.size := OR.out.lt
                replace XOK := Lib.hid (XOK.out.below ((DK.out.moves mv1).mono hgd0))
                replace OR := Lib.hid (mv1.row OR.out (by omega) HAO.out)
                replace LG6 := Lib.hid (mv1.row LG6.out hgl6gd HAG6.out)
                have AQA' : Hid (∀ p, Ad9 = some p → recK.Apart p.block Ag rs) := Lib.hid (fun p hp => by rcases fr1 with f | f; exact AQA.out p (f.symm.trans hp); exact OG.out.apart_new (f p hp))
                replace OG := Lib.hid (OG.out.moves mv1 AQG.out AQA.out)
                replace AQA := AQA'
                clear AQA'
                replace HAG6 : Hid (∀ p, Ad9 = some p → p.block ≠ gl6) := Lib.hid (fun p hp => by rcases fr1 with f | f; exact HAG6.out p (f.symm.trans hp); have := f p hp; omega)
                replace HAO : Hid (∀ p, Ad9 = some p → p.block ≠ wr.heap.size) := Lib.hid (fun p hp => by rcases fr1 with f | f; exact HAO.out p (f.symm.trans hp); have := f p hp; omega)
                replace BE := Lib.hid (BE.out.trans ((DK.out.moves mv1).mono hgd0))
                replace DK := Lib.hid dk1
                clear mv1 dk1 fr1 hlt_gl6 hlt_or
                have hmt : mt = mg := by
                  have h1 : (ts.map Rc.p).length = (rs.map Rc.p).length := by rw [HTS.out, HRS.out]
                  rwa [List.length_map, OT.out.len, List.length_map, OG.out.len] at h1
                subst hmt
                have ha : Nr.eqs (ts.map Rc.p) (rs.map Rc.p) = true := (Nr.eqs_iff _ _).2 (by rw [HTS.out, HRS.out])
                have ka := all_any At Ag ts rs ct cg mt mt wm OT.out.len OG.out.len (OT.out.rcs (fun x hx => ⟨(HGG.out _ (by rw [← HTS.out]; exact List.mem_map_of_mem hx)).2, HNLT.out x hx⟩)) (OG.out.rcs (fun x hx => ⟨(HGG.out _ (by rw [← HRS.out]; exact List.mem_map_of_mem hx)).2, HNLG.out x hx⟩)) (by omega)
                rw [ha] at ka
                clear ha
                go_wp2_with fail
                refine ka.mono ?_
                clear ka
                rintro e wn ⟨rfl, b11⟩
                replace XOK := Lib.hid (XOK.out.below (b11.mono BE.out.size))
                replace DK := Lib.hid (DK.out.to b11)
                replace OG := Lib.hid (OG.out.to b11)
                replace LG6 := Lib.hid (LG6.out.to b11)
                replace OR := Lib.hid (OR.out.to b11)
                replace BE := Lib.hid (BE.out.trans (b11.mono BE.out.size))
                clear b11 OT
                go_wp2
                go_roundw
                case rel => exact ⟨k + 1, D9, Ad9, cd9, gl6, Ag, cg, rs, mt, by omega, rfl, rfl, rfl, by go_num, DK.out, LG6.out, hgl6gd, HAG6, HAQ6, OG.out, Lib.hid ⟨by rw [HRS.out, ← HG9.out]; exact HH9.out, by rw [HRS.out]; exact HGG.out, HNLG.out⟩, Lib.hid ⟨AQG.out, AQA.out⟩, BE.out⟩
                case measure => simp [intOf]; omega
              · have he : Nr.eqs (rs.map Rc.p) (hs.map Rc.p) = false := Nr.eqs_false (fun h => by
                  have h2 := congrArg List.length (h.symm.trans (HRS.out.trans hG))
                  simp at h2)
                rw [he]
                have ha : Nr.eqs (rs.map Rc.p) ((hs ++ [o.x]).map Rc.p) = true := (Nr.eqs_iff _ _).2 (by rw [HRS.out, hG, List.map_append]; rfl)
                have ka := all_any Ag A8 rs (hs ++ [o.x]) cg c8 mg (mh + 1) wi HLG.out (by rw [List.length_append, HLH.out]; rfl) RG.out RALL.out (by omega)
                rw [ha] at ka
                clear hG he ha RG RALL
                go_wp2_with fail
                refine ka.mono ?_
                clear ka
                rintro e wj ⟨rfl, b10⟩
                replace XOK := Lib.hid (XOK.out.below (b10.mono BE.out.size))
                replace DK := Lib.hid (DK.out.to b10)
                replace OG := Lib.hid (OG.out.to b10)
                replace LG6 := Lib.hid (LG6.out.to b10)
                replace OR := Lib.hid (OR.out.to b10)
                replace BE := Lib.hid (BE.out.trans (b10.mono BE.out.size))
                clear b10
                go_wp2_with fail
                refine (sparks_any DK.out (-1) (by decide)).mono ?_
                rintro e wk ⟨rfl, dk1, ko⟩
                have mv1 := Moves.of_only (A := Ad4) ko
                have fr1 : Ad4 = Ad4 ∨ ∀ p, Ad4 = some p → wj.heap.size ≤ p.block := .inl rfl
                clear ko
                have hlt_gl6 : gl6 < wj.heap.size := LG6.out.lt
                have hlt_or : wr.heap.size < wj.heap.size := OR.out.lt
                replace XOK := Lib.hid (XOK.out.below ((DK.out.moves mv1).mono hgd0))
                replace OR := Lib.hid (mv1.row OR.out (by omega) HAO.out)
                replace LG6 := Lib.hid (mv1.row LG6.out hgl6gd HAG6.out)
                have AQA' : Hid (∀ p, Ad4 = some p → recK.Apart p.block Ag rs) := Lib.hid (fun p hp => by rcases fr1 with f | f; exact AQA.out p (f.symm.trans hp); exact OG.out.apart_new (f p hp))
                replace OG := Lib.hid (OG.out.moves mv1 AQG.out AQA.out)
                replace AQA := AQA'
                clear AQA'
                replace HAG6 : Hid (∀ p, Ad4 = some p → p.block ≠ gl6) := Lib.hid (fun p hp => by rcases fr1 with f | f; exact HAG6.out p (f.symm.trans hp); have := f p hp; omega)
                replace HAO : Hid (∀ p, Ad4 = some p → p.block ≠ wr.heap.size) := Lib.hid (fun p hp => by rcases fr1 with f | f; exact HAO.out p (f.symm.trans hp); have := f p hp; omega)
                replace BE := Lib.hid (BE.out.trans ((DK.out.moves mv1).mono hgd0))
                replace DK := Lib.hid dk1
                clear mv1 dk1 fr1 hlt_gl6 hlt_or
                have hlh := Dk.lopen_has (HH6.out.sparks (-1)) HGG.out rfl
                obtain ⟨D8, hD8⟩ : ∃ D8, D4.sparks (-1) = D8 := ⟨_, rfl⟩
                rw [hD8] at DK hlh
                clear hD8
                obtain ⟨D9, G9, E9, hd9⟩ : ∃ D9 G9 E9, D8.lopen = (D9, G9, E9) := ⟨_, _, _, rfl⟩
                have ko := open_any DK.out
                rw [hd9] at ko hlh
                obtain ⟨h9a, h9b, h9c⟩ := hlh
                replace h9a : E9 = 0 := h9a
                replace h9b : G9 = G := h9b
                replace h9c : D9.Has G9 := h9b.symm ▸ h9c
                subst h9a
                have HG9 := Lib.hid h9b
                have HH9 := Lib.hid h9c
                clear hd9 h9b h9c
                go_wp2_with fail
                refine ko.mono ?_
                clear ko
                rintro e wm ⟨Ad9, cd9, pl9, At, mt, ct, ts, dk1, mv1, fr1, rfl, og, hts, hnlt, apg, apa, hz, hnz⟩
                have OT := Lib.hid og
                have HTS : Hid (ts.map Rc.p = G) := Lib.hid (hts.trans HG9.out)
                have HNLT := Lib.hid (fun x hx => (hnlt x hx).1)
                clear og hts hnlt apg apa hz hnz
                have hlt_gl6 : gl6 < wk.heap.size := LG6.out.lt
                have hlt_or : wr.heap.size < wk.heap.size := OR.out.lt
                replace XOK := Lib.hid (XOK.out.below ((DK.out.moves mv1).mono hgd0))
                replace OR := Lib.hid (mv1.row OR.out (by omega) HAO.out)
                replace LG6 := Lib.hid (mv1.row LG6.out hgl6gd HAG6.out)
                have AQA' : Hid (∀ p, Ad9 = some p → recK.Apart p.block Ag rs) := Lib.hid (fun p hp => by rcases fr1 with f | f; exact AQA.out p (f.symm.trans hp); exact OG.out.apart_new (f p hp))
                replace OG := Lib.hid (OG.out.moves mv1 AQG.out AQA.out)
                replace AQA := AQA'
                clear AQA'
                replace HAG6 : Hid (∀ p, Ad9 = some p → p.block ≠ gl6) := Lib.hid (fun p hp => by rcases fr1 with f | f; exact HAG6.out p (f.symm.trans hp); have := f p hp; omega)
                replace HAO : Hid (∀ p, Ad9 = some p → p.block ≠ wr.heap.size) := Lib.hid (fun p hp => by rcases fr1 with f | f; exact HAO.out p (f.symm.trans hp); have := f p hp; omega)
                replace BE := Lib.hid (BE.out.trans ((DK.out.moves mv1).mono hgd0))
                replace DK := Lib.hid dk1
                clear mv1 dk1 fr1 hlt_gl6 hlt_or
                have hmt : mt = mg := by
                  have h1 : (ts.map Rc.p).length = (rs.map Rc.p).length := by rw [HTS.out, HRS.out]
                  rwa [List.length_map, OT.out.len, List.length_map, OG.out.len] at h1
                subst hmt
                have ha : Nr.eqs (ts.map Rc.p) (rs.map Rc.p) = true := (Nr.eqs_iff _ _).2 (by rw [HTS.out, HRS.out])
                have ka := all_any At Ag ts rs ct cg mt mt wm OT.out.len OG.out.len (OT.out.rcs (fun x hx => ⟨(HGG.out _ (by rw [← HTS.out]; exact List.mem_map_of_mem hx)).2, HNLT.out x hx⟩)) (OG.out.rcs (fun x hx => ⟨(HGG.out _ (by rw [← HRS.out]; exact List.mem_map_of_mem hx)).2, HNLG.out x hx⟩)) (by omega)
                rw [ha] at ka
                clear ha
                go_wp2_with fail
                refine ka.mono ?_
                clear ka
                rintro e wn ⟨rfl, b11⟩
                replace XOK := Lib.hid (XOK.out.below (b11.mono BE.out.size))
                replace DK := Lib.hid (DK.out.to b11)
                replace OG := Lib.hid (OG.out.to b11)
                replace LG6 := Lib.hid (LG6.out.to b11)
                replace OR := Lib.hid (OR.out.to b11)
                replace BE := Lib.hid (BE.out.trans (b11.mono BE.out.size))
                clear b11 OT
                go_wp2
                go_roundw
                case rel => exact ⟨k + 1, D9, Ad9, cd9, gl6, Ag, cg, rs, mt, by omega, rfl, rfl, rfl, by go_num, DK.out, LG6.out, hgl6gd, HAG6, HAQ6, OG.out, Lib.hid ⟨by rw [HRS.out, ← HG9.out]; exact HH9.out, by rw [HRS.out]; exact HGG.out, HNLG.out⟩, Lib.hid ⟨AQG.out, AQA.out⟩, BE.out⟩
                case measure => simp [intOf]; omega
            · replace hE : E4 ≠ 0 := hE
              have HT4 : Hid (D4.Tail (hs.map Rc.p) o.x.p) := Lib.hid ht
              have hEb : (E4 != 0) = true := by simp [hE]
              have hEc : (E4 == 0) = false := by simp [hE]
              clear ht hl HTO HZ OG AQG AQA HRS HNLG
              have oelt : wr.heap.size < (wc).heap.size := OR.out.lt
              have oelu : wr.heap.size < (wc).heap.size + 1 := Nat.lt_succ_of_lt OR.out.lt
              have oe0 : (wc).cell? ⟨wr.heap.size, 0, none⟩ = some (.int .u8 (o.what : Int)) := OR.out.cells 0
              have oez0 : (wc).frozen? ⟨wr.heap.size, 0, none⟩ = false := OR.out.frozen 0
              have oe1 : (wc).cell? ⟨wr.heap.size, 1, none⟩ = some (.int .u8 (o.x.p.what : Int)) := OR.out.cells 1
              have oez1 : (wc).frozen? ⟨wr.heap.size, 1, none⟩ = false := OR.out.frozen 1
              have oe2 : (wc).cell? ⟨wr.heap.size, 2, none⟩ = some (.int .u32 (o.x.p.tx : Int)) := OR.out.cells 2
              have oez2 : (wc).frozen? ⟨wr.heap.size, 2, none⟩ = false := OR.out.frozen 2
              have oe3 : (wc).cell? ⟨wr.heap.size, 3, none⟩ = some (.int .u8 (o.x.p.who : Int)) := OR.out.cells 3
              have oez3 : (wc).frozen? ⟨wr.heap.size, 3, none⟩ = false := OR.out.frozen 3
              have oe4 : (wc).cell? ⟨wr.heap.size, 4, none⟩ = some (.bool o.x.p.yes) := OR.out.cells 4
              have oez4 : (wc).frozen? ⟨wr.heap.size, 4, none⟩ = false := OR.out.frozen 4
              have oe5 : (wc).cell? ⟨wr.heap.size, 5, none⟩ = some (.slice o.x.A o.x.p.text.length o.x.c) := OR.out.cells 5
              have oez5 : (wc).frozen? ⟨wr.heap.size, 5, none⟩ = false := OR.out.frozen 5
              have oe6 : (wc).cell? ⟨wr.heap.size, 6, none⟩ = some (.int .i64 o.n) := OR.out.cells 6
              have oez6 : (wc).frozen? ⟨wr.heap.size, 6, none⟩ = false := OR.out.frozen 6
              have HTC0 := Lib.hid (HT4.out.crash DK.out.ok.safe o.n)
              go_wp2_with fail
              refine (crash_any DK.out o.n XN.out.1 XN.out.2).mono ?_
              rintro e we ⟨rfl, dk1, ko⟩
              have mv1 := Moves.of_only (A := Ad4) ko
              have fr1 : Ad4 = Ad4 ∨ ∀ p, Ad4 = some p → wc.heap.size ≤ p.block := .inl rfl
              clear ko
              have hlt_or : wr.heap.size < wc.heap.size := OR.out.lt
              replace XOK := Lib.hid (XOK.out.below ((DK.out.moves mv1).mono hgd0))
              replace OR := Lib.hid (mv1.row OR.out (by omega) HAO.out)
              have APA' : Hid (∀ p, Ad4 = some p → recK.Apart p.block Ah hs) := Lib.hid (fun p hp => by rcases fr1 with f | f; exact APA.out p (f.symm.trans hp); exact OL.out.apart_new (f p hp))
              replace OL := Lib.hid (OL.out.moves mv1 APG.out APA.out)
              replace APA := APA'
              clear APA'
              have APQ' : Hid (∀ p, Ad4 = some p → recK.Apart p.block A5 [o.x]) := Lib.hid (fun p hp => by rcases fr1 with f | f; exact APQ.out p (f.symm.trans hp); exact OP.out.apart_new (f p hp))
              replace OP := Lib.hid (OP.out.moves mv1 APP.out APQ.out)
              replace APQ := APQ'
              clear APQ'
              replace HAO : Hid (∀ p, Ad4 = some p → p.block ≠ wr.heap.size) := Lib.hid (fun p hp => by rcases fr1 with f | f; exact HAO.out p (f.symm.trans hp); have := f p hp; omega)
              replace BE := Lib.hid (BE.out.trans ((DK.out.moves mv1).mono hgd0))
              replace DK := Lib.hid dk1
              clear mv1 dk1 fr1 hlt_or
              have htc := HTC0.out
              clear HTC0
              obtain ⟨D5, hD5⟩ : ∃ D5, D4.crash o.n = D5 := ⟨_, rfl⟩
              rw [hD5] at DK htc
              clear hD5
              have hto := Dk.lopen_tail htc.1 HPL.out.2.1 ⟨HR.out, XOK.out.fit⟩ htc.2.1 htc.2.2.1
              have HL5 := Lib.hid htc.2.2.2
              obtain ⟨D6, G, E6, hd6⟩ : ∃ D6 G E6, D5.lopen = (D6, G, E6) := ⟨_, _, _, rfl⟩
              have ko := open_any DK.out
              rw [hd6] at ko hto
              clear hd6 htc
              rcases hto with ⟨hE6, hG, hh⟩ | ⟨_, _, hl6⟩
              · replace hE6 : E6 = 0 := hE6
                subst hE6
                have HH6 : Hid (D6.Has G) := Lib.hid hh
                have HG6 : Hid (G = hs.map Rc.p ∨ G = hs.map Rc.p ++ [o.x.p]) := Lib.hid hG
                have hgde : gd < we.heap.size := DK.out.lt
                clear hh hG HL5
                go_wp2_with fail
                refine ko.mono ?_
                clear ko
                rintro e wf ⟨Ad6, cd6, pl6, Ag, mg, cg, rs, dk1, mv1, fr1, rfl, og, hrs, hnl, apg, apa, hz, hnz⟩
                have OG := Lib.hid (og.base_le (base' := w.heap.size) BE.out.size)
                have AQG := Lib.hid apg
                have AQA : Hid (∀ p, Ad6 = some p → recK.Apart p.block Ag rs) := Lib.hid apa
                have HRS : Hid (rs.map Rc.p = G) := Lib.hid hrs
                have HNLG := Lib.hid (fun x hx => (hnl x hx).1)
                have HZ := Lib.hid hz
                clear og hrs hnl apg apa hz hnz
                have hlt_or : wr.heap.size < we.heap.size := OR.out.lt
                replace XOK := Lib.hid (XOK.out.below ((DK.out.moves mv1).mono hgd0))
                replace OR := Lib.hid (mv1.row OR.out (by omega) HAO.out)
                have APA' : Hid (∀ p, Ad6 = some p → recK.Apart p.block Ah hs) := Lib.hid (fun p hp => by rcases fr1 with f | f; exact APA.out p (f.symm.trans hp); exact OL.out.apart_new (f p hp))
                replace OL := Lib.hid (OL.out.moves mv1 APG.out APA.out)
                replace APA := APA'
                clear APA'
                have APQ' : Hid (∀ p, Ad6 = some p → recK.Apart p.block A5 [o.x]) := Lib.hid (fun p hp => by rcases fr1 with f | f; exact APQ.out p (f.symm.trans hp); exact OP.out.apart_new (f p hp))
                replace OP := Lib.hid (OP.out.moves mv1 APP.out APQ.out)
                replace APQ := APQ'
                clear APQ'
                replace HAO : Hid (∀ p, Ad6 = some p → p.block ≠ wr.heap.size) := Lib.hid (fun p hp => by rcases fr1 with f | f; exact HAO.out p (f.symm.trans hp); have := f p hp; omega)
                replace BE := Lib.hid (BE.out.trans ((DK.out.moves mv1).mono hgd0))
                replace DK := Lib.hid dk1
                clear mv1 dk1 fr1 hlt_or
                obtain ⟨gl6, rfl, lg6, hgl6, hag6, haq6⟩ := HZ.out rfl
                have LG6 := Lib.hid lg6
                have HAG6 : Hid (∀ p, Ad6 = some p → p.block ≠ gl6) := Lib.hid hag6
                have HAQ6 : Hid (∀ q, Ag = some q → q.block ≠ gl6) := Lib.hid haq6
                have hgl6gd : gl6 ≠ gd := by omega
                clear lg6 hag6 haq6 HZ
                have HGG : Hid (Good G) := Lib.hid (by
                  rcases HG6.out with e | e
                  · rw [e]; exact HPL.out.2.1
                  · rw [e]; exact HPL.out.2.1.snoc ⟨HR.out, XOK.out.fit⟩)
                have hfewG : mg * 13 ≤ 262144 := by
                  have h1 := HH6.out.few DK.out.ok
                  have h2 := DK.out.ok.hi
                  rw [← HRS.out, List.length_map, OG.out.len] at h1
                  exact Nat.le_trans h1 h2
                have hmh : mh ≤ mg := by
                  have h1 : (rs.map Rc.p).length = G.length := by rw [HRS.out]
                  have h2 : (hs.map Rc.p).length ≤ G.length := by rcases HG6.out with e | e <;> rw [e] <;> simp
                  rw [List.length_map, OG.out.len] at h1
                  rw [List.length_map, OL.out.len] at h2
                  omega
                have HLH := Lib.hid OL.out.len
                have HLG := Lib.hid OG.out.len
                have RH := Lib.hid (OL.out.rcs (fun x hx => ⟨(HPL.out.2.1 _ (List.mem_map_of_mem hx)).2, HPL.out.2.2 x hx⟩))
                have RP := Lib.hid (OP.out.rcs (fun x hx => by rw [show x = o.x by simpa using hx]; exact ⟨XOK.out.fit, XOK.out.nl⟩))
                have RG := Lib.hid (OG.out.rcs (fun x hx => ⟨(HGG.out _ (by rw [← HRS.out]; exact List.mem_map_of_mem hx)).2, HNLG.out x hx⟩))
                have NH := Lib.hid (own_nil_s OL.out.own).1
                have NP := Lib.hid (own_nil_s OP.out.own).1
                have e0 := own_empty_s wf 34 5
                go_wp2_with (at_builtin; first
                  | (refine wpList_append_rn (f := recK.f) (s := 5) _ rfl (.tmp 125) (.tmp 126) 22 rfl recK_fine.hf recK_fine.hs recK_fine.one wf.heap.size 34 i1 _ 40 Try.underlying22 hif1 hy0 hy1 hy2 (by decide) rfl (some ⟨wf.heap.size, 0, none⟩) 0 0 [] rfl rfl e0 wf.heap.size Ah hs ch mh HLH.out rfl (RH.out.rc.alloc (Nat.le_refl _) _) (fun e => (NH.out e).1) mh (by omega) (by omega) (by simp) ?_; intro A7 c7 wg o7 g7 b7; have O7 := Lib.hid o7; have BX := Lib.hid ((bel_alloc (Below.refl wf.heap.size wf) _).trans b7); clear o7 g7 b7)
                  | (refine wpList_append_rn (f := recK.f) (s := 5) _ rfl (.tmp 127) (.tmp 128) 22 rfl recK_fine.hf recK_fine.hs recK_fine.one wf.heap.size 34 i1 _ 40 Try.underlying22 hif1 hy0 hy1 hy2 (by decide) rfl A7 c7 mh ([] ++ hs) rfl HLH.out O7.out wg.heap.size A5 [o.x] c5 1 rfl rfl (RP.out.to BX.out).rc (fun e => (NP.out e).1) (mh + 1) rfl (by omega) BX.out.size ?_; intro A8 c8 wh o8 g8 b8; have O8 := Lib.hid o8; have BX2 := Lib.hid (BX.out.trans b8); clear o8 g8 b8))
                clear e0 O7 BX
                have RALL : Hid (Rcs wh wh.heap.size A8 (hs ++ [o.x])) := Lib.hid ⟨Recs.of_own recK_fine.hf recK_fine.hs O8.out, fun b hb => by
                  rcases List.mem_append.1 hb with hb | hb
                  · exact (RH.out.to BX2.out).ok b hb
                  · exact (RP.out.to BX2.out).ok b hb⟩
                clear O8 RP NH NP OL OP APG APA APP APQ
                replace RH := Lib.hid (RH.out.to BX2.out)
                replace RG := Lib.hid (RG.out.to BX2.out)
                replace XOK := Lib.hid (XOK.out.below (BX2.out.mono BE.out.size))
                replace DK := Lib.hid (DK.out.to BX2.out)
                replace OG := Lib.hid (OG.out.to BX2.out)
                replace LG6 := Lib.hid (LG6.out.to BX2.out)
                replace OR := Lib.hid (OR.out.to BX2.out)
                replace BE := Lib.hid (BE.out.trans (BX2.out.mono BE.out.size))
                clear BX2
                refine (all_any Ag Ah rs hs cg ch mg mh wh HLG.out HLH.out RG.out RH.out (by omega)).mono ?_
                rintro e wi ⟨rfl, b9⟩
                clear RH
                replace RG := Lib.hid (RG.out.to b9)
                replace RALL := Lib.hid (RALL.out.to b9)
                replace XOK := Lib.hid (XOK.out.below (b9.mono BE.out.size))
                replace DK := Lib.hid (DK.out.to b9)
                replace OG := Lib.hid (OG.out.to b9)
                replace LG6 := Lib.hid (LG6.out.to b9)
                replace OR := Lib.hid (OR.out.to b9)
                replace BE := Lib.hid (BE.out.trans (b9.mono BE.out.size))
                clear b9
                rcases HG6.out with hG | hG
                · have he : Nr.eqs (rs.map Rc.p) (hs.map Rc.p) = true := (Nr.eqs_iff _ _).2 (HRS.out.trans hG)
                  rw [he]
                  clear hG he RG RALL
                  go_wp2_with fail
                  refine (sparks_any DK.out (-1) (by decide)).mono ?_
                  rintro e wk ⟨rfl, dk1, ko⟩
                  have mv1 := Moves.of_only (A := Ad6) ko
                  have fr1 : Ad6 = Ad6 ∨ ∀ p, Ad6 = some p → wi.heap.size ≤ p.block := .inl rfl
                  clear ko
                  have hlt_gl6 : gl6 < wi.heap.size := LG6.out.lt
                  have hlt_or : wr.heap.size < wi.heap.size := OR.out.lt
                  replace XOK := Lib.hid (XOK.out.below ((DK.out.moves mv1).mono hgd0))
                  replace OR := Lib.hid (mv1.row OR.out (by omega) HAO.out)
                  replace LG6 := Lib.hid (mv1.row LG6.out hgl6gd HAG6.out)
                  have AQA' : Hid (∀ p, Ad6 = some p → recK.Apart p.block Ag rs) := Lib.hid (fun p hp => by rcases fr1 with f | f; exact AQA.out p (f.symm.trans hp); exact OG.out.apart_new (f p hp))
                  replace OG := Lib.hid (OG.out.moves mv1 AQG.out AQA.out)
                  replace AQA := AQA'
                  clear AQA'
                  replace HAG6 : Hid (∀ p, Ad6 = some p → p.block ≠ gl6) := Lib.hid (fun p hp => by rcases fr1 with f | f; exact HAG6.out p (f.symm.trans hp); have := f p hp; omega)
                  replace HAO : Hid (∀ p, Ad6 = some p → p.block ≠ wr.heap.size) := Lib.hid (fun p hp => by rcases fr1 with f | f; exact HAO.out p (f.symm.trans hp); have := f p hp; omega)
                  replace BE := Lib.hid (BE.out.trans ((DK.out.moves mv1).mono hgd0))
                  replace DK := Lib.hid dk1
                  clear mv1 dk1 fr1 hlt_gl6 hlt_or
                  have hlh := Dk.lopen_has (HH6.out.sparks (-1)) HGG.out rfl
                  obtain ⟨D8, hD8⟩ : ∃ D8, D6.sparks (-1) = D8 := ⟨_, rfl⟩
                  rw [hD8] at DK hlh
                  clear hD8
                  obtain ⟨D9, G9, E9, hd9⟩ : ∃ D9 G9 E9, D8.lopen = (D9, G9, E9) := ⟨_, _, _, rfl⟩
                  have ko := open_any DK.out
                  rw [hd9] at ko hlh
                  obtain ⟨h9a, h9b, h9c⟩ := hlh
                  replace h9a : E9 = 0 := h9a
                  replace h9b : G9 = G := h9b
                  replace h9c : D9.Has G9 := h9b.symm ▸ h9c
                  subst h9a
                  have HG9 := Lib.hid h9b
                  have HH9 := Lib.hid h9c
                  clear hd9 h9b h9c
                  go_wp2_with fail
                  refine ko.mono ?_
                  clear ko
                  rintro e wm ⟨Ad9, cd9, pl9, At, mt, ct, ts, dk1, mv1, fr1, rfl, og, hts, hnlt, apg, apa, hz, hnz⟩
                  have OT := Lib.hid og
                  have HTS : Hid (ts.map Rc.p = G) := Lib.hid (hts.trans HG9.out)
                  have HNLT := Lib.hid (fun x hx => (hnlt x hx).1)
                  clear og hts hnlt apg apa hz hnz
                  have hlt_gl6 : gl6 < wk.heap.size := LG6.out.lt
                  have hlt_or : wr.heap.size < wk.heap.size := OR.out.lt
                  replace XOK := Lib.hid (XOK.out.below ((DK.out.moves mv1).mono hgd0))
                  replace OR := Lib.hid (mv1.row OR.out (by omega) HAO.out)
                  replace LG6 := Lib.hid (mv1.row LG6.out hgl6gd HAG6.out)
                  have AQA' : Hid (∀ p, Ad9 = some p → recK.Apart p.block Ag rs) := Lib.hid (fun p hp => by rcases fr1 with f | f; exact AQA.out p (f.symm.trans hp); exact OG.out.apart_new (f p hp))
                  replace OG := Lib.hid (OG.out.moves mv1 AQG.out AQA.out)
                  replace AQA := AQA'
                  clear AQA'
                  replace HAG6 : Hid (∀ p, Ad9 = some p → p.block ≠ gl6) := Lib.hid (fun p hp => by rcases fr1 with f | f; exact HAG6.out p (f.symm.trans hp); have := f p hp; omega)
                  replace HAO : Hid (∀ p, Ad9 = some p → p.block ≠ wr.heap.size) := Lib.hid (fun p hp => by rcases fr1 with f | f; exact HAO.out p (f.symm.trans hp); have := f p hp; omega)
                  replace BE := Lib.hid (BE.out.trans ((DK.out.moves mv1).mono hgd0))
                  replace DK := Lib.hid dk1
                  clear mv1 dk1 fr1 hlt_gl6 hlt_or
                  have hmt : mt = mg := by
                    have h1 : (ts.map Rc.p).length = (rs.map Rc.p).length := by rw [HTS.out, HRS.out]
                    rwa [List.length_map, OT.out.len, List.length_map, OG.out.len] at h1
                  subst hmt
                  have ha : Nr.eqs (ts.map Rc.p) (rs.map Rc.p) = true := (Nr.eqs_iff _ _).2 (by rw [HTS.out, HRS.out])
                  have ka := all_any At Ag ts rs ct cg mt mt wm OT.out.len OG.out.len (OT.out.rcs (fun x hx => ⟨(HGG.out _ (by rw [← HTS.out]; exact List.mem_map_of_mem hx)).2, HNLT.out x hx⟩)) (OG.out.rcs (fun x hx => ⟨(HGG.out _ (by rw [← HRS.out]; exact List.mem_map_of_mem hx)).2, HNLG.out x hx⟩)) (by omega)
                  rw [ha] at ka
                  clear ha
                  go_wp2_with fail
                  refine ka.mono ?_
                  clear ka
                  rintro e wn ⟨rfl, b11⟩
                  replace XOK := Lib.hid (XOK.out.below (b11.mono BE.out.size))
                  replace DK := Lib.hid (DK.out.to b11)
                  replace OG := Lib.hid (OG.out.to b11)
                  replace LG6 := Lib.hid (LG6.out.to b11)
                  replace OR := Lib.hid (OR.out.to b11)
                  replace BE := Lib.hid (BE.out.trans (b11.mono BE.out.size))
                  clear b11 OT
                  go_wp2
                  go_roundw
                  case rel => exact ⟨k + 1, D9, Ad9, cd9, gl6, Ag, cg, rs, mt, by omega, rfl, rfl, rfl, by go_num, DK.out, LG6.out, hgl6gd, HAG6, HAQ6, OG.out, Lib.hid ⟨by rw [HRS.out, ← HG9.out]; exact HH9.out, by rw [HRS.out]; exact HGG.out, HNLG.out⟩, Lib.hid ⟨AQG.out, AQA.out⟩, BE.out⟩
                  case measure => simp [intOf]; omega
                · have he : Nr.eqs (rs.map Rc.p) (hs.map Rc.p) = false := Nr.eqs_false (fun h => by
                    have h2 := congrArg List.length (h.symm.trans (HRS.out.trans hG))
                    simp at h2)
                  rw [he]
                  have ha : Nr.eqs (rs.map Rc.p) ((hs ++ [o.x]).map Rc.p) = true := (Nr.eqs_iff _ _).2 (by rw [HRS.out, hG, List.map_append]; rfl)
                  have ka := all_any Ag A8 rs (hs ++ [o.x]) cg c8 mg (mh + 1) wi HLG.out (by rw [List.length_append, HLH.out]; rfl) RG.out RALL.out (by omega)
                  rw [ha] at ka
                  clear hG he ha RG RALL
                  go_wp2_with fail
                  refine ka.mono ?_
                  clear ka
                  rintro e wj ⟨rfl, b10⟩
                  replace XOK := Lib.hid (XOK.out.below (b10.mono BE.out.size))
                  replace DK := Lib.hid (DK.out.to b10)
                  replace OG := Lib.hid (OG.out.to b10)
                  replace LG6 := Lib.hid (LG6.out.to b10)
                  replace OR := Lib.hid (OR.out.to b10)
                  replace BE := Lib.hid (BE.out.trans (b10.mono BE.out.size))
                  clear b10
                  go_wp2_with fail
                  refine (sparks_any DK.out (-1) (by decide)).mono ?_
                  rintro e wk ⟨rfl, dk1, ko⟩
                  have mv1 := Moves.of_only (A := Ad6) ko
                  have fr1 : Ad6 = Ad6 ∨ ∀ p, Ad6 = some p → wj.heap.size ≤ p.block := .inl rfl
                  clear ko
                  have hlt_gl6 : gl6 < wj.heap.size := LG6.out.lt
                  have hlt_or : wr.heap.size < wj.heap.size := OR.out.lt
                  replace XOK := Lib.hid (XOK.out.below ((DK.out.moves mv1).mono hgd0))
                  replace OR := Lib.hid (mv1.row OR.out (by omega) HAO.out)
                  replace LG6 := Lib.hid (mv1.row LG6.out hgl6gd HAG6.out)
                  have AQA' : Hid (∀ p, Ad6 = some p → recK.Apart p.block Ag rs) := Lib.hid (fun p hp => by rcases fr1 with f | f; exact AQA.out p (f.symm.trans hp); exact OG.out.apart_new (f p hp))
                  replace OG := Lib.hid (OG.out.moves mv1 AQG.out AQA.out)
                  replace AQA := AQA'
                  clear AQA'
                  replace HAG6 : Hid (∀ p, Ad6 = some p → p.block ≠ gl6) := Lib.hid (fun p hp => by rcases fr1 with f | f; exact HAG6.out p (f.symm.trans hp); have := f p hp; omega)
                  replace HAO : Hid (∀ p, Ad6 = some p → p.block ≠ wr.heap.size) := Lib.hid (fun p hp => by rcases fr1 with f | f; exact HAO.out p (f.symm.trans hp); have := f p hp; omega)
                  replace BE := Lib.hid (BE.out.trans ((DK.out.moves mv1).mono hgd0))
                  replace DK := Lib.hid dk1
                  clear mv1 dk1 fr1 hlt_gl6 hlt_or
                  have hlh := Dk.lopen_has (HH6.out.sparks (-1)) HGG.out rfl
                  obtain ⟨D8, hD8⟩ : ∃ D8, D6.sparks (-1) = D8 := ⟨_, rfl⟩
                  rw [hD8] at DK hlh
                  clear hD8
                  obtain ⟨D9, G9, E9, hd9⟩ : ∃ D9 G9 E9, D8.lopen = (D9, G9, E9) := ⟨_, _, _, rfl⟩
                  have ko := open_any DK.out
                  rw [hd9] at ko hlh
                  obtain ⟨h9a, h9b, h9c⟩ := hlh
                  replace h9a : E9 = 0 := h9a
                  replace h9b : G9 = G := h9b
                  replace h9c : D9.Has G9 := h9b.symm ▸ h9c
                  subst h9a
                  have HG9 := Lib.hid h9b
                  have HH9 := Lib.hid h9c
                  clear hd9 h9b h9c
                  go_wp2_with fail
                  refine ko.mono ?_
                  clear ko
                  rintro e wm ⟨Ad9, cd9, pl9, At, mt, ct, ts, dk1, mv1, fr1, rfl, og, hts, hnlt, apg, apa, hz, hnz⟩
                  have OT := Lib.hid og
                  have HTS : Hid (ts.map Rc.p = G) := Lib.hid (hts.trans HG9.out)
                  have HNLT := Lib.hid (fun x hx => (hnlt x hx).1)
                  clear og hts hnlt apg apa hz hnz
                  have hlt_gl6 : gl6 < wk.heap.size := LG6.out.lt
                  have hlt_or : wr.heap.size < wk.heap.size := OR.out.lt
                  replace XOK := Lib.hid (XOK.out.below ((DK.out.moves mv1).mono hgd0))
                  replace OR := Lib.hid (mv1.row OR.out (by omega) HAO.out)
                  replace LG6 := Lib.hid (mv1.row LG6.out hgl6gd HAG6.out)
                  have AQA' : Hid (∀ p, Ad9 = some p → recK.Apart p.block Ag rs) := Lib.hid (fun p hp => by rcases fr1 with f | f; exact AQA.out p (f.symm.trans hp); exact OG.out.apart_new (f p hp))
                  replace OG := Lib.hid (OG.out.moves mv1 AQG.out AQA.out)
                  replace AQA := AQA'
                  clear AQA'
                  replace HAG6 : Hid (∀ p, Ad9 = some p → p.block ≠ gl6) := Lib.hid (fun p hp => by rcases fr1 with f | f; exact HAG6.out p (f.symm.trans hp); have := f p hp; omega)
                  replace HAO : Hid (∀ p, Ad9 = some p → p.block ≠ wr.heap.size) := Lib.hid (fun p hp => by rcases fr1 with f | f; exact HAO.out p (f.symm.trans hp); have := f p hp; omega)
                  replace BE := Lib.hid (BE.out.trans ((DK.out.moves mv1).mono hgd0))
                  replace DK := Lib.hid dk1
                  clear mv1 dk1 fr1 hlt_gl6 hlt_or
                  have hmt : mt = mg := by
                    have h1 : (ts.map Rc.p).length = (rs.map Rc.p).length := by rw [HTS.out, HRS.out]
                    rwa [List.length_map, OT.out.len, List.length_map, OG.out.len] at h1
                  subst hmt
                  have ha : Nr.eqs (ts.map Rc.p) (rs.map Rc.p) = true := (Nr.eqs_iff _ _).2 (by rw [HTS.out, HRS.out])
                  have ka := all_any At Ag ts rs ct cg mt mt wm OT.out.len OG.out.len (OT.out.rcs (fun x hx => ⟨(HGG.out _ (by rw [← HTS.out]; exact List.mem_map_of_mem hx)).2, HNLT.out x hx⟩)) (OG.out.rcs (fun x hx => ⟨(HGG.out _ (by rw [← HRS.out]; exact List.mem_map_of_mem hx)).2, HNLG.out x hx⟩)) (by omega)
                  rw [ha] at ka
                  clear ha
                  go_wp2_with fail
                  refine ka.mono ?_
                  clear ka
                  rintro e wn ⟨rfl, b11⟩
                  replace XOK := Lib.hid (XOK.out.below (b11.mono BE.out.size))
                  replace DK := Lib.hid (DK.out.to b11)
                  replace OG := Lib.hid (OG.out.to b11)
                  replace LG6 := Lib.hid (LG6.out.to b11)
                  replace OR := Lib.hid (OR.out.to b11)
                  replace BE := Lib.hid (BE.out.trans (b11.mono BE.out.size))
                  clear b11 OT
                  go_wp2
                  go_roundw
                  case rel => exact ⟨k + 1, D9, Ad9, cd9, gl6, Ag, cg, rs, mt, by omega, rfl, rfl, rfl, by go_num, DK.out, LG6.out, hgl6gd, HAG6, HAQ6, OG.out, Lib.hid ⟨by rw [HRS.out, ← HG9.out]; exact HH9.out, by rw [HRS.out]; exact HGG.out, HNLG.out⟩, Lib.hid ⟨AQG.out, AQA.out⟩, BE.out⟩
                  case measure => simp [intOf]; omega
              · exact absurd HL5.out hl6
          · replace hE : E1 = 5 ∨ E1 = 50 := hE
            have HH : Hid (D1.Has (hs.map Rc.p)) := Lib.hid hh
            clear hh
            rcases hE with hE | hE
            · subst hE
              go_wp2
              go_roundw
              case rel => exact ⟨k + 1, D1, Ad1, cd1, gl, Ah, ch, hs, mh, by omega, rfl, rfl, rfl, by go_num, DK.out, LG.out, hglgd, HAGL, HAQ, OL.out, Lib.hid ⟨HH.out, HPL.out.2.1, HPL.out.2.2⟩, Lib.hid ⟨APG.out, APA.out⟩, BE.out⟩
              case measure => simp [intOf]; omega
            · subst hE
              go_wp2
              go_roundw
              case rel => exact ⟨k + 1, D1, Ad1, cd1, gl, Ah, ch, hs, mh, by omega, rfl, rfl, rfl, by go_num, DK.out, LG.out, hglgd, HAGL, HAQ, OL.out, Lib.hid ⟨HH.out, HPL.out.2.1, HPL.out.2.2⟩, Lib.hid ⟨APG.out, APA.out⟩, BE.out⟩
              case measure => simp [intOf]; omega
        · obtain ⟨D1, E1, hd⟩ : ∃ D1 E1, D.lappend o.x.p = (D1, E1) := ⟨_, _, rfl⟩
          have hla := Dk.lappend_has HPL.out.1 o.x.p
          have kap := lappend_any DK.out LG.out hglgd HAGL.out o.x.p o.x.A o.x.c o.x.p.text.length rfl XOK.out.fit (XOK.out.sq.more BE.out.size) XOK.out.nl.1
          rw [hd] at hla kap
          have HLA := Lib.hid hla
          clear hd hla
          go_wp2_with (refine wpList_load_mid rfl 34 (.tmp 69) rfl wr.heap.size 1 rfl (rcV o.x.p.what o.x.p.tx o.x.p.who o.x.p.yes o.x.A o.x.p.text.length o.x.c) _ (OR.out.range 1 5) Try.underlying34 rfl size_rec ?_)
          refine kap.mono ?_
          clear kap
          rintro e w7 ⟨rfl, Ad1, cd1, dk1, mv1, fr1⟩
          have hlt_gl : gl < (wr.alloc (.cells o.C.toArray 51)).heap.size := LG.out.lt
          have hlt_or : wr.heap.size < (wr.alloc (.cells o.C.toArray 51)).heap.size := OR.out.lt
          replace XOK := Lib.hid (XOK.out.below ((DK.out.moves mv1).mono hgd0))
          replace OR := Lib.hid (mv1.row OR.out (by omega) HAO.out)
          replace LG := Lib.hid (mv1.row LG.out hglgd HAGL.out)
          have APA' : Hid (∀ p, Ad1 = some p → recK.Apart p.block Ah hs) := Lib.hid (fun p hp => by rcases fr1 with f | f; exact APA.out p (f.symm.trans hp); exact OL.out.apart_new (f p hp))
          replace OL := Lib.hid (OL.out.moves mv1 APG.out APA.out)
          replace APA := APA'
          clear APA'
          replace HAGL : Hid (∀ p, Ad1 = some p → p.block ≠ gl) := Lib.hid (fun p hp => by rcases fr1 with f | f; exact HAGL.out p (f.symm.trans hp); have := f p hp; omega)
          replace HAO : Hid (∀ p, Ad1 = some p → p.block ≠ wr.heap.size) := Lib.hid (fun p hp => by rcases fr1 with f | f; exact HAO.out p (f.symm.trans hp); have := f p hp; omega)
          replace BE := Lib.hid (BE.out.trans ((DK.out.moves mv1).mono hgd0))
          replace DK := Lib.hid dk1
          clear mv1 dk1 fr1 hlt_gl hlt_or
          have hw7 : wr.heap.size < w7.heap.size := OR.out.lt
          have hgd7 : gd < w7.heap.size := DK.out.lt
          rcases HLA.out with ⟨hE, hr, hh⟩ | ⟨hE, hr, ht⟩ | ⟨hE, hh⟩
          · replace hE : E1 = 0 := hE
            subst hE
            have HH : Hid (D1.Has (hs.map Rc.p ++ [o.x.p])) := Lib.hid hh
            have HR := Lib.hid hr
            clear hh hr
            have hoff : recK.Off Ah o.x := fun hn p q hp hq => by
              obtain ⟨b, o', hA, hb, _⟩ := XOK.out.sq hn
              rw [show o.x.A = some p from hp] at hA
              obtain rfl := Option.some.inj hA
              have := (own_at_s OL.out.own q hq).1
              show q.block ≠ b
              omega
            have HOF := Lib.hid hoff
            have hfew : mh * 13 ≤ 262144 := by have := HPL.out.1.few DOK.out; rw [List.length_map, OL.out.len] at this; have := DOK.out.hi; omega
            clear hoff
            go_wp2_with (first | (refine wpList_load_mid rfl 34 (.tmp 76) rfl wr.heap.size 1 rfl (rcV o.x.p.what o.x.p.tx o.x.p.who o.x.p.yes o.x.A o.x.p.text.length o.x.c) _ (OR.out.range 1 5) Try.underlying34 rfl size_rec ?_) | (at_builtin; refine wpList_append_el w7 rfl (.tmp 75) (.tmp 78) 22 rfl recK_fine w.heap.size 34 i1 _ 40 Try.underlying22 hif1 hy0 hy1 hy2 rfl Ah mh ch hs rfl 34 o.x w7.heap.size rfl OL.out rfl (XOK.out.sq.more BE.out.size) HOF.out (by omega) (by omega) BE.out.size ?_; intro A4 c4 w8 ol4 g4 wh4 b4; have OL4 := Lib.hid ol4; have G4 := Lib.hid g4; have WH4 := Lib.hid wh4; have B4 := Lib.hid b4; clear ol4 g4 wh4 b4))
            have b70 : Below w7.heap.size w7 (w7.alloc (.cells (recK.f o.x).toArray 34)) := bel_alloc (Below.refl _ _) _
            have DK8 := Lib.hid ((DK.out.to b70).grown G4.out (not_row APG.out.1) (fun p hp => not_row (APA.out p hp).1))
            have LG8 := Lib.hid ((LG.out.to b70).grown G4.out (not_row HAQ.out))
            have hgl7 : gl < w7.heap.size := LG.out.lt
            have HAQ8 : Hid (∀ q, A4 = some q → q.block ≠ gl) := Lib.hid (fun q hq => by rcases WH4.out q hq with ⟨q0, h0, h1⟩ | h1; rw [← h1]; exact HAQ.out q0 h0; omega)
            have APG8 := Lib.hid (apart_push APG.out WH4.out hgd7 (text_lt XOK.out hgd0))
            have APA8 : Hid (∀ p, Ad1 = some p → recK.Apart p.block A4 (hs ++ [o.x])) := Lib.hid (fun p hp => by have h1 := own_at DK.out.own p hp; exact apart_push (APA.out p hp) WH4.out h1.2.1 (text_lt XOK.out (by omega)))
            replace BE := Lib.hid (BE.out.trans B4.out)
            have HGD : Hid (Good ((hs ++ [o.x]).map Rc.p)) := Lib.hid (by rw [List.map_append]; exact HPL.out.2.1.snoc ⟨HR.out, XOK.out.fit⟩)
            have HNL : Hid (∀ x ∈ hs ++ [o.x], x.Nl) := Lib.hid (fun x hx => by rcases List.mem_append.1 hx with h1 | h1; exact HPL.out.2.2 x h1; rw [List.mem_singleton.1 h1]; exact XOK.out.nl)
            clear b70
            go_wp2
            go_roundw
            case rel => exact ⟨k + 1, D1, Ad1, cd1, gl, A4, c4, (hs ++ [o.x]), (mh + 1), by omega, rfl, rfl, rfl, by go_num, DK8.out, LG8.out, hglgd, HAGL, HAQ8, OL4.out, Lib.hid ⟨by rw [List.map_append]; exact HH.out, HGD.out, HNL.out⟩, Lib.hid ⟨APG8.out, APA8.out⟩, BE.out⟩
            case measure => simp [intOf]; omega
          · replace hE : E1 = 6 := hE
            subst hE
            have HT : Hid (D1.Tail (hs.map Rc.p) o.x.p) := Lib.hid ht
            have HR := Lib.hid hr
            clear ht hr
            have kr := nright_any o.x.p o.x.A o.x.c o.x.p.text.length rfl w7
            rw [HR.out] at kr
            go_wp2_with (refine wpList_load_mid rfl 34 (.tmp 83) rfl wr.heap.size 1 rfl (rcV o.x.p.what o.x.p.tx o.x.p.who o.x.p.yes o.x.A o.x.p.text.length o.x.c) _ (OR.out.range 1 5) Try.underlying34 rfl size_rec ?_)
            refine kr.mono ?_
            clear kr
            rintro e w8 ⟨rfl, bb⟩
            replace XOK := Lib.hid (XOK.out.below (bb.mono BE.out.size))
            replace DK := Lib.hid (DK.out.to bb)
            replace OL := Lib.hid (OL.out.to bb)
            replace OR := Lib.hid (OR.out.to bb)
            replace BE := Lib.hid (BE.out.trans (bb.mono BE.out.size))
            have hw8 := bb.size
            clear bb LG HAGL HAQ
            go_wp2_with (first | (refine wpList_load_mid rfl 34 (.tmp 87) rfl wr.heap.size 1 rfl (rcV o.x.p.what o.x.p.tx o.x.p.who o.x.p.yes o.x.A o.x.p.text.length o.x.c) _ (OR.out.range 1 5) Try.underlying34 rfl size_rec ?_) | (at_builtin; refine wpList_append_el w8 rfl (.tmp 86) (.tmp 89) 22 rfl recK_fine w.heap.size 34 i1 _ 40 Try.underlying22 hif1 hy0 hy1 hy2 rfl none 0 0 [] rfl 34 o.x w8.heap.size rfl (Olist.nil _ _ _ _) rfl (XOK.out.sq.more BE.out.size) (fun _ _ _ _ hq => by cases hq) (by omega) (by omega) BE.out.size ?_; intro A5 c5 w9 ol5 g5 wh5 b5; have OP := Lib.hid ol5; have BB := Lib.hid ((bel_alloc (Below.refl w8.heap.size w8) _).trans ((below_of_new g5).mono (by simp))); have WH5 := Lib.hid wh5; have oclt : wr.heap.size < w9.heap.size := (OR.out.to BB.out).lt; have oc6 : w9.cell? ⟨wr.heap.size, 6, none⟩ = some (.int .i64 o.n) := (OR.out.to BB.out).cells 6; have ocz6 : w9.frozen? ⟨wr.heap.size, 6, none⟩ = false := (OR.out.to BB.out).frozen 6; clear ol5 g5 wh5 b5))
            have hgd8 : gd < w8.heap.size := by omega
            have APP := Lib.hid (apart_push (Kind.Apart.nil recK gd) WH5.out hgd8 (text_lt XOK.out hgd0))
            have APQ : Hid (∀ p, Ad1 = some p → recK.Apart p.block A5 [o.x]) := Lib.hid (fun p hp => by have h1 := own_at DK.out.own p hp; exact apart_push (Kind.Apart.nil recK p.block) WH5.out h1.2.1 (text_lt XOK.out (by omega)))
            replace XOK := Lib.hid (XOK.out.below (BB.out.mono BE.out.size))
            replace DK := Lib.hid (DK.out.to BB.out)
            replace OL := Lib.hid (OL.out.to BB.out)
            replace OR := Lib.hid (OR.out.to BB.out)
            replace BE := Lib.hid (BE.out.trans (BB.out.mono BE.out.size))
            clear BB WH5
            have HTC0 := Lib.hid (HT.out.crash DK.out.ok.safe o.n)
            refine (crash_any DK.out o.n XN.out.1 XN.out.2).mono ?_
            rintro e wa ⟨rfl, dk1, ko⟩
            have mv1 := Moves.of_only (A := Ad1) ko
            have fr1 : Ad1 = Ad1 ∨ ∀ p, Ad1 = some p → w9.heap.size ≤ p.block := .inl rfl
            clear ko
            have hlt_or : wr.heap.size < w9.heap.size := OR.out.lt
            replace XOK := Lib.hid (XOK.out.below ((DK.out.moves mv1).mono hgd0))
            replace OR := Lib.hid (mv1.row OR.out (by omega) HAO.out)
            have APA' : Hid (∀ p, Ad1 = some p → recK.Apart p.block Ah hs) := Lib.hid (fun p hp => by rcases fr1 with f | f; exact APA.out p (f.symm.trans hp); exact OL.out.apart_new (f p hp))
            replace OL := Lib.hid (OL.out.moves mv1 APG.out APA.out)
            replace APA := APA'
            clear APA'
            have APQ' : Hid (∀ p, Ad1 = some p → recK.Apart p.block A5 [o.x]) := Lib.hid (fun p hp => by rcases fr1 with f | f; exact APQ.out p (f.symm.trans hp); exact OP.out.apart_new (f p hp))
            replace OP := Lib.hid (OP.out.moves mv1 APP.out APQ.out)
            replace APQ := APQ'
            clear APQ'
            replace HAO : Hid (∀ p, Ad1 = some p → p.block ≠ wr.heap.size) := Lib.hid (fun p hp => by rcases fr1 with f | f; exact HAO.out p (f.symm.trans hp); have := f p hp; omega)
            replace BE := Lib.hid (BE.out.trans ((DK.out.moves mv1).mono hgd0))
            replace DK := Lib.hid dk1
            clear mv1 dk1 fr1 hlt_or
            have htc := HTC0.out
            clear HTC0
            obtain ⟨D2, hD2⟩ : ∃ D2, D1.crash o.n = D2 := ⟨_, rfl⟩
            rw [hD2] at DK htc
            clear hD2
            have odlt : wr.heap.size < (wa).heap.size := OR.out.lt
            have odlu : wr.heap.size < (wa).heap.size + 1 := Nat.lt_succ_of_lt OR.out.lt
            have od0 : (wa).cell? ⟨wr.heap.size, 0, none⟩ = some (.int .u8 (o.what : Int)) := OR.out.cells 0
            have odz0 : (wa).frozen? ⟨wr.heap.size, 0, none⟩ = false := OR.out.frozen 0
            have od1 : (wa).cell? ⟨wr.heap.size, 1, none⟩ = some (.int .u8 (o.x.p.what : Int)) := OR.out.cells 1
            have odz1 : (wa).frozen? ⟨wr.heap.size, 1, none⟩ = false := OR.out.frozen 1
            have od2 : (wa).cell? ⟨wr.heap.size, 2, none⟩ = some (.int .u32 (o.x.p.tx : Int)) := OR.out.cells 2
            have odz2 : (wa).frozen? ⟨wr.heap.size, 2, none⟩ = false := OR.out.frozen 2
            have od3 : (wa).cell? ⟨wr.heap.size, 3, none⟩ = some (.int .u8 (o.x.p.who : Int)) := OR.out.cells 3
            have odz3 : (wa).frozen? ⟨wr.heap.size, 3, none⟩ = false := OR.out.frozen 3
            have od4 : (wa).cell? ⟨wr.heap.size, 4, none⟩ = some (.bool o.x.p.yes) := OR.out.cells 4
            have odz4 : (wa).frozen? ⟨wr.heap.size, 4, none⟩ = false := OR.out.frozen 4
            have od5 : (wa).cell? ⟨wr.heap.size, 5, none⟩ = some (.slice o.x.A o.x.p.text.length o.x.c) := OR.out.cells 5
            have odz5 : (wa).frozen? ⟨wr.heap.size, 5, none⟩ = false := OR.out.frozen 5
            have od6 : (wa).cell? ⟨wr.heap.size, 6, none⟩ = some (.int .i64 o.n) := OR.out.cells 6
            have odz6 : (wa).frozen? ⟨wr.heap.size, 6, none⟩ = false := OR.out.frozen 6
            have HTC := Lib.hid htc
            clear htc
            go_wp2_with fail
            refine (sparks_any DK.out o.n XN.out.2).mono ?_
            rintro e wb ⟨rfl, dk1, ko⟩
            have mv1 := Moves.of_only (A := Ad1) ko
            have fr1 : Ad1 = Ad1 ∨ ∀ p, Ad1 = some p → wa.heap.size ≤ p.block := .inl rfl
            clear ko
            have hlt_or : wr.heap.size < wa.heap.size := OR.out.lt
            replace XOK := Lib.hid (XOK.out.below ((DK.out.moves mv1).mono hgd0))
            replace OR := Lib.hid (mv1.row OR.out (by omega) HAO.out)
            have APA' : Hid (∀ p, Ad1 = some p → recK.Apart p.block Ah hs) := Lib.hid (fun p hp => by rcases fr1 with f | f; exact APA.out p (f.symm.trans hp); exact OL.out.apart_new (f p hp))
            replace OL := Lib.hid (OL.out.moves mv1 APG.out APA.out)
            replace APA := APA'
            clear APA'
            have APQ' : Hid (∀ p, Ad1 = some p → recK.Apart p.block A5 [o.x]) := Lib.hid (fun p hp => by rcases fr1 with f | f; exact APQ.out p (f.symm.trans hp); exact OP.out.apart_new (f p hp))
            replace OP := Lib.hid (OP.out.moves mv1 APP.out APQ.out)
            replace APQ := APQ'
            clear APQ'
            replace HAO : Hid (∀ p, Ad1 = some p → p.block ≠ wr.heap.size) := Lib.hid (fun p hp => by rcases fr1 with f | f; exact HAO.out p (f.symm.trans hp); have := f p hp; omega)
            replace BE := Lib.hid (BE.out.trans ((DK.out.moves mv1).mono hgd0))
            replace DK := Lib.hid dk1
            clear mv1 dk1 fr1 hlt_or
            have hto := Dk.lopen_tail (HTC.out.1.sparks o.n) HPL.out.2.1 ⟨HR.out, XOK.out.fit⟩ HTC.out.2.1 HTC.out.2.2.1
            obtain ⟨D3, hD3⟩ : ∃ D3, D2.sparks o.n = D3 := ⟨_, rfl⟩
            rw [hD3] at DK hto
            clear hD3
            obtain ⟨D4, G, E4, hd4⟩ : ∃ D4 G E4, D3.lopen = (D4, G, E4) := ⟨_, _, _, rfl⟩
            have ko := open_any DK.out
            rw [hd4] at ko hto
            have HTO := Lib.hid hto
            have hgdb : gd < wb.heap.size := DK.out.lt
            clear hto hd4
            go_wp2_with fail
            refine ko.mono ?_
            clear ko
            rintro e wc ⟨Ad4, cd4, pl, Ag, mg, cg, rs, dk1, mv1, fr1, rfl, og, hrs, hnl, apg, apa, hz, hnz⟩
            have OG := Lib.hid (og.base_le (base' := w.heap.size) BE.out.size)
            have AQG := Lib.hid apg
            have AQA : Hid (∀ p, Ad4 = some p → recK.Apart p.block Ag rs) := Lib.hid apa
            have HRS : Hid (rs.map Rc.p = G) := Lib.hid hrs
            have HNLG := Lib.hid (fun x hx => (hnl x hx).1)
            have HZ := Lib.hid hz
            clear og hrs hnl apg apa hz hnz
            have hlt_or : wr.heap.size < wb.heap.size := OR.out.lt
            replace XOK := Lib.hid (XOK.out.below ((DK.out.moves mv1).mono hgd0))
            replace OR := Lib.hid (mv1.row OR.out (by omega) HAO.out)
            have APA' : Hid (∀ p, Ad4 = some p → recK.Apart p.block Ah hs) := Lib.hid (fun p hp => by rcases fr1 with f | f; exact APA.out p (f.symm.trans hp); exact OL.out.apart_new (f p hp))
            replace OL := Lib.hid (OL.out.moves mv1 APG.out APA.out)
            replace APA := APA'
            clear APA'
            have APQ' : Hid (∀ p, Ad4 = some p → recK.Apart p.block A5 [o.x]) := Lib.hid (fun p hp => by rcases fr1 with f | f; exact APQ.out p (f.symm.trans hp); exact OP.out.apart_new (f p hp))
            replace OP := Lib.hid (OP.out.moves mv1 APP.out APQ.out)
            replace APQ := APQ'
            clear APQ'
            replace HAO : Hid (∀ p, Ad4 = some p → p.block ≠ wr.heap.size) := Lib.hid (fun p hp => by rcases fr1 with f | f; exact HAO.out p (f.symm.trans hp); have := f p hp; omega)
            replace BE := Lib.hid (BE.out.trans ((DK.out.moves mv1).mono hgd0))
            replace DK := Lib.hid dk1
            clear mv1 dk1 fr1 hlt_or
            rcases HTO.out with ⟨hE, hG, hh⟩ | ⟨hE, ht, hl⟩
            · replace hE : E4 = 0 := hE
              subst hE
              have HH6 : Hid (D4.Has G) := Lib.hid hh
              have HG6 : Hid (G = hs.map Rc.p ∨ G = hs.map Rc.p ++ [o.x.p]) := Lib.hid hG
              clear hh hG HTO
              obtain ⟨gl6, rfl, lg6, hgl6, hag6, haq6⟩ := HZ.out rfl
              have LG6 := Lib.hid lg6
              have HAG6 : Hid (∀ p, Ad4 = some p → p.block ≠ gl6) := Lib.hid hag6
              have HAQ6 : Hid (∀ q, Ag = some q → q.block ≠ gl6) := Lib.hid haq6
              have hgl6gd : gl6 ≠ gd := by omega
              clear lg6 hag6 haq6 HZ
              have HGG : Hid (Good G) := Lib.hid (by
                rcases HG6.out with e | e
                · rw [e]; exact HPL.out.2.1
                · rw [e]; exact HPL.out.2.1.snoc ⟨HR.out, XOK.out.fit⟩)
              have hfewG : mg * 13 ≤ 262144 := by
                have h1 := HH6.out.few DK.out.ok
                have h2 := DK.out.ok.hi
                rw [← HRS.out, List.length_map, OG.out.len] at h1
                exact Nat.le_trans h1 h2
              have hmh : mh ≤ mg := by
                have h1 : (rs.map Rc.p).length = G.length := by rw [HRS.out]
                have h2 : (hs.map Rc.p).length ≤ G.length := by rcases HG6.out with e | e <;> rw [e] <;> simp
                rw [List.length_map, OG.out.len] at h1
                rw [List.length_map, OL.out.len] at h2
                omega
              have HLH := Lib.hid OL.out.len
              have HLG := Lib.hid OG.out.len
              have RH := Lib.hid (OL.out.rcs (fun x hx => ⟨(HPL.out.2.1 _ (List.mem_map_of_mem hx)).2, HPL.out.2.2 x hx⟩))
              have RP := Lib.hid (OP.out.rcs (fun x hx => by rw [show x = o.x by simpa using hx]; exact ⟨XOK.out.fit, XOK.out.nl⟩))
              have RG := Lib.hid (OG.out.rcs (fun x hx => ⟨(HGG.out _ (by rw [← HRS.out]; exact List.mem_map_of_mem hx)).2, HNLG.out x hx⟩))
              have NH := Lib.hid (own_nil_s OL.out.own).1
              have NP := Lib.hid (own_nil_s OP.out.own).1
              have e0 := own_empty_s wc 34 5
              go_wp2_with (at_builtin; first
                | (refine wpList_append_rn (f := recK.f) (s := 5) _ rfl (.tmp 125) (.tmp 126) 22 rfl recK_fine.hf recK_fine.hs recK_fine.one wc.heap.size 34 i1 _ 40 Try.underlying22 hif1 hy0 hy1 hy2 (by decide) rfl (some ⟨wc.heap.size, 0, none⟩) 0 0 [] rfl rfl e0 wc.heap.size Ah hs ch mh HLH.out rfl (RH.out.rc.alloc (Nat.le_refl _) _) (fun e => (NH.out e).1) mh (by omega) (by omega) (by simp) ?_; intro A7 c7 wg o7 g7 b7; have O7 := Lib.hid o7; have BX := Lib.hid ((bel_alloc (Below.refl wc.heap.size wc) _).trans b7); clear o7 g7 b7)
                | (refine wpList_append_rn (f := recK.f) (s := 5) _ rfl (.tmp 127) (.tmp 128) 22 rfl recK_fine.hf recK_fine.hs recK_fine.one wc.heap.size 34 i1 _ 40 Try.underlying22 hif1 hy0 hy1 hy2 (by decide) rfl A7 c7 mh ([] ++ hs) rfl HLH.out O7.out wg.heap.size A5 [o.x] c5 1 rfl rfl (RP.out.to BX.out).rc (fun e => (NP.out e).1) (mh + 1) rfl (by omega) BX.out.size ?_; intro A8 c8 wh o8 g8 b8; have O8 := Lib.hid o8; have BX2 := Lib.hid (BX.out.trans b8); clear o8 g8 b8))
              clear e0 O7 BX
              have RALL : Hid (Rcs wh wh.heap.size A8 (hs ++ [o.x])) := Lib.hid ⟨Recs.of_own recK_fine.hf recK_fine.hs O8.out, fun b hb => by
                rcases List.mem_append.1 hb with hb | hb
                · exact (RH.out.to BX2.out).ok b hb
                · exact (RP.out.to BX2.out).ok b hb⟩
              clear O8 RP NH NP OL OP APG APA APP APQ
              replace RH := Lib.hid (RH.out.to BX2.out)
              replace RG := Lib.hid (RG.out.to BX2.out)
              replace XOK := Lib.hid (XOK.out.below (BX2.out.mono BE.out.size))
              replace DK := Lib.hid (DK.out.to BX2.out)
              replace OG := Lib.hid (OG.out.to BX2.out)
              replace LG6 := Lib.hid (LG6.out.to BX2.out)
              replace OR := Lib.hid (OR.out.to BX2.out)
              replace BE := Lib.hid (BE.out.trans (BX2.out.mono BE.out.size))
              clear BX2
              refine (all_any Ag Ah rs hs cg ch mg mh wh HLG.out HLH.out RG.out RH.out (by omega)).mono ?_
              rintro e wi ⟨rfl, b9⟩
              clear RH
              replace RG := Lib.hid (RG.out.to b9)
              replace RALL := Lib.hid (RALL.out.to b9)
              replace XOK := Lib.hid (XOK.out.below (b9.mono BE.out.size))
              replace DK := Lib.hid (DK.out.to b9)
              replace OG := Lib.hid (OG.out.to b9)
              replace LG6 := Lib.hid (LG6.out.to b9)
              replace OR := Lib.hid (OR.out.to b9)
              replace BE := Lib.hid (BE.out.trans (b9.mono BE.out.size))
              clear b9
              rcases HG6.out with hG | hG
              · have he : Nr.eqs (rs.map Rc.p) (hs.map Rc.p) = true := (Nr.eqs_iff _ _).2 (HRS.out.trans hG)
                rw [he]
                clear hG he RG RALL
                go_wp2_with fail
                refine (sparks_any DK.out (-1) (by decide)).mono ?_
                rintro e wk ⟨rfl, dk1, ko⟩
                have mv1 := Moves.of_only (A := Ad4) ko
                have fr1 : Ad4 = Ad4 ∨ ∀ p, Ad4 = some p → wi.heap.size ≤ p.block := .inl rfl
                clear ko
                have hlt_gl6 : gl6 < wi.heap.size := LG6.out.lt
                have hlt_or : wr.heap.size < wi.heap.size := OR.out.lt
                replace XOK := Lib.hid (XOK.out.below ((DK.out.moves mv1).mono hgd0))
                replace OR := Lib.hid (mv1.row OR.out (by omega) HAO.out)
                replace LG6 := Lib.hid (mv1.row LG6.out hgl6gd HAG6.out)
                have AQA' : Hid (∀ p, Ad4 = some p → recK.Apart p.block Ag rs) := Lib.hid (fun p hp => by rcases fr1 with f | f; exact AQA.out p (f.symm.trans hp); exact OG.out.apart_new (f p hp))
                replace OG := Lib.hid (OG.out.moves mv1 AQG.out AQA.out)
                replace AQA := AQA'
                clear AQA'
                replace HAG6 : Hid (∀ p, Ad4 = some p → p.block ≠ gl6) := Lib.hid (fun p hp => by rcases fr1 with f | f; exact HAG6.out p (f.symm.trans hp); have := f p hp; omega)
                replace HAO : Hid (∀ p, Ad4 = some p → p.block ≠ wr.heap.size) := Lib.hid (fun p hp => by rcases fr1 with f | f; exact HAO.out p (f.symm.trans hp); have := f p hp; omega)
                replace BE := Lib.hid (BE.out.trans ((DK.out.moves mv1).mono hgd0))
                replace DK := Lib.hid dk1
                clear mv1 dk1 fr1 hlt_gl6 hlt_or
                have hlh := Dk.lopen_has (HH6.out.sparks (-1)) HGG.out rfl
                obtain ⟨D8, hD8⟩ : ∃ D8, D4.sparks (-1) = D8 := ⟨_, rfl⟩
                rw [hD8] at DK hlh
                clear hD8
                obtain ⟨D9, G9, E9, hd9⟩ : ∃ D9 G9 E9, D8.lopen = (D9, G9, E9) := ⟨_, _, _, rfl⟩
                have ko := open_any DK.out
                rw [hd9] at ko hlh
                obtain ⟨h9a, h9b, h9c⟩ := hlh
                replace h9a : E9 = 0 := h9a
                replace h9b : G9 = G := h9b
                replace h9c : D9.Has G9 := h9b.symm ▸ h9c
                subst h9a
                have HG9 := Lib.hid h9b
                have HH9 := Lib.hid h9c
                clear hd9 h9b h9c
                go_wp2_with fail
                refine ko.mono ?_
                clear ko
                rintro e wm ⟨Ad9, cd9, pl9, At, mt, ct, ts, dk1, mv1, fr1, rfl, og, hts, hnlt, apg, apa, hz, hnz⟩
                have OT := Lib.hid og
                have HTS : Hid (ts.map Rc.p = G) := Lib.hid (hts.trans HG9.out)
                have HNLT := Lib.hid (fun x hx => (hnlt x hx).1)
                clear og hts hnlt apg apa hz hnz
                have hlt_gl6 : gl6 < wk.heap.size := LG6.out.lt
                have hlt_or : wr.heap.size < wk.heap.size := OR.out.lt
                replace XOK := Lib.hid (XOK.out.below ((DK.out.moves mv1).mono hgd0))
                replace OR := Lib.hid (mv1.row OR.out (by omega) HAO.out)
                replace LG6 := Lib.hid (mv1.row LG6.out hgl6gd HAG6.out)
                have AQA' : Hid (∀ p, Ad9 = some p → recK.Apart p.block Ag rs) := Lib.hid (fun p hp => by rcases fr1 with f | f; exact AQA.out p (f.symm.trans hp); exact OG.out.apart_new (f p hp))
                replace OG := Lib.hid (OG.out.moves mv1 AQG.out AQA.out)
                replace AQA := AQA'
                clear AQA'
                replace HAG6 : Hid (∀ p, Ad9 = some p → p.block ≠ gl6) := Lib.hid (fun p hp => by rcases fr1 with f | f; exact HAG6.out p (f.symm.trans hp); have := f p hp; omega)
                replace HAO : Hid (∀ p, Ad9 = some p → p.block ≠ wr.heap.size) := Lib.hid (fun p hp => by rcases fr1 with f | f; exact HAO.out p (f.symm.trans hp); have := f p hp; omega)
                replace BE := Lib.hid (BE.out.trans ((DK.out.moves mv1).mono hgd0))
                replace DK := Lib.hid dk1
                clear mv1 dk1 fr1 hlt_gl6 hlt_or
                have hmt : mt = mg := by
                  have h1 : (ts.map Rc.p).length = (rs.map Rc.p).length := by rw [HTS.out, HRS.out]
                  rwa [List.length_map, OT.out.len, List.length_map, OG.out.len] at h1
                subst hmt
                have ha : Nr.eqs (ts.map Rc.p) (rs.map Rc.p) = true := (Nr.eqs_iff _ _).2 (by rw [HTS.out, HRS.out])
                have ka := all_any At Ag ts rs ct cg mt mt wm OT.out.len OG.out.len (OT.out.rcs (fun x hx => ⟨(HGG.out _ (by rw [← HTS.out]; exact List.mem_map_of_mem hx)).2, HNLT.out x hx⟩)) (OG.out.rcs (fun x hx => ⟨(HGG.out _ (by rw [← HRS.out]; exact List.mem_map_of_mem hx)).2, HNLG.out x hx⟩)) (by omega)
                rw [ha] at ka
                clear ha
                go_wp2_with fail
                refine ka.mono ?_
                clear ka
                rintro e wn ⟨rfl, b11⟩
                replace XOK := Lib.hid (XOK.out.below (b11.mono BE.out.size))
                replace DK := Lib.hid (DK.out.to b11)
                replace OG := Lib.hid (OG.out.to b11)
                replace LG6 := Lib.hid (LG6.out.to b11)
                replace OR := Lib.hid (OR.out.to b11)
                replace BE := Lib.hid (BE.out.trans (b11.mono BE.out.size))
                clear b11 OT
                go_wp2
                go_roundw
                case rel => exact ⟨k + 1, D9, Ad9, cd9, gl6, Ag, cg, rs, mt, by omega, rfl, rfl, rfl, by go_num, DK.out, LG6.out, hgl6gd, HAG6, HAQ6, OG.out, Lib.hid ⟨by rw [HRS.out, ← HG9.out]; exact HH9.out, by rw [HRS.out]; exact HGG.out, HNLG.out⟩, Lib.hid ⟨AQG.out, AQA.out⟩, BE.out⟩
                case measure => simp [intOf]; omega
              · have he : Nr.eqs (rs.map Rc.p) (hs.map Rc.p) = false := Nr.eqs_false (fun h => by
                  have h2 := congrArg List.length (h.symm.trans (HRS.out.trans hG))
                  simp at h2)
                rw [he]
                have ha : Nr.eqs (rs.map Rc.p) ((hs ++ [o.x]).map Rc.p) = true := (Nr.eqs_iff _ _).2 (by rw [HRS.out, hG, List.map_append]; rfl)
                have ka := all_any Ag A8 rs (hs ++ [o.x]) cg c8 mg (mh + 1) wi HLG.out (by rw [List.length_append, HLH.out]; rfl) RG.out RALL.out (by omega)
                rw [ha] at ka
                clear hG he ha RG RALL
                go_wp2_with fail
                refine ka.mono ?_
                clear ka
                rintro e wj ⟨rfl, b10⟩
                replace XOK := Lib.hid (XOK.out.below (b10.mono BE.out.size))
                replace DK := Lib.hid (DK.out.to b10)
                replace OG := Lib.hid (OG.out.to b10)
                replace LG6 := Lib.hid (LG6.out.to b10)
                replace OR := Lib.hid (OR.out.to b10)
                replace BE := Lib.hid (BE.out.trans (b10.mono BE.out.size))
                clear b10
                go_wp2_with fail
                refine (sparks_any DK.out (-1) (by decide)).mono ?_
                rintro e wk ⟨rfl, dk1, ko⟩
                have mv1 := Moves.of_only (A := Ad4) ko
                have fr1 : Ad4 = Ad4 ∨ ∀ p, Ad4 = some p → wj.heap.size ≤ p.block := .inl rfl
                clear ko
                have hlt_gl6 : gl6 < wj.heap.size := LG6.out.lt
                have hlt_or : wr.heap.size < wj.heap.size := OR.out.lt
                replace XOK := Lib.hid (XOK.out.below ((DK.out.moves mv1).mono hgd0))
                replace OR := Lib.hid (mv1.row OR.out (by omega) HAO.out)
                replace LG6 := Lib.hid (mv1.row LG6.out hgl6gd HAG6.out)
                have AQA' : Hid (∀ p, Ad4 = some p → recK.Apart p.block Ag rs) := Lib.hid (fun p hp => by rcases fr1 with f | f; exact AQA.out p (f.symm.trans hp); exact OG.out.apart_new (f p hp))
                replace OG := Lib.hid (OG.out.moves mv1 AQG.out AQA.out)
                replace AQA := AQA'
                clear AQA'
                replace HAG6 : Hid (∀ p, Ad4 = some p → p.block ≠ gl6) := Lib.hid (fun p hp => by rcases fr1 with f | f; exact HAG6.out p (f.symm.trans hp); have := f p hp; omega)
                replace HAO : Hid (∀ p, Ad4 = some p → p.block ≠ wr.heap.size) := Lib.hid (fun p hp => by rcases fr1 with f | f; exact HAO.out p (f.symm.trans hp); have := f p hp; omega)
                replace BE := Lib.hid (BE.out.trans ((DK.out.moves mv1).mono hgd0))
                replace DK := Lib.hid dk1
                clear mv1 dk1 fr1 hlt_gl6 hlt_or
                have hlh := Dk.lopen_has (HH6.out.sparks (-1)) HGG.out rfl
                obtain ⟨D8, hD8⟩ : ∃ D8, D4.sparks (-1) = D8 := ⟨_, rfl⟩
                rw [hD8] at DK hlh
                clear hD8
                obtain ⟨D9, G9, E9, hd9⟩ : ∃ D9 G9 E9, D8.lopen = (D9, G9, E9) := ⟨_, _, _, rfl⟩
                have ko := open_any DK.out
                rw [hd9] at ko hlh
                obtain ⟨h9a, h9b, h9c⟩ := hlh
                replace h9a : E9 = 0 := h9a
                replace h9b : G9 = G := h9b
                replace h9c : D9.Has G9 := h9b.symm ▸ h9c
                subst h9a
                have HG9 := Lib.hid h9b
                have HH9 := Lib.hid h9c
                clear hd9 h9b h9c
                go_wp2_with fail
                refine ko.mono ?_
                clear ko
                rintro e wm ⟨Ad9, cd9, pl9, At, mt, ct, ts, dk1, mv1, fr1, rfl, og, hts, hnlt, apg, apa, hz, hnz⟩
                have OT := Lib.hid og
                have HTS : Hid (ts.map Rc.p = G) := Lib.hid (hts.trans HG9.out)
                have HNLT := Lib.hid (fun x hx => (hnlt x hx).1)
                clear og hts hnlt apg apa hz hnz
                have hlt_gl6 : gl6 < wk.heap.size := LG6.out.lt
                have hlt_or : wr.heap.size < wk.heap.size := OR.out.lt
                replace XOK := Lib.hid (XOK.out.below ((DK.out.moves mv1).mono hgd0))
                replace OR := Lib.hid (mv1.row OR.out (by omega) HAO.out)
                replace LG6 := Lib.hid (mv1.row LG6.out hgl6gd HAG6.out)
                have AQA' : Hid (∀ p, Ad9 = some p → recK.Apart p.block Ag rs) := Lib.hid (fun p hp => by rcases fr1 with f | f; exact AQA.out p (f.symm.trans hp); exact OG.out.apart_new (f p hp))
                replace OG := Lib.hid (OG.out.moves mv1 AQG.out AQA.out)
                replace AQA := AQA'
                clear AQA'
                replace HAG6 : Hid (∀ p, Ad9 = some p → p.block ≠ gl6) := Lib.hid (fun p hp => by rcases fr1 with f | f; exact HAG6.out p (f.symm.trans hp); have := f p hp; omega)
                replace HAO : Hid (∀ p, Ad9 = some p → p.block ≠ wr.heap.size) := Lib.hid (fun p hp => by rcases fr1 with f | f; exact HAO.out p (f.symm.trans hp); have := f p hp; omega)
                replace BE := Lib.hid (BE.out.trans ((DK.out.moves mv1).mono hgd0))
                replace DK := Lib.hid dk1
                clear mv1 dk1 fr1 hlt_gl6 hlt_or
                have hmt : mt = mg := by
                  have h1 : (ts.map Rc.p).length = (rs.map Rc.p).length := by rw [HTS.out, HRS.out]
                  rwa [List.length_map, OT.out.len, List.length_map, OG.out.len] at h1
                subst hmt
                have ha : Nr.eqs (ts.map Rc.p) (rs.map Rc.p) = true := (Nr.eqs_iff _ _).2 (by rw [HTS.out, HRS.out])
                have ka := all_any At Ag ts rs ct cg mt mt wm OT.out.len OG.out.len (OT.out.rcs (fun x hx => ⟨(HGG.out _ (by rw [← HTS.out]; exact List.mem_map_of_mem hx)).2, HNLT.out x hx⟩)) (OG.out.rcs (fun x hx => ⟨(HGG.out _ (by rw [← HRS.out]; exact List.mem_map_of_mem hx)).2, HNLG.out x hx⟩)) (by omega)
                rw [ha] at ka
                clear ha
                go_wp2_with fail
                refine ka.mono ?_
                clear ka
                rintro e wn ⟨rfl, b11⟩
                replace XOK := Lib.hid (XOK.out.below (b11.mono BE.out.size))
                replace DK := Lib.hid (DK.out.to b11)
                replace OG := Lib.hid (OG.out.to b11)
                replace LG6 := Lib.hid (LG6.out.to b11)
                replace OR := Lib.hid (OR.out.to b11)
                replace BE := Lib.hid (BE.out.trans (b11.mono BE.out.size))
                clear b11 OT
                go_wp2
                go_roundw
                case rel => exact ⟨k + 1, D9, Ad9, cd9, gl6, Ag, cg, rs, mt, by omega, rfl, rfl, rfl, by go_num, DK.out, LG6.out, hgl6gd, HAG6, HAQ6, OG.out, Lib.hid ⟨by rw [HRS.out, ← HG9.out]; exact HH9.out, by rw [HRS.out]; exact HGG.out, HNLG.out⟩, Lib.hid ⟨AQG.out, AQA.out⟩, BE.out⟩
                case measure => simp [intOf]; omega
            · replace hE : E4 ≠ 0 := hE
              have HT4 : Hid (D4.Tail (hs.map Rc.p) o.x.p) := Lib.hid ht
              have hEb : (E4 != 0) = true := by simp [hE]
              have hEc : (E4 == 0) = false := by simp [hE]
              clear ht hl HTO HZ OG AQG AQA HRS HNLG
              have oelt : wr.heap.size < (wc).heap.size := OR.out.lt
              have oelu : wr.heap.size < (wc).heap.size + 1 := Nat.lt_succ_of_lt OR.out.lt
              have oe0 : (wc).cell? ⟨wr.heap.size, 0, none⟩ = some (.int .u8 (o.what : Int)) := OR.out.cells 0
              have oez0 : (wc).frozen? ⟨wr.heap.size, 0, none⟩ = false := OR.out.frozen 0
              have oe1 : (wc).cell? ⟨wr.heap.size, 1, none⟩ = some (.int .u8 (o.x.p.what : Int)) := OR.out.cells 1
              have oez1 : (wc).frozen? ⟨wr.heap.size, 1, none⟩ = false := OR.out.frozen 1
              have oe2 : (wc).cell? ⟨wr.heap.size, 2, none⟩ = some (.int .u32 (o.x.p.tx : Int)) := OR.out.cells 2
              have oez2 : (wc).frozen? ⟨wr.heap.size, 2, none⟩ = false := OR.out.frozen 2
              have oe3 : (wc).cell? ⟨wr.heap.size, 3, none⟩ = some (.int .u8 (o.x.p.who : Int)) := OR.out.cells 3
              have oez3 : (wc).frozen? ⟨wr.heap.size, 3, none⟩ = false := OR.out.frozen 3
              have oe4 : (wc).cell? ⟨wr.heap.size, 4, none⟩ = some (.bool o.x.p.yes) := OR.out.cells 4
              have oez4 : (wc).frozen? ⟨wr.heap.size, 4, none⟩ = false := OR.out.frozen 4
              have oe5 : (wc).cell? ⟨wr.heap.size, 5, none⟩ = some (.slice o.x.A o.x.p.text.length o.x.c) := OR.out.cells 5
              have oez5 : (wc).frozen? ⟨wr.heap.size, 5, none⟩ = false := OR.out.frozen 5
              have oe6 : (wc).cell? ⟨wr.heap.size, 6, none⟩ = some (.int .i64 o.n) := OR.out.cells 6
              have oez6 : (wc).frozen? ⟨wr.heap.size, 6, none⟩ = false := OR.out.frozen 6
              have HTC0 := Lib.hid (HT4.out.crash DK.out.ok.safe o.n)
              go_wp2_with fail
              refine (crash_any DK.out o.n XN.out.1 XN.out.2).mono ?_
              rintro e we ⟨rfl, dk1, ko⟩
              have mv1 := Moves.of_only (A := Ad4) ko
              have fr1 : Ad4 = Ad4 ∨ ∀ p, Ad4 = some p → wc.heap.size ≤ p.block := .inl rfl
              clear ko
              have hlt_or : wr.heap.size < wc.heap.size := OR.out.lt
              replace XOK := Lib.hid (XOK.out.below ((DK.out.moves mv1).mono hgd0))
              replace OR := Lib.hid (mv1.row OR.out (by omega) HAO.out)
              have APA' : Hid (∀ p, Ad4 = some p → recK.Apart p.block Ah hs) := Lib.hid (fun p hp => by rcases fr1 with f | f; exact APA.out p (f.symm.trans hp); exact OL.out.apart_new (f p hp))
              replace OL := Lib.hid (OL.out.moves mv1 APG.out APA.out)
              replace APA := APA'
              clear APA'
              have APQ' : Hid (∀ p, Ad4 = some p → recK.Apart p.block A5 [o.x]) := Lib.hid (fun p hp => by rcases fr1 with f | f; exact APQ.out p (f.symm.trans hp); exact OP.out.apart_new (f p hp))
              replace OP := Lib.hid (OP.out.moves mv1 APP.out APQ.out)
              replace APQ := APQ'
              clear APQ'
              replace HAO : Hid (∀ p, Ad4 = some p → p.block ≠ wr.heap.size) := Lib.hid (fun p hp => by rcases fr1 with f | f; exact HAO.out p (f.symm.trans hp); have := f p hp; omega)
              replace BE := Lib.hid (BE.out.trans ((DK.out.moves mv1).mono hgd0))
              replace DK := Lib.hid dk1
              clear mv1 dk1 fr1 hlt_or
              have htc := HTC0.out
              clear HTC0
              obtain ⟨D5, hD5⟩ : ∃ D5, D4.crash o.n = D5 := ⟨_, rfl⟩
              rw [hD5] at DK htc
              clear hD5
              have hto := Dk.lopen_tail htc.1 HPL.out.2.1 ⟨HR.out, XOK.out.fit⟩ htc.2.1 htc.2.2.1
              have HL5 := Lib.hid htc.2.2.2
              obtain ⟨D6, G, E6, hd6⟩ : ∃ D6 G E6, D5.lopen = (D6, G, E6) := ⟨_, _, _, rfl⟩
              have ko := open_any DK.out
              rw [hd6] at ko hto
              clear hd6 htc
              rcases hto with ⟨hE6, hG, hh⟩ | ⟨_, _, hl6⟩
              · replace hE6 : E6 = 0 := hE6
                subst hE6
                have HH6 : Hid (D6.Has G) := Lib.hid hh
                have HG6 : Hid (G = hs.map Rc.p ∨ G = hs.map Rc.p ++ [o.x.p]) := Lib.hid hG
                have hgde : gd < we.heap.size := DK.out.lt
                clear hh hG HL5
                go_wp2_with fail
                refine ko.mono ?_
                clear ko
                rintro e wf ⟨Ad6, cd6, pl6, Ag, mg, cg, rs, dk1, mv1, fr1, rfl, og, hrs, hnl, apg, apa, hz, hnz⟩
                have OG := Lib.hid (og.base_le (base' := w.heap.size) BE.out.size)
                have AQG := Lib.hid apg
                have AQA : Hid (∀ p, Ad6 = some p → recK.Apart p.block Ag rs) := Lib.hid apa
                have HRS : Hid (rs.map Rc.p = G) := Lib.hid hrs
                have HNLG := Lib.hid (fun x hx => (hnl x hx).1)
                have HZ := Lib.hid hz
                clear og hrs hnl apg apa hz hnz
                have hlt_or : wr.heap.size < we.heap.size := OR.out.lt
                replace XOK := Lib.hid (XOK.out.below ((DK.out.moves mv1).mono hgd0))
                replace OR := Lib.hid (mv1.row OR.out (by omega) HAO.out)
                have APA' : Hid (∀ p, Ad6 = some p → recK.Apart p.block Ah hs) := Lib.hid (fun p hp => by rcases fr1 with f | f; exact APA.out p (f.symm.trans hp); exact OL.out.apart_new (f p hp))
                replace OL := Lib.hid (OL.out.moves mv1 APG.out APA.out)
                replace APA := APA'
                clear APA'
                have APQ' : Hid (∀ p, Ad6 = some p → recK.Apart p.block A5 [o.x]) := Lib.hid (fun p hp => by rcases fr1 with f | f; exact APQ.out p (f.symm.trans hp); exact OP.out.apart_new (f p hp))
                replace OP := Lib.hid (OP.out.moves mv1 APP.out APQ.out)
                replace APQ := APQ'
                clear APQ'
                replace HAO : Hid (∀ p, Ad6 = some p → p.block ≠ wr.heap.size) := Lib.hid (fun p hp => by rcases fr1 with f | f; exact HAO.out p (f.symm.trans hp); have := f p hp; omega)
                replace BE := Lib.hid (BE.out.trans ((DK.out.moves mv1).mono hgd0))
                replace DK := Lib.hid dk1
                clear mv1 dk1 fr1 hlt_or
                obtain ⟨gl6, rfl, lg6, hgl6, hag6, haq6⟩ := HZ.out rfl
                have LG6 := Lib.hid lg6
                have HAG6 : Hid (∀ p, Ad6 = some p → p.block ≠ gl6) := Lib.hid hag6
                have HAQ6 : Hid (∀ q, Ag = some q → q.block ≠ gl6) := Lib.hid haq6
                have hgl6gd : gl6 ≠ gd := by omega
                clear lg6 hag6 haq6 HZ
                have HGG : Hid (Good G) := Lib.hid (by
                  rcases HG6.out with e | e
                  · rw [e]; exact HPL.out.2.1
                  · rw [e]; exact HPL.out.2.1.snoc ⟨HR.out, XOK.out.fit⟩)
                have hfewG : mg * 13 ≤ 262144 := by
                  have h1 := HH6.out.few DK.out.ok
                  have h2 := DK.out.ok.hi
                  rw [← HRS.out, List.length_map, OG.out.len] at h1
                  exact Nat.le_trans h1 h2
                have hmh : mh ≤ mg := by
                  have h1 : (rs.map Rc.p).length = G.length := by rw [HRS.out]
                  have h2 : (hs.map Rc.p).length ≤ G.length := by rcases HG6.out with e | e <;> rw [e] <;> simp
                  rw [List.length_map, OG.out.len] at h1
                  rw [List.length_map, OL.out.len] at h2
                  omega
                have HLH := Lib.hid OL.out.len
                have HLG := Lib.hid OG.out.len
                have RH := Lib.hid (OL.out.rcs (fun x hx => ⟨(HPL.out.2.1 _ (List.mem_map_of_mem hx)).2, HPL.out.2.2 x hx⟩))
                have RP := Lib.hid (OP.out.rcs (fun x hx => by rw [show x = o.x by simpa using hx]; exact ⟨XOK.out.fit, XOK.out.nl⟩))
                have RG := Lib.hid (OG.out.rcs (fun x hx => ⟨(HGG.out _ (by rw [← HRS.out]; exact List.mem_map_of_mem hx)).2, HNLG.out x hx⟩))
                have NH := Lib.hid (own_nil_s OL.out.own).1
                have NP := Lib.hid (own_nil_s OP.out.own).1
                have e0 := own_empty_s wf 34 5
                go_wp2_with (at_builtin; first
                  | (refine wpList_append_rn (f := recK.f) (s := 5) _ rfl (.tmp 125) (.tmp 126) 22 rfl recK_fine.hf recK_fine.hs recK_fine.one wf.heap.size 34 i1 _ 40 Try.underlying22 hif1 hy0 hy1 hy2 (by decide) rfl (some ⟨wf.heap.size, 0, none⟩) 0 0 [] rfl rfl e0 wf.heap.size Ah hs ch mh HLH.out rfl (RH.out.rc.alloc (Nat.le_refl _) _) (fun e => (NH.out e).1) mh (by omega) (by omega) (by simp) ?_; intro A7 c7 wg o7 g7 b7; have O7 := Lib.hid o7; have BX := Lib.hid ((bel_alloc (Below.refl wf.heap.size wf) _).trans b7); clear o7 g7 b7)
                  | (refine wpList_append_rn (f := recK.f) (s := 5) _ rfl (.tmp 127) (.tmp 128) 22 rfl recK_fine.hf recK_fine.hs recK_fine.one wf.heap.size 34 i1 _ 40 Try.underlying22 hif1 hy0 hy1 hy2 (by decide) rfl A7 c7 mh ([] ++ hs) rfl HLH.out O7.out wg.heap.size A5 [o.x] c5 1 rfl rfl (RP.out.to BX.out).rc (fun e => (NP.out e).1) (mh + 1) rfl (by omega) BX.out.size ?_; intro A8 c8 wh o8 g8 b8; have O8 := Lib.hid o8; have BX2 := Lib.hid (BX.out.trans b8); clear o8 g8 b8))
                clear e0 O7 BX
                have RALL : Hid (Rcs wh wh.heap.size A8 (hs ++ [o.x])) := Lib.hid ⟨Recs.of_own recK_fine.hf recK_fine.hs O8.out, fun b hb => by
                  rcases List.mem_append.1 hb with hb | hb
                  · exact (RH.out.to BX2.out).ok b hb
                  · exact (RP.out.to BX2.out).ok b hb⟩
                clear O8 RP NH NP OL OP APG APA APP APQ
                replace RH := Lib.hid (RH.out.to BX2.out)
                replace RG := Lib.hid (RG.out.to BX2.out)
                replace XOK := Lib.hid (XOK.out.below (BX2.out.mono BE.out.size))
                replace DK := Lib.hid (DK.out.to BX2.out)
                replace OG := Lib.hid (OG.out.to BX2.out)
                replace LG6 := Lib.hid (LG6.out.to BX2.out)
                replace OR := Lib.hid (OR.out.to BX2.out)
                replace BE := Lib.hid (BE.out.trans (BX2.out.mono BE.out.size))
                clear BX2
                refine (all_any Ag Ah rs hs cg ch mg mh wh HLG.out HLH.out RG.out RH.out (by omega)).mono ?_
                rintro e wi ⟨rfl, b9⟩
                clear RH
                replace RG := Lib.hid (RG.out.to b9)
                replace RALL := Lib.hid (RALL.out.to b9)
                replace XOK := Lib.hid (XOK.out.below (b9.mono BE.out.size))
                replace DK := Lib.hid (DK.out.to b9)
                replace OG := Lib.hid (OG.out.to b9)
                replace LG6 := Lib.hid (LG6.out.to b9)
                replace OR := Lib.hid (OR.out.to b9)
                replace BE := Lib.hid (BE.out.trans (b9.mono BE.out.size))
                clear b9
                rcases HG6.out with hG | hG
                · have he : Nr.eqs (rs.map Rc.p) (hs.map Rc.p) = true := (Nr.eqs_iff _ _).2 (HRS.out.trans hG)
                  rw [he]
                  clear hG he RG RALL
                  go_wp2_with fail
                  refine (sparks_any DK.out (-1) (by decide)).mono ?_
                  rintro e wk ⟨rfl, dk1, ko⟩
                  have mv1 := Moves.of_only (A := Ad6) ko
                  have fr1 : Ad6 = Ad6 ∨ ∀ p, Ad6 = some p → wi.heap.size ≤ p.block := .inl rfl
                  clear ko
                  have hlt_gl6 : gl6 < wi.heap.size := LG6.out.lt
                  have hlt_or : wr.heap.size < wi.heap.size := OR.out.lt
                  replace XOK := Lib.hid (XOK.out.below ((DK.out.moves mv1).mono hgd0))
                  replace OR := Lib.hid (mv1.row OR.out (by omega) HAO.out)
                  replace LG6 := Lib.hid (mv1.row LG6.out hgl6gd HAG6.out)
                  have AQA' : Hid (∀ p, Ad6 = some p → recK.Apart p.block Ag rs) := Lib.hid (fun p hp => by rcases fr1 with f | f; exact AQA.out p (f.symm.trans hp); exact OG.out.apart_new (f p hp))
                  replace OG := Lib.hid (OG.out.moves mv1 AQG.out AQA.out)
                  replace AQA := AQA'
                  clear AQA'
                  replace HAG6 : Hid (∀ p, Ad6 = some p → p.block ≠ gl6) := Lib.hid (fun p hp => by rcases fr1 with f | f; exact HAG6.out p (f.symm.trans hp); have := f p hp; omega)
                  replace HAO : Hid (∀ p, Ad6 = some p → p.block ≠ wr.heap.size) := Lib.hid (fun p hp => by rcases fr1 with f | f; exact HAO.out p (f.symm.trans hp); have := f p hp; omega)
                  replace BE := Lib.hid (BE.out.trans ((DK.out.moves mv1).mono hgd0))
                  replace DK := Lib.hid dk1
                  clear mv1 dk1 fr1 hlt_gl6 hlt_or
                  have hlh := Dk.lopen_has (HH6.out.sparks (-1)) HGG.out rfl
                  obtain ⟨D8, hD8⟩ : ∃ D8, D6.sparks (-1) = D8 := ⟨_, rfl⟩
                  rw [hD8] at DK hlh
                  clear hD8
                  obtain ⟨D9, G9, E9, hd9⟩ : ∃ D9 G9 E9, D8.lopen = (D9, G9, E9) := ⟨_, _, _, rfl⟩
                  have ko := open_any DK.out
                  rw [hd9] at ko hlh
                  obtain ⟨h9a, h9b, h9c⟩ := hlh
                  replace h9a : E9 = 0 := h9a
                  replace h9b : G9 = G := h9b
                  replace h9c : D9.Has G9 := h9b.symm ▸ h9c
                  subst h9a
                  have HG9 := Lib.hid h9b
                  have HH9 := Lib.hid h9c
                  clear hd9 h9b h9c
                  go_wp2_with fail
                  refine ko.mono ?_
                  clear ko
                  rintro e wm ⟨Ad9, cd9, pl9, At, mt, ct, ts, dk1, mv1, fr1, rfl, og, hts, hnlt, apg, apa, hz, hnz⟩
                  have OT := Lib.hid og
                  have HTS : Hid (ts.map Rc.p = G) := Lib.hid (hts.trans HG9.out)
                  have HNLT := Lib.hid (fun x hx => (hnlt x hx).1)
                  clear og hts hnlt apg apa hz hnz
                  have hlt_gl6 : gl6 < wk.heap.size := LG6.out.lt
                  have hlt_or : wr.heap.size < wk.heap.size := OR.out.lt
                  replace XOK := Lib.hid (XOK.out.below ((DK.out.moves mv1).mono hgd0))
                  replace OR := Lib.hid (mv1.row OR.out (by omega) HAO.out)
                  replace LG6 := Lib.hid (mv1.row LG6.out hgl6gd HAG6.out)
                  have AQA' : Hid (∀ p, Ad9 = some p → recK.Apart p.block Ag rs) := Lib.hid (fun p hp => by rcases fr1 with f | f; exact AQA.out p (f.symm.trans hp); exact OG.out.apart_new (f p hp))
                  replace OG := Lib.hid (OG.out.moves mv1 AQG.out AQA.out)
                  replace AQA := AQA'
                  clear AQA'
                  replace HAG6 : Hid (∀ p, Ad9 = some p → p.block ≠ gl6) := Lib.hid (fun p hp => by rcases fr1 with f | f; exact HAG6.out p (f.symm.trans hp); have := f p hp; omega)
                  replace HAO : Hid (∀ p, Ad9 = some p → p.block ≠ wr.heap.size) := Lib.hid (fun p hp => by rcases fr1 with f | f; exact HAO.out p (f.symm.trans hp); have := f p hp; omega)
                  replace BE := Lib.hid (BE.out.trans ((DK.out.moves mv1).mono hgd0))
                  replace DK := Lib.hid dk1
                  clear mv1 dk1 fr1 hlt_gl6 hlt_or
                  have hmt : mt = mg := by
                    have h1 : (ts.map Rc.p).length = (rs.map Rc.p).length := by rw [HTS.out, HRS.out]
                    rwa [List.length_map, OT.out.len, List.length_map, OG.out.len] at h1
                  subst hmt
                  have ha : Nr.eqs (ts.map Rc.p) (rs.map Rc.p) = true := (Nr.eqs_iff _ _).2 (by rw [HTS.out, HRS.out])
                  have ka := all_any At Ag ts rs ct cg mt mt wm OT.out.len OG.out.len (OT.out.rcs (fun x hx => ⟨(HGG.out _ (by rw [← HTS.out]; exact List.mem_map_of_mem hx)).2, HNLT.out x hx⟩)) (OG.out.rcs (fun x hx => ⟨(HGG.out _ (by rw [← HRS.out]; exact List.mem_map_of_mem hx)).2, HNLG.out x hx⟩)) (by omega)
                  rw [ha] at ka
                  clear ha
                  go_wp2_with fail
                  refine ka.mono ?_
                  clear ka
                  rintro e wn ⟨rfl, b11⟩
                  replace XOK := Lib.hid (XOK.out.below (b11.mono BE.out.size))
                  replace DK := Lib.hid (DK.out.to b11)
                  replace OG := Lib.hid (OG.out.to b11)
                  replace LG6 := Lib.hid (LG6.out.to b11)
                  replace OR := Lib.hid (OR.out.to b11)
                  replace BE := Lib.hid (BE.out.trans (b11.mono BE.out.size))
                  clear b11 OT
                  go_wp2
                  go_roundw
                  case rel => exact ⟨k + 1, D9, Ad9, cd9, gl6, Ag, cg, rs, mt, by omega, rfl, rfl, rfl, by go_num, DK.out, LG6.out, hgl6gd, HAG6, HAQ6, OG.out, Lib.hid ⟨by rw [HRS.out, ← HG9.out]; exact HH9.out, by rw [HRS.out]; exact HGG.out, HNLG.out⟩, Lib.hid ⟨AQG.out, AQA.out⟩, BE.out⟩
                  case measure => simp [intOf]; omega
                · have he : Nr.eqs (rs.map Rc.p) (hs.map Rc.p) = false := Nr.eqs_false (fun h => by
                    have h2 := congrArg List.length (h.symm.trans (HRS.out.trans hG))
                    simp at h2)
                  rw [he]
                  have ha : Nr.eqs (rs.map Rc.p) ((hs ++ [o.x]).map Rc.p) = true := (Nr.eqs_iff _ _).2 (by rw [HRS.out, hG, List.map_append]; rfl)
                  have ka := all_any Ag A8 rs (hs ++ [o.x]) cg c8 mg (mh + 1) wi HLG.out (by rw [List.length_append, HLH.out]; rfl) RG.out RALL.out (by omega)
                  rw [ha] at ka
                  clear hG he ha RG RALL
                  go_wp2_with fail
                  refine ka.mono ?_
                  clear ka
                  rintro e wj ⟨rfl, b10⟩
                  replace XOK := Lib.hid (XOK.out.below (b10.mono BE.out.size))
                  replace DK := Lib.hid (DK.out.to b10)
                  replace OG := Lib.hid (OG.out.to b10)
                  replace LG6 := Lib.hid (LG6.out.to b10)
                  replace OR := Lib.hid (OR.out.to b10)
                  replace BE := Lib.hid (BE.out.trans (b10.mono BE.out.size))
                  clear b10
                  go_wp2_with fail
                  refine (sparks_any DK.out (-1) (by decide)).mono ?_
                  rintro e wk ⟨rfl, dk1, ko⟩
                  have mv1 := Moves.of_only (A := Ad6) ko
                  have fr1 : Ad6 = Ad6 ∨ ∀ p, Ad6 = some p → wj.heap.size ≤ p.block := .inl rfl
                  clear ko
                  have hlt_gl6 : gl6 < wj.heap.size := LG6.out.lt
                  have hlt_or : wr.heap.size < wj.heap.size := OR.out.lt
                  replace XOK := Lib.hid (XOK.out.below ((DK.out.moves mv1).mono hgd0))
                  replace OR := Lib.hid (mv1.row OR.out (by omega) HAO.out)
                  replace LG6 := Lib.hid (mv1.row LG6.out hgl6gd HAG6.out)
                  have AQA' : Hid (∀ p, Ad6 = some p → recK.Apart p.block Ag rs) := Lib.hid (fun p hp => by rcases fr1 with f | f; exact AQA.out p (f.symm.trans hp); exact OG.out.apart_new (f p hp))
                  replace OG := Lib.hid (OG.out.moves mv1 AQG.out AQA.out)
                  replace AQA := AQA'
                  clear AQA'
                  replace HAG6 : Hid (∀ p, Ad6 = some p → p.block ≠ gl6) := Lib.hid (fun p hp => by rcases fr1 with f | f; exact HAG6.out p (f.symm.trans hp); have := f p hp; omega)
                  replace HAO : Hid (∀ p, Ad6 = some p → p.block ≠ wr.heap.size) := Lib.hid (fun p hp => by rcases fr1 with f | f; exact HAO.out p (f.symm.trans hp); have := f p hp; omega)
                  replace BE := Lib.hid (BE.out.trans ((DK.out.moves mv1).mono hgd0))
                  replace DK := Lib.hid dk1
                  clear mv1 dk1 fr1 hlt_gl6 hlt_or
                  have hlh := Dk.lopen_has (HH6.out.sparks (-1)) HGG.out rfl
                  obtain ⟨D8, hD8⟩ : ∃ D8, D6.sparks (-1) = D8 := ⟨_, rfl⟩
                  rw [hD8] at DK hlh
                  clear hD8
                  obtain ⟨D9, G9, E9, hd9⟩ : ∃ D9 G9 E9, D8.lopen = (D9, G9, E9) := ⟨_, _, _, rfl⟩
                  have ko := open_any DK.out
                  rw [hd9] at ko hlh
                  obtain ⟨h9a, h9b, h9c⟩ := hlh
                  replace h9a : E9 = 0 := h9a
                  replace h9b : G9 = G := h9b
                  replace h9c : D9.Has G9 := h9b.symm ▸ h9c
                  subst h9a
                  have HG9 := Lib.hid h9b
                  have HH9 := Lib.hid h9c
                  clear hd9 h9b h9c
                  go_wp2_with fail
                  refine ko.mono ?_
                  clear ko
                  rintro e wm ⟨Ad9, cd9, pl9, At, mt, ct, ts, dk1, mv1, fr1, rfl, og, hts, hnlt, apg, apa, hz, hnz⟩
                  have OT := Lib.hid og
                  have HTS : Hid (ts.map Rc.p = G) := Lib.hid (hts.trans HG9.out)
                  have HNLT := Lib.hid (fun x hx => (hnlt x hx).1)
                  clear og hts hnlt apg apa hz hnz
                  have hlt_gl6 : gl6 < wk.heap.size := LG6.out.lt
                  have hlt_or : wr.heap.size < wk.heap.size := OR.out.lt
                  replace XOK := Lib.hid (XOK.out.below ((DK.out.moves mv1).mono hgd0))
                  replace OR := Lib.hid (mv1.row OR.out (by omega) HAO.out)
                  replace LG6 := Lib.hid (mv1.row LG6.out hgl6gd HAG6.out)
                  have AQA' : Hid (∀ p, Ad9 = some p → recK.Apart p.block Ag rs) := Lib.hid (fun p hp => by rcases fr1 with f | f; exact AQA.out p (f.symm.trans hp); exact OG.out.apart_new (f p hp))
                  replace OG := Lib.hid (OG.out.moves mv1 AQG.out AQA.out)
                  replace AQA := AQA'
                  clear AQA'
                  replace HAG6 : Hid (∀ p, Ad9 = some p → p.block ≠ gl6) := Lib.hid (fun p hp => by rcases fr1 with f | f; exact HAG6.out p (f.symm.trans hp); have := f p hp; omega)
                  replace HAO : Hid (∀ p, Ad9 = some p → p.block ≠ wr.heap.size) := Lib.hid (fun p hp => by rcases fr1 with f | f; exact HAO.out p (f.symm.trans hp); have := f p hp; omega)
                  replace BE := Lib.hid (BE.out.trans ((DK.out.moves mv1).mono hgd0))
                  replace DK := Lib.hid dk1
                  clear mv1 dk1 fr1 hlt_gl6 hlt_or
                  have hmt : mt = mg := by
                    have h1 : (ts.map Rc.p).length = (rs.map Rc.p).length := by rw [HTS.out, HRS.out]
                    rwa [List.length_map, OT.out.len, List.length_map, OG.out.len] at h1
                  subst hmt
                  have ha : Nr.eqs (ts.map Rc.p) (rs.map Rc.p) = true := (Nr.eqs_iff _ _).2 (by rw [HTS.out, HRS.out])
                  have ka := all_any At Ag ts rs ct cg mt mt wm OT.out.len OG.out.len (OT.out.rcs (fun x hx => ⟨(HGG.out _ (by rw [← HTS.out]; exact List.mem_map_of_mem hx)).2, HNLT.out x hx⟩)) (OG.out.rcs (fun x hx => ⟨(HGG.out _ (by rw [← HRS.out]; exact List.mem_map_of_mem hx)).2, HNLG.out x hx⟩)) (by omega)
                  rw [ha] at ka
                  clear ha
                  go_wp2_with fail
                  refine ka.mono ?_
                  clear ka
                  rintro e wn ⟨rfl, b11⟩
                  replace XOK := Lib.hid (XOK.out.below (b11.mono BE.out.size))
                  replace DK := Lib.hid (DK.out.to b11)
                  replace OG := Lib.hid (OG.out.to b11)
                  replace LG6 := Lib.hid (LG6.out.to b11)
                  replace OR := Lib.hid (OR.out.to b11)
                  replace BE := Lib.hid (BE.out.trans (b11.mono BE.out.size))
                  clear b11 OT
                  go_wp2
                  go_roundw
                  case rel => exact ⟨k + 1, D9, Ad9, cd9, gl6, Ag, cg, rs, mt, by omega, rfl, rfl, rfl, by go_num, DK.out, LG6.out, hgl6gd, HAG6, HAQ6, OG.out, Lib.hid ⟨by rw [HRS.out, ← HG9.out]; exact HH9.out, by rw [HRS.out]; exact HGG.out, HNLG.out⟩, Lib.hid ⟨AQG.out, AQA.out⟩, BE.out⟩
                  case measure => simp [intOf]; omega
              · exact absurd HL5.out hl6
          · replace hE : E1 = 5 ∨ E1 = 50 := hE
            have HH : Hid (D1.Has (hs.map Rc.p)) := Lib.hid hh
            clear hh
            rcases hE with hE | hE
            · subst hE
              go_wp2
              go_roundw
              case rel => exact ⟨k + 1, D1, Ad1, cd1, gl, Ah, ch, hs, mh, by omega, rfl, rfl, rfl, by go_num, DK.out, LG.out, hglgd, HAGL, HAQ, OL.out, Lib.hid ⟨HH.out, HPL.out.2.1, HPL.out.2.2⟩, Lib.hid ⟨APG.out, APA.out⟩, BE.out⟩
              case measure => simp [intOf]; omega
            · subst hE
              go_wp2
              go_roundw
              case rel => exact ⟨k + 1, D1, Ad1, cd1, gl, Ah, ch, hs, mh, by omega, rfl, rfl, rfl, by go_num, DK.out, LG.out, hglgd, HAGL, HAQ, OL.out, Lib.hid ⟨HH.out, HPL.out.2.1, HPL.out.2.2⟩, Lib.hid ⟨APG.out, APA.out⟩, BE.out⟩
              case measure => simp [intOf]; omega
        · go_wp2_with fail
          refine (off_any DK.out).mono ?_
          rintro e_ w_ ⟨rfl, rfl⟩
          rw [HOFF.out]
          go_wp2
          go_roundw
          case rel => exact ⟨k + 1, D, Ad, cd, gl, Ah, ch, hs, mh, by omega, rfl, rfl, rfl, by go_num, DK.out, LG.out, hglgd, HAGL, HAQ, OL.out, HPL, Lib.hid ⟨APG.out, APA.out⟩, BE.out⟩
          case measure => simp [intOf]; omega
        · go_wp2_with fail
          refine (sparks_any DK.out o.n XN.out.2).mono ?_
          rintro e w7 ⟨rfl, dk1, ko⟩
          have mv1 := Moves.of_only (A := Ad) ko
          have fr1 : Ad = Ad ∨ ∀ p, Ad = some p → (wr.alloc (.cells o.C.toArray 51)).heap.size ≤ p.block := .inl rfl
          clear ko
          have hlt_gl : gl < (wr.alloc (.cells o.C.toArray 51)).heap.size := LG.out.lt
          have hlt_or : wr.heap.size < (wr.alloc (.cells o.C.toArray 51)).heap.size := OR.out.lt
          replace XOK := Lib.hid (XOK.out.below ((DK.out.moves mv1).mono hgd0))
          replace OR := Lib.hid (mv1.row OR.out (by omega) HAO.out)
          replace LG := Lib.hid (mv1.row LG.out hglgd HAGL.out)
          have APA' : Hid (∀ p, Ad = some p → recK.Apart p.block Ah hs) := Lib.hid (fun p hp => by rcases fr1 with f | f; exact APA.out p (f.symm.trans hp); exact OL.out.apart_new (f p hp))
          replace OL := Lib.hid (OL.out.moves mv1 APG.out APA.out)
          replace APA := APA'
          clear APA'
          replace HAGL : Hid (∀ p, Ad = some p → p.block ≠ gl) := Lib.hid (fun p hp => by rcases fr1 with f | f; exact HAGL.out p (f.symm.trans hp); have := f p hp; omega)
          replace HAO : Hid (∀ p, Ad = some p → p.block ≠ wr.heap.size) := Lib.hid (fun p hp => by rcases fr1 with f | f; exact HAO.out p (f.symm.trans hp); have := f p hp; omega)
          replace BE := Lib.hid (BE.out.trans ((DK.out.moves mv1).mono hgd0))
          replace DK := Lib.hid dk1
          clear mv1 dk1 fr1 hlt_gl hlt_or
          go_wp2
          go_roundw
          case rel => exact ⟨k + 1, (D.sparks o.n), Ad, cd, gl, Ah, ch, hs, mh, by omega, rfl, rfl, rfl, by go_num, DK.out, LG.out, hglgd, HAGL, HAQ, OL.out, Lib.hid ⟨HPL.out.1.sparks o.n, HPL.out.2.1, HPL.out.2.2⟩, Lib.hid ⟨APG.out, APA.out⟩, BE.out⟩
          case measure => simp [intOf]; omega
        · go_wp2_with fail
          refine (off_any DK.out).mono ?_
          rintro e_ w_ ⟨rfl, rfl⟩
          rw [HOFF.out]
          go_wp2
          go_roundw
          case rel => exact ⟨k + 1, D, Ad, cd, gl, Ah, ch, hs, mh, by omega, rfl, rfl, rfl, by go_num, DK.out, LG.out, hglgd, HAGL, HAQ, OL.out, HPL, Lib.hid ⟨APG.out, APA.out⟩, BE.out⟩
          case measure => simp [intOf]; omega
      · obtain rfl : k = n := by omega
        have BE := Lib.hid hbe
        go_wp2_with fail
        refine (kw.out _).mono ?_
        rintro e w7 ⟨rfl, b7⟩
        go_wp2
        go_ret
        exact ⟨rfl, BE.out.trans (b7.mono BE.out.size)⟩
  · rw [if_neg hL] at hif
    subst hif
    go_wp2_with fail
    refine (new_any 3000 w1 (by decide)).mono ?_
    rintro e w2 ⟨rfl, k2, b2⟩
    have B2 := Lib.hid (B1.out.trans (b2.mono hgd0))
    clear k2 b2
    go_wp2_with fail
    refine (kw.out _).mono ?_
    rintro e w7 ⟨rfl, b7⟩
    go_wp2
    go_ret
    exact ⟨rfl, B2.out.trans (b7.mono B2.out.size)⟩
end Go.Proofs.Ytbokggilfepdhaa
