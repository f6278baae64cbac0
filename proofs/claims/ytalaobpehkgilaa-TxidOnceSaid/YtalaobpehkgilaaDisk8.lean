/- A disk: Append. -/
import Derived.Test.YtalaobpehkgilaaDisk7
import Derived.Deep.AppendLies
import Derived.BigQuiet
import Derived.Deep.QuietTactic
namespace Go.Proofs.Ytalaobpehkgilaa
open Go.RowKit
set_option linter.unusedVariables false
attribute [local go_sem] Later.cell Later.frozen setCell_twice
section
variable {w : World} {B g c : Nat} {A : Option Addr} {D : Dk}
theorem RowAt.grown {w w' : World} {b : Nat} {T : TypeId} {C : List Value} {row : Option Nat} (h : RowAt w b T C) (hg : w.grownBy w' row) (hne : some b ≠ row) : RowAt w' b T C := (hg.block b h.lt hne).trans h
theorem Moves.sq {w' : World} {Ab : Option Addr} {lb : List Nat} (k : Moves g A w w') (h : Sq byw w w.heap.size Ab lb) (h1 : 0 < lb.length → ∀ p, Ab = some p → p.block ≠ g) (h2 : 0 < lb.length → ∀ p q, Ab = some p → A = some q → q.block ≠ p.block) : Sq byw w' w'.heap.size Ab lb := fun hn => by
  obtain ⟨b, o, hA, hb, hc⟩ := h hn
  exact ⟨b, o, hA, Nat.lt_of_lt_of_le hb k.size, fun j x hx => (World.cell?_of_block (k.block b hb (h1 hn _ hA) (fun q hq => h2 hn _ q hA hq))).trans (hc j x hx)⟩
set_option maxHeartbeats 1000000 in
theorem append_any (h : DkAt w B g A c D) (Ab : Option Addr) (cb nb : Nat) (lb : List Nat) (hnb : lb.length = nb) (hn63 : nb ≤ 9223372036854775807) (sq : Sq byw w w.heap.size Ab lb) (hu : ∀ x ∈ lb, x < 256) (hbg : 0 < lb.length → ∀ p, Ab = some p → p.block ≠ g) (hbA : 0 < lb.length → ∀ p q, Ab = some p → A = some q → q.block ≠ p.block) :
    Calls Try.prog 21 #[.pointer (some ⟨g, 0, none⟩), .slice Ab nb cb] w (OpP w B g A (D.append lb)) := by
  obtain ⟨i0, hif, hz0, hz1, hz2⟩ := info_parts info_b8
  have hmf : ∀ (fn : Fn) (first cap : Array Value) (w : World), (Instr.makeFunc fn first cap).run Try.prog w = .ok (.func fn first cap) w := fun _ _ _ _ => rfl
  have hgl := h.lt
  have kr := Lib.hid (ready_any (h.to (bel_alloc (Below.refl _ _) (.cells #[.int .i64 0] 25))))
  have RV := Lib.hid (rv_row w)
  have hne : w.heap.size ≠ g := by omega
  have hAl : ∀ p, A = some p → p.block < w.heap.size := fun p hp => (own_at h.own p hp).2.1
  have hr := Lib.hid ((h.to (bel_alloc (Below.refl _ _) (.cells #[.int .i64 0] 25))).row)
  have d1 : (Rv w).cell? ⟨g, 1, none⟩ = some (.int .i64 (D.room : Int)) := hr.out.cells 1
  have d2 : (Rv w).cell? ⟨g, 2, none⟩ = some (.slice A D.l.length c) := hr.out.cells 2
  cases ho : D.off
  · rw [ho] at kr
    have hrm := h.ok.room
    have hrh := h.ok.hi
    by_cases h1 : D.room < D.l.length + nb
    · have HS : Hid (D.append lb = (D, 5)) := Lib.hid (by unfold Dk.append; rw [if_neg (by rw [ho]; decide), if_pos (by rw [hnb]; exact h1)])
      have H := Lib.hid h
      have g1 : decide ((D.room : Int) - (D.l.length : Int) < (nb : Int)) = true := decide_eq_true (by omega)
      have g1' : (D.room : Int) - (D.l.length : Int) < (nb : Int) := by omega
      rw [HS.out]
      clear h ho
      go_enter_defers Try.func21, Try.ntmps21
      go_wp2_with fail
      refine (kr.out).mono ?_
      rintro e_ w_ ⟨rfl, rfl⟩
      go_wp2
      go_quiet (fail)
      go_wp2
      refine leaves_cons (f := 33) (args := #[.pointer (some ⟨w.heap.size, 0, none⟩)]) (by simp) (by simp [go_sem]) ?_
      refine (idle_append ⟨w.heap.size, 0, none⟩ _).mono ?_
      rintro e u' w'' ⟨rfl, rfl, rfl⟩
      simp [Leaves, settle, results, Try.results21, go_sem]
      exact ⟨rfl, .same (H.out.to (by repeat (first | with_reducible exact Below.refl _ _ | with_reducible refine bel_later _ ?_ | with_reducible refine bel_alloc ?_ _ | refine bel_set ?_ (by first | omega | (simp; done) | (simp; omega)) _ | with_reducible refine Below.drew ?_ | with_reducible refine bel_drewN ?_ _ | with_reducible assumption | assumption))) (.of_below (by repeat (first | with_reducible exact Below.refl _ _ | with_reducible refine bel_later _ ?_ | with_reducible refine bel_alloc ?_ _ | refine bel_set ?_ (by first | omega | (simp; done) | (simp; omega)) _ | with_reducible refine Below.drew ?_ | with_reducible refine bel_drewN ?_ _ | with_reducible assumption | assumption)))⟩
    · have HS : Hid (D.append lb = D.puts lb) := Lib.hid (by unfold Dk.append; rw [if_neg (by rw [ho]; decide), if_neg (by rw [hnb]; exact h1)])
      have H := Lib.hid h
      have g1 : decide ((D.room : Int) - (D.l.length : Int) < (nb : Int)) = false := decide_eq_false (by omega)
      have g1' : ¬ (D.room : Int) - (D.l.length : Int) < (nb : Int) := by omega
      have HNB := Lib.hid hnb
      rw [HS.out]
      obtain ⟨R, hR⟩ : ∃ R, D.puts lb = R := ⟨_, rfl⟩
      rw [hR]
      clear h ho HS
      have HR := Lib.hid hR
      have hfit : D.l.length + nb ≤ D.room := by omega
      clear hnb hR
      go_enter_defers Try.func21, Try.ntmps21
      go_wp2_with fail
      refine (kr.out).mono ?_
      rintro e_ w_ ⟨rfl, rfl⟩
      go_wp2
      go_quiet (fail)
      go_wp2
      clear d1 d2 g1 g1'
      go_loopw [29] (fun i wr => ∃ (k : Nat) (E : Dk) (A' : Option Addr) (c' : Nat), k ≤ nb ∧ i = .int .i64 k ∧ Hid (E.puts (lb.drop k) = R) ∧ E.l.length + (nb - k) ≤ E.room ∧ DkAt wr B g A' c' E ∧ Moves g A w wr ∧ (A' = A ∨ ∀ p, A' = some p → w.heap.size + 1 ≤ p.block) ∧ RowAt wr w.heap.size 25 [.int .i64 0]) (fun i _ => nb - (intOf i).toNat)
      case atStart => exact ⟨0, D, A, c, by omega, rfl, Lib.hid HR.out, by omega, H.out.to (bel_drewN (bel_alloc (Below.refl _ _) _) _), .of_below (bel_drewN (bel_alloc (Below.refl _ _) _) _), .inl rfl, RV.out⟩
      case round =>
        obtain ⟨k, E, A', c', hk, rfl, hput, hroom, hE, hmv, hA', hrv⟩ := hrel
        have hsz : w.heap.size < wr.heap.size := hrv.lt
        have hgr : g < wr.heap.size := hE.lt
        have hAe : ∀ p, A' = some p → p.block ≠ w.heap.size ∧ p.block < wr.heap.size := fun p hp => ⟨by
          rcases hA' with rfl | h
          · have := hAl p hp; omega
          · have := h p hp; omega, (own_at hE.own p hp).2.1⟩
        have HE := Lib.hid hE
        have MV := Lib.hid hmv
        have FR := Lib.hid hA'
        have RVR := Lib.hid hrv
        have HAE := Lib.hid hAe
        clear hE hmv hA' hrv hAe
        by_cases hlt : k < nb
        · obtain ⟨z, hz⟩ : ∃ z, lb[k]? = some z := ⟨_, List.getElem?_eq_getElem (by rw [HNB.out]; exact hlt)⟩
          obtain ⟨bb, ob, hAb, hbl, hzc⟩ : ∃ bb ob, Ab = some ⟨bb, ob, none⟩ ∧ bb < wr.heap.size ∧ wr.cell? ⟨bb, ob + k, none⟩ = some (.int .u8 (z : Int)) := by
            obtain ⟨b', o', h1, h2, h3⟩ := (MV.out.sq sq hbg hbA) (by rw [HNB.out]; omega)
            exact ⟨b', o', h1, h2, h3 _ _ hz⟩
          subst hAb
          have hltI : (k : Int) < (nb : Int) := by omega
          have h0I : (0 : Int) ≤ (k : Int) := by omega
          have HZ : Hid (lb.drop k = z :: lb.drop (k + 1)) := Lib.hid (by rw [List.drop_eq_getElem_cons (by rw [HNB.out]; exact hlt)]; congr 1; rw [List.getElem?_eq_getElem (by rw [HNB.out]; exact hlt)] at hz; exact Option.some.inj hz)
          have HU : Hid (z < 256) := Lib.hid (hu z (List.mem_of_getElem? hz))
          clear hz
          cases hb : E.sparked.2
          · have ks := Lib.hid (spark_no (D1 := E.sparked.1) HE.out (by rw [← hb]))
            have HRR : Hid (R = (E.sparked.1, 6)) := Lib.hid (by rw [← hput.out, HZ.out]; unfold Dk.puts; rw [if_neg (by rw [hb]; decide)])
            clear hb
            obtain rfl : R = (E.sparked.1, 6) := HRR.out
            go_wp2_with fail
            refine (ks.out).mono ?_
            rintro e_ w1 ⟨rfl, h1, o1⟩
            have r1 := RowAt.only RVR.out o1 hne
            have c1 := r1.cells 0
            have f1 := r1.frozen 0
            refine leaves_cons (f := 33) (args := #[.pointer (some ⟨w.heap.size, 0, none⟩)]) (by simp) (by simp [go_sem]) ?_
            refine (catch_append ⟨w.heap.size, 0, none⟩ 0 _ _ [] _ c1 f1).mono ?_
            rintro e u' w'' ⟨rfl, rfl, rfl⟩
            have c6 : (w1.setCell ⟨w.heap.size, 0, none⟩ (.int .i64 6)).cell? ⟨w.heap.size, 0, none⟩ = some (.int .i64 6) := (r1.set 0 (.int .i64 6)).cells 0
            simp [Leaves, settle, results, Try.results21, go_sem, c6]
            exact ⟨rfl, A', c', h1.other ((Only.refl _ _).set _) hne (fun p hp => (HAE.out p hp).1), (MV.out.trans (by rcases FR.out with h | h; exact .inl h; exact .inr (fun p hp => by have := h p hp; omega)) (.of_only o1)).set (Nat.le_refl _) _, by rcases FR.out with h | h; exact .inl h; exact .inr (fun p hp => by have := h p hp; omega)⟩
          · have ks := Lib.hid (spark_ok (D1 := E.sparked.1) HE.out (by rw [← hb]))
            have HPR : Hid (Dk.puts { E.sparked.1 with l := E.sparked.1.l ++ [z] } (lb.drop (k + 1)) = R) := Lib.hid (by rw [← hput.out, HZ.out]; conv => rhs; unfold Dk.puts; rw [if_pos hb])
            have HL := Lib.hid (Dk.sparked_l E)
            clear hb
            go_wp2_with fail
            refine (ks.out).mono ?_
            rintro e_ w1 ⟨rfl, h1, o1⟩
            have c2 : w1.cell? ⟨g, 2, none⟩ = some (.slice A' E.sparked.1.l.length c') := h1.row.cells 2
            have f2 := h1.row.frozen 2
            have r1 := RowAt.only RVR.out o1 hne
            have own1 := h1.own
            have hok1 := h1.ok
            rw [HL.out.1] at c2
            rw [HL.out.1] at own1
            have hEr : E.l.length ≤ 262144 := by have := HE.out.ok.room; have := HE.out.ok.hi; omega
            have OWN1 := Lib.hid own1
            have H1 := Lib.hid h1
            have R1 := Lib.hid r1
            have O1 := Lib.hid o1
            have hgz1 : g < w1.heap.size := h1.lt
            have hbz1 : B ≤ w1.heap.size := Nat.le_of_lt (Nat.lt_of_le_of_lt h1.base h1.lt)
            clear own1 h1 r1 o1 hok1
            go_wp2_with (at_builtin; refine wpList_append_lies _ rfl (.tmp 39) (.tmp 41) 33 rfl B 5 i0 (.int .u8 0) 1 1 Try.underlying33 hif hz0 hz1 hz2 rfl (by decide) (.slice A' E.l.length c') E.l.length (E.l.map byw) rfl (own_below OWN1.out (bel_alloc (Below.refl _ _) _)) ⟨w1.heap.size, 0, none⟩ 1 1 [byw z] rfl rfl (World.news_of_block (heap_alloc_new w1 _)) (by simp [Value.oneCell']) (by decide) (by unfold Go.maxLen; omega) (by omega) (by simp; omega) (w1.heap.size + 1) (by simp) ?_; intro g2 cap2 W2 o2 hg2 hat2 hlt2; have rg := (H1.out.row.alloc (.cells #[.int .u8 (z : Int)] 5)).grown hg2 (fun e => by cases hA2 : A' with | none => rw [hA2] at e; cases e | some p => rw [hA2] at e; exact H1.out.ne p hA2 (by simpa [Value.ownBlock] using e.symm)); have e2 : W2.cell? ⟨g, 2, none⟩ = some (.slice A' E.sparked.1.l.length c') := rg.cells 2; have ff2 := rg.frozen 2; have RG := Lib.hid rg; clear rg)
            have hE1 := H1.out.ok
            have hb1 : Below w1.heap.size w1 (w1.alloc (.cells #[.int .u8 (z : Int)] 5)) := bel_alloc (Below.refl _ _) _
            have hblk : ∀ j, (Value.slice A' E.l.length c').ownBlock = some j → ∃ p, A' = some p ∧ p.block = j := fun j hj => by
              cases A' with
              | none => cases hj
              | some p => exact ⟨p, rfl, by simpa [Value.ownBlock] using hj⟩
            have hg2g : g2 ≠ g := by
              rcases hat2 with h | h
              · obtain ⟨p, hp, hpb⟩ := hblk _ h
                rw [← hpb]; exact H1.out.ne p hp
              · omega
            have hrowne : ∀ j, (∀ p, A' = some p → p.block ≠ j) → some j ≠ (Value.slice A' E.l.length c').ownBlock := fun j hj e => by
              obtain ⟨p, hp, hpb⟩ := hblk j e.symm
              exact hj p hp hpb
            have mv2 : Moves g A' w1 W2 := ⟨hg2.os, hg2.tape, hg2.output, Nat.le_trans hb1.size hg2.size, fun j hj hjg hjA => (hg2.block j (Nat.lt_of_lt_of_le hj hb1.size) (hrowne j hjA)).trans (hb1.block j hj)⟩
            have hfr0 : A' = A ∨ ∀ p, A' = some p → w.heap.size ≤ p.block := by
              rcases FR.out with h | h
              · exact .inl h
              · exact .inr (fun p hp => by have := h p hp; omega)
            have hA2 : (some ⟨g2, 0, none⟩ : Option Addr) = A ∨ ∀ p, (some ⟨g2, 0, none⟩ : Option Addr) = some p → w.heap.size + 1 ≤ p.block := by
              rcases hat2 with h | h
              · rcases OWN1.out.2 with ⟨hv, _⟩ | ⟨g', cap, cur, hv, _⟩
                · have hv2 : A' = none ∧ E.l.length = 0 ∧ c' = 0 := by simpa using hv
                  rw [hv2.1] at h
                  cases h
                · have hv2 : A' = some ⟨g', 0, none⟩ ∧ c' = cap := by simpa using hv
                  have hgg : g' = g2 := by rw [hv2.1] at h; simpa [Value.ownBlock] using h
                  rw [hgg] at hv2
                  rcases FR.out with h2 | h2
                  · exact .inl (by rw [← h2, hv2.1])
                  · exact .inr (fun p hp => h2 p (hv2.1.trans hp))
              · refine .inr (fun p hp => ?_)
                have hp2 : p.block = g2 := by rw [← Option.some.inj hp]
                have := O1.out.size
                omega
            have hl1 : (E.sparked.1.l ++ [z]).length = E.l.length + 1 := by rw [List.length_append, HL.out.1]; rfl
            refine ⟨⟨k + 1, { E.sparked.1 with l := E.sparked.1.l ++ [z] }, some ⟨g2, 0, none⟩, cap2, by omega, by go_num, HPR, ?_, ⟨?_, ?_, H1.out.base, ⟨?_, ?_, hE1.hi, hE1.left, ?_⟩, ?_⟩, ?_, ?_, ?_⟩, by simp [intOf]; omega⟩
            · simp only [hl1, HL.out.2.2]; omega
            · have hr := RG.out.set 2 (.slice (some ⟨g2, 0, none⟩) (E.l.length + 1) cap2)
              simp only [Dk.C, hl1]
              simpa using hr
            · have ho := ((Only.refl g W2).set (i := 2) (.slice (some ⟨g2, 0, none⟩) (E.l.length + 1) cap2)).own_ne o2 (fun p hp => by obtain rfl : p = _ := (Option.some.inj hp).symm; exact hg2g)
              simp only [hl1]
              rw [List.map_append, HL.out.1]
              exact ho
            · simp only [hl1]; have := hE1.safe; rw [HL.out.1] at this; omega
            · simp only [hl1, HL.out.2.2]; omega
            · intro y hy
              rcases List.mem_append.1 hy with h | h
              · exact hE1.u y h
              · obtain rfl : y = z := by simpa using h
                exact HU.out
            · intro p hp
              obtain rfl : p = _ := (Option.some.inj hp).symm
              exact hg2g
            · exact ((MV.out.trans hfr0 (.of_only O1.out)).trans hfr0 mv2).trans (A' := some ⟨g2, 0, none⟩) (by
                rcases hA2 with h | h
                · exact .inl h
                · exact .inr (fun p hp => by have := h p hp; omega)) (.of_only ((Only.refl _ _).set _))
            · exact hA2
            · exact ((R1.out.alloc (.cells #[.int .u8 (z : Int)] 5)).grown hg2 (hrowne _ (fun p hp => (HAE.out p hp).1))).other hne.symm _
        · obtain rfl : k = nb := by omega
          have HRR : Hid (R = (E, 0)) := Lib.hid (by rw [← hput.out, List.drop_eq_nil_of_le (by rw [HNB.out]; exact Nat.le_refl _)]; rfl)
          obtain rfl : R = (E, 0) := HRR.out
          have c1 : wr.cell? ⟨w.heap.size, 0, none⟩ = some (.int .i64 0) := RVR.out.cells 0
          have f1 := RVR.out.frozen 0
          go_wp2
          refine leaves_cons (f := 33) (args := #[.pointer (some ⟨w.heap.size, 0, none⟩)]) (by simp) (by simp [go_sem]) ?_
          refine (idle_append ⟨w.heap.size, 0, none⟩ _).mono ?_
          rintro e u' w'' ⟨rfl, rfl, rfl⟩
          have c6 : (wr.setCell ⟨w.heap.size, 0, none⟩ (.int .i64 0)).cell? ⟨w.heap.size, 0, none⟩ = some (.int .i64 0) := (RVR.out.set 0 (.int .i64 0)).cells 0
          simp [Leaves, settle, results, Try.results21, go_sem, c6]
          exact ⟨rfl, A', c', HE.out.other ((Only.refl _ _).set _) hne (fun p hp => (HAE.out p hp).1), MV.out.set (Nat.le_refl _) _, by rcases FR.out with h | h; exact .inl h; exact .inr (fun p hp => by have := h p hp; omega)⟩
  · have HS : Hid (D.append lb = (D, 6)) := Lib.hid (by unfold Dk.append; rw [if_pos ho])
    rw [ho] at kr
    have H := Lib.hid h
    rw [HS.out]
    clear h ho
    go_enter_defers Try.func21, Try.ntmps21
    go_wp2_with fail
    refine (kr.out).mono ?_
    rintro e_ w_ ⟨rfl, rfl⟩
    go_wp2
    refine leaves_cons (f := 33) (args := #[.pointer (some ⟨w.heap.size, 0, none⟩)]) (by simp) (by simp [go_sem]) ?_
    refine (idle_append ⟨w.heap.size, 0, none⟩ _).mono ?_
    rintro e u' w'' ⟨rfl, rfl, rfl⟩
    simp [Leaves, settle, results, Try.results21, go_sem]
    exact ⟨rfl, .same (H.out.to (bel_alloc (Below.refl _ _) _)) ((Moves.refl _ _ _).alloc _)⟩
end
end Go.Proofs.Ytalaobpehkgilaa
