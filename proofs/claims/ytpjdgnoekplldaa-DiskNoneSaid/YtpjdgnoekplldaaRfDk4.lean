/- The reference's disk (saucierref09), by value: Append. -/
import Derived.Test.YtpjdgnoekplldaaRfDk3
import Derived.Test.YtpjdgnoekplldaaVarB
namespace Go.Proofs.Ytpjdgnoekplldaa
open Go.RowKit
set_option linter.unusedVariables false
attribute [local go_sem] Later.cell Later.frozen setCell_twice
theorem size_rd : (Try.prog.info? 44).map (·.size) = some 5 := by kernel_rfl
theorem Dk.sparked_with (E : Dk) (L : List Nat) : Dk.sparked { E with l := L } = ({ (Dk.sparked E).1 with l := L }, (Dk.sparked E).2) := by
  obtain ⟨room, l, safe, left, off⟩ := E
  cases left with
  | none => rfl
  | some k => cases k <;> rfl
abbrev Dk.RC (A : Option Addr) (c : Nat) (m : Nat) (D : Dk) : List Value := [.int .i64 (D.room : Int), .int .i64 (D.safe : Int), .int .i64 (lf D.left), .slice A m c, .bool D.off]
theorem RC_one (A : Option Addr) (c m : Nat) (D : Dk) : ∀ v ∈ D.RC A c m, v.oneCell' = true := by
  intro v hv
  simp only [Dk.RC, List.mem_cons, List.not_mem_nil, or_false] at hv
  rcases hv with rfl | rfl | rfl | rfl | rfl <;> rfl
abbrev rd0 : List Value := [.int .i64 0, .int .i64 0, .int .i64 0, .slice none 0 0, .bool false]
theorem rd0_one : ∀ v ∈ rd0, v.oneCell' = true := by
  intro v hv
  simp only [rd0, List.mem_cons, List.not_mem_nil, or_false] at hv
  rcases hv with rfl | rfl | rfl | rfl | rfl <;> rfl
set_option maxHeartbeats 2000000 in
theorem rappend_any (D : Dk) (A : Option Addr) (c : Nat) (w : World) (hok : D.Ok) (hb : Rb w A c D.l) (Ab : Option Addr) (cb nb : Nat) (lb : List Nat) (hnb : lb.length = nb) (hn63 : nb ≤ 140737488355328) (sq : Sq byw w w.heap.size Ab lb) (hu : ∀ x ∈ lb, x < 256) :
    Calls Try.prog 32 #[D.R A c, .slice Ab nb cb] w (RdP w A (D.append lb)) := by
  obtain ⟨i0, hi, hz0, hz1, hz2⟩ := info_parts info_b8
  have HB := Lib.hid hb
  have hcap := hb.cap
  have hmc := hb.le
  have SQ := Lib.hid sq
  obtain ⟨R, hR⟩ : ∃ R, D.append lb = R := ⟨_, rfl⟩
  rw [hR]
  have hRok : Hid (D.off = true → R = (D, 6)) := Lib.hid (by intro h; rw [← hR]; unfold Dk.append; rw [if_pos h])
  unfold Dk.append at hR
  have hmr : D.l.length ≤ 262144 := Nat.le_trans hok.room hok.hi
  have hrh := hok.hi
  have OK := Lib.hid hok
  clear hb sq
  obtain ⟨m, hm⟩ : ∃ m, D.l.length = m := ⟨_, rfl⟩
  obtain ⟨zl, hzl⟩ : ∃ z, lf D.left = z := ⟨_, rfl⟩
  simp only [Dk.R, hm, hzl] at hR hmc hmr ⊢
  have HM := Lib.hid hm
  have HZ := Lib.hid hzl
  have HNB := Lib.hid hnb
  by_cases ho : D.off = true
  · rw [if_pos ho] at hR
    subst hR
    rw [ho]
    clear hm hzl hnb hok
    go_enter Try.func32, Try.ntmps32
    go_wp2
    refine bodyPost_ret (v := .tuple #[.agg #[.int .i64 (D.room : Int), .int .i64 (D.safe : Int), .int .i64 zl, .slice A m c, .bool true], .int .i64 6]) (by simp [results, Try.results32, go_sem, *]) rfl (RdP.of HB.out rfl (by simp [Dk.R, HM.out, HZ.out, ho]) (by repeat (first | with_reducible exact Below.refl _ _ | with_reducible refine bel_later _ ?_ | with_reducible refine bel_alloc ?_ _ | refine bel_set ?_ (by first | omega | (simp; done) | (simp; omega)) _ | with_reducible refine Below.drew ?_ | with_reducible refine bel_drewN ?_ _ | with_reducible assumption | assumption)))
  have hoff : D.off = false := by simpa using ho
  rw [if_neg ho] at hR
  have hMI : (m : Int) + (nb : Int) ≤ 9223372036854775807 ∨ (262144 : Int) < (m : Int) + (nb : Int) := by omega
  by_cases hf : D.room < m + lb.length
  · rw [if_pos hf] at hR
    subst hR
    rw [hoff]
    have hnL : nb ≤ 9223372036854775807 - m ∨ 9223372036854775807 - m < nb := by omega
    rcases hnL with hnL | hnL
    · have g1 : decide ((D.room : Int) < (m : Int) + (nb : Int)) = true := decide_eq_true (by rw [← hnb]; omega)
      have g1' : decide (D.room < m + nb) = true := decide_eq_true (by rw [← hnb]; omega)
      clear hm hzl hnb hok hf hMI
      go_enter Try.func32, Try.ntmps32
      go_wp2
      refine bodyPost_ret (v := .tuple #[.agg #[.int .i64 (D.room : Int), .int .i64 (D.safe : Int), .int .i64 zl, .slice A m c, .bool false], .int .i64 5]) (by simp [results, Try.results32, go_sem, *]) rfl (RdP.of HB.out rfl (by simp [Dk.R, HM.out, HZ.out, hoff]) (by repeat (first | with_reducible exact Below.refl _ _ | with_reducible refine bel_later _ ?_ | with_reducible refine bel_alloc ?_ _ | refine bel_set ?_ (by first | omega | (simp; done) | (simp; omega)) _ | with_reducible refine Below.drew ?_ | with_reducible refine bel_drewN ?_ _ | with_reducible assumption | assumption)))
    · omega
  rw [if_neg hf] at hR
  have hmn : m + nb ≤ 262144 := by rw [← hnb]; omega
  have g1 : decide ((D.room : Int) < (m : Int) + (nb : Int)) = false := decide_eq_false (by rw [← hnb]; omega)
  have g1' : decide (D.room < m + nb) = false := decide_eq_false (by rw [← hnb]; omega)
  have HR := Lib.hid hR
  rw [hoff]
  clear ho hf hm hzl hnb hok hR hRok hMI
  have HOF := Lib.hid hoff
  clear hoff
  go_enter Try.func32, Try.ntmps32
  go_wp2_with (
    at_builtin
    go_loud (
    refine wpList_append_sq (f := byw) _ rfl _ _ 22 rfl (fun _ => rfl) (w.heap.size + 1 + 1) 5 i0 _ _ Try.underlying22 hi hz0 rfl hz1 hz2 (by decide) _ [] rfl (own_sq_empty byw _ _ _ _ (by simp) (by simp)) w.heap.size _ D.l c m HM.out rfl (((HB.out.sq.below (B := w.heap.size) (by exact (by repeat (first | with_reducible exact Below.refl _ _ | with_reducible refine bel_later _ ?_ | with_reducible refine bel_alloc ?_ _ | refine bel_set ?_ (by first | omega | (simp; done) | (simp; omega)) _ | with_reducible refine Below.drew ?_ | with_reducible refine bel_drewN ?_ _ | with_reducible assumption | assumption)))))) HB.out.nil (by simp; omega) (by simp) ?_
    intro A' c' w' hown hg hb
    simp only [List.nil_append, HM.out] at hown ⊢
    have HO := Lib.hid hown
    have hbw : Below w.heap.size w w' := Below.trans (by exact (by repeat (first | with_reducible exact Below.refl _ _ | with_reducible refine bel_later _ ?_ | with_reducible refine bel_alloc ?_ _ | refine bel_set ?_ (by first | omega | (simp; done) | (simp; omega)) _ | with_reducible refine Below.drew ?_ | with_reducible refine bel_drewN ?_ _ | with_reducible assumption | assumption))) (hb.mono (by omega))
    have hz := hb.size
    simp at hz
    have BX := Lib.hid (show RowAt w' w.heap.size 44 [.int .i64 (D.room : Int), .int .i64 (D.safe : Int), .int .i64 zl, .slice A m c, .bool false] from (((RowAt.new w 44 [.int .i64 (D.room : Int), .int .i64 (D.safe : Int), .int .i64 zl, .slice A m c, .bool false]).alloc _).alloc _).below hb (by omega))
    have RS := Lib.hid (show RowAt w' (w.heap.size + 1) 44 rd0 from ((RowAt.new' _ (w.heap.size + 1) 44 rd0 (by simp)).alloc _).below hb (by omega))
    clear hown hg hb))
  have hz1 : w.heap.size + 1 < w'.heap.size := by omega
  go_loopw [6, 7] (fun v i wr => ∃ (k n : Nat) (E : Dk) (A' : Option Addr) (c' : Nat), k ≤ nb ∧ n = m + k ∧ v = .slice A' n c' ∧ i = .int .i64 (k : Int) ∧ Hid (E.l = D.l ++ lb.take k) ∧ E.room = D.room ∧ E.safe = D.safe ∧ Hid (∀ j, E.left = some j → j ≤ 9223372036854775807) ∧ Hid (Dk.puts E (lb.drop k) = R)
      ∧ wr.ownsRow (w.heap.size + 1 + 1) 5 1 (.slice A' n c') n (E.l.map byw) ∧ RowAt wr w.heap.size 44 (E.RC A c m) ∧ RowAt wr (w.heap.size + 1) 44 rd0 ∧ Below w.heap.size w wr)
    (fun _ i _ => nb - (intOf i).toNat)
  case atStart => exact ⟨0, m, D, A', c', by omega, rfl, rfl, rfl, Lib.hid (by simp), rfl, rfl, Lib.hid OK.out.left, Lib.hid HR.out, HO.out, by have h := BX.out; simp only [Dk.RC, HZ.out, HOF.out]; exact h, RS.out, hbw⟩
  case round =>
    clear HO BX RS hbw hz hz1
    obtain ⟨k, n, E, A', c', hk, hn, rfl, rfl, hEl, hEr, hEs, hEk, hput, hown, hbx, hrs, hbw⟩ := hrel
    have hwr1 : w.heap.size + 1 < wr.heap.size := hrs.lt
    have HN := Lib.hid hn
    have HO := Lib.hid hown
    have BX := Lib.hid hbx
    have RS := Lib.hid hrs
    have BW := Lib.hid hbw
    have HER := Lib.hid hEr
    have HES := Lib.hid hEs
    have hnb2 : n ≤ m + nb := by omega
    have HEN : Hid (E.l.length = n) := Lib.hid (by rw [hEl.out, List.length_append, HM.out, List.length_take, HNB.out, hn]; omega)
    clear hown hbx hrs hbw hEr hEs hn
    by_cases hlt : k < nb
    · obtain ⟨z, hz⟩ : ∃ z, lb[k]? = some z := ⟨_, List.getElem?_eq_getElem (by rw [HNB.out]; exact hlt)⟩
      obtain ⟨bb, ob, hAb, hbl, hzc⟩ : ∃ bb ob, Ab = some ⟨bb, ob, none⟩ ∧ bb < w.heap.size ∧ w.cell? ⟨bb, ob + k, none⟩ = some (.int .u8 (z : Int)) := by
        obtain ⟨b', o', h1, h2, h3⟩ := SQ.out (by rw [HNB.out]; omega)
        exact ⟨b', o', h1, h2, h3 _ _ hz⟩
      subst hAb
      have ZC := Lib.hid hzc
      have hltI : (k : Int) < (nb : Int) := by omega
      have h0I : (0 : Int) ≤ (k : Int) := by omega
      have HZ2 : Hid (lb.drop k = z :: lb.drop (k + 1)) := Lib.hid (by rw [List.drop_eq_getElem_cons (by rw [HNB.out]; exact hlt)]; congr 1; rw [List.getElem?_eq_getElem (by rw [HNB.out]; exact hlt)] at hz; exact Option.some.inj hz)
      have HU : Hid (z < 256) := Lib.hid (hu z (List.mem_of_getElem? hz))
      have HT : Hid (lb.take (k + 1) = lb.take k ++ [z]) := Lib.hid (by rw [List.take_add_one, hz]; rfl)
      obtain ⟨E1, b, hd⟩ : ∃ E1 b, E.sparked = (E1, b) := ⟨_, _, rfl⟩
      have hll := Dk.sparked_l E
      rw [hd] at hll
      have HLL := Lib.hid hll
      have hE1k : ∀ j, E1.left = some j → j ≤ 9223372036854775807 := by
        intro j hj
        have h1 : (Dk.sparked E).1.left = some j := by rw [hd]; exact hj
        unfold Dk.sparked at h1
        split at h1
        · exact hEk.out j h1
        · exact hEk.out j h1
        · rename_i j2 h2
          have := hEk.out _ h2
          simp only [Option.some.injEq] at h1
          omega
      have HE1K := Lib.hid hE1k
      have hs := Dk.sparked_with E D.l
      rw [hd] at hs
      have ks := Lib.hid (rspark_any { E with l := D.l } { E1 with l := D.l } b A c wr hEk.out hs)
      simp only [Dk.R, HM.out] at ks
      have HDD := Lib.hid hd
      clear hz hzc hll hE1k hs hd hEk
      have bxlt : w.heap.size < (wr).heap.size := BX.out.lt
      have bxlu : w.heap.size < (wr).heap.size + 1 := Nat.lt_succ_of_lt BX.out.lt
      have bx0 : (wr).cell? ⟨w.heap.size, 0, none⟩ = some (.int .i64 (E.room : Int)) := BX.out.cells 0
      have bxz0 : (wr).frozen? ⟨w.heap.size, 0, none⟩ = false := BX.out.frozen 0
      have bx1 : (wr).cell? ⟨w.heap.size, 1, none⟩ = some (.int .i64 (E.safe : Int)) := BX.out.cells 1
      have bxz1 : (wr).frozen? ⟨w.heap.size, 1, none⟩ = false := BX.out.frozen 1
      have bx2 : (wr).cell? ⟨w.heap.size, 2, none⟩ = some (.int .i64 (lf E.left)) := BX.out.cells 2
      have bxz2 : (wr).frozen? ⟨w.heap.size, 2, none⟩ = false := BX.out.frozen 2
      have bx3 : (wr).cell? ⟨w.heap.size, 3, none⟩ = some (.slice A m c) := BX.out.cells 3
      have bxz3 : (wr).frozen? ⟨w.heap.size, 3, none⟩ = false := BX.out.frozen 3
      have bx4 : (wr).cell? ⟨w.heap.size, 4, none⟩ = some (.bool E.off) := BX.out.cells 4
      have bxz4 : (wr).frozen? ⟨w.heap.size, 4, none⟩ = false := BX.out.frozen 4
      go_wp2_with fail
      refine (ks.out).mono ?_
      rintro e_ w_ ⟨rfl, hb1⟩
      obtain ⟨x1, rfl⟩ := later_is hb1
      replace BX := Lib.hid (BX.out.to x1.bel)
      replace RS := Lib.hid (RS.out.to x1.bel)
      replace HO := Lib.hid (own_below HO.out x1.bel)
      replace BW := Lib.hid (BW.out.trans (x1.bel.mono BW.out.size))
      have hzx : wr.heap.size ≤ x1.val.heap.size := x1.bel.size
      clear hb1 bxlt bxlu bx0 bx1 bx2 bx3 bx4 bxz0 bxz1 bxz2 bxz3 bxz4 ks
      cases b
      · have HPR : Hid (R = ({ E1 with l := E.l }, 6)) := Lib.hid (by rw [← hput.out, HZ2.out]; unfold Dk.puts; rw [HDD.out, if_neg (by simp)]; dsimp only; rw [← HLL.out.1])
        go_wp2_with (
          refine wpList_store_var rfl 44 (.tmp 2) (.tmp 38) rfl w.heap.size (E.RC A c m) (E1.RC A c m) 5 rfl rfl (BX.out.alloc _) size_rd rfl rfl (RC_one A c m E1) ?_
          intro w2 r2 k2
          have hnx : Below x1.val.heap.size x1.val (x1.val.alloc (.cells #[.int .i64 (E1.room : Int), .int .i64 (E1.safe : Int), .int .i64 (lf E1.left), .slice A m c, .bool E1.off] 44)) := bel_alloc (Below.refl _ _) _
          have BX2 := Lib.hid r2
          have RS2 := Lib.hid ((RS.out.to hnx).only k2 (by omega))
          have HO2 := Lib.hid (k2.own (own_below HO.out hnx) (by omega))
          have BW2 := Lib.hid ((BW.out.trans (hnx.mono BW.out.size)).trans (k2.below (Nat.le_refl _)))
          have hzw2 : w.heap.size + 1 < w2.heap.size := RS2.out.lt
          clear r2 k2 hnx
          have bxlt : w.heap.size < (w2).heap.size := BX2.out.lt
          have bxlu : w.heap.size < (w2).heap.size + 1 := Nat.lt_succ_of_lt BX2.out.lt
          have bx0 : (w2).cell? ⟨w.heap.size, 0, none⟩ = some (.int .i64 (E1.room : Int)) := BX2.out.cells 0
          have bxz0 : (w2).frozen? ⟨w.heap.size, 0, none⟩ = false := BX2.out.frozen 0
          have bx1 : (w2).cell? ⟨w.heap.size, 1, none⟩ = some (.int .i64 (E1.safe : Int)) := BX2.out.cells 1
          have bxz1 : (w2).frozen? ⟨w.heap.size, 1, none⟩ = false := BX2.out.frozen 1
          have bx2 : (w2).cell? ⟨w.heap.size, 2, none⟩ = some (.int .i64 (lf E1.left)) := BX2.out.cells 2
          have bxz2 : (w2).frozen? ⟨w.heap.size, 2, none⟩ = false := BX2.out.frozen 2
          have bx3 : (w2).cell? ⟨w.heap.size, 3, none⟩ = some (.slice A m c) := BX2.out.cells 3
          have bxz3 : (w2).frozen? ⟨w.heap.size, 3, none⟩ = false := BX2.out.frozen 3
          have bx4 : (w2).cell? ⟨w.heap.size, 4, none⟩ = some (.bool E1.off) := BX2.out.cells 4
          have bxz4 : (w2).frozen? ⟨w.heap.size, 4, none⟩ = false := BX2.out.frozen 4
          have rslt : w.heap.size + 1 < (w2).heap.size := RS2.out.lt
          have rslu : w.heap.size + 1 < (w2).heap.size + 1 := Nat.lt_succ_of_lt RS2.out.lt
          have rs0 : (w2).cell? ⟨w.heap.size + 1, 0, none⟩ = some (.int .i64 0) := RS2.out.cells 0
          have rsz0 : (w2).frozen? ⟨w.heap.size + 1, 0, none⟩ = false := RS2.out.frozen 0
          have rs1 : (w2).cell? ⟨w.heap.size + 1, 1, none⟩ = some (.int .i64 0) := RS2.out.cells 1
          have rsz1 : (w2).frozen? ⟨w.heap.size + 1, 1, none⟩ = false := RS2.out.frozen 1
          have rs2 : (w2).cell? ⟨w.heap.size + 1, 2, none⟩ = some (.int .i64 0) := RS2.out.cells 2
          have rsz2 : (w2).frozen? ⟨w.heap.size + 1, 2, none⟩ = false := RS2.out.frozen 2
          have rs3 : (w2).cell? ⟨w.heap.size + 1, 3, none⟩ = some (.slice none 0 0) := RS2.out.cells 3
          have rsz3 : (w2).frozen? ⟨w.heap.size + 1, 3, none⟩ = false := RS2.out.frozen 3
          have rs4 : (w2).cell? ⟨w.heap.size + 1, 4, none⟩ = some (.bool false) := RS2.out.cells 4
          have rsz4 : (w2).frozen? ⟨w.heap.size + 1, 4, none⟩ = false := RS2.out.frozen 4
          skip)
        refine bodyPost_ret (v := .tuple #[.agg #[.int .i64 (E1.room : Int), .int .i64 (E1.safe : Int), .int .i64 (lf E1.left), .slice A' n c', .bool E1.off], .int .i64 6]) (by simp [results, Try.results32, go_sem, *]) rfl ?_
        obtain rfl : R = ({ E1 with l := E.l }, 6) := HPR.out
        exact RdP.own (A' := A') (c' := c') (base := w.heap.size + 1 + 1) (by simp [Dk.R, HEN.out]) HEN.out (by repeat (first | with_reducible exact HO2.out | refine own_set ?_ (by omega) | refine own_below ?_ (bel_alloc (Below.refl _ _) _))) (by omega) (by have BW3 := BW2.out; exact (by repeat (first | with_reducible exact Below.refl _ _ | with_reducible refine bel_later _ ?_ | with_reducible refine bel_alloc ?_ _ | refine bel_set ?_ (by first | omega | (simp; done) | (simp; omega)) _ | with_reducible refine Below.drew ?_ | with_reducible refine bel_drewN ?_ _ | with_reducible assumption | assumption)))
      · have HPR : Hid (Dk.puts { E1 with l := E.l ++ [z] } (lb.drop (k + 1)) = R) := Lib.hid (by rw [← hput.out, HZ2.out]; conv => rhs; unfold Dk.puts; rw [HDD.out, if_pos (by rfl)]; dsimp only; rw [HLL.out.1])
        have HLN : Hid ((E.l ++ [z]).length = n + 1) := Lib.hid (by simp [HEN.out])
        go_wp2_with (first
          | (
          refine wpList_store_var rfl 44 (.tmp 2) (.tmp 38) rfl w.heap.size (E.RC A c m) (E1.RC A c m) 5 rfl rfl (BX.out.alloc _) size_rd rfl rfl (RC_one A c m E1) ?_
          intro w2 r2 k2
          have hnx : Below x1.val.heap.size x1.val (x1.val.alloc (.cells #[.int .i64 (E1.room : Int), .int .i64 (E1.safe : Int), .int .i64 (lf E1.left), .slice A m c, .bool E1.off] 44)) := bel_alloc (Below.refl _ _) _
          have BX2 := Lib.hid r2
          have RS2 := Lib.hid ((RS.out.to hnx).only k2 (by omega))
          have HO2 := Lib.hid (k2.own (own_below HO.out hnx) (by omega))
          have BW2 := Lib.hid ((BW.out.trans (hnx.mono BW.out.size)).trans (k2.below (Nat.le_refl _)))
          have hzw2 : w.heap.size + 1 < w2.heap.size := RS2.out.lt
          clear r2 k2 hnx
          have bxlt : w.heap.size < (w2).heap.size := BX2.out.lt
          have bxlu : w.heap.size < (w2).heap.size + 1 := Nat.lt_succ_of_lt BX2.out.lt
          have bx0 : (w2).cell? ⟨w.heap.size, 0, none⟩ = some (.int .i64 (E1.room : Int)) := BX2.out.cells 0
          have bxz0 : (w2).frozen? ⟨w.heap.size, 0, none⟩ = false := BX2.out.frozen 0
          have bx1 : (w2).cell? ⟨w.heap.size, 1, none⟩ = some (.int .i64 (E1.safe : Int)) := BX2.out.cells 1
          have bxz1 : (w2).frozen? ⟨w.heap.size, 1, none⟩ = false := BX2.out.frozen 1
          have bx2 : (w2).cell? ⟨w.heap.size, 2, none⟩ = some (.int .i64 (lf E1.left)) := BX2.out.cells 2
          have bxz2 : (w2).frozen? ⟨w.heap.size, 2, none⟩ = false := BX2.out.frozen 2
          have bx3 : (w2).cell? ⟨w.heap.size, 3, none⟩ = some (.slice A m c) := BX2.out.cells 3
          have bxz3 : (w2).frozen? ⟨w.heap.size, 3, none⟩ = false := BX2.out.frozen 3
          have bx4 : (w2).cell? ⟨w.heap.size, 4, none⟩ = some (.bool E1.off) := BX2.out.cells 4
          have bxz4 : (w2).frozen? ⟨w.heap.size, 4, none⟩ = false := BX2.out.frozen 4
          have rslt : w.heap.size + 1 < (w2).heap.size := RS2.out.lt
          have rslu : w.heap.size + 1 < (w2).heap.size + 1 := Nat.lt_succ_of_lt RS2.out.lt
          have rs0 : (w2).cell? ⟨w.heap.size + 1, 0, none⟩ = some (.int .i64 0) := RS2.out.cells 0
          have rsz0 : (w2).frozen? ⟨w.heap.size + 1, 0, none⟩ = false := RS2.out.frozen 0
          have rs1 : (w2).cell? ⟨w.heap.size + 1, 1, none⟩ = some (.int .i64 0) := RS2.out.cells 1
          have rsz1 : (w2).frozen? ⟨w.heap.size + 1, 1, none⟩ = false := RS2.out.frozen 1
          have rs2 : (w2).cell? ⟨w.heap.size + 1, 2, none⟩ = some (.int .i64 0) := RS2.out.cells 2
          have rsz2 : (w2).frozen? ⟨w.heap.size + 1, 2, none⟩ = false := RS2.out.frozen 2
          have rs3 : (w2).cell? ⟨w.heap.size + 1, 3, none⟩ = some (.slice none 0 0) := RS2.out.cells 3
          have rsz3 : (w2).frozen? ⟨w.heap.size + 1, 3, none⟩ = false := RS2.out.frozen 3
          have rs4 : (w2).cell? ⟨w.heap.size + 1, 4, none⟩ = some (.bool false) := RS2.out.cells 4
          have rsz4 : (w2).frozen? ⟨w.heap.size + 1, 4, none⟩ = false := RS2.out.frozen 4
          have zc : w2.cell? ⟨bb, ob + k, none⟩ = some (.int .u8 (z : Int)) := (BW2.out.cell (p := ⟨bb, ob + k, none⟩) hbl).trans ZC.out
          skip)
          | (
          at_builtin
          go_loud (
          refine wpList_append_sq (f := byw) _ rfl (.tmp 44) (.tmp 49) 22 rfl (fun _ => rfl) (w.heap.size + 1 + 1) 5 i0 _ _ Try.underlying22 hi hz0 rfl hz1 hz2 (by decide) (.slice A' n c') E.l rfl (by rw [HEN.out]; exact own_below HO2.out (bel_alloc (Below.refl _ _) _)) (w2.heap.size + 1) (some ⟨w2.heap.size, 0, none⟩) [z] 1 1 rfl rfl (Sq.lits _ _ _ _ _ _ _ rfl (by simp) (by simp)) (by simp) (by rw [HEN.out]; omega) (by simp; omega) ?_
          intro A3 c3 w3 o3 hg3 hb3
          rw [HLN.out] at o3 ⊢
          have HO3 := Lib.hid o3
          have BX3 := Lib.hid ((BX2.out.alloc _).below hb3 (by omega))
          have RS3 := Lib.hid ((RS2.out.alloc _).below hb3 (by omega))
          have BW3 := Lib.hid ((bel_alloc BW2.out _).trans (hb3.mono (by omega)))
          clear o3 hg3 hb3)))
        go_roundw
        case rel => exact ⟨k + 1, n + 1, { E1 with l := E.l ++ [z] }, A3, c3, by omega, by have := HN.out; omega, rfl, by go_num, Lib.hid (by dsimp only; rw [hEl.out, HT.out, List.append_assoc]), HLL.out.2.2.trans HER.out, HLL.out.2.1.trans HES.out, HE1K, HPR, HO3.out, BX3.out, RS3.out, BW3.out⟩
        case measure => simp [intOf]; omega
    · obtain rfl : k = nb := by omega
      have bxlt : w.heap.size < (wr).heap.size := BX.out.lt
      have bxlu : w.heap.size < (wr).heap.size + 1 := Nat.lt_succ_of_lt BX.out.lt
      have bx0 : (wr).cell? ⟨w.heap.size, 0, none⟩ = some (.int .i64 (E.room : Int)) := BX.out.cells 0
      have bxz0 : (wr).frozen? ⟨w.heap.size, 0, none⟩ = false := BX.out.frozen 0
      have bx1 : (wr).cell? ⟨w.heap.size, 1, none⟩ = some (.int .i64 (E.safe : Int)) := BX.out.cells 1
      have bxz1 : (wr).frozen? ⟨w.heap.size, 1, none⟩ = false := BX.out.frozen 1
      have bx2 : (wr).cell? ⟨w.heap.size, 2, none⟩ = some (.int .i64 (lf E.left)) := BX.out.cells 2
      have bxz2 : (wr).frozen? ⟨w.heap.size, 2, none⟩ = false := BX.out.frozen 2
      have bx3 : (wr).cell? ⟨w.heap.size, 3, none⟩ = some (.slice A m c) := BX.out.cells 3
      have bxz3 : (wr).frozen? ⟨w.heap.size, 3, none⟩ = false := BX.out.frozen 3
      have bx4 : (wr).cell? ⟨w.heap.size, 4, none⟩ = some (.bool E.off) := BX.out.cells 4
      have bxz4 : (wr).frozen? ⟨w.heap.size, 4, none⟩ = false := BX.out.frozen 4
      have rslt : w.heap.size + 1 < (wr).heap.size := RS.out.lt
      have rslu : w.heap.size + 1 < (wr).heap.size + 1 := Nat.lt_succ_of_lt RS.out.lt
      have rs0 : (wr).cell? ⟨w.heap.size + 1, 0, none⟩ = some (.int .i64 0) := RS.out.cells 0
      have rsz0 : (wr).frozen? ⟨w.heap.size + 1, 0, none⟩ = false := RS.out.frozen 0
      have rs1 : (wr).cell? ⟨w.heap.size + 1, 1, none⟩ = some (.int .i64 0) := RS.out.cells 1
      have rsz1 : (wr).frozen? ⟨w.heap.size + 1, 1, none⟩ = false := RS.out.frozen 1
      have rs2 : (wr).cell? ⟨w.heap.size + 1, 2, none⟩ = some (.int .i64 0) := RS.out.cells 2
      have rsz2 : (wr).frozen? ⟨w.heap.size + 1, 2, none⟩ = false := RS.out.frozen 2
      have rs3 : (wr).cell? ⟨w.heap.size + 1, 3, none⟩ = some (.slice none 0 0) := RS.out.cells 3
      have rsz3 : (wr).frozen? ⟨w.heap.size + 1, 3, none⟩ = false := RS.out.frozen 3
      have rs4 : (wr).cell? ⟨w.heap.size + 1, 4, none⟩ = some (.bool false) := RS.out.cells 4
      have rsz4 : (wr).frozen? ⟨w.heap.size + 1, 4, none⟩ = false := RS.out.frozen 4
      have HRR : Hid (R = (E, 0)) := Lib.hid (by rw [← hput.out, List.drop_eq_nil_of_le (by rw [HNB.out]; exact Nat.le_refl _)]; rfl)
      obtain rfl : R = (E, 0) := HRR.out
      go_wp2
      refine bodyPost_ret (v := .tuple #[.agg #[.int .i64 (E.room : Int), .int .i64 (E.safe : Int), .int .i64 (lf E.left), .slice A' n c', .bool E.off], .int .i64 0]) (by simp [results, Try.results32, go_sem, *]) rfl ?_
      exact RdP.own (A' := A') (c' := c') (base := w.heap.size + 1 + 1) (by simp [Dk.R, HEN.out]) HEN.out (by repeat (first | with_reducible exact HO.out | refine own_set ?_ (by omega) | refine own_below ?_ (bel_alloc (Below.refl _ _) _))) (by omega) (by have BW3 := BW.out; exact (by repeat (first | with_reducible exact Below.refl _ _ | with_reducible refine bel_later _ ?_ | with_reducible refine bel_alloc ?_ _ | refine bel_set ?_ (by first | omega | (simp; done) | (simp; omega)) _ | with_reducible refine Below.drew ?_ | with_reducible refine bel_drewN ?_ _ | with_reducible assumption | assumption)))
end Go.Proofs.Ytpjdgnoekplldaa
