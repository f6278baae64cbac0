/- Layer 23: the walk of LedgerForward. -/
import Derived.Test.YtegmeodmjaijnaaLgFit
namespace Go.Proofs.Ytegmeodmjaijnaa
open Go.RowKit
set_option linter.unusedVariables false
set_option linter.unusedSimpArgs false
attribute [local go_sem] Later.cell Later.frozen setCell_twice
namespace Jp
theorem put_cases {L M : List Jp} {x : Nr} (h : put L x = some M) : x.right = true ∧ ((x.what = 1 ∧ M = L) ∨ (x.what = 2 ∧ M = L ++ [⟨x.tx, x.who, x.text, 1⟩]) ∨ (x.what ≠ 1 ∧ x.what ≠ 2 ∧ ∃ i j s, L[i]? = some j ∧ j.tx = x.tx ∧ step x.what x.yes j.st = some s ∧ M = L.set i ⟨j.tx, j.who, j.text, s⟩)) := by
  unfold put at h
  split at h
  · cases h
  next hr =>
  refine ⟨by cases hh : x.right <;> simp_all, ?_⟩
  split at h
  next h1 => exact .inl ⟨h1, (Option.some.inj h).symm⟩
  next h1 =>
  split at h
  next h2 =>
    split at h
    · cases h
    · next s hst =>
      split at h
      · cases h
      · have hs1 : s = 1 := by
          unfold step at hst
          repeat' split at hst
          all_goals first | (cases hst; done) | skip
          all_goals (obtain rfl := Option.some.inj hst; omega)
        subst hs1
        exact .inr (.inl ⟨h2, (Option.some.inj h).symm⟩)
  next h2 =>
  split at h
  · cases h
  · next i hi =>
    split at h
    · cases h
    · next j hj =>
      split at h
      · cases h
      · next s hst =>
        obtain ⟨j', hj', ht, _⟩ := find_some hi
        rw [hj] at hj'
        obtain rfl := Option.some.inj hj'
        exact .inr (.inr ⟨h1, h2, i, j, s, hj, ht, hst, (Option.some.inj h).symm⟩)
theorem step_fine {what : Nat} {yes : Bool} {st s : Nat} (h : step what yes st = some s) (h1 : 1 ≤ st) : (st = 1 ∧ s = 2) ∨ (st = 1 ∧ s = 3) ∨ (st = 2 ∧ s = 4) ∨ (st = 3 ∧ s = 5) := by
  unfold step at h
  repeat' split at h
  all_goals first | (cases h; done) | skip
  all_goals (obtain rfl := Option.some.inj h; omega)
def chg (D : Option Nat) (k : Nat) : Nat := match D with | none => 0 | some q => if q < k then 1 else 0
theorem chg_zero (D : Option Nat) : chg D 0 = 0 := by cases D <;> rfl
theorem chg_here (k : Nat) : chg (some k) k = 0 ∧ chg (some k) (k + 1) = 1 := by simp [chg]
theorem chg_other {D : Option Nat} {k : Nat} (h : D ≠ some k) : chg D (k + 1) = chg D k := by
  cases D with
  | none => rfl
  | some q =>
    have : q ≠ k := fun e => h (by rw [e])
    simp only [chg]
    by_cases hq : q < k
    · rw [if_pos hq, if_pos (by omega)]
    · rw [if_neg hq, if_neg (by omega)]
/-- which job a record moves -/
def Moved (L M : List Jp) (tx : Nat) (D : Option Nat) : Prop := ∀ q a, L[q]? = some a → ∃ st', M[q]? = some ⟨a.tx, a.who, a.text, st'⟩ ∧ ((D = some q ∧ a.tx = tx ∧ ((a.st = 1 ∧ st' = 2) ∨ (a.st = 1 ∧ st' = 3) ∨ (a.st = 2 ∧ st' = 4) ∨ (a.st = 3 ∧ st' = 5))) ∨ (D ≠ some q ∧ st' = a.st))
theorem moved_refl (L : List Jp) (tx : Nat) : Moved L L tx none := fun q a h => ⟨a.st, h, .inr ⟨by simp, rfl⟩⟩
theorem moved_more {L : List Jp} (x : Jp) (tx : Nat) : Moved L (L ++ [x]) tx none := fun q a h => ⟨a.st, by rw [List.getElem?_append_left (List.getElem?_eq_some_iff.1 h).1]; exact h, .inr ⟨by simp, rfl⟩⟩
theorem moved_set {L : List Jp} {i s tx what : Nat} {yes : Bool} {j : Jp} (hj : L[i]? = some j) (ht : j.tx = tx) (hs : step what yes j.st = some s) (h1 : 1 ≤ j.st) : Moved L (L.set i ⟨j.tx, j.who, j.text, s⟩) tx (some i) := by
  intro q a h
  by_cases hq : i = q
  · subst hq
    rw [hj] at h
    obtain rfl := Option.some.inj h
    exact ⟨s, by rw [List.getElem?_set_self (List.getElem?_eq_some_iff.1 hj).1], .inl ⟨rfl, ht, step_fine hs h1⟩⟩
  · exact ⟨a.st, by rw [List.getElem?_set_ne hq]; exact h, .inr ⟨fun e => hq (Option.some.inj e), rfl⟩⟩
end Jp
set_option maxRecDepth 100000 in
set_option maxHeartbeats 4000000 in
theorem each_forward : EachOk 14 := by
  intro A1 n1 c1 j1 A2 n2 c2 j2 what tx who yes text XA m xc w hJ1 hn1 hJ2 hn2 hX hm h80 hRt hput
  have hfr : Below w.heap.size w (w.alloc (.cells #[.int .u8 (what : Int), .int .u32 (tx : Int), .int .u8 (who : Int), .bool yes, .slice XA m xc] 31)) := bel_alloc (Below.refl _ _) _
  have J1 := Lib.hid (hJ1.to hfr)
  have J2 := Lib.hid (hJ2.to hfr)
  have B0 := Lib.hid hfr
  have X0 : Hid (RowAt (w.alloc (.cells #[.int .u8 (what : Int), .int .u32 (tx : Int), .int .u8 (who : Int), .bool yes, .slice XA m xc] 31)) w.heap.size 31 (rcV what tx who yes XA m xc)) := Lib.hid (RowAt.new _ _ _)
  have XS0 := Lib.hid ((hX.below hfr).more hfr.size)
  have HM := Lib.hid hm
  have HN1 := Lib.hid hn1
  have HN2 := Lib.hid hn2
  have HRT := Lib.hid hRt
  have HRT2 : Hid (Jp.right (jps j2) = true) := Lib.hid (by
    have h := Jp.put_rt hRt hput
    exact h.right (fun j hj => (h.2 j hj).1))
  have HPC := Lib.hid (Jp.put_cases hput)
  have hlen := Jp.put_length hput
  clear hfr hJ1 hJ2 hX hm hn1 hn2 hRt hput hlen
  go_enter Try.func14, Try.ntmps14
  go_wp2_with fail
  generalize w.alloc (.cells #[.int .u8 (what : Int), .int .u32 (tx : Int), .int .u8 (who : Int), .bool yes, .slice XA m xc] 31) = W0 at *
  obtain ⟨gx, hgx⟩ : ∃ gx, w.heap.size = gx := ⟨_, rfl⟩
  have HGX := Lib.hid hgx
  rw [hgx] at X0
  rw [hgx]
  clear hgx
  obtain ⟨hr, hc⟩ := HPC.out
  try dsimp only at hc
  rcases hc with ⟨rfl, hM⟩ | ⟨rfl, hM⟩ | ⟨h1, h2, i, j, s, hj, ht, hst, hM⟩
  · have hmv := Jp.moved_refl (jps j1) tx
    rw [← hM] at hmv
    rw [hM] at hmv
    have hmv : Jp.Moved (jps j1) (jps j2) tx none := by rw [hM]; exact Jp.moved_refl _ _
    obtain rfl : n2 = n1 := by rw [← HN1.out, ← HN2.out]; have := congrArg List.length hM; simpa [jps] using this
    obtain ⟨D, hDD⟩ : ∃ D : Option Nat, D = none := ⟨_, rfl⟩
    rw [← hDD] at hmv
    have hd : Jp.chg D n2 = 0 := by rw [hDD]; rfl
    clear hM hr hDD
    have HMV := Lib.hid hmv
    have HD := Lib.hid hd
    clear hmv hd
    go_wp2_with fail
    refine (jright_any A2 j2 c2 n2 W0 HN2.out J2.out (by omega)).mono ?_
    rintro e w1 ⟨rfl, b1⟩
    rw [HRT2.out]
    have X1 := Lib.hid (X0.out.to b1)
    have J11 := Lib.hid (J1.out.to b1)
    have J21 := Lib.hid (J2.out.to b1)
    have XS1 := Lib.hid ((XS0.out.below b1).more b1.size)
    have B1 := Lib.hid (B0.out.trans (b1.mono B0.out.size))
    clear b1 X0 J1 J2 XS0 B0
    have dlt : gx < (w1).heap.size := X1.out.lt
    have dlu : gx < (w1).heap.size + 1 := Nat.lt_succ_of_lt X1.out.lt
    have d0 : (w1).cell? ⟨gx, 0, none⟩ = some (.int .u8 1) := X1.out.cells 0
    have dz0 : (w1).frozen? ⟨gx, 0, none⟩ = false := X1.out.frozen 0
    have d1 : (w1).cell? ⟨gx, 1, none⟩ = some (.int .u32 (tx : Int)) := X1.out.cells 1
    have dz1 : (w1).frozen? ⟨gx, 1, none⟩ = false := X1.out.frozen 1
    have d2 : (w1).cell? ⟨gx, 2, none⟩ = some (.int .u8 (who : Int)) := X1.out.cells 2
    have dz2 : (w1).frozen? ⟨gx, 2, none⟩ = false := X1.out.frozen 2
    have d3 : (w1).cell? ⟨gx, 3, none⟩ = some (.bool yes) := X1.out.cells 3
    have dz3 : (w1).frozen? ⟨gx, 3, none⟩ = false := X1.out.frozen 3
    have d4 : (w1).cell? ⟨gx, 4, none⟩ = some (.slice XA m xc) := X1.out.cells 4
    have dz4 : (w1).frozen? ⟨gx, 4, none⟩ = false := X1.out.frozen 4
    go_wp2
    clear d0 d1 d2 d3 d4 dz0 dz1 dz2 dz3 dz4 dlt dlu
    go_loopw [7, 44] (fun c i wr => ∃ k : Nat, k ≤ n2 ∧ i = .int .i64 (k : Int) ∧ ∃ cg : Nat, cg ≤ 1 ∧ c = .int .i64 (cg : Int) ∧ Hid (cg = Jp.chg D k ∧ Below w1.heap.size w1 wr)) (fun _ i _ => n2 - (intOf i).toNat)
    case atStart => exact ⟨0, by omega, rfl, 0, by omega, rfl, Lib.hid ⟨(Jp.chg_zero D).symm, Below.refl _ _⟩⟩
    case round =>
      rename World => wr
      obtain ⟨k, hk, rfl, cg, hcg, rfl, hh⟩ := hrel
      have HCG := Lib.hid hh.out.1
      have BE := Lib.hid hh.out.2
      clear hh
      by_cases hlt : k < n2
      · obtain ⟨g1, o1, y, rfl, hg1, hy, hyo, hy0, hy1, hy2, hy3⟩ := (J11.out.to BE.out).at_ (k := k) (by rw [HN1.out]; exact hlt)
        obtain ⟨g2, o2, z, rfl, hg2, hz, hzo, hz0, hz1, hz2, hz3⟩ := (J21.out.to BE.out).at_ (k := k) (by rw [HN2.out]; omega)
        obtain ⟨st', hst1, hst2⟩ := HMV.out k y.p (by rw [jps, List.getElem?_map, hy]; rfl)
        have hzp : z.p = ⟨y.p.tx, y.p.who, y.p.text, st'⟩ := by
          rw [jps, List.getElem?_map, hz] at hst1
          exact Option.some.inj hst1
        have hltI : (k : Int) < (n2 : Int) := by omega
        have hltI2 : (k : Int) < (n2 : Int) := by omega
        have h0I : (0 : Int) ≤ (k : Int) := by omega
        have hgr1 : g1 < wr.heap.size := hg1
        have hgr2 : g2 < wr.heap.size := hg2
        have hgr3 : g2 < wr.heap.size + 1 := by omega
        have HYO := Lib.hid hyo
        have HZO := Lib.hid hzo
        have XR := Lib.hid (X1.out.to BE.out)
        obtain ⟨⟨ytx, ywho, ytext, yst⟩, YA, yc⟩ := y
        obtain ⟨⟨ztx, zwho, ztext, zst⟩, ZA, zc⟩ := z
        rw [Jp.mk.injEq] at hzp
        obtain ⟨rfl, rfl, rfl, rfl⟩ := hzp
        dsimp only at hy0 hy1 hy2 hy3 hz0 hz1 hz2 hz3 hst2
        obtain ⟨my, hmy⟩ : ∃ my, ztext.length = my := ⟨_, rfl⟩
        have HMY := Lib.hid hmy
        rw [hmy] at hy2 hz2
        have HST2 := Lib.hid hst2
        have HST3 : Hid (yst < 256 ∧ zst < 256) := Lib.hid ⟨HYO.out.fit.st, HZO.out.fit.st⟩
        clear hy hyo hz hzo hmy hst1 hst2
        go_upto_region 8 with fail
        obtain ⟨V, hV⟩ : ∃ V, (wr.alloc (.cells #[.int .u32 (ztx : Int), .int .u8 (zwho : Int), .slice YA my yc, .int .u8 (yst : Int)] 38)).alloc (.cells #[.int .u32 (ztx : Int), .int .u8 (zwho : Int), .slice ZA my zc, .int .u8 (zst : Int)] 38) = V := ⟨_, rfl⟩
        obtain ⟨gy, hgy⟩ : ∃ gy, wr.heap.size = gy := ⟨_, rfl⟩
        obtain ⟨gz, hgz⟩ : ∃ gz, gy + 1 = gz := ⟨_, rfl⟩
        rw [hgy, hgz]
        have RY : Hid (RowAt V gy 38 (jbV ztx zwho YA my yc yst)) := Lib.hid (by rw [← hV, ← hgy]; exact (RowAt.new wr _ _).alloc _)
        have RZ : Hid (RowAt V gz 38 (jbV ztx zwho ZA my zc zst)) := Lib.hid (by rw [← hV]; exact RowAt.new' _ _ _ _ (by simp; omega))
        have bV : Below wr.heap.size wr V := by rw [← hV]; exact bel_alloc (bel_alloc (Below.refl _ _) _) _
        rw [hV]
        have BV := Lib.hid (BE.out.trans (bV.mono BE.out.size))
        have XV := Lib.hid (XR.out.to bV)
        have sA := conv_nums (P := Try.prog) (sq_nums ((HYO.out.sq.below bV).more bV.size)) 29 9 5 yc my Try.underlying29 Try.underlying5 Try.underlying9 HMY.out
        have sB := conv_nums (P := Try.prog) (sq_nums ((HZO.out.sq.below bV).more bV.size)) 29 9 5 zc my Try.underlying29 Try.underlying5 Try.underlying9 HMY.out
        dsimp only at sA sB
        have gs := str_same ztext
        clear hV hgy hgz bV hy0 hy1 hy2 hy3 hz0 hz1 hz2 hz3
        rcases HST2.out with ⟨hD, ht, hst⟩ | ⟨hD, hst⟩
        · subst ht
          have HCN : Hid (cg = 0 ∧ Jp.chg D (k + 1) = 1) := Lib.hid ⟨by rw [HCG.out, hD]; exact (Jp.chg_here k).1, by rw [hD]; exact (Jp.chg_here k).2⟩
          have hcg0 : (cg : Int) + 1 = 1 := by have := HCN.out.1; omega
          clear hD
          rcases hst with ⟨rfl, rfl⟩ | ⟨rfl, rfl⟩ | ⟨rfl, rfl⟩ | ⟨rfl, rfl⟩
          · have ylt : gy < (V).heap.size := RY.out.lt
            have ylu : gy < (V).heap.size + 1 := Nat.lt_succ_of_lt RY.out.lt
            have y0 : (V).cell? ⟨gy, 0, none⟩ = some (.int .u32 (ztx : Int)) := RY.out.cells 0
            have yz0 : (V).frozen? ⟨gy, 0, none⟩ = false := RY.out.frozen 0
            have y1 : (V).cell? ⟨gy, 1, none⟩ = some (.int .u8 (zwho : Int)) := RY.out.cells 1
            have yz1 : (V).frozen? ⟨gy, 1, none⟩ = false := RY.out.frozen 1
            have y2 : (V).cell? ⟨gy, 2, none⟩ = some (.slice YA my yc) := RY.out.cells 2
            have yz2 : (V).frozen? ⟨gy, 2, none⟩ = false := RY.out.frozen 2
            have y3 : (V).cell? ⟨gy, 3, none⟩ = some (.int .u8 _) := RY.out.cells 3
            have yz3 : (V).frozen? ⟨gy, 3, none⟩ = false := RY.out.frozen 3
            have zlt : gz < (V).heap.size := RZ.out.lt
            have zlu : gz < (V).heap.size + 1 := Nat.lt_succ_of_lt RZ.out.lt
            have z0 : (V).cell? ⟨gz, 0, none⟩ = some (.int .u32 (ztx : Int)) := RZ.out.cells 0
            have zz0 : (V).frozen? ⟨gz, 0, none⟩ = false := RZ.out.frozen 0
            have z1 : (V).cell? ⟨gz, 1, none⟩ = some (.int .u8 (zwho : Int)) := RZ.out.cells 1
            have zz1 : (V).frozen? ⟨gz, 1, none⟩ = false := RZ.out.frozen 1
            have z2 : (V).cell? ⟨gz, 2, none⟩ = some (.slice ZA my zc) := RZ.out.cells 2
            have zz2 : (V).frozen? ⟨gz, 2, none⟩ = false := RZ.out.frozen 2
            have z3 : (V).cell? ⟨gz, 3, none⟩ = some (.int .u8 _) := RZ.out.cells 3
            have zz3 : (V).frozen? ⟨gz, 3, none⟩ = false := RZ.out.frozen 3
            have dlt : gx < (V).heap.size := XV.out.lt
            have dlu : gx < (V).heap.size + 1 := Nat.lt_succ_of_lt XV.out.lt
            have d0 : (V).cell? ⟨gx, 0, none⟩ = some (.int .u8 1) := XV.out.cells 0
            have dz0 : (V).frozen? ⟨gx, 0, none⟩ = false := XV.out.frozen 0
            have d1 : (V).cell? ⟨gx, 1, none⟩ = some (.int .u32 (ztx : Int)) := XV.out.cells 1
            have dz1 : (V).frozen? ⟨gx, 1, none⟩ = false := XV.out.frozen 1
            have d2 : (V).cell? ⟨gx, 2, none⟩ = some (.int .u8 (who : Int)) := XV.out.cells 2
            have dz2 : (V).frozen? ⟨gx, 2, none⟩ = false := XV.out.frozen 2
            have d3 : (V).cell? ⟨gx, 3, none⟩ = some (.bool yes) := XV.out.cells 3
            have dz3 : (V).frozen? ⟨gx, 3, none⟩ = false := XV.out.frozen 3
            have d4 : (V).cell? ⟨gx, 4, none⟩ = some (.slice XA m xc) := XV.out.cells 4
            have dz4 : (V).frozen? ⟨gx, 4, none⟩ = false := XV.out.frozen 4
            go_wp2
            go_roundw
            case rel => exact ⟨k + 1, by omega, by go_num, 1, by omega, rfl, Lib.hid ⟨HCN.out.2.symm, BV.out⟩⟩
            case measure => simp [intOf]; omega
          · have ylt : gy < (V).heap.size := RY.out.lt
            have ylu : gy < (V).heap.size + 1 := Nat.lt_succ_of_lt RY.out.lt
            have y0 : (V).cell? ⟨gy, 0, none⟩ = some (.int .u32 (ztx : Int)) := RY.out.cells 0
            have yz0 : (V).frozen? ⟨gy, 0, none⟩ = false := RY.out.frozen 0
            have y1 : (V).cell? ⟨gy, 1, none⟩ = some (.int .u8 (zwho : Int)) := RY.out.cells 1
            have yz1 : (V).frozen? ⟨gy, 1, none⟩ = false := RY.out.frozen 1
            have y2 : (V).cell? ⟨gy, 2, none⟩ = some (.slice YA my yc) := RY.out.cells 2
            have yz2 : (V).frozen? ⟨gy, 2, none⟩ = false := RY.out.frozen 2
            have y3 : (V).cell? ⟨gy, 3, none⟩ = some (.int .u8 _) := RY.out.cells 3
            have yz3 : (V).frozen? ⟨gy, 3, none⟩ = false := RY.out.frozen 3
            have zlt : gz < (V).heap.size := RZ.out.lt
            have zlu : gz < (V).heap.size + 1 := Nat.lt_succ_of_lt RZ.out.lt
            have z0 : (V).cell? ⟨gz, 0, none⟩ = some (.int .u32 (ztx : Int)) := RZ.out.cells 0
            have zz0 : (V).frozen? ⟨gz, 0, none⟩ = false := RZ.out.frozen 0
            have z1 : (V).cell? ⟨gz, 1, none⟩ = some (.int .u8 (zwho : Int)) := RZ.out.cells 1
            have zz1 : (V).frozen? ⟨gz, 1, none⟩ = false := RZ.out.frozen 1
            have z2 : (V).cell? ⟨gz, 2, none⟩ = some (.slice ZA my zc) := RZ.out.cells 2
            have zz2 : (V).frozen? ⟨gz, 2, none⟩ = false := RZ.out.frozen 2
            have z3 : (V).cell? ⟨gz, 3, none⟩ = some (.int .u8 _) := RZ.out.cells 3
            have zz3 : (V).frozen? ⟨gz, 3, none⟩ = false := RZ.out.frozen 3
            have dlt : gx < (V).heap.size := XV.out.lt
            have dlu : gx < (V).heap.size + 1 := Nat.lt_succ_of_lt XV.out.lt
            have d0 : (V).cell? ⟨gx, 0, none⟩ = some (.int .u8 1) := XV.out.cells 0
            have dz0 : (V).frozen? ⟨gx, 0, none⟩ = false := XV.out.frozen 0
            have d1 : (V).cell? ⟨gx, 1, none⟩ = some (.int .u32 (ztx : Int)) := XV.out.cells 1
            have dz1 : (V).frozen? ⟨gx, 1, none⟩ = false := XV.out.frozen 1
            have d2 : (V).cell? ⟨gx, 2, none⟩ = some (.int .u8 (who : Int)) := XV.out.cells 2
            have dz2 : (V).frozen? ⟨gx, 2, none⟩ = false := XV.out.frozen 2
            have d3 : (V).cell? ⟨gx, 3, none⟩ = some (.bool yes) := XV.out.cells 3
            have dz3 : (V).frozen? ⟨gx, 3, none⟩ = false := XV.out.frozen 3
            have d4 : (V).cell? ⟨gx, 4, none⟩ = some (.slice XA m xc) := XV.out.cells 4
            have dz4 : (V).frozen? ⟨gx, 4, none⟩ = false := XV.out.frozen 4
            go_wp2
            go_roundw
            case rel => exact ⟨k + 1, by omega, by go_num, 1, by omega, rfl, Lib.hid ⟨HCN.out.2.symm, BV.out⟩⟩
            case measure => simp [intOf]; omega
          · have ylt : gy < (V).heap.size := RY.out.lt
            have ylu : gy < (V).heap.size + 1 := Nat.lt_succ_of_lt RY.out.lt
            have y0 : (V).cell? ⟨gy, 0, none⟩ = some (.int .u32 (ztx : Int)) := RY.out.cells 0
            have yz0 : (V).frozen? ⟨gy, 0, none⟩ = false := RY.out.frozen 0
            have y1 : (V).cell? ⟨gy, 1, none⟩ = some (.int .u8 (zwho : Int)) := RY.out.cells 1
            have yz1 : (V).frozen? ⟨gy, 1, none⟩ = false := RY.out.frozen 1
            have y2 : (V).cell? ⟨gy, 2, none⟩ = some (.slice YA my yc) := RY.out.cells 2
            have yz2 : (V).frozen? ⟨gy, 2, none⟩ = false := RY.out.frozen 2
            have y3 : (V).cell? ⟨gy, 3, none⟩ = some (.int .u8 _) := RY.out.cells 3
            have yz3 : (V).frozen? ⟨gy, 3, none⟩ = false := RY.out.frozen 3
            have zlt : gz < (V).heap.size := RZ.out.lt
            have zlu : gz < (V).heap.size + 1 := Nat.lt_succ_of_lt RZ.out.lt
            have z0 : (V).cell? ⟨gz, 0, none⟩ = some (.int .u32 (ztx : Int)) := RZ.out.cells 0
            have zz0 : (V).frozen? ⟨gz, 0, none⟩ = false := RZ.out.frozen 0
            have z1 : (V).cell? ⟨gz, 1, none⟩ = some (.int .u8 (zwho : Int)) := RZ.out.cells 1
            have zz1 : (V).frozen? ⟨gz, 1, none⟩ = false := RZ.out.frozen 1
            have z2 : (V).cell? ⟨gz, 2, none⟩ = some (.slice ZA my zc) := RZ.out.cells 2
            have zz2 : (V).frozen? ⟨gz, 2, none⟩ = false := RZ.out.frozen 2
            have z3 : (V).cell? ⟨gz, 3, none⟩ = some (.int .u8 _) := RZ.out.cells 3
            have zz3 : (V).frozen? ⟨gz, 3, none⟩ = false := RZ.out.frozen 3
            have dlt : gx < (V).heap.size := XV.out.lt
            have dlu : gx < (V).heap.size + 1 := Nat.lt_succ_of_lt XV.out.lt
            have d0 : (V).cell? ⟨gx, 0, none⟩ = some (.int .u8 1) := XV.out.cells 0
            have dz0 : (V).frozen? ⟨gx, 0, none⟩ = false := XV.out.frozen 0
            have d1 : (V).cell? ⟨gx, 1, none⟩ = some (.int .u32 (ztx : Int)) := XV.out.cells 1
            have dz1 : (V).frozen? ⟨gx, 1, none⟩ = false := XV.out.frozen 1
            have d2 : (V).cell? ⟨gx, 2, none⟩ = some (.int .u8 (who : Int)) := XV.out.cells 2
            have dz2 : (V).frozen? ⟨gx, 2, none⟩ = false := XV.out.frozen 2
            have d3 : (V).cell? ⟨gx, 3, none⟩ = some (.bool yes) := XV.out.cells 3
            have dz3 : (V).frozen? ⟨gx, 3, none⟩ = false := XV.out.frozen 3
            have d4 : (V).cell? ⟨gx, 4, none⟩ = some (.slice XA m xc) := XV.out.cells 4
            have dz4 : (V).frozen? ⟨gx, 4, none⟩ = false := XV.out.frozen 4
            go_wp2
            go_roundw
            case rel => exact ⟨k + 1, by omega, by go_num, 1, by omega, rfl, Lib.hid ⟨HCN.out.2.symm, BV.out⟩⟩
            case measure => simp [intOf]; omega
          · have ylt : gy < (V).heap.size := RY.out.lt
            have ylu : gy < (V).heap.size + 1 := Nat.lt_succ_of_lt RY.out.lt
            have y0 : (V).cell? ⟨gy, 0, none⟩ = some (.int .u32 (ztx : Int)) := RY.out.cells 0
            have yz0 : (V).frozen? ⟨gy, 0, none⟩ = false := RY.out.frozen 0
            have y1 : (V).cell? ⟨gy, 1, none⟩ = some (.int .u8 (zwho : Int)) := RY.out.cells 1
            have yz1 : (V).frozen? ⟨gy, 1, none⟩ = false := RY.out.frozen 1
            have y2 : (V).cell? ⟨gy, 2, none⟩ = some (.slice YA my yc) := RY.out.cells 2
            have yz2 : (V).frozen? ⟨gy, 2, none⟩ = false := RY.out.frozen 2
            have y3 : (V).cell? ⟨gy, 3, none⟩ = some (.int .u8 _) := RY.out.cells 3
            have yz3 : (V).frozen? ⟨gy, 3, none⟩ = false := RY.out.frozen 3
            have zlt : gz < (V).heap.size := RZ.out.lt
            have zlu : gz < (V).heap.size + 1 := Nat.lt_succ_of_lt RZ.out.lt
            have z0 : (V).cell? ⟨gz, 0, none⟩ = some (.int .u32 (ztx : Int)) := RZ.out.cells 0
            have zz0 : (V).frozen? ⟨gz, 0, none⟩ = false := RZ.out.frozen 0
            have z1 : (V).cell? ⟨gz, 1, none⟩ = some (.int .u8 (zwho : Int)) := RZ.out.cells 1
            have zz1 : (V).frozen? ⟨gz, 1, none⟩ = false := RZ.out.frozen 1
            have z2 : (V).cell? ⟨gz, 2, none⟩ = some (.slice ZA my zc) := RZ.out.cells 2
            have zz2 : (V).frozen? ⟨gz, 2, none⟩ = false := RZ.out.frozen 2
            have z3 : (V).cell? ⟨gz, 3, none⟩ = some (.int .u8 _) := RZ.out.cells 3
            have zz3 : (V).frozen? ⟨gz, 3, none⟩ = false := RZ.out.frozen 3
            have dlt : gx < (V).heap.size := XV.out.lt
            have dlu : gx < (V).heap.size + 1 := Nat.lt_succ_of_lt XV.out.lt
            have d0 : (V).cell? ⟨gx, 0, none⟩ = some (.int .u8 1) := XV.out.cells 0
            have dz0 : (V).frozen? ⟨gx, 0, none⟩ = false := XV.out.frozen 0
            have d1 : (V).cell? ⟨gx, 1, none⟩ = some (.int .u32 (ztx : Int)) := XV.out.cells 1
            have dz1 : (V).frozen? ⟨gx, 1, none⟩ = false := XV.out.frozen 1
            have d2 : (V).cell? ⟨gx, 2, none⟩ = some (.int .u8 (who : Int)) := XV.out.cells 2
            have dz2 : (V).frozen? ⟨gx, 2, none⟩ = false := XV.out.frozen 2
            have d3 : (V).cell? ⟨gx, 3, none⟩ = some (.bool yes) := XV.out.cells 3
            have dz3 : (V).frozen? ⟨gx, 3, none⟩ = false := XV.out.frozen 3
            have d4 : (V).cell? ⟨gx, 4, none⟩ = some (.slice XA m xc) := XV.out.cells 4
            have dz4 : (V).frozen? ⟨gx, 4, none⟩ = false := XV.out.frozen 4
            go_wp2
            go_roundw
            case rel => exact ⟨k + 1, by omega, by go_num, 1, by omega, rfl, Lib.hid ⟨HCN.out.2.symm, BV.out⟩⟩
            case measure => simp [intOf]; omega
        · subst hst
          have HCN : Hid (Jp.chg D (k + 1) = cg) := Lib.hid (by rw [Jp.chg_other hD, HCG.out])
          clear hD
          have ylt : gy < (V).heap.size := RY.out.lt
          have ylu : gy < (V).heap.size + 1 := Nat.lt_succ_of_lt RY.out.lt
          have y0 : (V).cell? ⟨gy, 0, none⟩ = some (.int .u32 (ztx : Int)) := RY.out.cells 0
          have yz0 : (V).frozen? ⟨gy, 0, none⟩ = false := RY.out.frozen 0
          have y1 : (V).cell? ⟨gy, 1, none⟩ = some (.int .u8 (zwho : Int)) := RY.out.cells 1
          have yz1 : (V).frozen? ⟨gy, 1, none⟩ = false := RY.out.frozen 1
          have y2 : (V).cell? ⟨gy, 2, none⟩ = some (.slice YA my yc) := RY.out.cells 2
          have yz2 : (V).frozen? ⟨gy, 2, none⟩ = false := RY.out.frozen 2
          have y3 : (V).cell? ⟨gy, 3, none⟩ = some (.int .u8 _) := RY.out.cells 3
          have yz3 : (V).frozen? ⟨gy, 3, none⟩ = false := RY.out.frozen 3
          have zlt : gz < (V).heap.size := RZ.out.lt
          have zlu : gz < (V).heap.size + 1 := Nat.lt_succ_of_lt RZ.out.lt
          have z0 : (V).cell? ⟨gz, 0, none⟩ = some (.int .u32 (ztx : Int)) := RZ.out.cells 0
          have zz0 : (V).frozen? ⟨gz, 0, none⟩ = false := RZ.out.frozen 0
          have z1 : (V).cell? ⟨gz, 1, none⟩ = some (.int .u8 (zwho : Int)) := RZ.out.cells 1
          have zz1 : (V).frozen? ⟨gz, 1, none⟩ = false := RZ.out.frozen 1
          have z2 : (V).cell? ⟨gz, 2, none⟩ = some (.slice ZA my zc) := RZ.out.cells 2
          have zz2 : (V).frozen? ⟨gz, 2, none⟩ = false := RZ.out.frozen 2
          have z3 : (V).cell? ⟨gz, 3, none⟩ = some (.int .u8 _) := RZ.out.cells 3
          have zz3 : (V).frozen? ⟨gz, 3, none⟩ = false := RZ.out.frozen 3
          go_wp2
          go_roundw
          case rel => exact ⟨k + 1, by omega, by go_num, cg, by omega, rfl, Lib.hid ⟨HCN.out.symm, BV.out⟩⟩
          case measure => simp [intOf]; omega
      · obtain rfl : k = n2 := by omega
        have X9 := Lib.hid (X1.out.to BE.out)
        have B9 : Hid (Below w.heap.size w wr) := Lib.hid (B1.out.trans (BE.out.mono B1.out.size))
        have dlt : gx < (wr).heap.size := X9.out.lt
        have dlu : gx < (wr).heap.size + 1 := Nat.lt_succ_of_lt X9.out.lt
        have d0 : (wr).cell? ⟨gx, 0, none⟩ = some (.int .u8 1) := X9.out.cells 0
        have dz0 : (wr).frozen? ⟨gx, 0, none⟩ = false := X9.out.frozen 0
        have d1 : (wr).cell? ⟨gx, 1, none⟩ = some (.int .u32 (tx : Int)) := X9.out.cells 1
        have dz1 : (wr).frozen? ⟨gx, 1, none⟩ = false := X9.out.frozen 1
        have d2 : (wr).cell? ⟨gx, 2, none⟩ = some (.int .u8 (who : Int)) := X9.out.cells 2
        have dz2 : (wr).frozen? ⟨gx, 2, none⟩ = false := X9.out.frozen 2
        have d3 : (wr).cell? ⟨gx, 3, none⟩ = some (.bool yes) := X9.out.cells 3
        have dz3 : (wr).frozen? ⟨gx, 3, none⟩ = false := X9.out.frozen 3
        have d4 : (wr).cell? ⟨gx, 4, none⟩ = some (.slice XA m xc) := X9.out.cells 4
        have dz4 : (wr).frozen? ⟨gx, 4, none⟩ = false := X9.out.frozen 4
        obtain rfl : cg = 0 := by rw [HCG.out]; exact HD.out
        have BX := B9
        go_wp2
        go_ret
        exact ⟨rfl, BX.out⟩
  · have hmv : Jp.Moved (jps j1) (jps j2) tx none := by rw [hM]; exact Jp.moved_more _ _
    obtain rfl : n2 = n1 + 1 := by rw [← HN1.out, ← HN2.out]; have := congrArg List.length hM; simpa [jps] using this
    have HLAST : Hid ((jps j2)[n1]? = some ⟨tx, who, text, 1⟩) := Lib.hid (by rw [hM, ← HN1.out]; simp [jps])
    obtain ⟨D, hDD⟩ : ∃ D : Option Nat, D = none := ⟨_, rfl⟩
    rw [← hDD] at hmv
    have hd : Jp.chg D n1 = 0 := by rw [hDD]; rfl
    clear hM hr hDD
    have q1 : decide ((n1 : Int) < (n1 : Int) + 1) = true := decide_eq_true (by omega)
    have q2 : ¬ (n1 : Int) + 1 < (n1 : Int) := by omega
    have HMV := Lib.hid hmv
    have HD := Lib.hid hd
    clear hmv hd
    go_wp2_with fail
    refine (jright_any A2 j2 c2 (n1 + 1) W0 HN2.out J2.out (by omega)).mono ?_
    rintro e w1 ⟨rfl, b1⟩
    rw [HRT2.out]
    have X1 := Lib.hid (X0.out.to b1)
    have J11 := Lib.hid (J1.out.to b1)
    have J21 := Lib.hid (J2.out.to b1)
    have XS1 := Lib.hid ((XS0.out.below b1).more b1.size)
    have B1 := Lib.hid (B0.out.trans (b1.mono B0.out.size))
    clear b1 X0 J1 J2 XS0 B0
    have dlt : gx < (w1).heap.size := X1.out.lt
    have dlu : gx < (w1).heap.size + 1 := Nat.lt_succ_of_lt X1.out.lt
    have d0 : (w1).cell? ⟨gx, 0, none⟩ = some (.int .u8 2) := X1.out.cells 0
    have dz0 : (w1).frozen? ⟨gx, 0, none⟩ = false := X1.out.frozen 0
    have d1 : (w1).cell? ⟨gx, 1, none⟩ = some (.int .u32 (tx : Int)) := X1.out.cells 1
    have dz1 : (w1).frozen? ⟨gx, 1, none⟩ = false := X1.out.frozen 1
    have d2 : (w1).cell? ⟨gx, 2, none⟩ = some (.int .u8 (who : Int)) := X1.out.cells 2
    have dz2 : (w1).frozen? ⟨gx, 2, none⟩ = false := X1.out.frozen 2
    have d3 : (w1).cell? ⟨gx, 3, none⟩ = some (.bool yes) := X1.out.cells 3
    have dz3 : (w1).frozen? ⟨gx, 3, none⟩ = false := X1.out.frozen 3
    have d4 : (w1).cell? ⟨gx, 4, none⟩ = some (.slice XA m xc) := X1.out.cells 4
    have dz4 : (w1).frozen? ⟨gx, 4, none⟩ = false := X1.out.frozen 4
    go_wp2
    clear d0 d1 d2 d3 d4 dz0 dz1 dz2 dz3 dz4 dlt dlu
    go_loopw [7, 44] (fun c i wr => ∃ k : Nat, k ≤ n1 ∧ i = .int .i64 (k : Int) ∧ ∃ cg : Nat, cg ≤ 1 ∧ c = .int .i64 (cg : Int) ∧ Hid (cg = Jp.chg D k ∧ Below w1.heap.size w1 wr)) (fun _ i _ => n1 - (intOf i).toNat)
    case atStart => exact ⟨0, by omega, rfl, 0, by omega, rfl, Lib.hid ⟨(Jp.chg_zero D).symm, Below.refl _ _⟩⟩
    case round =>
      rename World => wr
      obtain ⟨k, hk, rfl, cg, hcg, rfl, hh⟩ := hrel
      have HCG := Lib.hid hh.out.1
      have BE := Lib.hid hh.out.2
      clear hh
      by_cases hlt : k < n1
      · obtain ⟨g1, o1, y, rfl, hg1, hy, hyo, hy0, hy1, hy2, hy3⟩ := (J11.out.to BE.out).at_ (k := k) (by rw [HN1.out]; exact hlt)
        obtain ⟨g2, o2, z, rfl, hg2, hz, hzo, hz0, hz1, hz2, hz3⟩ := (J21.out.to BE.out).at_ (k := k) (by rw [HN2.out]; omega)
        obtain ⟨st', hst1, hst2⟩ := HMV.out k y.p (by rw [jps, List.getElem?_map, hy]; rfl)
        have hzp : z.p = ⟨y.p.tx, y.p.who, y.p.text, st'⟩ := by
          rw [jps, List.getElem?_map, hz] at hst1
          exact Option.some.inj hst1
        have hltI : (k : Int) < (n1 : Int) := by omega
        have hltI2 : (k : Int) < (n1 : Int) + 1 := by omega
        have h0I : (0 : Int) ≤ (k : Int) := by omega
        have hgr1 : g1 < wr.heap.size := hg1
        have hgr2 : g2 < wr.heap.size := hg2
        have hgr3 : g2 < wr.heap.size + 1 := by omega
        have HYO := Lib.hid hyo
        have HZO := Lib.hid hzo
        have XR := Lib.hid (X1.out.to BE.out)
        obtain ⟨⟨ytx, ywho, ytext, yst⟩, YA, yc⟩ := y
        obtain ⟨⟨ztx, zwho, ztext, zst⟩, ZA, zc⟩ := z
        rw [Jp.mk.injEq] at hzp
        obtain ⟨rfl, rfl, rfl, rfl⟩ := hzp
        dsimp only at hy0 hy1 hy2 hy3 hz0 hz1 hz2 hz3 hst2
        obtain ⟨my, hmy⟩ : ∃ my, ztext.length = my := ⟨_, rfl⟩
        have HMY := Lib.hid hmy
        rw [hmy] at hy2 hz2
        have HST2 := Lib.hid hst2
        have HST3 : Hid (yst < 256 ∧ zst < 256) := Lib.hid ⟨HYO.out.fit.st, HZO.out.fit.st⟩
        clear hy hyo hz hzo hmy hst1 hst2
        go_upto_region 8 with fail
        obtain ⟨V, hV⟩ : ∃ V, (wr.alloc (.cells #[.int .u32 (ztx : Int), .int .u8 (zwho : Int), .slice YA my yc, .int .u8 (yst : Int)] 38)).alloc (.cells #[.int .u32 (ztx : Int), .int .u8 (zwho : Int), .slice ZA my zc, .int .u8 (zst : Int)] 38) = V := ⟨_, rfl⟩
        obtain ⟨gy, hgy⟩ : ∃ gy, wr.heap.size = gy := ⟨_, rfl⟩
        obtain ⟨gz, hgz⟩ : ∃ gz, gy + 1 = gz := ⟨_, rfl⟩
        rw [hgy, hgz]
        have RY : Hid (RowAt V gy 38 (jbV ztx zwho YA my yc yst)) := Lib.hid (by rw [← hV, ← hgy]; exact (RowAt.new wr _ _).alloc _)
        have RZ : Hid (RowAt V gz 38 (jbV ztx zwho ZA my zc zst)) := Lib.hid (by rw [← hV]; exact RowAt.new' _ _ _ _ (by simp; omega))
        have bV : Below wr.heap.size wr V := by rw [← hV]; exact bel_alloc (bel_alloc (Below.refl _ _) _) _
        rw [hV]
        have BV := Lib.hid (BE.out.trans (bV.mono BE.out.size))
        have XV := Lib.hid (XR.out.to bV)
        have sA := conv_nums (P := Try.prog) (sq_nums ((HYO.out.sq.below bV).more bV.size)) 29 9 5 yc my Try.underlying29 Try.underlying5 Try.underlying9 HMY.out
        have sB := conv_nums (P := Try.prog) (sq_nums ((HZO.out.sq.below bV).more bV.size)) 29 9 5 zc my Try.underlying29 Try.underlying5 Try.underlying9 HMY.out
        dsimp only at sA sB
        have gs := str_same ztext
        clear hV hgy hgz bV hy0 hy1 hy2 hy3 hz0 hz1 hz2 hz3
        rcases HST2.out with ⟨hD, ht, hst⟩ | ⟨hD, hst⟩
        · subst ht
          have HCN : Hid (cg = 0 ∧ Jp.chg D (k + 1) = 1) := Lib.hid ⟨by rw [HCG.out, hD]; exact (Jp.chg_here k).1, by rw [hD]; exact (Jp.chg_here k).2⟩
          have hcg0 : (cg : Int) + 1 = 1 := by have := HCN.out.1; omega
          clear hD
          rcases hst with ⟨rfl, rfl⟩ | ⟨rfl, rfl⟩ | ⟨rfl, rfl⟩ | ⟨rfl, rfl⟩
          · have ylt : gy < (V).heap.size := RY.out.lt
            have ylu : gy < (V).heap.size + 1 := Nat.lt_succ_of_lt RY.out.lt
            have y0 : (V).cell? ⟨gy, 0, none⟩ = some (.int .u32 (ztx : Int)) := RY.out.cells 0
            have yz0 : (V).frozen? ⟨gy, 0, none⟩ = false := RY.out.frozen 0
            have y1 : (V).cell? ⟨gy, 1, none⟩ = some (.int .u8 (zwho : Int)) := RY.out.cells 1
            have yz1 : (V).frozen? ⟨gy, 1, none⟩ = false := RY.out.frozen 1
            have y2 : (V).cell? ⟨gy, 2, none⟩ = some (.slice YA my yc) := RY.out.cells 2
            have yz2 : (V).frozen? ⟨gy, 2, none⟩ = false := RY.out.frozen 2
            have y3 : (V).cell? ⟨gy, 3, none⟩ = some (.int .u8 _) := RY.out.cells 3
            have yz3 : (V).frozen? ⟨gy, 3, none⟩ = false := RY.out.frozen 3
            have zlt : gz < (V).heap.size := RZ.out.lt
            have zlu : gz < (V).heap.size + 1 := Nat.lt_succ_of_lt RZ.out.lt
            have z0 : (V).cell? ⟨gz, 0, none⟩ = some (.int .u32 (ztx : Int)) := RZ.out.cells 0
            have zz0 : (V).frozen? ⟨gz, 0, none⟩ = false := RZ.out.frozen 0
            have z1 : (V).cell? ⟨gz, 1, none⟩ = some (.int .u8 (zwho : Int)) := RZ.out.cells 1
            have zz1 : (V).frozen? ⟨gz, 1, none⟩ = false := RZ.out.frozen 1
            have z2 : (V).cell? ⟨gz, 2, none⟩ = some (.slice ZA my zc) := RZ.out.cells 2
            have zz2 : (V).frozen? ⟨gz, 2, none⟩ = false := RZ.out.frozen 2
            have z3 : (V).cell? ⟨gz, 3, none⟩ = some (.int .u8 _) := RZ.out.cells 3
            have zz3 : (V).frozen? ⟨gz, 3, none⟩ = false := RZ.out.frozen 3
            have dlt : gx < (V).heap.size := XV.out.lt
            have dlu : gx < (V).heap.size + 1 := Nat.lt_succ_of_lt XV.out.lt
            have d0 : (V).cell? ⟨gx, 0, none⟩ = some (.int .u8 2) := XV.out.cells 0
            have dz0 : (V).frozen? ⟨gx, 0, none⟩ = false := XV.out.frozen 0
            have d1 : (V).cell? ⟨gx, 1, none⟩ = some (.int .u32 (ztx : Int)) := XV.out.cells 1
            have dz1 : (V).frozen? ⟨gx, 1, none⟩ = false := XV.out.frozen 1
            have d2 : (V).cell? ⟨gx, 2, none⟩ = some (.int .u8 (who : Int)) := XV.out.cells 2
            have dz2 : (V).frozen? ⟨gx, 2, none⟩ = false := XV.out.frozen 2
            have d3 : (V).cell? ⟨gx, 3, none⟩ = some (.bool yes) := XV.out.cells 3
            have dz3 : (V).frozen? ⟨gx, 3, none⟩ = false := XV.out.frozen 3
            have d4 : (V).cell? ⟨gx, 4, none⟩ = some (.slice XA m xc) := XV.out.cells 4
            have dz4 : (V).frozen? ⟨gx, 4, none⟩ = false := XV.out.frozen 4
            go_wp2
            go_roundw
            case rel => exact ⟨k + 1, by omega, by go_num, 1, by omega, rfl, Lib.hid ⟨HCN.out.2.symm, BV.out⟩⟩
            case measure => simp [intOf]; omega
          · have ylt : gy < (V).heap.size := RY.out.lt
            have ylu : gy < (V).heap.size + 1 := Nat.lt_succ_of_lt RY.out.lt
            have y0 : (V).cell? ⟨gy, 0, none⟩ = some (.int .u32 (ztx : Int)) := RY.out.cells 0
            have yz0 : (V).frozen? ⟨gy, 0, none⟩ = false := RY.out.frozen 0
            have y1 : (V).cell? ⟨gy, 1, none⟩ = some (.int .u8 (zwho : Int)) := RY.out.cells 1
            have yz1 : (V).frozen? ⟨gy, 1, none⟩ = false := RY.out.frozen 1
            have y2 : (V).cell? ⟨gy, 2, none⟩ = some (.slice YA my yc) := RY.out.cells 2
            have yz2 : (V).frozen? ⟨gy, 2, none⟩ = false := RY.out.frozen 2
            have y3 : (V).cell? ⟨gy, 3, none⟩ = some (.int .u8 _) := RY.out.cells 3
            have yz3 : (V).frozen? ⟨gy, 3, none⟩ = false := RY.out.frozen 3
            have zlt : gz < (V).heap.size := RZ.out.lt
            have zlu : gz < (V).heap.size + 1 := Nat.lt_succ_of_lt RZ.out.lt
            have z0 : (V).cell? ⟨gz, 0, none⟩ = some (.int .u32 (ztx : Int)) := RZ.out.cells 0
            have zz0 : (V).frozen? ⟨gz, 0, none⟩ = false := RZ.out.frozen 0
            have z1 : (V).cell? ⟨gz, 1, none⟩ = some (.int .u8 (zwho : Int)) := RZ.out.cells 1
            have zz1 : (V).frozen? ⟨gz, 1, none⟩ = false := RZ.out.frozen 1
            have z2 : (V).cell? ⟨gz, 2, none⟩ = some (.slice ZA my zc) := RZ.out.cells 2
            have zz2 : (V).frozen? ⟨gz, 2, none⟩ = false := RZ.out.frozen 2
            have z3 : (V).cell? ⟨gz, 3, none⟩ = some (.int .u8 _) := RZ.out.cells 3
            have zz3 : (V).frozen? ⟨gz, 3, none⟩ = false := RZ.out.frozen 3
            have dlt : gx < (V).heap.size := XV.out.lt
            have dlu : gx < (V).heap.size + 1 := Nat.lt_succ_of_lt XV.out.lt
            have d0 : (V).cell? ⟨gx, 0, none⟩ = some (.int .u8 2) := XV.out.cells 0
            have dz0 : (V).frozen? ⟨gx, 0, none⟩ = false := XV.out.frozen 0
            have d1 : (V).cell? ⟨gx, 1, none⟩ = some (.int .u32 (ztx : Int)) := XV.out.cells 1
            have dz1 : (V).frozen? ⟨gx, 1, none⟩ = false := XV.out.frozen 1
            have d2 : (V).cell? ⟨gx, 2, none⟩ = some (.int .u8 (who : Int)) := XV.out.cells 2
            have dz2 : (V).frozen? ⟨gx, 2, none⟩ = false := XV.out.frozen 2
            have d3 : (V).cell? ⟨gx, 3, none⟩ = some (.bool yes) := XV.out.cells 3
            have dz3 : (V).frozen? ⟨gx, 3, none⟩ = false := XV.out.frozen 3
            have d4 : (V).cell? ⟨gx, 4, none⟩ = some (.slice XA m xc) := XV.out.cells 4
            have dz4 : (V).frozen? ⟨gx, 4, none⟩ = false := XV.out.frozen 4
            go_wp2
            go_roundw
            case rel => exact ⟨k + 1, by omega, by go_num, 1, by omega, rfl, Lib.hid ⟨HCN.out.2.symm, BV.out⟩⟩
            case measure => simp [intOf]; omega
          · have ylt : gy < (V).heap.size := RY.out.lt
            have ylu : gy < (V).heap.size + 1 := Nat.lt_succ_of_lt RY.out.lt
            have y0 : (V).cell? ⟨gy, 0, none⟩ = some (.int .u32 (ztx : Int)) := RY.out.cells 0
            have yz0 : (V).frozen? ⟨gy, 0, none⟩ = false := RY.out.frozen 0
            have y1 : (V).cell? ⟨gy, 1, none⟩ = some (.int .u8 (zwho : Int)) := RY.out.cells 1
            have yz1 : (V).frozen? ⟨gy, 1, none⟩ = false := RY.out.frozen 1
            have y2 : (V).cell? ⟨gy, 2, none⟩ = some (.slice YA my yc) := RY.out.cells 2
            have yz2 : (V).frozen? ⟨gy, 2, none⟩ = false := RY.out.frozen 2
            have y3 : (V).cell? ⟨gy, 3, none⟩ = some (.int .u8 _) := RY.out.cells 3
            have yz3 : (V).frozen? ⟨gy, 3, none⟩ = false := RY.out.frozen 3
            have zlt : gz < (V).heap.size := RZ.out.lt
            have zlu : gz < (V).heap.size + 1 := Nat.lt_succ_of_lt RZ.out.lt
            have z0 : (V).cell? ⟨gz, 0, none⟩ = some (.int .u32 (ztx : Int)) := RZ.out.cells 0
            have zz0 : (V).frozen? ⟨gz, 0, none⟩ = false := RZ.out.frozen 0
            have z1 : (V).cell? ⟨gz, 1, none⟩ = some (.int .u8 (zwho : Int)) := RZ.out.cells 1
            have zz1 : (V).frozen? ⟨gz, 1, none⟩ = false := RZ.out.frozen 1
            have z2 : (V).cell? ⟨gz, 2, none⟩ = some (.slice ZA my zc) := RZ.out.cells 2
            have zz2 : (V).frozen? ⟨gz, 2, none⟩ = false := RZ.out.frozen 2
            have z3 : (V).cell? ⟨gz, 3, none⟩ = some (.int .u8 _) := RZ.out.cells 3
            have zz3 : (V).frozen? ⟨gz, 3, none⟩ = false := RZ.out.frozen 3
            have dlt : gx < (V).heap.size := XV.out.lt
            have dlu : gx < (V).heap.size + 1 := Nat.lt_succ_of_lt XV.out.lt
            have d0 : (V).cell? ⟨gx, 0, none⟩ = some (.int .u8 2) := XV.out.cells 0
            have dz0 : (V).frozen? ⟨gx, 0, none⟩ = false := XV.out.frozen 0
            have d1 : (V).cell? ⟨gx, 1, none⟩ = some (.int .u32 (ztx : Int)) := XV.out.cells 1
            have dz1 : (V).frozen? ⟨gx, 1, none⟩ = false := XV.out.frozen 1
            have d2 : (V).cell? ⟨gx, 2, none⟩ = some (.int .u8 (who : Int)) := XV.out.cells 2
            have dz2 : (V).frozen? ⟨gx, 2, none⟩ = false := XV.out.frozen 2
            have d3 : (V).cell? ⟨gx, 3, none⟩ = some (.bool yes) := XV.out.cells 3
            have dz3 : (V).frozen? ⟨gx, 3, none⟩ = false := XV.out.frozen 3
            have d4 : (V).cell? ⟨gx, 4, none⟩ = some (.slice XA m xc) := XV.out.cells 4
            have dz4 : (V).frozen? ⟨gx, 4, none⟩ = false := XV.out.frozen 4
            go_wp2
            go_roundw
            case rel => exact ⟨k + 1, by omega, by go_num, 1, by omega, rfl, Lib.hid ⟨HCN.out.2.symm, BV.out⟩⟩
            case measure => simp [intOf]; omega
          · have ylt : gy < (V).heap.size := RY.out.lt
            have ylu : gy < (V).heap.size + 1 := Nat.lt_succ_of_lt RY.out.lt
            have y0 : (V).cell? ⟨gy, 0, none⟩ = some (.int .u32 (ztx : Int)) := RY.out.cells 0
            have yz0 : (V).frozen? ⟨gy, 0, none⟩ = false := RY.out.frozen 0
            have y1 : (V).cell? ⟨gy, 1, none⟩ = some (.int .u8 (zwho : Int)) := RY.out.cells 1
            have yz1 : (V).frozen? ⟨gy, 1, none⟩ = false := RY.out.frozen 1
            have y2 : (V).cell? ⟨gy, 2, none⟩ = some (.slice YA my yc) := RY.out.cells 2
            have yz2 : (V).frozen? ⟨gy, 2, none⟩ = false := RY.out.frozen 2
            have y3 : (V).cell? ⟨gy, 3, none⟩ = some (.int .u8 _) := RY.out.cells 3
            have yz3 : (V).frozen? ⟨gy, 3, none⟩ = false := RY.out.frozen 3
            have zlt : gz < (V).heap.size := RZ.out.lt
            have zlu : gz < (V).heap.size + 1 := Nat.lt_succ_of_lt RZ.out.lt
            have z0 : (V).cell? ⟨gz, 0, none⟩ = some (.int .u32 (ztx : Int)) := RZ.out.cells 0
            have zz0 : (V).frozen? ⟨gz, 0, none⟩ = false := RZ.out.frozen 0
            have z1 : (V).cell? ⟨gz, 1, none⟩ = some (.int .u8 (zwho : Int)) := RZ.out.cells 1
            have zz1 : (V).frozen? ⟨gz, 1, none⟩ = false := RZ.out.frozen 1
            have z2 : (V).cell? ⟨gz, 2, none⟩ = some (.slice ZA my zc) := RZ.out.cells 2
            have zz2 : (V).frozen? ⟨gz, 2, none⟩ = false := RZ.out.frozen 2
            have z3 : (V).cell? ⟨gz, 3, none⟩ = some (.int .u8 _) := RZ.out.cells 3
            have zz3 : (V).frozen? ⟨gz, 3, none⟩ = false := RZ.out.frozen 3
            have dlt : gx < (V).heap.size := XV.out.lt
            have dlu : gx < (V).heap.size + 1 := Nat.lt_succ_of_lt XV.out.lt
            have d0 : (V).cell? ⟨gx, 0, none⟩ = some (.int .u8 2) := XV.out.cells 0
            have dz0 : (V).frozen? ⟨gx, 0, none⟩ = false := XV.out.frozen 0
            have d1 : (V).cell? ⟨gx, 1, none⟩ = some (.int .u32 (ztx : Int)) := XV.out.cells 1
            have dz1 : (V).frozen? ⟨gx, 1, none⟩ = false := XV.out.frozen 1
            have d2 : (V).cell? ⟨gx, 2, none⟩ = some (.int .u8 (who : Int)) := XV.out.cells 2
            have dz2 : (V).frozen? ⟨gx, 2, none⟩ = false := XV.out.frozen 2
            have d3 : (V).cell? ⟨gx, 3, none⟩ = some (.bool yes) := XV.out.cells 3
            have dz3 : (V).frozen? ⟨gx, 3, none⟩ = false := XV.out.frozen 3
            have d4 : (V).cell? ⟨gx, 4, none⟩ = some (.slice XA m xc) := XV.out.cells 4
            have dz4 : (V).frozen? ⟨gx, 4, none⟩ = false := XV.out.frozen 4
            go_wp2
            go_roundw
            case rel => exact ⟨k + 1, by omega, by go_num, 1, by omega, rfl, Lib.hid ⟨HCN.out.2.symm, BV.out⟩⟩
            case measure => simp [intOf]; omega
        · subst hst
          have HCN : Hid (Jp.chg D (k + 1) = cg) := Lib.hid (by rw [Jp.chg_other hD, HCG.out])
          clear hD
          have ylt : gy < (V).heap.size := RY.out.lt
          have ylu : gy < (V).heap.size + 1 := Nat.lt_succ_of_lt RY.out.lt
          have y0 : (V).cell? ⟨gy, 0, none⟩ = some (.int .u32 (ztx : Int)) := RY.out.cells 0
          have yz0 : (V).frozen? ⟨gy, 0, none⟩ = false := RY.out.frozen 0
          have y1 : (V).cell? ⟨gy, 1, none⟩ = some (.int .u8 (zwho : Int)) := RY.out.cells 1
          have yz1 : (V).frozen? ⟨gy, 1, none⟩ = false := RY.out.frozen 1
          have y2 : (V).cell? ⟨gy, 2, none⟩ = some (.slice YA my yc) := RY.out.cells 2
          have yz2 : (V).frozen? ⟨gy, 2, none⟩ = false := RY.out.frozen 2
          have y3 : (V).cell? ⟨gy, 3, none⟩ = some (.int .u8 _) := RY.out.cells 3
          have yz3 : (V).frozen? ⟨gy, 3, none⟩ = false := RY.out.frozen 3
          have zlt : gz < (V).heap.size := RZ.out.lt
          have zlu : gz < (V).heap.size + 1 := Nat.lt_succ_of_lt RZ.out.lt
          have z0 : (V).cell? ⟨gz, 0, none⟩ = some (.int .u32 (ztx : Int)) := RZ.out.cells 0
          have zz0 : (V).frozen? ⟨gz, 0, none⟩ = false := RZ.out.frozen 0
          have z1 : (V).cell? ⟨gz, 1, none⟩ = some (.int .u8 (zwho : Int)) := RZ.out.cells 1
          have zz1 : (V).frozen? ⟨gz, 1, none⟩ = false := RZ.out.frozen 1
          have z2 : (V).cell? ⟨gz, 2, none⟩ = some (.slice ZA my zc) := RZ.out.cells 2
          have zz2 : (V).frozen? ⟨gz, 2, none⟩ = false := RZ.out.frozen 2
          have z3 : (V).cell? ⟨gz, 3, none⟩ = some (.int .u8 _) := RZ.out.cells 3
          have zz3 : (V).frozen? ⟨gz, 3, none⟩ = false := RZ.out.frozen 3
          go_wp2
          go_roundw
          case rel => exact ⟨k + 1, by omega, by go_num, cg, by omega, rfl, Lib.hid ⟨HCN.out.symm, BV.out⟩⟩
          case measure => simp [intOf]; omega
      · obtain rfl : k = n1 := by omega
        have X9 := Lib.hid (X1.out.to BE.out)
        have B9 : Hid (Below w.heap.size w wr) := Lib.hid (B1.out.trans (BE.out.mono B1.out.size))
        have dlt : gx < (wr).heap.size := X9.out.lt
        have dlu : gx < (wr).heap.size + 1 := Nat.lt_succ_of_lt X9.out.lt
        have d0 : (wr).cell? ⟨gx, 0, none⟩ = some (.int .u8 2) := X9.out.cells 0
        have dz0 : (wr).frozen? ⟨gx, 0, none⟩ = false := X9.out.frozen 0
        have d1 : (wr).cell? ⟨gx, 1, none⟩ = some (.int .u32 (tx : Int)) := X9.out.cells 1
        have dz1 : (wr).frozen? ⟨gx, 1, none⟩ = false := X9.out.frozen 1
        have d2 : (wr).cell? ⟨gx, 2, none⟩ = some (.int .u8 (who : Int)) := X9.out.cells 2
        have dz2 : (wr).frozen? ⟨gx, 2, none⟩ = false := X9.out.frozen 2
        have d3 : (wr).cell? ⟨gx, 3, none⟩ = some (.bool yes) := X9.out.cells 3
        have dz3 : (wr).frozen? ⟨gx, 3, none⟩ = false := X9.out.frozen 3
        have d4 : (wr).cell? ⟨gx, 4, none⟩ = some (.slice XA m xc) := X9.out.cells 4
        have dz4 : (wr).frozen? ⟨gx, 4, none⟩ = false := X9.out.frozen 4
        obtain rfl : cg = 0 := by rw [HCG.out]; exact HD.out
        obtain ⟨g2, o2, z, rfl, hg2, hz, hzo, hz0, hz1, hz2, hz3⟩ := (J21.out.to BE.out).at_ (k := k) (by rw [HN2.out]; omega)
        have hzp : z.p = ⟨tx, who, text, 1⟩ := by
          have h := HLAST.out
          rw [jps, List.getElem?_map, hz] at h
          exact Option.some.inj h
        have hltI : (k : Int) < (k : Int) + 1 := by omega
        have h0I : (0 : Int) ≤ (k : Int) := by omega
        have hgr2 : g2 < wr.heap.size := hg2
        have HZO := Lib.hid hzo
        obtain ⟨⟨ztx, zwho, ztext, zst⟩, ZA, zc⟩ := z
        rw [Jp.mk.injEq] at hzp
        obtain ⟨rfl, rfl, rfl, rfl⟩ := hzp
        dsimp only at hz0 hz1 hz2 hz3
        rw [HM.out] at hz2
        clear hz hzo hlt
        go_upto_region 18 with fail
        obtain ⟨V, hV⟩ : ∃ V, wr.alloc (.cells #[.int .u32 (ztx : Int), .int .u8 (zwho : Int), .slice ZA m zc, .int .u8 1] 38) = V := ⟨_, rfl⟩
        obtain ⟨gz, hgz⟩ : ∃ gz, wr.heap.size = gz := ⟨_, rfl⟩
        rw [hgz]
        have RZ : Hid (RowAt V gz 38 (jbV ztx zwho ZA m zc 1)) := Lib.hid (by rw [← hV, ← hgz]; exact RowAt.new _ _ _)
        have bV : Below wr.heap.size wr V := by rw [← hV]; exact bel_alloc (Below.refl _ _) _
        rw [hV]
        have X10 := Lib.hid (X9.out.to bV)
        have bW : Below w1.heap.size w1 V := BE.out.trans (bV.mono BE.out.size)
        have sA := conv_nums (P := Try.prog) (sq_nums ((HZO.out.sq.below bV).more bV.size)) 29 9 5 zc m Try.underlying29 Try.underlying5 Try.underlying9 HM.out
        have sB := conv_nums (P := Try.prog) (sq_nums ((XS1.out.sq.below bW).more bW.size)) 29 9 5 xc m Try.underlying29 Try.underlying5 Try.underlying9 HM.out
        dsimp only at sA sB
        have gs := str_same ztext
        have BX : Hid (Below w.heap.size w V) := Lib.hid (B9.out.trans (bV.mono B9.out.size))
        clear hV hgz bV bW hz0 hz1 hz2 hz3 d0 d1 d2 d3 d4 dz0 dz1 dz2 dz3 dz4 dlt dlu
        have zlt : gz < (V).heap.size := RZ.out.lt
        have zlu : gz < (V).heap.size + 1 := Nat.lt_succ_of_lt RZ.out.lt
        have z0 : (V).cell? ⟨gz, 0, none⟩ = some (.int .u32 (ztx : Int)) := RZ.out.cells 0
        have zz0 : (V).frozen? ⟨gz, 0, none⟩ = false := RZ.out.frozen 0
        have z1 : (V).cell? ⟨gz, 1, none⟩ = some (.int .u8 (zwho : Int)) := RZ.out.cells 1
        have zz1 : (V).frozen? ⟨gz, 1, none⟩ = false := RZ.out.frozen 1
        have z2 : (V).cell? ⟨gz, 2, none⟩ = some (.slice ZA m zc) := RZ.out.cells 2
        have zz2 : (V).frozen? ⟨gz, 2, none⟩ = false := RZ.out.frozen 2
        have z3 : (V).cell? ⟨gz, 3, none⟩ = some (.int .u8 1) := RZ.out.cells 3
        have zz3 : (V).frozen? ⟨gz, 3, none⟩ = false := RZ.out.frozen 3
        have dlt : gx < (V).heap.size := X10.out.lt
        have dlu : gx < (V).heap.size + 1 := Nat.lt_succ_of_lt X10.out.lt
        have d0 : (V).cell? ⟨gx, 0, none⟩ = some (.int .u8 2) := X10.out.cells 0
        have dz0 : (V).frozen? ⟨gx, 0, none⟩ = false := X10.out.frozen 0
        have d1 : (V).cell? ⟨gx, 1, none⟩ = some (.int .u32 (ztx : Int)) := X10.out.cells 1
        have dz1 : (V).frozen? ⟨gx, 1, none⟩ = false := X10.out.frozen 1
        have d2 : (V).cell? ⟨gx, 2, none⟩ = some (.int .u8 (zwho : Int)) := X10.out.cells 2
        have dz2 : (V).frozen? ⟨gx, 2, none⟩ = false := X10.out.frozen 2
        have d3 : (V).cell? ⟨gx, 3, none⟩ = some (.bool yes) := X10.out.cells 3
        have dz3 : (V).frozen? ⟨gx, 3, none⟩ = false := X10.out.frozen 3
        have d4 : (V).cell? ⟨gx, 4, none⟩ = some (.slice XA m xc) := X10.out.cells 4
        have dz4 : (V).frozen? ⟨gx, 4, none⟩ = false := X10.out.frozen 4
        go_wp2
        go_ret
        exact ⟨rfl, BX.out⟩
  · have h1 := (And.right (show _ ∧ _ from HRT.out)) j (List.mem_of_getElem? hj)
    have hmv : Jp.Moved (jps j1) (jps j2) tx (some i) := by rw [hM]; exact Jp.moved_set hj ht hst h1.2.2.2.1
    obtain rfl : n2 = n1 := by rw [← HN1.out, ← HN2.out]; have := congrArg List.length hM; simpa [jps] using this
    have hin : i < n2 := by have := (List.getElem?_eq_some_iff.1 hj).1; rw [jps, List.length_map, HN1.out] at this; exact this
    obtain ⟨D, hDD⟩ : ∃ D : Option Nat, D = some i := ⟨_, rfl⟩
    rw [← hDD] at hmv
    have hd : Jp.chg D n2 = 1 := by rw [hDD]; simp [Jp.chg, hin]
    have hw1I : ((what : Int) == 1) = false := beq_eq_false_iff_ne.2 (by omega)
    have hw2I : ((what : Int) == 2) = false := beq_eq_false_iff_ne.2 (by omega)
    clear hM hr hDD hj ht hst h1 hin
    have HMV := Lib.hid hmv
    have HD := Lib.hid hd
    clear hmv hd
    go_wp2_with fail
    refine (jright_any A2 j2 c2 n2 W0 HN2.out J2.out (by omega)).mono ?_
    rintro e w1 ⟨rfl, b1⟩
    rw [HRT2.out]
    have X1 := Lib.hid (X0.out.to b1)
    have J11 := Lib.hid (J1.out.to b1)
    have J21 := Lib.hid (J2.out.to b1)
    have XS1 := Lib.hid ((XS0.out.below b1).more b1.size)
    have B1 := Lib.hid (B0.out.trans (b1.mono B0.out.size))
    clear b1 X0 J1 J2 XS0 B0
    have dlt : gx < (w1).heap.size := X1.out.lt
    have dlu : gx < (w1).heap.size + 1 := Nat.lt_succ_of_lt X1.out.lt
    have d0 : (w1).cell? ⟨gx, 0, none⟩ = some (.int .u8 (what : Int)) := X1.out.cells 0
    have dz0 : (w1).frozen? ⟨gx, 0, none⟩ = false := X1.out.frozen 0
    have d1 : (w1).cell? ⟨gx, 1, none⟩ = some (.int .u32 (tx : Int)) := X1.out.cells 1
    have dz1 : (w1).frozen? ⟨gx, 1, none⟩ = false := X1.out.frozen 1
    have d2 : (w1).cell? ⟨gx, 2, none⟩ = some (.int .u8 (who : Int)) := X1.out.cells 2
    have dz2 : (w1).frozen? ⟨gx, 2, none⟩ = false := X1.out.frozen 2
    have d3 : (w1).cell? ⟨gx, 3, none⟩ = some (.bool yes) := X1.out.cells 3
    have dz3 : (w1).frozen? ⟨gx, 3, none⟩ = false := X1.out.frozen 3
    have d4 : (w1).cell? ⟨gx, 4, none⟩ = some (.slice XA m xc) := X1.out.cells 4
    have dz4 : (w1).frozen? ⟨gx, 4, none⟩ = false := X1.out.frozen 4
    go_wp2
    clear d0 d1 d2 d3 d4 dz0 dz1 dz2 dz3 dz4 dlt dlu
    go_loopw [7, 44] (fun c i wr => ∃ k : Nat, k ≤ n2 ∧ i = .int .i64 (k : Int) ∧ ∃ cg : Nat, cg ≤ 1 ∧ c = .int .i64 (cg : Int) ∧ Hid (cg = Jp.chg D k ∧ Below w1.heap.size w1 wr)) (fun _ i _ => n2 - (intOf i).toNat)
    case atStart => exact ⟨0, by omega, rfl, 0, by omega, rfl, Lib.hid ⟨(Jp.chg_zero D).symm, Below.refl _ _⟩⟩
    case round =>
      rename World => wr
      obtain ⟨k, hk, rfl, cg, hcg, rfl, hh⟩ := hrel
      have HCG := Lib.hid hh.out.1
      have BE := Lib.hid hh.out.2
      clear hh
      by_cases hlt : k < n2
      · obtain ⟨g1, o1, y, rfl, hg1, hy, hyo, hy0, hy1, hy2, hy3⟩ := (J11.out.to BE.out).at_ (k := k) (by rw [HN1.out]; exact hlt)
        obtain ⟨g2, o2, z, rfl, hg2, hz, hzo, hz0, hz1, hz2, hz3⟩ := (J21.out.to BE.out).at_ (k := k) (by rw [HN2.out]; omega)
        obtain ⟨st', hst1, hst2⟩ := HMV.out k y.p (by rw [jps, List.getElem?_map, hy]; rfl)
        have hzp : z.p = ⟨y.p.tx, y.p.who, y.p.text, st'⟩ := by
          rw [jps, List.getElem?_map, hz] at hst1
          exact Option.some.inj hst1
        have hltI : (k : Int) < (n2 : Int) := by omega
        have hltI2 : (k : Int) < (n2 : Int) := by omega
        have h0I : (0 : Int) ≤ (k : Int) := by omega
        have hgr1 : g1 < wr.heap.size := hg1
        have hgr2 : g2 < wr.heap.size := hg2
        have hgr3 : g2 < wr.heap.size + 1 := by omega
        have HYO := Lib.hid hyo
        have HZO := Lib.hid hzo
        have XR := Lib.hid (X1.out.to BE.out)
        obtain ⟨⟨ytx, ywho, ytext, yst⟩, YA, yc⟩ := y
        obtain ⟨⟨ztx, zwho, ztext, zst⟩, ZA, zc⟩ := z
        rw [Jp.mk.injEq] at hzp
        obtain ⟨rfl, rfl, rfl, rfl⟩ := hzp
        dsimp only at hy0 hy1 hy2 hy3 hz0 hz1 hz2 hz3 hst2
        obtain ⟨my, hmy⟩ : ∃ my, ztext.length = my := ⟨_, rfl⟩
        have HMY := Lib.hid hmy
        rw [hmy] at hy2 hz2
        have HST2 := Lib.hid hst2
        have HST3 : Hid (yst < 256 ∧ zst < 256) := Lib.hid ⟨HYO.out.fit.st, HZO.out.fit.st⟩
        clear hy hyo hz hzo hmy hst1 hst2
        go_upto_region 8 with fail
        obtain ⟨V, hV⟩ : ∃ V, (wr.alloc (.cells #[.int .u32 (ztx : Int), .int .u8 (zwho : Int), .slice YA my yc, .int .u8 (yst : Int)] 38)).alloc (.cells #[.int .u32 (ztx : Int), .int .u8 (zwho : Int), .slice ZA my zc, .int .u8 (zst : Int)] 38) = V := ⟨_, rfl⟩
        obtain ⟨gy, hgy⟩ : ∃ gy, wr.heap.size = gy := ⟨_, rfl⟩
        obtain ⟨gz, hgz⟩ : ∃ gz, gy + 1 = gz := ⟨_, rfl⟩
        rw [hgy, hgz]
        have RY : Hid (RowAt V gy 38 (jbV ztx zwho YA my yc yst)) := Lib.hid (by rw [← hV, ← hgy]; exact (RowAt.new wr _ _).alloc _)
        have RZ : Hid (RowAt V gz 38 (jbV ztx zwho ZA my zc zst)) := Lib.hid (by rw [← hV]; exact RowAt.new' _ _ _ _ (by simp; omega))
        have bV : Below wr.heap.size wr V := by rw [← hV]; exact bel_alloc (bel_alloc (Below.refl _ _) _) _
        rw [hV]
        have BV := Lib.hid (BE.out.trans (bV.mono BE.out.size))
        have XV := Lib.hid (XR.out.to bV)
        have sA := conv_nums (P := Try.prog) (sq_nums ((HYO.out.sq.below bV).more bV.size)) 29 9 5 yc my Try.underlying29 Try.underlying5 Try.underlying9 HMY.out
        have sB := conv_nums (P := Try.prog) (sq_nums ((HZO.out.sq.below bV).more bV.size)) 29 9 5 zc my Try.underlying29 Try.underlying5 Try.underlying9 HMY.out
        dsimp only at sA sB
        have gs := str_same ztext
        clear hV hgy hgz bV hy0 hy1 hy2 hy3 hz0 hz1 hz2 hz3
        rcases HST2.out with ⟨hD, ht, hst⟩ | ⟨hD, hst⟩
        · subst ht
          have HCN : Hid (cg = 0 ∧ Jp.chg D (k + 1) = 1) := Lib.hid ⟨by rw [HCG.out, hD]; exact (Jp.chg_here k).1, by rw [hD]; exact (Jp.chg_here k).2⟩
          have hcg0 : (cg : Int) + 1 = 1 := by have := HCN.out.1; omega
          clear hD
          rcases hst with ⟨rfl, rfl⟩ | ⟨rfl, rfl⟩ | ⟨rfl, rfl⟩ | ⟨rfl, rfl⟩
          · have ylt : gy < (V).heap.size := RY.out.lt
            have ylu : gy < (V).heap.size + 1 := Nat.lt_succ_of_lt RY.out.lt
            have y0 : (V).cell? ⟨gy, 0, none⟩ = some (.int .u32 (ztx : Int)) := RY.out.cells 0
            have yz0 : (V).frozen? ⟨gy, 0, none⟩ = false := RY.out.frozen 0
            have y1 : (V).cell? ⟨gy, 1, none⟩ = some (.int .u8 (zwho : Int)) := RY.out.cells 1
            have yz1 : (V).frozen? ⟨gy, 1, none⟩ = false := RY.out.frozen 1
            have y2 : (V).cell? ⟨gy, 2, none⟩ = some (.slice YA my yc) := RY.out.cells 2
            have yz2 : (V).frozen? ⟨gy, 2, none⟩ = false := RY.out.frozen 2
            have y3 : (V).cell? ⟨gy, 3, none⟩ = some (.int .u8 _) := RY.out.cells 3
            have yz3 : (V).frozen? ⟨gy, 3, none⟩ = false := RY.out.frozen 3
            have zlt : gz < (V).heap.size := RZ.out.lt
            have zlu : gz < (V).heap.size + 1 := Nat.lt_succ_of_lt RZ.out.lt
            have z0 : (V).cell? ⟨gz, 0, none⟩ = some (.int .u32 (ztx : Int)) := RZ.out.cells 0
            have zz0 : (V).frozen? ⟨gz, 0, none⟩ = false := RZ.out.frozen 0
            have z1 : (V).cell? ⟨gz, 1, none⟩ = some (.int .u8 (zwho : Int)) := RZ.out.cells 1
            have zz1 : (V).frozen? ⟨gz, 1, none⟩ = false := RZ.out.frozen 1
            have z2 : (V).cell? ⟨gz, 2, none⟩ = some (.slice ZA my zc) := RZ.out.cells 2
            have zz2 : (V).frozen? ⟨gz, 2, none⟩ = false := RZ.out.frozen 2
            have z3 : (V).cell? ⟨gz, 3, none⟩ = some (.int .u8 _) := RZ.out.cells 3
            have zz3 : (V).frozen? ⟨gz, 3, none⟩ = false := RZ.out.frozen 3
            have dlt : gx < (V).heap.size := XV.out.lt
            have dlu : gx < (V).heap.size + 1 := Nat.lt_succ_of_lt XV.out.lt
            have d0 : (V).cell? ⟨gx, 0, none⟩ = some (.int .u8 (what : Int)) := XV.out.cells 0
            have dz0 : (V).frozen? ⟨gx, 0, none⟩ = false := XV.out.frozen 0
            have d1 : (V).cell? ⟨gx, 1, none⟩ = some (.int .u32 (ztx : Int)) := XV.out.cells 1
            have dz1 : (V).frozen? ⟨gx, 1, none⟩ = false := XV.out.frozen 1
            have d2 : (V).cell? ⟨gx, 2, none⟩ = some (.int .u8 (who : Int)) := XV.out.cells 2
            have dz2 : (V).frozen? ⟨gx, 2, none⟩ = false := XV.out.frozen 2
            have d3 : (V).cell? ⟨gx, 3, none⟩ = some (.bool yes) := XV.out.cells 3
            have dz3 : (V).frozen? ⟨gx, 3, none⟩ = false := XV.out.frozen 3
            have d4 : (V).cell? ⟨gx, 4, none⟩ = some (.slice XA m xc) := XV.out.cells 4
            have dz4 : (V).frozen? ⟨gx, 4, none⟩ = false := XV.out.frozen 4
            go_wp2
            go_roundw
            case rel => exact ⟨k + 1, by omega, by go_num, 1, by omega, rfl, Lib.hid ⟨HCN.out.2.symm, BV.out⟩⟩
            case measure => simp [intOf]; omega
          · have ylt : gy < (V).heap.size := RY.out.lt
            have ylu : gy < (V).heap.size + 1 := Nat.lt_succ_of_lt RY.out.lt
            have y0 : (V).cell? ⟨gy, 0, none⟩ = some (.int .u32 (ztx : Int)) := RY.out.cells 0
            have yz0 : (V).frozen? ⟨gy, 0, none⟩ = false := RY.out.frozen 0
            have y1 : (V).cell? ⟨gy, 1, none⟩ = some (.int .u8 (zwho : Int)) := RY.out.cells 1
            have yz1 : (V).frozen? ⟨gy, 1, none⟩ = false := RY.out.frozen 1
            have y2 : (V).cell? ⟨gy, 2, none⟩ = some (.slice YA my yc) := RY.out.cells 2
            have yz2 : (V).frozen? ⟨gy, 2, none⟩ = false := RY.out.frozen 2
            have y3 : (V).cell? ⟨gy, 3, none⟩ = some (.int .u8 _) := RY.out.cells 3
            have yz3 : (V).frozen? ⟨gy, 3, none⟩ = false := RY.out.frozen 3
            have zlt : gz < (V).heap.size := RZ.out.lt
            have zlu : gz < (V).heap.size + 1 := Nat.lt_succ_of_lt RZ.out.lt
            have z0 : (V).cell? ⟨gz, 0, none⟩ = some (.int .u32 (ztx : Int)) := RZ.out.cells 0
            have zz0 : (V).frozen? ⟨gz, 0, none⟩ = false := RZ.out.frozen 0
            have z1 : (V).cell? ⟨gz, 1, none⟩ = some (.int .u8 (zwho : Int)) := RZ.out.cells 1
            have zz1 : (V).frozen? ⟨gz, 1, none⟩ = false := RZ.out.frozen 1
            have z2 : (V).cell? ⟨gz, 2, none⟩ = some (.slice ZA my zc) := RZ.out.cells 2
            have zz2 : (V).frozen? ⟨gz, 2, none⟩ = false := RZ.out.frozen 2
            have z3 : (V).cell? ⟨gz, 3, none⟩ = some (.int .u8 _) := RZ.out.cells 3
            have zz3 : (V).frozen? ⟨gz, 3, none⟩ = false := RZ.out.frozen 3
            have dlt : gx < (V).heap.size := XV.out.lt
            have dlu : gx < (V).heap.size + 1 := Nat.lt_succ_of_lt XV.out.lt
            have d0 : (V).cell? ⟨gx, 0, none⟩ = some (.int .u8 (what : Int)) := XV.out.cells 0
            have dz0 : (V).frozen? ⟨gx, 0, none⟩ = false := XV.out.frozen 0
            have d1 : (V).cell? ⟨gx, 1, none⟩ = some (.int .u32 (ztx : Int)) := XV.out.cells 1
            have dz1 : (V).frozen? ⟨gx, 1, none⟩ = false := XV.out.frozen 1
            have d2 : (V).cell? ⟨gx, 2, none⟩ = some (.int .u8 (who : Int)) := XV.out.cells 2
            have dz2 : (V).frozen? ⟨gx, 2, none⟩ = false := XV.out.frozen 2
            have d3 : (V).cell? ⟨gx, 3, none⟩ = some (.bool yes) := XV.out.cells 3
            have dz3 : (V).frozen? ⟨gx, 3, none⟩ = false := XV.out.frozen 3
            have d4 : (V).cell? ⟨gx, 4, none⟩ = some (.slice XA m xc) := XV.out.cells 4
            have dz4 : (V).frozen? ⟨gx, 4, none⟩ = false := XV.out.frozen 4
            go_wp2
            go_roundw
            case rel => exact ⟨k + 1, by omega, by go_num, 1, by omega, rfl, Lib.hid ⟨HCN.out.2.symm, BV.out⟩⟩
            case measure => simp [intOf]; omega
          · have ylt : gy < (V).heap.size := RY.out.lt
            have ylu : gy < (V).heap.size + 1 := Nat.lt_succ_of_lt RY.out.lt
            have y0 : (V).cell? ⟨gy, 0, none⟩ = some (.int .u32 (ztx : Int)) := RY.out.cells 0
            have yz0 : (V).frozen? ⟨gy, 0, none⟩ = false := RY.out.frozen 0
            have y1 : (V).cell? ⟨gy, 1, none⟩ = some (.int .u8 (zwho : Int)) := RY.out.cells 1
            have yz1 : (V).frozen? ⟨gy, 1, none⟩ = false := RY.out.frozen 1
            have y2 : (V).cell? ⟨gy, 2, none⟩ = some (.slice YA my yc) := RY.out.cells 2
            have yz2 : (V).frozen? ⟨gy, 2, none⟩ = false := RY.out.frozen 2
            have y3 : (V).cell? ⟨gy, 3, none⟩ = some (.int .u8 _) := RY.out.cells 3
            have yz3 : (V).frozen? ⟨gy, 3, none⟩ = false := RY.out.frozen 3
            have zlt : gz < (V).heap.size := RZ.out.lt
            have zlu : gz < (V).heap.size + 1 := Nat.lt_succ_of_lt RZ.out.lt
            have z0 : (V).cell? ⟨gz, 0, none⟩ = some (.int .u32 (ztx : Int)) := RZ.out.cells 0
            have zz0 : (V).frozen? ⟨gz, 0, none⟩ = false := RZ.out.frozen 0
            have z1 : (V).cell? ⟨gz, 1, none⟩ = some (.int .u8 (zwho : Int)) := RZ.out.cells 1
            have zz1 : (V).frozen? ⟨gz, 1, none⟩ = false := RZ.out.frozen 1
            have z2 : (V).cell? ⟨gz, 2, none⟩ = some (.slice ZA my zc) := RZ.out.cells 2
            have zz2 : (V).frozen? ⟨gz, 2, none⟩ = false := RZ.out.frozen 2
            have z3 : (V).cell? ⟨gz, 3, none⟩ = some (.int .u8 _) := RZ.out.cells 3
            have zz3 : (V).frozen? ⟨gz, 3, none⟩ = false := RZ.out.frozen 3
            have dlt : gx < (V).heap.size := XV.out.lt
            have dlu : gx < (V).heap.size + 1 := Nat.lt_succ_of_lt XV.out.lt
            have d0 : (V).cell? ⟨gx, 0, none⟩ = some (.int .u8 (what : Int)) := XV.out.cells 0
            have dz0 : (V).frozen? ⟨gx, 0, none⟩ = false := XV.out.frozen 0
            have d1 : (V).cell? ⟨gx, 1, none⟩ = some (.int .u32 (ztx : Int)) := XV.out.cells 1
            have dz1 : (V).frozen? ⟨gx, 1, none⟩ = false := XV.out.frozen 1
            have d2 : (V).cell? ⟨gx, 2, none⟩ = some (.int .u8 (who : Int)) := XV.out.cells 2
            have dz2 : (V).frozen? ⟨gx, 2, none⟩ = false := XV.out.frozen 2
            have d3 : (V).cell? ⟨gx, 3, none⟩ = some (.bool yes) := XV.out.cells 3
            have dz3 : (V).frozen? ⟨gx, 3, none⟩ = false := XV.out.frozen 3
            have d4 : (V).cell? ⟨gx, 4, none⟩ = some (.slice XA m xc) := XV.out.cells 4
            have dz4 : (V).frozen? ⟨gx, 4, none⟩ = false := XV.out.frozen 4
            go_wp2
            go_roundw
            case rel => exact ⟨k + 1, by omega, by go_num, 1, by omega, rfl, Lib.hid ⟨HCN.out.2.symm, BV.out⟩⟩
            case measure => simp [intOf]; omega
          · have ylt : gy < (V).heap.size := RY.out.lt
            have ylu : gy < (V).heap.size + 1 := Nat.lt_succ_of_lt RY.out.lt
            have y0 : (V).cell? ⟨gy, 0, none⟩ = some (.int .u32 (ztx : Int)) := RY.out.cells 0
            have yz0 : (V).frozen? ⟨gy, 0, none⟩ = false := RY.out.frozen 0
            have y1 : (V).cell? ⟨gy, 1, none⟩ = some (.int .u8 (zwho : Int)) := RY.out.cells 1
            have yz1 : (V).frozen? ⟨gy, 1, none⟩ = false := RY.out.frozen 1
            have y2 : (V).cell? ⟨gy, 2, none⟩ = some (.slice YA my yc) := RY.out.cells 2
            have yz2 : (V).frozen? ⟨gy, 2, none⟩ = false := RY.out.frozen 2
            have y3 : (V).cell? ⟨gy, 3, none⟩ = some (.int .u8 _) := RY.out.cells 3
            have yz3 : (V).frozen? ⟨gy, 3, none⟩ = false := RY.out.frozen 3
            have zlt : gz < (V).heap.size := RZ.out.lt
            have zlu : gz < (V).heap.size + 1 := Nat.lt_succ_of_lt RZ.out.lt
            have z0 : (V).cell? ⟨gz, 0, none⟩ = some (.int .u32 (ztx : Int)) := RZ.out.cells 0
            have zz0 : (V).frozen? ⟨gz, 0, none⟩ = false := RZ.out.frozen 0
            have z1 : (V).cell? ⟨gz, 1, none⟩ = some (.int .u8 (zwho : Int)) := RZ.out.cells 1
            have zz1 : (V).frozen? ⟨gz, 1, none⟩ = false := RZ.out.frozen 1
            have z2 : (V).cell? ⟨gz, 2, none⟩ = some (.slice ZA my zc) := RZ.out.cells 2
            have zz2 : (V).frozen? ⟨gz, 2, none⟩ = false := RZ.out.frozen 2
            have z3 : (V).cell? ⟨gz, 3, none⟩ = some (.int .u8 _) := RZ.out.cells 3
            have zz3 : (V).frozen? ⟨gz, 3, none⟩ = false := RZ.out.frozen 3
            have dlt : gx < (V).heap.size := XV.out.lt
            have dlu : gx < (V).heap.size + 1 := Nat.lt_succ_of_lt XV.out.lt
            have d0 : (V).cell? ⟨gx, 0, none⟩ = some (.int .u8 (what : Int)) := XV.out.cells 0
            have dz0 : (V).frozen? ⟨gx, 0, none⟩ = false := XV.out.frozen 0
            have d1 : (V).cell? ⟨gx, 1, none⟩ = some (.int .u32 (ztx : Int)) := XV.out.cells 1
            have dz1 : (V).frozen? ⟨gx, 1, none⟩ = false := XV.out.frozen 1
            have d2 : (V).cell? ⟨gx, 2, none⟩ = some (.int .u8 (who : Int)) := XV.out.cells 2
            have dz2 : (V).frozen? ⟨gx, 2, none⟩ = false := XV.out.frozen 2
            have d3 : (V).cell? ⟨gx, 3, none⟩ = some (.bool yes) := XV.out.cells 3
            have dz3 : (V).frozen? ⟨gx, 3, none⟩ = false := XV.out.frozen 3
            have d4 : (V).cell? ⟨gx, 4, none⟩ = some (.slice XA m xc) := XV.out.cells 4
            have dz4 : (V).frozen? ⟨gx, 4, none⟩ = false := XV.out.frozen 4
            go_wp2
            go_roundw
            case rel => exact ⟨k + 1, by omega, by go_num, 1, by omega, rfl, Lib.hid ⟨HCN.out.2.symm, BV.out⟩⟩
            case measure => simp [intOf]; omega
        · subst hst
          have HCN : Hid (Jp.chg D (k + 1) = cg) := Lib.hid (by rw [Jp.chg_other hD, HCG.out])
          clear hD
          have ylt : gy < (V).heap.size := RY.out.lt
          have ylu : gy < (V).heap.size + 1 := Nat.lt_succ_of_lt RY.out.lt
          have y0 : (V).cell? ⟨gy, 0, none⟩ = some (.int .u32 (ztx : Int)) := RY.out.cells 0
          have yz0 : (V).frozen? ⟨gy, 0, none⟩ = false := RY.out.frozen 0
          have y1 : (V).cell? ⟨gy, 1, none⟩ = some (.int .u8 (zwho : Int)) := RY.out.cells 1
          have yz1 : (V).frozen? ⟨gy, 1, none⟩ = false := RY.out.frozen 1
          have y2 : (V).cell? ⟨gy, 2, none⟩ = some (.slice YA my yc) := RY.out.cells 2
          have yz2 : (V).frozen? ⟨gy, 2, none⟩ = false := RY.out.frozen 2
          have y3 : (V).cell? ⟨gy, 3, none⟩ = some (.int .u8 _) := RY.out.cells 3
          have yz3 : (V).frozen? ⟨gy, 3, none⟩ = false := RY.out.frozen 3
          have zlt : gz < (V).heap.size := RZ.out.lt
          have zlu : gz < (V).heap.size + 1 := Nat.lt_succ_of_lt RZ.out.lt
          have z0 : (V).cell? ⟨gz, 0, none⟩ = some (.int .u32 (ztx : Int)) := RZ.out.cells 0
          have zz0 : (V).frozen? ⟨gz, 0, none⟩ = false := RZ.out.frozen 0
          have z1 : (V).cell? ⟨gz, 1, none⟩ = some (.int .u8 (zwho : Int)) := RZ.out.cells 1
          have zz1 : (V).frozen? ⟨gz, 1, none⟩ = false := RZ.out.frozen 1
          have z2 : (V).cell? ⟨gz, 2, none⟩ = some (.slice ZA my zc) := RZ.out.cells 2
          have zz2 : (V).frozen? ⟨gz, 2, none⟩ = false := RZ.out.frozen 2
          have z3 : (V).cell? ⟨gz, 3, none⟩ = some (.int .u8 _) := RZ.out.cells 3
          have zz3 : (V).frozen? ⟨gz, 3, none⟩ = false := RZ.out.frozen 3
          go_wp2
          go_roundw
          case rel => exact ⟨k + 1, by omega, by go_num, cg, by omega, rfl, Lib.hid ⟨HCN.out.symm, BV.out⟩⟩
          case measure => simp [intOf]; omega
      · obtain rfl : k = n2 := by omega
        have X9 := Lib.hid (X1.out.to BE.out)
        have B9 : Hid (Below w.heap.size w wr) := Lib.hid (B1.out.trans (BE.out.mono B1.out.size))
        have dlt : gx < (wr).heap.size := X9.out.lt
        have dlu : gx < (wr).heap.size + 1 := Nat.lt_succ_of_lt X9.out.lt
        have d0 : (wr).cell? ⟨gx, 0, none⟩ = some (.int .u8 (what : Int)) := X9.out.cells 0
        have dz0 : (wr).frozen? ⟨gx, 0, none⟩ = false := X9.out.frozen 0
        have d1 : (wr).cell? ⟨gx, 1, none⟩ = some (.int .u32 (tx : Int)) := X9.out.cells 1
        have dz1 : (wr).frozen? ⟨gx, 1, none⟩ = false := X9.out.frozen 1
        have d2 : (wr).cell? ⟨gx, 2, none⟩ = some (.int .u8 (who : Int)) := X9.out.cells 2
        have dz2 : (wr).frozen? ⟨gx, 2, none⟩ = false := X9.out.frozen 2
        have d3 : (wr).cell? ⟨gx, 3, none⟩ = some (.bool yes) := X9.out.cells 3
        have dz3 : (wr).frozen? ⟨gx, 3, none⟩ = false := X9.out.frozen 3
        have d4 : (wr).cell? ⟨gx, 4, none⟩ = some (.slice XA m xc) := X9.out.cells 4
        have dz4 : (wr).frozen? ⟨gx, 4, none⟩ = false := X9.out.frozen 4
        obtain rfl : cg = 1 := by rw [HCG.out]; exact HD.out
        have BX := B9
        go_wp2
        go_ret
        exact ⟨rfl, BX.out⟩
set_option maxRecDepth 100000 in
set_option maxHeartbeats 2000000 in
theorem fitting_forward (A : Option Addr) (n c : Nat) (l : List Rc) (w : World) (hR : Rcs w w.heap.size A l) (hln : l.length = n) (hn : n ≤ 80) (hsh : ∀ y ∈ l, y.p.text.length ≤ 300) :
    Calls Try.prog 10 #[.slice A n c, .func (.func 14) #[] #[]] w (FitP l w) := by
  have hf := each_forward
  obtain ⟨iR, hifR, hr0, hr1, hr2⟩ := info_parts info_record
  have HR := Lib.hid hR
  have HLN := Lib.hid hln
  have HSH := Lib.hid hsh
  have HF := Lib.hid hf
  clear hR hln hsh hf
  go_enter Try.func10, Try.ntmps10
  go_wp2
  go_loopw [7, 8, 15] (fun vo vj i wr => ∃ (k : Nat) (A1 : Option Addr) (n1 c1 : Nat) (A2 : Option Addr) (n2 c2 : Nat) (fl : List Rc) (jl : List Jb), k ≤ n ∧ n1 ≤ k ∧ n2 ≤ k ∧ vo = .slice A1 n1 c1 ∧ vj = .slice A2 n2 c2 ∧ i = .int .i64 k ∧ Hid (fl.length = n1 ∧ (fl.map Rc.p, jps jl) = Jp.fits ((l.map Rc.p).take k) ∧ wr.ownsRow w.heap.size 31 5 (.slice A1 n1 c1) n1 (fl.flatMap recK.f) ∧ JL wr w.heap.size A2 n2 c2 jl ∧ (∀ x ∈ fl, x ∈ l) ∧ Below w.heap.size w wr)) (fun _ _ i _ => n - (intOf i).toNat)
  case atStart => exact ⟨0, none, 0, 0, none, 0, 0, [], [], by omega, by omega, by omega, rfl, rfl, rfl, Lib.hid ⟨rfl, rfl, by simpa using World.ownsRow_nil w w.heap.size 31 5, JL.nil _ _, by simp, Below.refl _ _⟩⟩
  case round =>
    rename World => wr
    obtain ⟨k, A1, n1, c1, A2, n2, c2, fl, jl, hk, hn1, hn2, rfl, rfl, rfl, hh⟩ := hrel
    have HFL := Lib.hid hh.out.1
    have HFS := Lib.hid hh.out.2.1
    have OW := Lib.hid hh.out.2.2.1
    have JA := Lib.hid hh.out.2.2.2.1
    have HSB := Lib.hid hh.out.2.2.2.2.1
    have BE := Lib.hid hh.out.2.2.2.2.2
    have HRT : Hid (Jp.Rt (jps jl)) := Lib.hid (by have h := Jp.fits_rt ((l.map Rc.p).take k); rw [← HFS.out] at h; exact h)
    have HST : Hid (Jp.Sorted (jps jl)) := Lib.hid (And.left (show _ ∧ _ from HRT.out))
    clear hh
    by_cases hlt : k < n
    · obtain ⟨g1, o1, x, rfl, hg1, hx, hxo, hx0, hx1, hx2, hx3, hx4⟩ := (HR.out.to BE.out).at_ (k := k) (by rw [HLN.out]; exact hlt)
      have hltI : (k : Int) < (n : Int) := by omega
      have h0I : (0 : Int) ≤ (k : Int) := by omega
      have HX : Hid ((l.map Rc.p)[k]? = some x.p) := Lib.hid (by rw [List.getElem?_map, hx]; rfl)
      have HXM : Hid (x ∈ l) := Lib.hid (List.mem_of_getElem? hx)
      have HXT : Hid (x.p.text.length ≤ 300) := Lib.hid (HSH.out x (List.mem_of_getElem? hx))
      have HXO := Lib.hid hxo
      obtain ⟨⟨what, tx, who, yes, text⟩, XA, xc⟩ := x
      dsimp only at hx0 hx1 hx2 hx3 hx4 HXT HX
      obtain ⟨m, hm⟩ : ∃ m, text.length = m := ⟨_, rfl⟩
      have HM := Lib.hid hm
      rw [hm] at hx4 HXT
      clear hx hxo hm
      go_upto_region 6 with fail
      obtain ⟨V, hV⟩ : ∃ V, wr.alloc (.cells #[.int .u8 (what : Int), .int .u32 (tx : Int), .int .u8 (who : Int), .bool yes, .slice XA m xc] 31) = V := ⟨_, rfl⟩
      obtain ⟨gv, hgv⟩ : ∃ gv, wr.heap.size = gv := ⟨_, rfl⟩
      have RV : Hid (RowAt V gv 31 (rcV what tx who yes XA m xc)) := Lib.hid (by rw [← hV, ← hgv]; exact RowAt.new _ _ _)
      have bV : Below wr.heap.size wr V := by rw [← hV]; exact bel_alloc (Below.refl _ _) _
      rw [hV]
      have JV := Lib.hid (JA.out.to bV)
      have OV := Lib.hid (own_below OW.out bV)
      have BV : Hid (Below w.heap.size w V) := Lib.hid (BE.out.trans (bV.mono BE.out.size))
      have XV : Hid (RcOk V V.heap.size ⟨⟨what, tx, who, yes, text⟩, XA, xc⟩) := Lib.hid ((HXO.out.below bV).more bV.size)
      have HNL2 : Hid (XA = none → xc = 0) := Lib.hid (And.left (show _ ∧ _ from HXO.out.nl))
      rw [hgv]
      clear hV hgv bV hx0 hx1 hx2 hx3 hx4
      have hshj : Hid (∀ y ∈ jl, y.p.text.length ≤ 1000000) := Lib.hid (fun y hy => by have := ((And.right (show _ ∧ _ from HRT.out)) y.p (List.mem_map_of_mem hy)).2.2.1; omega)
      have dlt : gv < (V).heap.size := RV.out.lt
      have dlu : gv < (V).heap.size + 1 := Nat.lt_succ_of_lt RV.out.lt
      have d0 : (V).cell? ⟨gv, 0, none⟩ = some (.int .u8 (what : Int)) := RV.out.cells 0
      have dz0 : (V).frozen? ⟨gv, 0, none⟩ = false := RV.out.frozen 0
      have d1 : (V).cell? ⟨gv, 1, none⟩ = some (.int .u32 (tx : Int)) := RV.out.cells 1
      have dz1 : (V).frozen? ⟨gv, 1, none⟩ = false := RV.out.frozen 1
      have d2 : (V).cell? ⟨gv, 2, none⟩ = some (.int .u8 (who : Int)) := RV.out.cells 2
      have dz2 : (V).frozen? ⟨gv, 2, none⟩ = false := RV.out.frozen 2
      have d3 : (V).cell? ⟨gv, 3, none⟩ = some (.bool yes) := RV.out.cells 3
      have dz3 : (V).frozen? ⟨gv, 3, none⟩ = false := RV.out.frozen 3
      have d4 : (V).cell? ⟨gv, 4, none⟩ = some (.slice XA m xc) := RV.out.cells 4
      have dz4 : (V).frozen? ⟨gv, 4, none⟩ = false := RV.out.frozen 4
      go_wp2_with fail
      (with_reducible refine (jadd_any A2 n2 c2 jl what tx who yes text XA m xc V JV.out.jbs JV.out.len HM.out XV.out.sq XV.out.fit HNL2.out HST.out (by omega) (by have := HXT.out; omega) hshj.out).mono ?_)
      intro e w4 h4
      obtain ⟨A4, n4, c4, b, rfl, b4, H4⟩ := h4.form
      have J4 := Lib.hid (JV.out.to b4)
      have O4 := Lib.hid (own_below OV.out b4)
      have B4 : Hid (Below w.heap.size w w4) := Lib.hid (BV.out.trans (b4.mono BV.out.size))
      have R4 := Lib.hid (RV.out.to b4)
      have X4 : Hid (RcOk w4 w4.heap.size ⟨⟨what, tx, who, yes, text⟩, XA, xc⟩) := Lib.hid ((XV.out.below b4).more b4.size)
      have HBV : Hid (w.heap.size ≤ V.heap.size) := Lib.hid BV.out.size
      clear h4 b4 d0 d1 d2 d3 d4 dz0 dz1 dz2 dz3 dz4 dlt dlu JV OV BV RV XV
      rcases H4.out with ⟨hno, rfl, rfl, rfl, rfl⟩ | ⟨rfl, jl4, hyes, hJ4⟩
      · have HNO : Hid (Jp.fits ((l.map Rc.p).take (k + 1)) = (fl.map Rc.p, jps jl)) := Lib.hid (by rw [Jp.fits_snoc HX.out, ← HFS.out]; unfold Jp.fitStep; simp only; rw [hno])
        clear hno
        go_wp2
        go_roundw
        case rel => exact ⟨k + 1, A1, n1, c1, A2, n2, c2, fl, jl, by omega, by omega, by omega, rfl, rfl, by go_num, Lib.hid ⟨HFL.out, HNO.out.symm, O4.out, J4.out, HSB.out, B4.out⟩⟩
        case measure => simp [intOf]; omega
      · have HYES : Hid (Jp.fits ((l.map Rc.p).take (k + 1)) = (fl.map Rc.p ++ [⟨what, tx, who, yes, text⟩], jps jl4)) := Lib.hid (by rw [Jp.fits_snoc HX.out, ← HFS.out]; unfold Jp.fitStep; simp only; rw [hyes])
        have HP := Lib.hid hyes
        have JN : Hid (JL w4 w.heap.size A4 n4 c4 jl4) := Lib.hid (hJ4.base_le HBV.out)
        have hn4 : n4 ≤ k + 1 := by have h1 := Jp.put_length hyes; rw [jps, jps, List.length_map, List.length_map, hJ4.len, JA.out.len] at h1; omega
        clear hyes hJ4
        have dlt : gv < (w4).heap.size := R4.out.lt
        have dlu : gv < (w4).heap.size + 1 := Nat.lt_succ_of_lt R4.out.lt
        have d0 : (w4).cell? ⟨gv, 0, none⟩ = some (.int .u8 (what : Int)) := R4.out.cells 0
        have dz0 : (w4).frozen? ⟨gv, 0, none⟩ = false := R4.out.frozen 0
        have d1 : (w4).cell? ⟨gv, 1, none⟩ = some (.int .u32 (tx : Int)) := R4.out.cells 1
        have dz1 : (w4).frozen? ⟨gv, 1, none⟩ = false := R4.out.frozen 1
        have d2 : (w4).cell? ⟨gv, 2, none⟩ = some (.int .u8 (who : Int)) := R4.out.cells 2
        have dz2 : (w4).frozen? ⟨gv, 2, none⟩ = false := R4.out.frozen 2
        have d3 : (w4).cell? ⟨gv, 3, none⟩ = some (.bool yes) := R4.out.cells 3
        have dz3 : (w4).frozen? ⟨gv, 3, none⟩ = false := R4.out.frozen 3
        have d4 : (w4).cell? ⟨gv, 4, none⟩ = some (.slice XA m xc) := R4.out.cells 4
        have dz4 : (w4).frozen? ⟨gv, 4, none⟩ = false := R4.out.frozen 4
        go_wp2_with fail
        (with_reducible refine (HF.out A2 n2 c2 jl A4 n4 c4 jl4 what tx who yes text XA m xc w4 J4.out.jbs J4.out.len JN.out.jbs JN.out.len X4.out HM.out (by omega) HRT.out HP.out).mono ?_)
        rintro e w5 ⟨rfl, b5⟩
        have J5 := Lib.hid (JN.out.to b5)
        have O5 := Lib.hid (own_below O4.out b5)
        have B5 : Hid (Below w.heap.size w w5) := Lib.hid (B4.out.trans (b5.mono B4.out.size))
        have R5 := Lib.hid (R4.out.to b5)
        clear b5 d0 d1 d2 d3 d4 dz0 dz1 dz2 dz3 dz4 dlt dlu R4 X4
        have dlt : gv < (w5).heap.size := R5.out.lt
        have dlu : gv < (w5).heap.size + 1 := Nat.lt_succ_of_lt R5.out.lt
        have d0 : (w5).cell? ⟨gv, 0, none⟩ = some (.int .u8 (what : Int)) := R5.out.cells 0
        have dz0 : (w5).frozen? ⟨gv, 0, none⟩ = false := R5.out.frozen 0
        have d1 : (w5).cell? ⟨gv, 1, none⟩ = some (.int .u32 (tx : Int)) := R5.out.cells 1
        have dz1 : (w5).frozen? ⟨gv, 1, none⟩ = false := R5.out.frozen 1
        have d2 : (w5).cell? ⟨gv, 2, none⟩ = some (.int .u8 (who : Int)) := R5.out.cells 2
        have dz2 : (w5).frozen? ⟨gv, 2, none⟩ = false := R5.out.frozen 2
        have d3 : (w5).cell? ⟨gv, 3, none⟩ = some (.bool yes) := R5.out.cells 3
        have dz3 : (w5).frozen? ⟨gv, 3, none⟩ = false := R5.out.frozen 3
        have d4 : (w5).cell? ⟨gv, 4, none⟩ = some (.slice XA m xc) := R5.out.cells 4
        have dz4 : (w5).frozen? ⟨gv, 4, none⟩ = false := R5.out.frozen 4
        have hbz : w.heap.size ≤ w5.heap.size := B5.out.size
        go_wp2_with (at_builtin; (refine wpList_append_rn (f := recK.f) (s := 5) _ rfl (.tmp 40) (.tmp 42) 22 rfl recK_fine.hf (by decide) recK_fine.one w.heap.size 31 iR _ _ Try.underlying22 hifR hr0 hr1 hr2 (by decide) rfl A1 c1 n1 fl rfl HFL.out (own_below O5.out (bel_alloc (Below.refl _ _) _)) (w5.heap.size + 1) _ [⟨⟨what, tx, who, yes, text⟩, XA, xc⟩] 1 1 rfl rfl (Recs.lits (f := recK.f) (s := 5) recK_fine.hf (by decide) _ _ _ _ _ _ (by simp [HM.out]) (by simp) (by simp)) (by simp) (n1 + 1) rfl (by omega) (by simp; omega) ?_); intro A6 c6 w6 o6 g6 b6; have O6 := Lib.hid o6; have b7 : Below w.heap.size w5 w6 := ((Below.refl w.heap.size w5).alloc hbz _).trans b6; have B6 : Hid (Below w.heap.size w w6) := Lib.hid (B5.out.trans b7); have J6 : Hid (JL w6 w.heap.size A4 n4 c4 jl4) := Lib.hid ((J5.out.to (bel_alloc (Below.refl _ _) _)).grown (own_below O5.out (bel_alloc (Below.refl _ _) _)) g6); clear o6 g6 b6 b7)
        have HFL6 : Hid ((fl ++ [(⟨⟨what, tx, who, yes, text⟩, XA, xc⟩ : Rc)]).length = n1 + 1) := Lib.hid (by rw [List.length_append, HFL.out]; rfl)
        have HS6 : Hid (∀ x ∈ fl ++ [(⟨⟨what, tx, who, yes, text⟩, XA, xc⟩ : Rc)], x ∈ l) := Lib.hid (by
          intro y hy
          rcases List.mem_append.1 hy with hy | hy
          · exact HSB.out y hy
          · obtain rfl := List.mem_singleton.1 hy; exact HXM.out)
        go_wp2
        go_roundw
        case rel => exact ⟨k + 1, A6, n1 + 1, c6, A4, n4, c4, fl ++ [⟨⟨what, tx, who, yes, text⟩, XA, xc⟩], jl4, by omega, by omega, by omega, rfl, rfl, by go_num, Lib.hid ⟨HFL6.out, by rw [HYES.out, List.map_append]; rfl, O6.out, J6.out, HS6.out, B6.out⟩⟩
        case measure => simp [intOf]; omega
    · obtain rfl : k = n := by omega
      have HFS2 : Hid ((fl.map Rc.p, jps jl) = Jp.fits (l.map Rc.p)) := Lib.hid (by have h := HFS.out; rwa [List.take_of_length_le (by rw [List.length_map, HLN.out]; exact Nat.le_refl _)] at h)
      have RF : Hid (Rcs wr wr.heap.size A1 fl) := Lib.hid ⟨Recs.of_own recK_fine.hf (by decide) OW.out, fun b hb => ((HR.out.ok b (HSB.out b hb)).below BE.out).more BE.out.size⟩
      go_wp2
      refine bodyPost_ret (v := .tuple #[.slice A1 n1 c1, .slice A2 n2 c2, .bool true]) (by simp [results, Try.results10, go_sem]) rfl ⟨A1, n1, c1, A2, n2, c2, fl, jl, rfl, BE.out, Lib.hid ⟨HFL.out, by rw [← HFS2.out], by rw [← HFS2.out], RF.out, JA.out, by rw [HLN.out]; exact hn1, by rw [HLN.out]; exact hn2, HSB.out, own_slice OW.out⟩⟩
set_option maxRecDepth 100000 in
set_option maxHeartbeats 1000000 in
theorem ledgerForward_any (A : Option Addr) (l : List Rc) (cl nl : Nat) (w : World) (hnl : l.length = nl) (hl : Rcs w w.heap.size A l) :
    Calls Try.prog 4 #[.slice A nl cl] w fun e w' => e = .returned (.bool true) ∧ Below w.heap.size w w' := by
  have HL := Lib.hid hl
  have HNL := Lib.hid hnl
  clear hl hnl
  go_enter Try.func4, Try.ntmps4
  go_wp2_with fail
  refine (light_any A none l [] cl 0 nl 0 w HNL.out rfl HL.out Jbs.nil).mono ?_
  rintro e w1 ⟨r1, rfl, b1, h1⟩
  have B1 := Lib.hid b1
  clear b1
  cases r1
  · have BX := B1
    go_wp2_with fail
    refine (awake_any _).mono ?_
    rintro e w9 ⟨rfl, b9⟩
    have B9 := Lib.hid (BX.out.trans (b9.mono BX.out.size))
    clear b9
    go_wp2
    go_ret
    exact ⟨rfl, B9.out⟩
  have LT1 := Lib.hid (h1.out rfl)
  have h80l : nl ≤ 80 := by rw [← HNL.out]; exact LT1.out.ln
  clear h1
  go_wp2_with fail
  refine (fitting_forward A nl cl l w1 (HL.out.to B1.out) HNL.out h80l LT1.out.lt).mono ?_
  intro e w2 h2
  obtain ⟨A2, n2, c2, A3, n3, c3, fl, jl, rfl, b2, h2⟩ := h2
  have BX := Lib.hid (B1.out.trans (b2.mono B1.out.size))
  clear b2 h2
  go_wp2_with fail
  refine (awake_any _).mono ?_
  rintro e w9 ⟨rfl, b9⟩
  have B9 := Lib.hid (BX.out.trans (b9.mono BX.out.size))
  clear b9
  go_wp2
  go_ret
  exact ⟨rfl, B9.out⟩
end Go.Proofs.Ytegmeodmjaijnaa
