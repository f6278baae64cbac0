/- Layer 23: light, awake. -/
import Derived.Test.YtegmeodmjaijnaaLgRef2
import Derived.Test.YtegmeodmjaijnaaNvSame
import Derived.Lib.SlBytesConst
namespace Go.Proofs.Ytegmeodmjaijnaa
open Go.RowKit
set_option linter.unusedVariables false
set_option linter.unusedSimpArgs false
attribute [local go_sem] Later.cell Later.frozen setCell_twice
structure LightOk (l : List Rc) (j : List Jb) : Prop where
  ln : l.length ≤ 80
  jn : j.length ≤ 80
  lt : ∀ x ∈ l, x.p.text.length ≤ 300
  jt : ∀ x ∈ j, x.p.text.length ≤ 300
def LightP (l : List Rc) (j : List Jb) (w : World) (e : Ending) (w' : World) : Prop := ∃ r, e = .returned (.bool r) ∧ Below w.heap.size w w' ∧ Hid (r = true → LightOk l j)
theorem LightP.no {l : List Rc} {j : List Jb} {w w' : World} (hb : Below w.heap.size w w') : LightP l j w (.returned (.bool false)) w' := ⟨false, rfl, hb, Lib.hid (fun h => by cases h)⟩
set_option maxRecDepth 100000 in
set_option maxHeartbeats 1000000 in
theorem light_any (A B : Option Addr) (l : List Rc) (j : List Jb) (cl cj nl nj : Nat) (w : World) (hnl : l.length = nl) (hnj : j.length = nj) (hl : Rcs w w.heap.size A l) (hj : Jbs w w.heap.size B j) :
    Calls Try.prog 8 #[.slice A nl cl, .slice B nj cj] w (LightP l j w) := by
  have HL := Lib.hid hl
  have HJ := Lib.hid hj
  have HNL := Lib.hid hnl
  have HNJ := Lib.hid hnj
  clear hl hj hnl hnj
  by_cases h1 : 80 < nl
  · have h1I : (80 : Int) < (nl : Int) := by omega
    go_enter Try.func8, Try.ntmps8
    go_wp2
    go_ret
    exact LightP.no (Below.refl _ _)
  by_cases h2 : 80 < nj
  · have h1I : ¬ (80 : Int) < (nl : Int) := by omega
    have h2I : (80 : Int) < (nj : Int) := by omega
    go_enter Try.func8, Try.ntmps8
    go_wp2
    go_ret
    exact LightP.no (Below.refl _ _)
  have h1I : ¬ (80 : Int) < (nl : Int) := by omega
  have h2I : ¬ (80 : Int) < (nj : Int) := by omega
  go_enter Try.func8, Try.ntmps8
  go_wp2
  go_loopw [19] (fun i wr => ∃ k : Nat, k ≤ nl ∧ i = .int .i64 (k : Int) ∧ Hid (∀ x ∈ l.take k, x.p.text.length ≤ 300) ∧ Below w.heap.size w wr) (fun i _ => nl - (intOf i).toNat)
  case atStart => exact ⟨0, by omega, rfl, Lib.hid (by simp), Below.refl _ _⟩
  case round =>
    rename World => wr
    obtain ⟨k, hk, rfl, hh, hbe⟩ := hrel
    have BE := Lib.hid hbe
    by_cases hlt : k < nl
    · obtain ⟨g1, o1, x, rfl, hg1, hx, hxo, hx0, hx1, hx2, hx3, hx4⟩ := (HL.out.to BE.out).at_ (k := k) (by rw [HNL.out]; exact hlt)
      have hltI : (k : Int) < (nl : Int) := by omega
      have h0I : (0 : Int) ≤ (k : Int) := by omega
      have HX : Hid (l.take (k + 1) = l.take k ++ [x]) := Lib.hid (by rw [List.take_add_one, hx]; rfl)
      obtain ⟨⟨what, tx, who, yes, text⟩, XA, xc⟩ := x
      dsimp only at hx0 hx1 hx2 hx3 hx4
      obtain ⟨m, hm⟩ : ∃ m, text.length = m := ⟨_, rfl⟩
      have HM := Lib.hid hm
      rw [hm] at hx4
      clear hx hxo hm hbe
      by_cases h3 : 300 < m
      · have h3I : (300 : Int) < (m : Int) := by omega
        go_wp2
        go_ret
        exact LightP.no (bel_alloc BE.out _)
      · have h3I : ¬ (300 : Int) < (m : Int) := by omega
        go_wp2
        go_roundw
        case rel => exact ⟨k + 1, by omega, by go_num, Lib.hid (by
          rw [HX.out]
          intro y hy
          rcases List.mem_append.1 hy with hy | hy
          · exact hh.out y hy
          · obtain rfl := List.mem_singleton.1 hy
            have := HM.out
            dsimp only
            omega), bel_alloc BE.out _⟩
        case measure => simp [intOf]; omega
    · obtain rfl : k = nl := by omega
      have HLT : Hid (∀ x ∈ l, x.p.text.length ≤ 300) := Lib.hid (by have h := hh.out; rwa [List.take_of_length_le (by rw [HNL.out]; exact Nat.le_refl _)] at h)
      obtain ⟨W1, hW1⟩ : ∃ W1, W1 = wr := ⟨_, rfl⟩
      clear hh hbe hlt
      go_wp2
      go_loopw [30] (fun i wr' => ∃ q : Nat, q ≤ nj ∧ i = .int .i64 (q : Int) ∧ Hid (∀ x ∈ j.take q, x.p.text.length ≤ 300) ∧ Below w.heap.size w wr') (fun i _ => nj - (intOf i).toNat)
      case atStart => exact ⟨0, by omega, rfl, Lib.hid (by simp), BE.out⟩
      case round =>
        rename World => wq
        obtain ⟨q, hq, rfl, hh, hbe⟩ := hrel
        have BQ := Lib.hid hbe
        by_cases hlt : q < nj
        · obtain ⟨g1, o1, x, rfl, hg1, hx, hxo, hx0, hx1, hx2, hx3⟩ := (HJ.out.to BQ.out).at_ (k := q) (by rw [HNJ.out]; exact hlt)
          have hltI : (q : Int) < (nj : Int) := by omega
          have h0I : (0 : Int) ≤ (q : Int) := by omega
          have HX : Hid (j.take (q + 1) = j.take q ++ [x]) := Lib.hid (by rw [List.take_add_one, hx]; rfl)
          obtain ⟨⟨tx, who, text, st⟩, XA, xc⟩ := x
          dsimp only at hx0 hx1 hx2 hx3
          obtain ⟨m, hm⟩ : ∃ m, text.length = m := ⟨_, rfl⟩
          have HM := Lib.hid hm
          rw [hm] at hx2
          clear hx hxo hm hbe
          by_cases h3 : 300 < m
          · have h3I : (300 : Int) < (m : Int) := by omega
            go_wp2
            go_ret
            exact LightP.no (bel_alloc BQ.out _)
          · have h3I : ¬ (300 : Int) < (m : Int) := by omega
            go_wp2
            go_roundw
            case rel => exact ⟨q + 1, by omega, by go_num, Lib.hid (by
              rw [HX.out]
              intro y hy
              rcases List.mem_append.1 hy with hy | hy
              · exact hh.out y hy
              · obtain rfl := List.mem_singleton.1 hy
                have := HM.out
                dsimp only
                omega), bel_alloc BQ.out _⟩
            case measure => simp [intOf]; omega
        · obtain rfl : q = nj := by omega
          have HJT : Hid (∀ x ∈ j, x.p.text.length ≤ 300) := Lib.hid (by have h := hh.out; rwa [List.take_of_length_le (by rw [HNJ.out]; exact Nat.le_refl _)] at h)
          go_wp2
          go_ret
          exact ⟨true, rfl, BQ.out, Lib.hid (fun _ => ⟨by rw [HNL.out]; omega, by rw [HNJ.out]; omega, HLT.out, HJT.out⟩)⟩
theorem LgP.form {base : Nat} {o : Option (List Jp)} {w w' : World} {e : Ending} (h : LgP base o w e w') : ∃ A n c b, e = .returned (.tuple #[.slice A n c, .int .i64 b]) ∧ Below base w w' ∧ Hid ((o = none ∧ b = 230 ∧ A = none ∧ n = 0 ∧ c = 0) ∨ (b = 0 ∧ ∃ jl, o = some (jps jl) ∧ JL w' base A n c jl)) := by
  obtain ⟨hb, h | ⟨L, A, n, c, jl, h1, rfl, rfl, hJ⟩⟩ := h
  · exact ⟨none, 0, 0, 230, h.2, hb, Lib.hid (.inl ⟨h.1, rfl, rfl, rfl, rfl⟩)⟩
  · exact ⟨A, n, c, 0, rfl, hb, Lib.hid (.inr ⟨rfl, jl, h1, hJ⟩)⟩
/-- what is known of a ledger that Make is known to make -/
theorem LgP.yes_form {base : Nat} {o : Option (List Jp)} {L : List Jp} {w w' : World} {e : Ending} (h : LgP base o w e w') (ho : o = some L) : ∃ A n c jl, e = .returned (.tuple #[.slice A n c, .int .i64 0]) ∧ Below base w w' ∧ jps jl = L ∧ Hid (JL w' base A n c jl) := by
  obtain ⟨hb, h | ⟨L', A, n, c, jl, h1, rfl, h2, hJ⟩⟩ := h
  · rw [ho] at h; cases h.1
  · rw [ho] at h1
    obtain rfl := Option.some.inj h1
    exact ⟨A, n, c, jl, rfl, hb, h2, Lib.hid hJ⟩
theorem LgP.no_form {base : Nat} {o : Option (List Jp)} {w w' : World} {e : Ending} (h : LgP base o w e w') (ho : o = none) : e = .returned (.tuple #[.slice none 0 0, .int .i64 230]) ∧ Below base w w' := by
  obtain ⟨hb, h | ⟨L', A, n, c, jl, h1, rfl, h2, hJ⟩⟩ := h
  · exact ⟨h.2, hb⟩
  · rw [ho] at h1; cases h1
theorem ShutP.form {l : List Jp} {w w' : World} {e : Ending} (h : ShutP l w e w') (hf : ∀ j ∈ l, j.tx < 4294967296) : ∃ A n c rl, e = .returned (.slice A n c) ∧ Below w.heap.size w w' ∧ Hid (rl.map Rc.p = Jp.shut l ∧ rl.length = n ∧ Rcs w' w'.heap.size A rl) := by
  obtain ⟨A, c, rfl, ho, hb⟩ := h
  refine ⟨A, _, c, (Jp.shut l).map rc0, rfl, hb, Lib.hid ⟨by rw [List.map_map]; exact List.map_id _, by rw [List.length_map], Recs.of_own recK_fine.hf (by decide) ho, fun b hb => ?_⟩⟩
  obtain ⟨x, hx, rfl⟩ := List.mem_map.1 hb
  unfold Jp.shut at hx
  obtain ⟨j, hj, rfl⟩ := List.mem_map.1 hx
  exact ⟨Sq.nil, ⟨show 3 < 256 by decide, hf j ((List.mem_filter.1 hj).1), show 0 < 256 by decide, by simp [Jp.shutOne]⟩, fun _ => rfl, Nat.le_refl _, Nat.zero_le _⟩
def nrB : Nr := ⟨2, 5, 3, false, [97]⟩
theorem mk1 : Jp.make [⟨2, 5, 3, false, [97]⟩, ⟨3, 5, 0, true, []⟩, ⟨4, 5, 0, false, []⟩] = some [⟨5, 3, [97], 4⟩] := by rfl
theorem mk2 : Jp.make [⟨2, 5, 3, false, [97]⟩, ⟨2, 5, 3, false, [97]⟩] = none := by rfl
theorem mk3 : Jp.make [⟨2, 5, 3, false, [97]⟩, ⟨4, 5, 0, false, []⟩] = none := by rfl
theorem RcOk.none {w : World} {B : Nat} {x : Nr} (hf : x.Fit) (ht : x.text = []) : RcOk w B ⟨x, none, 0⟩ := by
  obtain ⟨what, tx, who, yes, text⟩ := x
  dsimp only at ht
  subst ht
  exact ⟨Sq.nil, hf, fun _ => rfl, Nat.le_refl _, Nat.zero_le _⟩
/-- a row of records written out, as records that can be read -/
theorem Rcs.lits {w : World} {l : List Rc} {cs : Array Value} {t : TypeId} {n : Nat} (hcs : cs.toList = l.flatMap recK.f) (hn : n = w.heap.size) (hok : ∀ b ∈ l, RcOk w w.heap.size b) : Rcs (w.alloc (.cells cs t)) (w.alloc (.cells cs t)).heap.size (some ⟨n, 0, none⟩) l := by
  have hb : Below w.heap.size w (w.alloc (.cells cs t)) := bel_alloc (Below.refl _ _) _
  exact ⟨Recs.lits (f := recK.f) (s := 5) recK_fine.hf (by decide) w l cs t n _ hcs hn (by rw [hn]; simp), fun b h => ((hok b h).below hb).more hb.size⟩
theorem Jbs.lits {w : World} {l : List Jb} {cs : Array Value} {t : TypeId} {n : Nat} (hcs : cs.toList = l.flatMap jbF) (hn : n = w.heap.size) (hok : ∀ b ∈ l, JbOk w w.heap.size b) : Jbs (w.alloc (.cells cs t)) (w.alloc (.cells cs t)).heap.size (some ⟨n, 0, none⟩) l := by
  have hb : Below w.heap.size w (w.alloc (.cells cs t)) := bel_alloc (Below.refl _ _) _
  exact ⟨Recs.lits (f := jbF) (s := 4) jbF_length (by decide) w l cs t n _ hcs hn (by rw [hn]; simp), fun b h => ((hok b h).below hb).more hb.size⟩
theorem Rcs.of_nil {w : World} {A : Option Addr} (B : Nat) : Rcs w B A [] := ⟨Recs.nil, fun _ h => by cases h⟩
theorem JbOk.none {w : World} {B : Nat} {x : Jp} (hf : x.Fit) (ht : x.text = []) : JbOk w B ⟨x, none, 0⟩ := by
  obtain ⟨tx, who, text, st⟩ := x
  dsimp only at ht
  subst ht
  exact ⟨Sq.nil, hf, fun _ => rfl, Nat.le_refl _, Nat.zero_le _⟩
set_option maxRecDepth 100000 in
set_option maxHeartbeats 2000000 in
theorem awake_any (w : World) : Calls Try.prog 9 #[] w fun e w' => e = .returned (.bool true) ∧ Below w.heap.size w w' := by
  have kc := fun (w : World) (C : Array Value) (n c : Nat) => Lib.run_convert_bytes_const (P := Try.prog) w 29 5 C n c Try.underlying29 Try.underlying5
  go_enter Try.func9, Try.ntmps9
  go_upto_region 2 with fail
  obtain ⟨g0, hg0⟩ : ∃ g0, w.heap.size = g0 := ⟨_, rfl⟩
  obtain ⟨gb, hgb⟩ : ∃ gb, g0 + 1 = gb := ⟨_, rfl⟩
  rw [hg0, hgb]
  obtain ⟨W, hW⟩ : ∃ W, ((w.alloc (.cells #[.int .u8 97] 5 (1, 2))).alloc (.cells #[.int .u8 2, .int .u32 5, .int .u8 3, .bool false, .slice (some ⟨g0, 0, none⟩) 1 1] 31)) = W := ⟨_, rfl⟩
  have SQ : Hid (Sq byw W W.heap.size (some ⟨g0, 0, none⟩) [97]) := Lib.hid (by rw [← hW]; exact ((Sq.lits (f := byw) w [97] #[.int .u8 97] 5 (1, 2) g0 (w.heap.size + 1) rfl hg0.symm (by omega)).alloc (by simp) _).more (by simp))
  have RB : Hid (RowAt W gb 31 (rcV 2 5 3 false (some ⟨g0, 0, none⟩) 1 1)) := Lib.hid (by rw [← hW]; exact RowAt.new' _ gb _ _ (by simp; omega))
  have BW : Hid (Below w.heap.size w W) := Lib.hid (by rw [← hW]; exact bel_alloc (bel_alloc (Below.refl _ _) _) _)
  rw [hW]
  clear hW hgb hg0
  have dlt : gb < (W).heap.size := RB.out.lt
  have dlu : gb < (W).heap.size + 1 := Nat.lt_succ_of_lt RB.out.lt
  have d0 : (W).cell? ⟨gb, 0, none⟩ = some (.int .u8 2) := RB.out.cells 0
  have dz0 : (W).frozen? ⟨gb, 0, none⟩ = false := RB.out.frozen 0
  have d1 : (W).cell? ⟨gb, 1, none⟩ = some (.int .u32 5) := RB.out.cells 1
  have dz1 : (W).frozen? ⟨gb, 1, none⟩ = false := RB.out.frozen 1
  have d2 : (W).cell? ⟨gb, 2, none⟩ = some (.int .u8 3) := RB.out.cells 2
  have dz2 : (W).frozen? ⟨gb, 2, none⟩ = false := RB.out.frozen 2
  have d3 : (W).cell? ⟨gb, 3, none⟩ = some (.bool false) := RB.out.cells 3
  have dz3 : (W).frozen? ⟨gb, 3, none⟩ = false := RB.out.frozen 3
  have d4 : (W).cell? ⟨gb, 4, none⟩ = some (.slice (some ⟨g0, 0, none⟩) 1 1) := RB.out.cells 4
  have dz4 : (W).frozen? ⟨gb, 4, none⟩ = false := RB.out.frozen 4
  have HF0 : (Nr.mk 2 5 3 false [97]).Fit := ⟨by decide, by decide, by decide, by simp⟩
  have X0 : ∀ W', Sq byw W' W'.heap.size (some ⟨g0, 0, none⟩) [97] → RcOk W' W'.heap.size ⟨⟨2, 5, 3, false, [97]⟩, some ⟨g0, 0, none⟩, 1⟩ := fun W' h => ⟨h, HF0, ⟨by simp, by simp, by simp⟩⟩
  have HX0 := Lib.hid X0
  clear X0 HF0
  go_wp2_with fail
  refine (jmake_any _ 3 3 [⟨⟨2, 5, 3, false, [97]⟩, some ⟨g0, 0, none⟩, 1⟩, rc0 ⟨3, 5, 0, true, []⟩, rc0 ⟨4, 5, 0, false, []⟩] _ (Rcs.lits rfl rfl (by
    intro b hb
    simp only [List.mem_cons, List.not_mem_nil, or_false] at hb
    rcases hb with rfl | rfl | rfl
    · exact HX0.out _ SQ.out
    · exact RcOk.none ⟨by decide, by decide, by decide, by simp⟩ rfl
    · exact RcOk.none ⟨by decide, by decide, by decide, by simp⟩ rfl)) rfl (by decide) (by
    intro b hb
    simp only [List.mem_cons, List.not_mem_nil, or_false] at hb
    rcases hb with rfl | rfl | rfl <;> simp)).mono ?_
  intro e w2 h2
  obtain ⟨A2, n2, c2, jl2, rfl, b2, hj2, J2⟩ := h2.yes_form mk1
  have b2' := (bel_alloc (Below.refl W.heap.size W) _).trans (b2.mono (by simp))
  have SQ2 := Lib.hid ((SQ.out.below b2').more b2'.size)
  have RB2 := Lib.hid (RB.out.to b2')
  have BW2 : Hid (Below w.heap.size w w2) := Lib.hid (BW.out.trans (b2'.mono BW.out.size))
  have HJ2 := Lib.hid hj2
  clear b2 b2' hj2 h2 d0 d1 d2 d3 d4 dz0 dz1 dz2 dz3 dz4 dlt dlu SQ RB BW
  have dlt : gb < (w2).heap.size := RB2.out.lt
  have dlu : gb < (w2).heap.size + 1 := Nat.lt_succ_of_lt RB2.out.lt
  have d0 : (w2).cell? ⟨gb, 0, none⟩ = some (.int .u8 2) := RB2.out.cells 0
  have dz0 : (w2).frozen? ⟨gb, 0, none⟩ = false := RB2.out.frozen 0
  have d1 : (w2).cell? ⟨gb, 1, none⟩ = some (.int .u32 5) := RB2.out.cells 1
  have dz1 : (w2).frozen? ⟨gb, 1, none⟩ = false := RB2.out.frozen 1
  have d2 : (w2).cell? ⟨gb, 2, none⟩ = some (.int .u8 3) := RB2.out.cells 2
  have dz2 : (w2).frozen? ⟨gb, 2, none⟩ = false := RB2.out.frozen 2
  have d3 : (w2).cell? ⟨gb, 3, none⟩ = some (.bool false) := RB2.out.cells 3
  have dz3 : (w2).frozen? ⟨gb, 3, none⟩ = false := RB2.out.frozen 3
  have d4 : (w2).cell? ⟨gb, 4, none⟩ = some (.slice (some ⟨g0, 0, none⟩) 1 1) := RB2.out.cells 4
  have dz4 : (w2).frozen? ⟨gb, 4, none⟩ = false := RB2.out.frozen 4
  go_wp2_with fail
  refine (jmake_any _ 2 2 [⟨⟨2, 5, 3, false, [97]⟩, some ⟨g0, 0, none⟩, 1⟩, ⟨⟨2, 5, 3, false, [97]⟩, some ⟨g0, 0, none⟩, 1⟩] _ (Rcs.lits rfl rfl (by
    intro b hb
    simp only [List.mem_cons, List.not_mem_nil, or_false] at hb
    rcases hb with rfl | rfl
    · exact HX0.out _ SQ2.out
    · exact HX0.out _ SQ2.out)) rfl (by decide) (by
    intro b hb
    simp only [List.mem_cons, List.not_mem_nil, or_false] at hb
    rcases hb with rfl | rfl <;> simp)).mono ?_
  intro e w3 h3
  obtain ⟨rfl, b3⟩ := h3.no_form mk2
  have b3' := (bel_alloc (Below.refl w2.heap.size w2) _).trans (b3.mono (by simp))
  have SQ3 := Lib.hid ((SQ2.out.below b3').more b3'.size)
  have RB3 := Lib.hid (RB2.out.to b3')
  have BW3 : Hid (Below w.heap.size w w3) := Lib.hid (BW2.out.trans (b3'.mono BW2.out.size))
  have J3 := Lib.hid (J2.out.to b3')
  clear b3 b3' h3 d0 d1 d2 d3 d4 dz0 dz1 dz2 dz3 dz4 dlt dlu SQ2 RB2 BW2 J2
  have dlt : gb < (w3).heap.size := RB3.out.lt
  have dlu : gb < (w3).heap.size + 1 := Nat.lt_succ_of_lt RB3.out.lt
  have d0 : (w3).cell? ⟨gb, 0, none⟩ = some (.int .u8 2) := RB3.out.cells 0
  have dz0 : (w3).frozen? ⟨gb, 0, none⟩ = false := RB3.out.frozen 0
  have d1 : (w3).cell? ⟨gb, 1, none⟩ = some (.int .u32 5) := RB3.out.cells 1
  have dz1 : (w3).frozen? ⟨gb, 1, none⟩ = false := RB3.out.frozen 1
  have d2 : (w3).cell? ⟨gb, 2, none⟩ = some (.int .u8 3) := RB3.out.cells 2
  have dz2 : (w3).frozen? ⟨gb, 2, none⟩ = false := RB3.out.frozen 2
  have d3 : (w3).cell? ⟨gb, 3, none⟩ = some (.bool false) := RB3.out.cells 3
  have dz3 : (w3).frozen? ⟨gb, 3, none⟩ = false := RB3.out.frozen 3
  have d4 : (w3).cell? ⟨gb, 4, none⟩ = some (.slice (some ⟨g0, 0, none⟩) 1 1) := RB3.out.cells 4
  have dz4 : (w3).frozen? ⟨gb, 4, none⟩ = false := RB3.out.frozen 4
  go_wp2_with fail
  refine (jmake_any _ 2 2 [⟨⟨2, 5, 3, false, [97]⟩, some ⟨g0, 0, none⟩, 1⟩, rc0 ⟨4, 5, 0, false, []⟩] _ (Rcs.lits rfl rfl (by
    intro b hb
    simp only [List.mem_cons, List.not_mem_nil, or_false] at hb
    rcases hb with rfl | rfl
    · exact HX0.out _ SQ3.out
    · exact RcOk.none ⟨by decide, by decide, by decide, by simp⟩ rfl)) rfl (by decide) (by
    intro b hb
    simp only [List.mem_cons, List.not_mem_nil, or_false] at hb
    rcases hb with rfl | rfl <;> simp)).mono ?_
  intro e w4 h4
  obtain ⟨rfl, b4⟩ := h4.no_form mk3
  have b4' := (bel_alloc (Below.refl w3.heap.size w3) _).trans (b4.mono (by simp))
  have BW4 : Hid (Below w.heap.size w w4) := Lib.hid (BW3.out.trans (b4'.mono BW3.out.size))
  have J4 := Lib.hid (J3.out.to b4')
  clear b4 b4' h4 d0 d1 d2 d3 d4 dz0 dz1 dz2 dz3 dz4 dlt dlu SQ3 RB3 BW3 J3
  go_wp2_with fail
  refine (jshut_any _ [⟨⟨5, 1, [], 1⟩, none, 0⟩, ⟨⟨7, 1, [], 3⟩, none, 0⟩, ⟨⟨9, 1, [], 1⟩, none, 0⟩] 3 3 _ rfl (Jbs.lits rfl rfl (by
    intro b hb
    simp only [List.mem_cons, List.not_mem_nil, or_false] at hb
    rcases hb with rfl | rfl | rfl <;> exact JbOk.none ⟨by decide, by decide, by simp, by decide⟩ rfl)) (by decide)).mono ?_
  intro e w5 h5
  obtain ⟨A5, n5, c5, rl5, rfl, b5, h5⟩ := h5.form (by simp [jps])
  have b5' := (bel_alloc (Below.refl w4.heap.size w4) _).trans (b5.mono (by simp))
  have BW5 : Hid (Below w.heap.size w w5) := Lib.hid (BW4.out.trans (b5'.mono BW4.out.size))
  have J5 := Lib.hid (J4.out.to b5')
  have HS5 : Hid (rl5.map Rc.p = [⟨3, 5, 0, false, []⟩, ⟨3, 9, 0, false, []⟩]) := Lib.hid (h5.out.1.trans rfl)
  have HL5 := Lib.hid h5.out.2.1
  have R5 := Lib.hid h5.out.2.2
  have hn5 : n5 ≤ 100 := by have h := congrArg List.length HS5.out; rw [List.length_map, HL5.out] at h; rw [h]; decide
  have hn2 : n2 ≤ 100 := by have h := congrArg List.length HJ2.out; rw [List.length_map, J5.out.len] at h; rw [h]; decide
  clear b5 b5' BW4 J4 h5
  go_wp2_with fail
  obtain ⟨g6, hg6⟩ : ∃ g6, w5.heap.size = g6 := ⟨_, rfl⟩
  have HSM : Hid (Jp.eqs (jps jl2) (jps [⟨⟨5, 3, [97], 4⟩, some ⟨w5.heap.size, 0, none⟩, 1⟩]) = true) := Lib.hid (by rw [HJ2.out]; rfl)
  have bA : Below w5.heap.size w5 ((w5.alloc (.cells #[.int .u8 97] 5 (1, 2))).alloc (.cells #[.int .u32 5, .int .u8 3, .slice (some ⟨w5.heap.size, 0, none⟩) 1 1, .int .u8 4] 38)) := bel_alloc (bel_alloc (Below.refl _ _) _) _
  refine (rjsame_any A2 _ jl2 [⟨⟨5, 3, [97], 4⟩, some ⟨w5.heap.size, 0, none⟩, 1⟩] c2 1 n2 1 _ J5.out.len rfl (J5.out.jbs.to bA) (Jbs.lits (by simp) (by simp) (by
    intro b hb
    obtain rfl := List.mem_singleton.1 hb
    exact ⟨(Sq.lits (f := byw) w5 [97] #[.int .u8 97] 5 (1, 2) w5.heap.size (w5.heap.size + 1) rfl rfl (by omega)).more (by simp), ⟨by simp, by simp, by simp, by simp⟩, by simp, by simp, by simp⟩)) (by omega)).mono ?_
  rintro e w6 ⟨rfl, b6⟩
  rw [HSM.out]
  have b6' := bA.trans (b6.mono bA.size)
  have BW6 : Hid (Below w.heap.size w w6) := Lib.hid (BW5.out.trans (b6'.mono BW5.out.size))
  have R6 := Lib.hid (R5.out.to b6')
  have HSA : Hid (Nr.eqs (rl5.map Rc.p) ([rc0 ⟨3, 5, 0, false, []⟩, rc0 ⟨3, 9, 0, false, []⟩].map Rc.p) = true) := Lib.hid (by rw [HS5.out]; rfl)
  clear b6 b6' bA hg6
  go_wp2_with fail
  have bB := bel_alloc (Below.refl w6.heap.size w6) (.cells #[.int .u8 3, .int .u32 5, .int .u8 0, .bool false, .slice none 0 0, .int .u8 3, .int .u32 9, .int .u8 0, .bool false, .slice none 0 0] 31)
  refine (all_any A5 _ rl5 [rc0 ⟨3, 5, 0, false, []⟩, rc0 ⟨3, 9, 0, false, []⟩] c5 2 n5 2 _ HL5.out rfl (R6.out.to bB) (Rcs.lits rfl rfl (by
    intro b hb
    simp only [List.mem_cons, List.not_mem_nil, or_false] at hb
    rcases hb with rfl | rfl <;> exact RcOk.none ⟨by decide, by decide, by decide, by simp⟩ rfl)) (by omega)).mono ?_
  rintro e w7 ⟨rfl, b7⟩
  rw [HSA.out]
  have BW7 : Hid (Below w.heap.size w w7) := Lib.hid (BW6.out.trans ((bB.trans (b7.mono bB.size)).mono BW6.out.size))
  clear b7 bB
  go_wp2
  go_ret
  exact ⟨rfl, BW7.out⟩
end Go.Proofs.Ytegmeodmjaijnaa
