/- A row of bools that came in. Blocks in memory: how one, and a slice of them, reads; how they come in. The walks of package bank: Fits, and slices.Clone of words. -/
import Derived.Test.YtajbghjjpebndaaQ03
import Derived.Test.YtajbghjjpebndaaProg
import Derived.Test.YtajbghjjpebndaaQ02
import Derived.WalkLawsBesides
import Derived.WalkSpells
import Derived.Outline
import Derived.Lib.SmallJoins
namespace Go.Proofs.Ytajbghjjpebndaa
set_option maxRecDepth 100000
open Go.ChangeShapes Go.WideShapes Go.ChangeAt Go.RowKit Go.Deep
set_option linter.unusedVariables false
theorem sq_of_recs {α : Type} {f : α → Value} {w : World} {B : Nat} {A : Option Addr} {l : List α} (h : Recs (fun a => [f a]) 1 w B A l) : Sq f w B A l := fun hn => by
  obtain ⟨b, o, hA, hb, hc⟩ := h hn
  refine ⟨b, o, hA, hb, fun j x hx => ?_⟩
  have := hc j x hx 0 (f x) rfl
  simpa using this
section
variable {H : Type} {enc : TypeId × Value → H} {P : Program} {w : World} {base b0 : Nat} {spare : Nat → Bool} {held : Bool} {r : Reach}
theorem bool_trod {t : TypeId} (ht : P.underlying t = some .bool) (n : Nat) (cs : List Value) (y : DataW H × List MemPlace) (h : DataW.trod enc P w base spare held n t cs = some y) : ∃ b : Bool, cs = [.bool b] ∧ True := by
  obtain ⟨b, hv, _⟩ := DataW.trod_bool ht h
  exact ⟨b, hv, trivial⟩
theorem open_bools {t e : TypeId} {v : Value} {d : DataW H} {ps : List MemPlace} (ht : P.underlying t = some (.slice e)) (he : P.underlying e = some .bool) (hs : P.cellsOf e = 1) (hval : Value.okWide P w r b0 t v) (hd : DataW.Trod enc P w base spare held t v d ps) :
    ∃ (A : Option Addr) (l : List Bool) (c : Nat), v = .slice A l.length c ∧ Sq Value.bool w w.heap.size A l ∧ l.length ≤ c ∧ c ≤ 9223372036854775807 ∧ (A = none → c = 0) := by
  obtain ⟨A, l, c, h1, h2, _, h4, h5, h6⟩ := okWide_slice_trod (fun b => [Value.bool b]) (fun _ => True) ht hs (by decide) (bool_trod he) hval hd
  exact ⟨A, l, c, h1, sq_of_recs h2, h4, h5, h6⟩
end
end Go.Proofs.Ytajbghjjpebndaa
namespace Go.Proofs.Ytajbghjjpebndaa
set_option maxRecDepth 100000
open Go.ChangeShapes Go.WideShapes Go.ChangeAt Go.RowKit Go.Deep Go.Joins
set_option linter.unusedVariables false
abbrev u16w (x : Nat) : Value := .int .u16 (x : Int)
structure Blk where
  a : Int
  ws : List Nat
  A : Option Addr
  c : Nat
abbrev Blk.pr (b : Blk) : Bk.Pr := (b.a, b.ws)
abbrev prs (l : List Blk) : List Bk.Pr := l.map Blk.pr
abbrev Blk.cells (b : Blk) : List Value := [.int .i64 b.a, .slice b.A b.ws.length b.c]
abbrev Blk.val (b : Blk) : Value := .agg #[.int .i64 b.a, .slice b.A b.ws.length b.c]
structure Blk.Ok (w : World) (B : Nat) (b : Blk) : Prop where
  sq : Sq u16w w B b.A b.ws
  u : ∀ x ∈ b.ws, x < 65536
  lo : -9223372036854775808 ≤ b.a
  hi : b.a ≤ 9223372036854775807
  ln : b.ws.length ≤ b.c
  cap : b.c ≤ 9223372036854775807
  nl : b.A = none → b.c = 0
section
variable {w w' : World} {B B' : Nat} {b : Blk} {l : List Blk} {A : Option Addr}
theorem Blk.Ok.below (h : b.Ok w B) (k : Below B w w') : b.Ok w' B := ⟨h.sq.below k, h.u, h.lo, h.hi, h.ln, h.cap, h.nl⟩
theorem Blk.Ok.more (h : b.Ok w B) (hB : B ≤ B') : b.Ok w B' := ⟨h.sq.more hB, h.u, h.lo, h.hi, h.ln, h.cap, h.nl⟩
theorem Blk.Ok.to (h : b.Ok w w.heap.size) (k : Below w.heap.size w w') : b.Ok w' w'.heap.size := (h.below k).more k.size
structure Blks (w : World) (B : Nat) (A : Option Addr) (l : List Blk) : Prop where
  rc : Recs Blk.cells 2 w B A l
  ok : ∀ b ∈ l, b.Ok w B
theorem Blks.below (h : Blks w B A l) (k : Below B w w') : Blks w' B A l := ⟨h.rc.below k, fun b hb => (h.ok b hb).below k⟩
theorem Blks.more (h : Blks w B A l) (hB : B ≤ B') : Blks w B' A l := ⟨h.rc.more hB, fun b hb => (h.ok b hb).more hB⟩
theorem Blks.to (h : Blks w w.heap.size A l) (k : Below w.heap.size w w') : Blks w' w'.heap.size A l := (h.below k).more k.size
theorem Blks.nil : Blks w B A [] := ⟨Recs.nil, fun _ h => by cases h⟩
theorem Blks.take (h : Blks w B A l) (n : Nat) : Blks w B A (l.take n) := ⟨h.rc.take n, fun b hb => h.ok b (List.mem_of_mem_take hb)⟩
/-- block number k: its two cells -/
theorem Blks.at_ (h : Blks w B A l) {k : Nat} (hk : k < l.length) : ∃ g o b, A = some ⟨g, o, none⟩ ∧ g < B ∧ l[k]? = some b ∧ b.Ok w B ∧ w.cell? ⟨g, o + k * 2, none⟩ = some (.int .i64 b.a) ∧ w.cell? ⟨g, o + k * 2 + 1, none⟩ = some (.slice b.A b.ws.length b.c) := by
  obtain ⟨g, o, b, hA, hg, hb, hc⟩ := h.rc.at_ hk
  exact ⟨g, o, b, hA, hg, hb, h.ok b (List.mem_of_getElem? hb), by simpa using hc 0 _ rfl, by simpa [Nat.add_assoc] using hc 1 _ rfl⟩
end
/-- what a function hands back that makes a row of its own (or nil) -/
def Makes {α : Type} (f : α → Value) (e : TypeId) (w : World) (l : List α) (en : Ending) (w' : World) : Prop :=
  ∃ A c, en = .returned (.slice A l.length c) ∧ w'.ownsRow w.heap.size e 1 (.slice A l.length c) l.length (l.map f) ∧ Below w.heap.size w w'
theorem Makes.of_own {α : Type} {f : α → Value} {w w' : World} {l : List α} {e : TypeId} {A : Option Addr} {n c : Nat} (hn : l.length = n) (h : w'.ownsRow w.heap.size e 1 (.slice A n c) n (l.map f)) (hb : Below w.heap.size w w') : Makes f e w l (.returned (.slice A n c)) w' := by
  subst hn
  exact ⟨A, c, rfl, h, hb⟩
theorem keep_block {W : World} {b i c j : Nat} {u v : Value} (hne : b ≠ c) (h : W.cell? ⟨c, j, none⟩ = some v) : (W.setCell ⟨b, i, none⟩ u).cell? ⟨c, j, none⟩ = some v :=
  keep_set h (fun h1 => hne (by injection h1))
theorem own_below {w w' : World} {B e size n : Nat} {v : Value} {xs : List Value} (h : w.ownsRow B e size v n xs) (hb : Below w.heap.size w w') : w'.ownsRow B e size v n xs := by
  obtain ⟨h1, h2⟩ := h
  refine ⟨h1, ?_⟩
  rcases h2 with h2 | ⟨g, cap, cur, hv, hg, hh, r⟩
  · exact .inl h2
  · exact .inr ⟨g, cap, cur, hv, hg, (hb.block g (Array.getElem?_eq_some_iff.1 hh).1).trans hh, r⟩
theorem own_more {w : World} {B B' e size n : Nat} {v : Value} {xs : List Value} (h : w.ownsRow B e size v n xs) (hB : B' ≤ B) : w.ownsRow B' e size v n xs := by
  obtain ⟨h1, h2⟩ := h
  refine ⟨h1, ?_⟩
  rcases h2 with h2 | ⟨g, cap, cur, hv, hg, r⟩
  · exact .inl h2
  · exact .inr ⟨g, cap, cur, hv, Nat.le_trans hB hg, r⟩
theorem own_cap {w : World} {base e n c : Nat} {A : Option Addr} {xs : List Value} (h : w.ownsRow base e 1 (.slice A n c) n xs) : c ≤ 9223372036854775807 := by
  rcases h.2 with ⟨h1, h0⟩ | ⟨g, cap, cur, hv, _, hh, hnc, hm, _⟩
  · obtain ⟨rfl, rfl, rfl⟩ : A = none ∧ n = 0 ∧ c = 0 := by simpa using h1
    omega
  · obtain ⟨rfl, rfl⟩ : A = some ⟨g, 0, none⟩ ∧ c = cap := by simpa using hv
    unfold maxLen at hm
    omega
/-- a block whose words are a row of the call's own -/
theorem Blk.Ok.of_own {w : World} {base e n : Nat} {a : Int} {ws : List Nat} {A : Option Addr} {c : Nat} (hn : ws.length = n) (h : w.ownsRow base e 1 (.slice A n c) n (ws.map u16w)) (hu : ∀ x ∈ ws, x < 65536) (lo : -9223372036854775808 ≤ a) (hi : a ≤ 9223372036854775807) : (Blk.mk a ws A c).Ok w w.heap.size := by
  subst hn
  exact ⟨Sq.of_own h, hu, lo, hi, (own_nil_c h).2, own_cap h, (own_nil_c h).1⟩
theorem prs_get {l : List Blk} {k : Nat} {b : Blk} (h : l[k]? = some b) : (prs l)[k]? = some b.pr := by simp [h]
theorem prs_u16 {w : World} {B : Nat} {l : List Blk} (h : ∀ b ∈ l, b.Ok w B) : ∀ p ∈ prs l, ∀ x ∈ p.2, x < 65536 := by
  intro p hp
  obtain ⟨b, hb, rfl⟩ := List.mem_map.1 hp
  exact (h b hb).u

section
variable {H : Type} {enc : TypeId × Value → H} {w : World} {base b0 : Nat} {spare : Nat → Bool} {held : Bool} {r : Reach}
theorem u16_trod {P : Program} {t : TypeId} (ht : P.underlying t = some (.int .u16)) (n : Nat) (cs : List Value) (y : DataW H × List MemPlace) (h : DataW.trod enc P w base spare held n t cs = some y) : ∃ x : Nat, cs = [u16w x] ∧ x < 65536 := by
  obtain ⟨a, hv, _, hw⟩ := DataW.trod_int ht h
  have ha := nat_of_wf (k := .u16) rfl hw
  exact ⟨a.toNat, by rw [hv, u16w, Int.toNat_of_nonneg ha.1], by have := ha.2; simp [top] at this; omega⟩
theorem words_trod {P : Program} {t e : TypeId} (ht : P.underlying t = some (.slice e)) (he : P.underlying e = some (.int .u16)) (hs : P.cellsOf e = 1) (n : Nat) (cs : List Value) (y : DataW H × List MemPlace) (h : DataW.trod enc P w base spare held n t cs = some y) :
    ∃ (A : Option Addr) (l : List Nat) (c : Nat), cs = [.slice A l.length c] ∧ Sq u16w w w.heap.size A l ∧ (∀ x ∈ l, x < 65536) ∧ l.length ≤ c ∧ c ≤ 9223372036854775807 ∧ (A = none → c = 0) := by
  obtain ⟨A, l, c, h1, h2, h3, h4, h5, h6⟩ := open_recs (fun x : Nat => [u16w x]) (· < 65536) ht hs (by decide) (u16_trod he) h
  exact ⟨A, l, c, h1, sq_of_recs h2, h3, h4, h5, h6⟩
theorem block_trod (n : Nat) (cs : List Value) (y : DataW H × List MemPlace) (h : DataW.trod enc Try.prog w base spare held n 30 cs = some y) : ∃ b : Blk, cs = b.cells ∧ b.Ok w w.heap.size := by
  obtain ⟨hl, n, hf⟩ := trod_field Try.underlying30 h
  have hC : Try.prog.cellsOf 30 = 2 := by kernel_rfl
  rw [hC] at hl
  match cs, hl with
  | [v0, v1], _ =>
    obtain ⟨y0, h0⟩ := hf 0 _ rfl
    obtain ⟨y1, h1⟩ := hf 1 _ rfl
    obtain ⟨a0, rfl, b0, b1⟩ := trod_i64 (v := v0) Try.underlying3 h0
    obtain ⟨A, l, c, h2, h3, h4, h5, h6, h7⟩ := words_trod (cs := [v1]) Try.underlying22 Try.underlying24 (by kernel_rfl) _ _ h1
    obtain rfl : v1 = .slice A l.length c := by simpa using h2
    exact ⟨⟨a0, l, A, c⟩, rfl, h3, h4, b0, b1, h5, h6, h7⟩
theorem open_blocks {v : Value} {d : DataW H} {ps : List MemPlace} (hval : Value.okWide Try.prog w r b0 52 v) (hd : DataW.Trod enc Try.prog w base spare held 52 v d ps) :
    ∃ (A : Option Addr) (l : List Blk) (c : Nat), v = .slice A l.length c ∧ Blks w w.heap.size A l ∧ l.length ≤ c ∧ c ≤ 9223372036854775807 ∧ (A = none → c = 0) := by
  obtain ⟨A, l, c, h1, h2, h3, h4, h5, h6⟩ := okWide_slice_trod Blk.cells (fun b => b.Ok w w.heap.size) Try.underlying52 (show Try.prog.cellsOf 30 = 2 by kernel_rfl) (by decide) block_trod hval hd
  exact ⟨A, l, c, h1, ⟨h2, h3⟩, h4, h5, h6⟩
theorem open_block {v : Value} {d : DataW H} {ps : List MemPlace} (hval : Value.okWide Try.prog w r b0 30 v) (hd : DataW.Trod enc Try.prog w base spare held 30 v d ps) :
    ∃ b : Blk, v = b.val ∧ b.Ok w w.heap.size := by
  obtain ⟨v0, v1, y0, y1, n, rfl, rfl, rfl, h0, h1⟩ := open_agg2 Try.underlying30 (by kernel_rfl) (by kernel_rfl) hval hd
  obtain ⟨a0, h2, b0, b1⟩ := trod_i64 (v := v0) Try.underlying3 h0
  subst h2
  obtain ⟨A, l, c, h2, h3, h4, h5, h6, h7⟩ := words_trod (cs := [v1]) Try.underlying22 Try.underlying24 (by kernel_rfl) _ _ h1
  obtain rfl : v1 = .slice A l.length c := by simpa using h2
  exact ⟨⟨a0, l, A, c⟩, rfl, h3, h4, b0, b1, h5, h6, h7⟩
end
end Go.Proofs.Ytajbghjjpebndaa
namespace Go.Proofs.Ytajbghjjpebndaa
set_option maxRecDepth 100000
open Go.RowKit
set_option linter.unusedVariables false
attribute [local go_sem] Later.cell Later.frozen setCell_twice
theorem info_w16 : (Try.prog.info? 24).map (fun i => (i.zero, i.size, i.bytes)) = some (some (.int .u16 0), 1, 2) := by kernel_rfl

theorem fits_any (a : Int) (n c : Nat) (A : Option Addr) (r : Bool) (w : World) (lo : -9223372036854775808 ≤ a) (hi : a ≤ 9223372036854775807) (hn : n ≤ 9223372036854775807) (hr : Bk.fits a n = r) :
    Calls Try.prog 43 #[.agg #[.int .i64 a, .slice A n c]] w fun e w' => e = .returned (.bool r) ∧ Below w.heap.size w w' := by
  by_cases h1 : n ≤ 14
  · have g1 : decide ((n : Int) ≤ 14) = true := by simp; omega
    by_cases h2 : 0 ≤ a
    · have g2 : decide (0 ≤ a) = true := by simpa using h2
      by_cases h3 : a < 64
      · have g3 : decide (a < 64) = true := by simpa using h3
        obtain rfl : decide (a + (n : Int) ≤ 64) = r := by rw [← hr]; unfold Bk.fits; rw [decide_eq_decide]; omega
        clear hr g2 g3
        go_enter Try.func43, Try.ntmps43
        go_wp2
        go_ret
        exact ⟨rfl, (by repeat (first | with_reducible exact Below.refl _ _ | with_reducible refine bel_later _ ?_ | with_reducible refine bel_alloc ?_ _ | refine bel_set ?_ (by first | omega | (simp; done) | (simp; omega)) _ | with_reducible refine Below.drew ?_ | with_reducible refine bel_drewN ?_ _ | with_reducible assumption | assumption))⟩
      · obtain rfl : r = false := by rw [← hr]; rw [Bk.fits_no]; omega
        have g3 : decide (a < 64) = false := by simpa using h3
        clear hr
        go_enter Try.func43, Try.ntmps43
        go_wp2
        go_ret
        exact ⟨rfl, (by repeat (first | with_reducible exact Below.refl _ _ | with_reducible refine bel_later _ ?_ | with_reducible refine bel_alloc ?_ _ | refine bel_set ?_ (by first | omega | (simp; done) | (simp; omega)) _ | with_reducible refine Below.drew ?_ | with_reducible refine bel_drewN ?_ _ | with_reducible assumption | assumption))⟩
    · obtain rfl : r = false := by rw [← hr]; rw [Bk.fits_no]; omega
      have g2 : decide (0 ≤ a) = false := by simpa using h2
      clear hr
      go_enter Try.func43, Try.ntmps43
      go_wp2
      go_ret
      exact ⟨rfl, (by repeat (first | with_reducible exact Below.refl _ _ | with_reducible refine bel_later _ ?_ | with_reducible refine bel_alloc ?_ _ | refine bel_set ?_ (by first | omega | (simp; done) | (simp; omega)) _ | with_reducible refine Below.drew ?_ | with_reducible refine bel_drewN ?_ _ | with_reducible assumption | assumption))⟩
  · obtain rfl : r = false := by rw [← hr]; rw [Bk.fits_no]; omega
    have g1 : decide ((n : Int) ≤ 14) = false := by simp; omega
    clear hr
    go_enter Try.func43, Try.ntmps43
    go_wp2
    go_ret
    exact ⟨rfl, (by repeat (first | with_reducible exact Below.refl _ _ | with_reducible refine bel_later _ ?_ | with_reducible refine bel_alloc ?_ _ | refine bel_set ?_ (by first | omega | (simp; done) | (simp; omega)) _ | with_reducible refine Below.drew ?_ | with_reducible refine bel_drewN ?_ _ | with_reducible assumption | assumption))⟩
theorem clone_any (A : Option Addr) (l : List Nat) (n c : Nat) (w : World) (h : Sq u16w w w.heap.size A l) (hn : l.length ≤ 35184372088832) (hm : l.length = n) (hnl : A = none → c = 0) :
    Calls Try.prog 50 #[.slice A n c] w (Makes u16w 24 w l) := by
  subst hm
  obtain ⟨i0, hi, hz0, hz1, hz2⟩ := info_parts info_w16
  cases A with
  | none =>
    obtain rfl : c = 0 := hnl rfl
    obtain rfl : l = [] := by
      rcases Nat.eq_zero_or_pos l.length with h0 | h0
      · exact List.eq_nil_of_length_eq_zero h0
      · obtain ⟨b, o, hA, _⟩ := h h0; cases hA
    clear h hn hnl
    have q22 : ∀ (w : World) (a : Option Addr) (n c n' c' : Nat), (binOp .eql 22 (.slice a n c) (.slice none n' c')).run Try.prog w = .ok (.bool a.isNone) w := fun w a n c n' c' => Lib.run_eql_slice_nil w _ _ a n c n' c' Try.underlying22
    go_enter Try.func50, Try.ntmps50
    go_wp2
    go_ret
    exact Makes.of_own rfl (World.ownsRow_nil _ _ _ _) (Below.refl _ _)
  | some p =>
    clear hnl
    have h1 := h.alloc (Nat.le_refl _) (.cells #[] 24)
    have q22 : ∀ (w : World) (a : Option Addr) (n c n' c' : Nat), (binOp .eql 22 (.slice a n c) (.slice none n' c')).run Try.prog w = .ok (.bool a.isNone) w := fun w a n c n' c' => Lib.run_eql_slice_nil w _ _ a n c n' c' Try.underlying22
    go_enter Try.func50, Try.ntmps50
    go_wp2_with (at_builtin; refine wpList_append_sq (f := u16w) _ rfl _ _ 22 rfl (fun _ => rfl) w.heap.size 24 i0 _ _ Try.underlying22 hi hz0 rfl hz1 hz2 (by decide) _ [] rfl (own_empty w 24 .u16) w.heap.size (some p) l c _ rfl rfl h1 (by simp) (by simp; omega) (by simp) ?_; intro A' c' w' hown hg hb)
    simp only [List.nil_append] at hown
    have hb2 : Below w.heap.size w w' := (bel_alloc (Below.refl _ _) _).trans hb
    clear hg hb
    go_wp2
    go_ret
    exact Makes.of_own rfl hown hb2
def Found (b : Bool) (w : World) (e : Ending) (w' : World) : Prop := ∃ r : Int, e = .returned (.int .i64 r) ∧ decide (0 ≤ r) = b ∧ Below w.heap.size w w'
end Go.Proofs.Ytajbghjjpebndaa
