/- Layer 10: operations that came in; light. -/
import Derived.Test.YtbokggilfepdhaaOpenRc
namespace Go.Proofs.Ytbokggilfepdhaa
open Go.ChangeShapes Go.WideShapes Go.ChangeAt Go.RowKit Go.Deep
set_option linter.unusedVariables false
attribute [local go_sem] Later.cell Later.frozen setCell_twice
structure NOp where
  what : Nat
  x : Rc
  n : Int
abbrev NOp.C (o : NOp) : List Value := [.int .u8 (o.what : Int), .int .u8 (o.x.p.what : Int), .int .u32 (o.x.p.tx : Int), .int .u8 (o.x.p.who : Int), .bool o.x.p.yes, .slice o.x.A o.x.p.text.length o.x.c, .int .i64 o.n]
structure NOp.Ok (w : World) (B : Nat) (o : NOp) : Prop where
  what : o.what < 256
  x : RcOk w B o.x
  lo : -9223372036854775808 ≤ o.n
  hi : o.n ≤ 9223372036854775807
section
variable {w w' : World} {B B' : Nat} {o : NOp} {l : List NOp} {A : Option Addr}
theorem NOp.Ok.below (h : o.Ok w B) (k : Below B w w') : o.Ok w' B := ⟨h.what, h.x.below k, h.lo, h.hi⟩
theorem NOp.Ok.more (h : o.Ok w B) (hB : B ≤ B') : o.Ok w B' := ⟨h.what, h.x.more hB, h.lo, h.hi⟩
structure NOps (w : World) (B : Nat) (A : Option Addr) (l : List NOp) : Prop where
  rc : Recs NOp.C 7 w B A l
  ok : ∀ b ∈ l, b.Ok w B
theorem NOps.below (h : NOps w B A l) (k : Below B w w') : NOps w' B A l := ⟨h.rc.below k, fun b hb => (h.ok b hb).below k⟩
theorem NOps.more (h : NOps w B A l) (hB : B ≤ B') : NOps w B' A l := ⟨h.rc.more hB, fun b hb => (h.ok b hb).more hB⟩
theorem NOps.to (h : NOps w w.heap.size A l) (k : Below w.heap.size w w') : NOps w' w'.heap.size A l := (h.below k).more k.size
theorem NOps.take (h : NOps w B A l) (n : Nat) : NOps w B A (l.take n) := ⟨h.rc.take n, fun b hb => h.ok b (List.mem_of_mem_take hb)⟩
theorem NOps.at_ (h : NOps w B A l) {k : Nat} (hk : k < l.length) : ∃ g o b, A = some ⟨g, o, none⟩ ∧ g < B ∧ l[k]? = some b ∧ b.Ok w B ∧ ∀ (i : Nat) (v : Value), b.C[i]? = some v → w.cell? ⟨g, o + k * 7 + i, none⟩ = some v := by
  obtain ⟨g, o, b, hA, hg, hb, hc⟩ := h.rc.at_ hk
  exact ⟨g, o, b, hA, hg, hb, h.ok b (List.mem_of_getElem? hb), fun i v hv => by simpa [Nat.add_assoc] using hc i v hv⟩
end
theorem size_nop : (Try.prog.info? 51).map (·.size) = some 7 := by kernel_rfl
theorem nop_trod {H : Type} {enc : TypeId × Value → H} {w : World} {base : Nat} {spare : Nat → Bool} {held : Bool} (n : Nat) (cs : List Value) (y : DataW H × List MemPlace) (h : DataW.trod enc Try.prog w base spare held n 51 cs = some y) : ∃ o : NOp, cs = o.C ∧ o.Ok w w.heap.size := by
  obtain ⟨hl, n, hf⟩ := trod_field Try.underlying51 h
  have hC : Try.prog.cellsOf 51 = 7 := by kernel_rfl
  have hC1 : Try.prog.cellsOf 34 = 5 := by kernel_rfl
  rw [hC] at hl
  match cs, hl with
  | [v0, v1, v2, v3, v4, v5, v6], _ =>
    obtain ⟨y0, h0⟩ := hf 0 _ rfl
    obtain ⟨y1, h1⟩ := hf 1 _ rfl
    obtain ⟨y2, h2⟩ := hf 2 _ rfl
    obtain ⟨a0, rfl, b0⟩ := trod_nat (k := .u8) (v := v0) rfl Try.underlying5 h0
    obtain ⟨x, hx, ok⟩ := rec_trod n [v1, v2, v3, v4, v5] y1 h1
    obtain ⟨a2, rfl, b2, b3⟩ := trod_i64 (v := v6) Try.underlying3 h2
    refine ⟨⟨a0, x, a2⟩, ?_, b0, ok, b2, b3⟩
    simp only [List.cons.injEq, and_true] at hx
    obtain ⟨rfl, rfl, rfl, rfl, rfl⟩ := hx
    rfl
theorem open_nop {H : Type} {enc : TypeId × Value → H} {w : World} {base b0 : Nat} {spare : Nat → Bool} {held : Bool} {r : Reach} {v : Value} {d : DataW H} {ps : List MemPlace} (hval : Value.okWide Try.prog w r b0 41 v) (hd : DataW.Trod enc Try.prog w base spare held 41 v d ps) :
    ∃ (A : Option Addr) (l : List NOp) (c : Nat), v = .slice A l.length c ∧ NOps w w.heap.size A l ∧ l.length ≤ c ∧ c ≤ 9223372036854775807 ∧ (A = none → c = 0) := by
  obtain ⟨A, l, c, h1, h2, h3, h4, h5, h6⟩ := okWide_slice_trod NOp.C (fun b => b.Ok w w.heap.size) Try.underlying41 (show Try.prog.cellsOf 51 = 7 by kernel_rfl) (by decide) nop_trod hval hd
  exact ⟨A, l, c, h1, ⟨h2, h3⟩, h4, h5, h6⟩
def NLight (l : List NOp) : Bool := decide (∀ o ∈ l.take 40, o.x.p.text.length ≤ 200)
def NLightP (w : World) (A : Option Addr) (l : List NOp) (e : Ending) (w' : World) : Prop :=
  Below w.heap.size w w' ∧ if NLight l = true then ∃ c', e = .returned (.tuple #[.slice A (l.take 40).length c', .bool true]) else e = .returned (.tuple #[.slice none 0 0, .bool false])
theorem run_min2n {P : Program} (w : World) (ts : Array TypeId) (t : TypeId) (x y n : Nat) (h : n = min x y) :
    (Builtin.min_ ts t #[.int .i64 (x : Int), .int .i64 (y : Int)]).run P w = .ok (.int .i64 (n : Int)) w := by
  subst h
  simp [Builtin.min_, Builtin.min2]
  repeat split
  all_goals omega
set_option maxRecDepth 100000 in
set_option maxHeartbeats 1000000 in
theorem nlight_any (A : Option Addr) (l : List NOp) (c : Nat) (w : World) (h : NOps w w.heap.size A l) (hnc : l.length ≤ c) (hc : c ≤ 9223372036854775807) (hA : A = none → c = 0) :
    Calls Try.prog 15 #[.slice A l.length c] w (NLightP w A l) := by
  have HB := Lib.hid h
  obtain ⟨n, hn⟩ : ∃ n : Nat, n = min l.length 40 := ⟨_, rfl⟩
  have hmin : ∀ w, (Builtin.min_ #[3, 3] 3 #[.int .i64 (l.length : Int), .int .i64 40]).run Try.prog w = .ok (.int .i64 (n : Int)) w := fun w => run_min2n w _ _ l.length 40 n hn
  have HN : Hid ((l.take 40).length = n) := Lib.hid (by rw [List.length_take]; omega)
  have hncap : n ≤ c := by omega
  have hn60 : n ≤ 40 := by omega
  have hnl : n ≤ l.length := by omega
  clear h hn
  cases A
  · obtain rfl : c = 0 := hA rfl
    obtain rfl : l = [] := List.eq_nil_of_length_eq_zero (by omega)
    obtain rfl : n = 0 := by omega
    have HD : Hid (NLight [] = true) := Lib.hid (decide_eq_true (by simp))
    simp only [List.length_nil] at hmin ⊢
    go_enter Try.func15, Try.ntmps15
    go_wp2
    clear hmin
    go_loopw [13] (fun i wr => i = .int .i64 0 ∧ Below w.heap.size w wr) (fun i _ => 1 - (intOf i).toNat)
    case atStart => exact ⟨rfl, Below.refl _ _⟩
    case round =>
      obtain ⟨rfl, hbe⟩ := hrel
      go_wp2
      go_ret2
      exact ⟨hbe, by rw [if_pos HD.out]; exact ⟨0, rfl⟩⟩
  · go_enter Try.func15, Try.ntmps15
    go_wp2
    clear hmin
    go_loopw [13] (fun i wr => ∃ k : Nat, k ≤ n ∧ i = .int .i64 k ∧ Hid (∀ b ∈ l.take k, b.x.p.text.length ≤ 200) ∧ Below w.heap.size w wr) (fun i _ => n - (intOf i).toNat)
    case atStart => exact ⟨0, by omega, rfl, Lib.hid (by simp), Below.refl _ _⟩
    case round =>
      obtain ⟨k, hk, rfl, hall, hbe⟩ := hrel
      by_cases hlt : k < n
      · obtain ⟨g, o, b, hA', hg, hb, hok, hd⟩ := (HB.out.below hbe).at_ (k := k) (by omega)
        have d0 := hd 0 _ rfl
        have d1 := hd 1 _ rfl
        have d2 := hd 2 _ rfl
        have d3 := hd 3 _ rfl
        have d4 := hd 4 _ rfl
        have d5 := hd 5 _ rfl
        have d6 := hd 6 _ rfl
        rw [Nat.add_zero] at d0
        have hltI : (k : Int) < (n : Int) := by omega
        have h0I : (0 : Int) ≤ (k : Int) := by omega
        have BE := Lib.hid hbe
        have HBK := Lib.hid hb
        have hgr : g < wr.heap.size := Nat.lt_of_lt_of_le hg hbe.size
        have HLL := Lib.hid (show b ∈ l.take 40 from List.mem_of_getElem? (i := k) (by rw [List.getElem?_take, if_pos (by omega)]; exact hb))
        clear hok hb hbe hd
        cases hA'
        by_cases h1 : 200 < b.x.p.text.length
        · have g1 : decide ((200 : Int) < (b.x.p.text.length : Int)) = true := decide_eq_true (by omega)
          have HD : Hid (¬ NLight l = true) := Lib.hid (fun q => by have := of_decide_eq_true (show decide (∀ o ∈ l.take 40, o.x.p.text.length ≤ 200) = true from q) b HLL.out; omega)
          go_wp2
          go_ret2
          exact ⟨bel_alloc BE.out _, by rw [if_neg HD.out]; rfl⟩
        · have g1 : decide ((200 : Int) < (b.x.p.text.length : Int)) = false := decide_eq_false (by omega)
          go_wp2
          go_roundw
          case rel =>
            refine ⟨k + 1, by omega, by go_num, Lib.hid (fun b' hb' => ?_), bel_alloc BE.out _⟩
            rw [List.take_add_one, HBK.out] at hb'
            rcases List.mem_append.1 hb' with h2 | h2
            · exact hall.out b' h2
            · obtain rfl : b' = b := by simpa using h2
              omega
          case measure => simp [intOf]; omega
      · obtain rfl : k = n := by omega
        have HD : Hid (NLight l = true) := Lib.hid (decide_eq_true (by
          have h1 := hall.out
          have h2 : l.take k = l.take 40 := by
            have h3 := HN.out
            rw [List.length_take] at h3
            rcases Nat.le_total l.length 40 with h4 | h4
            · rw [List.take_of_length_le h4, List.take_of_length_le (by omega)]
            · rw [show k = 40 by omega]
          rwa [h2] at h1))
        go_wp2
        go_ret2
        exact ⟨hbe, by rw [if_pos HD.out, HN.out]; exact ⟨c, rfl⟩⟩
end Go.Proofs.Ytbokggilfepdhaa
