/- Layer 9: operations that came in (what, bytes, a number); light; the reference's model of one. -/
import Derived.Test.YtpjdgnoekplldaaRfDk4
import Derived.Test.YtpjdgnoekplldaaDkDo
import Derived.Test.YtpjdgnoekplldaaRecs
import Derived.Test.YtpjdgnoekplldaaOpenB
namespace Go.Proofs.Ytpjdgnoekplldaa
open Go.ChangeShapes Go.WideShapes Go.ChangeAt Go.RowKit Go.Deep
set_option linter.unusedVariables false
attribute [local go_sem] Later.cell Later.frozen setCell_twice
/-- a slice of bytes that reads as l -/
structure Bs (w : World) (B : Nat) (A : Option Addr) (c : Nat) (l : List Nat) : Prop where
  sq : Sq byw w B A l
  u : ∀ x ∈ l, x < 256
  ln : l.length ≤ c
  cap : c ≤ 9223372036854775807
  nl : A = none → c = 0
section
variable {w w' : World} {B B' c : Nat} {A : Option Addr} {l : List Nat}
theorem Bs.below (h : Bs w B A c l) (k : Below B w w') : Bs w' B A c l := ⟨h.sq.below k, h.u, h.ln, h.cap, h.nl⟩
theorem Bs.more (h : Bs w B A c l) (hB : B ≤ B') : Bs w B' A c l := ⟨h.sq.more hB, h.u, h.ln, h.cap, h.nl⟩
theorem Bs.to (h : Bs w w.heap.size A c l) (k : Below w.heap.size w w') : Bs w' w'.heap.size A c l := (h.below k).more k.size
theorem Bs.lt (h : Bs w B A c l) (hn : 0 < l.length) : ∃ b o, A = some ⟨b, o, none⟩ ∧ b < B := by
  obtain ⟨b, o, hA, hb, _⟩ := h.sq hn
  exact ⟨b, o, hA, hb⟩
end
section
variable {H : Type} {enc : TypeId × Value → H} {P : Program} {w : World} {base b0 : Nat} {spare : Nat → Bool} {held : Bool} {r : Reach}
theorem u8_trod {t : TypeId} (ht : P.underlying t = some (.int .u8)) (n : Nat) (cs : List Value) (y : DataW H × List MemPlace) (h : DataW.trod enc P w base spare held n t cs = some y) : ∃ b : Nat, cs = [byw b] ∧ b < 256 := by
  obtain ⟨a, hv, _, hw⟩ := DataW.trod_int ht h
  have ha := nat_of_wf (k := .u8) rfl hw
  exact ⟨a.toNat, by rw [hv, byw, Int.toNat_of_nonneg ha.1], by have := ha.2; simp [top] at this; omega⟩
theorem bytes_trod {t e : TypeId} {cs : List Value} (ht : P.underlying t = some (.slice e)) (he : P.underlying e = some (.int .u8)) (hs : P.cellsOf e = 1) (n : Nat) (y : DataW H × List MemPlace) (h : DataW.trod enc P w base spare held n t cs = some y) :
    ∃ (A : Option Addr) (l : List Nat) (c : Nat), cs = [.slice A l.length c] ∧ Bs w w.heap.size A c l := by
  obtain ⟨A, l, c, h1, h2, h3, h4, h5, h6⟩ := open_recs (fun b => [byw b]) (fun b => b < 256) ht hs (by decide) (u8_trod he) h
  exact ⟨A, l, c, h1, sq_of_recs h2, h3, h4, h5, h6⟩
theorem open_bytes {t e : TypeId} {v : Value} {d : DataW H} {ps : List MemPlace} (ht : P.underlying t = some (.slice e)) (he : P.underlying e = some (.int .u8)) (hs : P.cellsOf e = 1) (hval : Value.okWide P w r b0 t v) (hd : DataW.Trod enc P w base spare held t v d ps) :
    ∃ (A : Option Addr) (l : List Nat) (c : Nat), v = .slice A l.length c ∧ Bs w w.heap.size A c l := by
  obtain ⟨A, l, c, h1, h2, h3, h4, h5, h6⟩ := okWide_slice_trod (fun b => [byw b]) (fun b => b < 256) ht hs (by decide) (u8_trod he) hval hd
  exact ⟨A, l, c, h1, sq_of_recs h2, h3, h4, h5, h6⟩
end
structure DOp where
  what : Nat
  b : List Nat
  A : Option Addr
  c : Nat
  n : Int
abbrev DOp.C (o : DOp) : List Value := [.int .u8 (o.what : Int), .slice o.A o.b.length o.c, .int .i64 o.n]
structure DOp.Ok (w : World) (B : Nat) (o : DOp) : Prop where
  what : o.what < 256
  bs : Bs w B o.A o.c o.b
  lo : -9223372036854775808 ≤ o.n
  hi : o.n ≤ 9223372036854775807
section
variable {w w' : World} {B B' : Nat} {o : DOp} {l : List DOp} {A : Option Addr}
theorem DOp.Ok.below (h : o.Ok w B) (k : Below B w w') : o.Ok w' B := ⟨h.what, h.bs.below k, h.lo, h.hi⟩
theorem DOp.Ok.more (h : o.Ok w B) (hB : B ≤ B') : o.Ok w B' := ⟨h.what, h.bs.more hB, h.lo, h.hi⟩
structure DOps (w : World) (B : Nat) (A : Option Addr) (l : List DOp) : Prop where
  rc : Recs DOp.C 3 w B A l
  ok : ∀ b ∈ l, b.Ok w B
theorem DOps.below (h : DOps w B A l) (k : Below B w w') : DOps w' B A l := ⟨h.rc.below k, fun b hb => (h.ok b hb).below k⟩
theorem DOps.more (h : DOps w B A l) (hB : B ≤ B') : DOps w B' A l := ⟨h.rc.more hB, fun b hb => (h.ok b hb).more hB⟩
theorem DOps.to (h : DOps w w.heap.size A l) (k : Below w.heap.size w w') : DOps w' w'.heap.size A l := (h.below k).more k.size
theorem DOps.take (h : DOps w B A l) (n : Nat) : DOps w B A (l.take n) := ⟨h.rc.take n, fun b hb => h.ok b (List.mem_of_mem_take hb)⟩
theorem DOps.at_ (h : DOps w B A l) {k : Nat} (hk : k < l.length) : ∃ g o b, A = some ⟨g, o, none⟩ ∧ g < B ∧ l[k]? = some b ∧ b.Ok w B ∧ w.cell? ⟨g, o + k * 3, none⟩ = some (.int .u8 (b.what : Int)) ∧ w.cell? ⟨g, o + k * 3 + 1, none⟩ = some (.slice b.A b.b.length b.c) ∧ w.cell? ⟨g, o + k * 3 + 2, none⟩ = some (.int .i64 b.n) := by
  obtain ⟨g, o, b, hA, hg, hb, hc⟩ := h.rc.at_ hk
  exact ⟨g, o, b, hA, hg, hb, h.ok b (List.mem_of_getElem? hb), by simpa using hc 0 _ rfl, by simpa [Nat.add_assoc] using hc 1 _ rfl, by simpa [Nat.add_assoc] using hc 2 _ rfl⟩
end
theorem dop_trod {H : Type} {enc : TypeId × Value → H} {w : World} {base : Nat} {spare : Nat → Bool} {held : Bool} (n : Nat) (cs : List Value) (y : DataW H × List MemPlace) (h : DataW.trod enc Try.prog w base spare held n 38 cs = some y) : ∃ o : DOp, cs = o.C ∧ o.Ok w w.heap.size := by
  obtain ⟨hl, n, hf⟩ := trod_field Try.underlying38 h
  have hC : Try.prog.cellsOf 38 = 3 := by kernel_rfl
  rw [hC] at hl
  match cs, hl with
  | [v0, v1, v2], _ =>
    obtain ⟨y0, h0⟩ := hf 0 _ rfl
    obtain ⟨y1, h1⟩ := hf 1 _ rfl
    obtain ⟨y2, h2⟩ := hf 2 _ rfl
    obtain ⟨a0, rfl, b0⟩ := trod_nat (k := .u8) (v := v0) rfl Try.underlying5 h0
    obtain ⟨A1, l1, c1, e1, b1⟩ := bytes_trod (cs := [v1]) Try.underlying22 Try.underlying5 (by kernel_rfl) _ _ h1
    obtain rfl : v1 = .slice A1 l1.length c1 := by simpa using e1
    obtain ⟨a2, rfl, b2, b3⟩ := trod_i64 (v := v2) Try.underlying3 h2
    exact ⟨⟨a0, l1, A1, c1, a2⟩, rfl, b0, b1, b2, b3⟩
theorem open_dop {H : Type} {enc : TypeId × Value → H} {w : World} {base b0 : Nat} {spare : Nat → Bool} {held : Bool} {r : Reach} {v : Value} {d : DataW H} {ps : List MemPlace} (hval : Value.okWide Try.prog w r b0 33 v) (hd : DataW.Trod enc Try.prog w base spare held 33 v d ps) :
    ∃ (A : Option Addr) (l : List DOp) (c : Nat), v = .slice A l.length c ∧ DOps w w.heap.size A l ∧ l.length ≤ c ∧ c ≤ 9223372036854775807 ∧ (A = none → c = 0) := by
  obtain ⟨A, l, c, h1, h2, h3, h4, h5, h6⟩ := okWide_slice_trod DOp.C (fun b => b.Ok w w.heap.size) Try.underlying33 (show Try.prog.cellsOf 38 = 3 by kernel_rfl) (by decide) dop_trod hval hd
  exact ⟨A, l, c, h1, ⟨h2, h3⟩, h4, h5, h6⟩
theorem run_min2n {P : Program} (w : World) (ts : Array TypeId) (t : TypeId) (x y n : Nat) (h : n = min x y) :
    (Builtin.min_ ts t #[.int .i64 (x : Int), .int .i64 (y : Int)]).run P w = .ok (.int .i64 (n : Int)) w := by
  subst h
  simp [Builtin.min_, Builtin.min2]
  repeat split
  all_goals omega
def DLight (l : List DOp) : Bool := decide (∀ o ∈ l.take 60, o.b.length ≤ 200)
def LightP (w : World) (A : Option Addr) (c : Nat) (l : List DOp) (e : Ending) (w' : World) : Prop :=
  Below w.heap.size w w' ∧ if DLight l = true then ∃ c', e = .returned (.tuple #[.slice A (l.take 60).length c', .bool true]) else e = .returned (.tuple #[.slice none 0 0, .bool false])
set_option maxHeartbeats 1000000 in
theorem dlight_any (A : Option Addr) (l : List DOp) (c : Nat) (w : World) (h : DOps w w.heap.size A l) (hnc : l.length ≤ c) (hc : c ≤ 9223372036854775807) (hA : A = none → c = 0) :
    Calls Try.prog 13 #[.slice A l.length c] w (LightP w A c l) := by
  have HB := Lib.hid h
  obtain ⟨n, hn⟩ : ∃ n : Nat, n = min l.length 60 := ⟨_, rfl⟩
  have hmin : ∀ w, (Builtin.min_ #[3, 3] 3 #[.int .i64 (l.length : Int), .int .i64 60]).run Try.prog w = .ok (.int .i64 (n : Int)) w := fun w => run_min2n w _ _ l.length 60 n hn
  have HN : Hid ((l.take 60).length = n) := Lib.hid (by rw [List.length_take]; omega)
  have hncap : n ≤ c := by omega
  have hn60 : n ≤ 60 := by omega
  have hnl : n ≤ l.length := by omega
  clear h hn
  cases A
  · obtain rfl : c = 0 := hA rfl
    obtain rfl : l = [] := List.eq_nil_of_length_eq_zero (by omega)
    obtain rfl : n = 0 := by omega
    have HD : Hid (DLight [] = true) := Lib.hid (decide_eq_true (by simp))
    simp only [List.length_nil] at hmin ⊢
    go_enter Try.func13, Try.ntmps13
    go_wp2
    clear hmin
    go_loopw [13] (fun i wr => i = .int .i64 0 ∧ Below w.heap.size w wr) (fun i _ => 1 - (intOf i).toNat)
    case atStart => exact ⟨rfl, Below.refl _ _⟩
    case round =>
      obtain ⟨rfl, hbe⟩ := hrel
      go_wp2
      go_ret2
      exact ⟨hbe, by rw [if_pos HD.out]; exact ⟨0, rfl⟩⟩
  · go_enter Try.func13, Try.ntmps13
    go_wp2
    clear hmin
    go_loopw [13] (fun i wr => ∃ k : Nat, k ≤ n ∧ i = .int .i64 k ∧ Hid (∀ b ∈ l.take k, b.b.length ≤ 200) ∧ Below w.heap.size w wr) (fun i _ => n - (intOf i).toNat)
    case atStart => exact ⟨0, by omega, rfl, Lib.hid (by simp), Below.refl _ _⟩
    case round =>
      obtain ⟨k, hk, rfl, hall, hbe⟩ := hrel
      by_cases hlt : k < n
      · obtain ⟨g, o, b, hA', hg, hb, hok, d0, d1, d2⟩ := (HB.out.below hbe).at_ (k := k) (by omega)
        have hltI : (k : Int) < (n : Int) := by omega
        have h0I : (0 : Int) ≤ (k : Int) := by omega
        have BE := Lib.hid hbe
        have HBK := Lib.hid hb
        have hgr : g < wr.heap.size := Nat.lt_of_lt_of_le hg hbe.size
        have HLL := Lib.hid (show b ∈ l.take 60 from List.mem_of_getElem? (i := k) (by rw [List.getElem?_take, if_pos (by omega)]; exact hb))
        clear hok hb hbe
        cases hA'
        by_cases h1 : 200 < b.b.length
        · have g1 : decide ((200 : Int) < (b.b.length : Int)) = true := decide_eq_true (by omega)
          have HD : Hid (¬ DLight l = true) := Lib.hid (fun q => by have := of_decide_eq_true (show decide (∀ o ∈ l.take 60, o.b.length ≤ 200) = true from q) b HLL.out; omega)
          go_wp2
          go_ret2
          exact ⟨bel_alloc BE.out _, by rw [if_neg HD.out]; rfl⟩
        · have g1 : decide ((200 : Int) < (b.b.length : Int)) = false := decide_eq_false (by omega)
          go_wp2
          go_roundw
          case rel =>
            refine ⟨k + 1, by omega, by go_num, Lib.hid (fun b' hb' => ?_), bel_alloc BE.out _⟩
            rw [List.take_add_one, HBK.out] at hb'
            rcases List.mem_append.1 hb' with h2 | h2
            · exact hall.out b' h2
            · obtain rfl : b' = b := by simpa using h2
              omega
          case measure => simp [intOf]; omega
      · obtain rfl : k = n := by omega
        have HD : Hid (DLight l = true) := Lib.hid (decide_eq_true (by
          have h1 := hall.out
          have h2 : l.take k = l.take 60 := by
            have h3 := HN.out
            rw [List.length_take] at h3
            rcases Nat.le_total l.length 60 with h4 | h4
            · rw [List.take_of_length_le h4, List.take_of_length_le (by omega)]
            · rw [show k = 60 by omega]
          rwa [h2] at h1))
        go_wp2
        go_ret2
        exact ⟨hbe, by rw [if_pos HD.out, HN.out]; exact ⟨c, rfl⟩⟩
end Go.Proofs.Ytpjdgnoekplldaa
