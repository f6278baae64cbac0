/- SumJoins: the walk. -/
import Derived.Test.YthnfigdeppncdaaDoorZerosW
import Derived.Test.YthnfigdeppncdaaDoorJLaw
namespace Go.Proofs.YthnfigdeppncdaaDoor
open Go.RowKit
set_option linter.unusedVariables false
attribute [local go_sem] Later.cell Later.frozen setCell_twice
abbrev u8v (x : Nat) : Value := .int .u8 (x : Int)
theorem Sq.to {α : Type} {f : α → Value} {w w' : World} {A : Option Addr} {l : List α} (h : Sq f w w.heap.size A l) (hb : Below w.heap.size w w') : Sq f w' w'.heap.size A l := (h.below hb).more hb.size
theorem own_sq_empty {α : Type} (f : α → Value) (w : World) (base : Nat) (e : TypeId) (n : Nat) (hn : n = w.heap.size) (hb : base ≤ n) : (w.alloc (.cells #[] e)).ownsRow base e 1 (.slice (some ⟨n, 0, none⟩) ([] : List α).length 0) ([] : List α).length (([] : List α).map f) := by
  subst hn
  exact ⟨by simp, .inr ⟨w.heap.size, 0, #[], rfl, hb, heap_alloc_new w _, Nat.le_refl _, by simp [maxLen], by simp, by simp⟩⟩
theorem raw_any (s : Nat) (A : Option Addr) (c n : Nat) (l : List Nat) (w : World) (hs : s < 4294967296) (h : Sq u8v w w.heap.size A l) (hl : ∀ b ∈ l, b < 256) (hn : l.length ≤ 140737488355328) (he : l.length = n) :
    Calls Tryd.prog 15 #[.int .u32 (s : Int), .slice A n c] w fun e w' => e = .returned (.int .u32 ((Crc.raw s l : Nat) : Int)) ∧ w = w' := by
  subst he
  go_enter Tryd.func15, Tryd.ntmps15
  go_wp2
  go_loop [0, 6, 9] (fun v _ i => ∃ k : Nat, k ≤ l.length ∧ i = .int .i64 k ∧ v = .int .u32 (Crc.raw s (l.take k) : Nat)) (fun _ _ i => l.length - (intOf i).toNat)
  case atStart => exact ⟨0, by omega, rfl, rfl⟩
  case round =>
    obtain ⟨k, hk, rfl, rfl⟩ := hrel
    have hsl := Crc.raw_lt (s := s) (l.take k) hs (fun b hb => hl b (List.mem_of_mem_take hb))
    by_cases hlt : k < l.length
    · obtain ⟨b, o, x, rfl, _, hx, hc⟩ := h.at_ hlt
      have hxl := hl x (List.mem_of_getElem? hx)
      have HE := Lib.hid (show Crc.raw s (l.take (k + 1)) = Crc.add (Crc.raw s (l.take k)) x by rw [List.take_add_one, hx, Option.toList, Crc.raw_append]; rfl)
      clear hx
      go_wp2_with fail
      refine (add_any _ _ _ hsl hxl).mono ?_
      rintro e_ w_ ⟨rfl, rfl⟩
      go_wp2
      go_round
      case rel => exact ⟨k + 1, by omega, by go_num, by rw [HE.out]⟩
      case measure => simp [intOf]; omega
    · have : k = l.length := by omega
      subst this
      have HE := Lib.hid (show l.take l.length = l from List.take_length)
      go_wp2
      go_ret
      first | exact ⟨rfl, rfl⟩ | (rw [HE.out]; exact ⟨rfl, rfl⟩)

theorem raw_eq (s : Nat) (S R : Int) (A : Option Addr) (c n : Nat) (l : List Nat) (w : World) (hs : s < 4294967296) (h : Sq u8v w w.heap.size A l) (hl : ∀ b ∈ l, b < 256) (hn : l.length ≤ 140737488355328) (he : l.length = n) (hS : (s : Int) = S) (hR : ((Crc.raw s l : Nat) : Int) = R) :
    Calls Tryd.prog 15 #[.int .u32 S, .slice A n c] w fun e w' => e = .returned (.int .u32 R) ∧ w = w' := by
  subst hS hR
  exact raw_any s A c n l w hs h hl hn he
theorem bytes_eqs (A : Option Addr) (c n r : Nat) (l : List Nat) (w : World) (h : Sq u8v w w.heap.size A l) (hl : ∀ b ∈ l, b < 256) (hn : l.length ≤ 140737488355328) (he : l.length = n) (hr : Crc.bytes l = r) :
    Calls Tryd.prog 9 #[.slice A n c] w fun e w' => e = .returned (.int .u32 (r : Int)) ∧ w = w' := by
  subst hr
  exact bytes_n A c n l _ w h hl hn he

set_option maxRecDepth 100000 in
set_option maxHeartbeats 2000000 in
theorem sumJoins_in (Aa Ab : Option Addr) (a b : List Nat) (ca cb : Nat) (w : World) (sa : Sq u8v w w.heap.size Aa a) (sb : Sq u8v w w.heap.size Ab b) (ha : ∀ x ∈ a, x < 256) (hb : ∀ x ∈ b, x < 256) (na : Aa = none → ca = 0) (nb : Ab = none → cb = 0) (h0 : 0 < w.heap.size) (hT : Tab w) (hla : a.length ≤ 300) (hlb : b.length ≤ 300) :
    Calls Tryd.prog 5 #[.slice Aa a.length ca, .slice Ab b.length cb] w fun e w' => e = .returned (.bool true) ∧ Below w.heap.size w w' := by
  obtain ⟨j0, hj, hy0, hy1, hy2⟩ := info_parts info_byte
  have g1 : decide ((300 : Int) < (a.length : Int)) = false := by simp; omega
  have g2 : decide ((300 : Int) < (b.length : Int)) = false := by simp; omega
  have HT := Lib.hid hT
  clear hT
  go_enter Tryd.func5, Tryd.ntmps5
  go_wp2_with (at_builtin; refine wpList_append_sq (f := u8v) _ rfl (.tmp 17) (.tmp 18) 23 rfl (fun _ => rfl) w.heap.size 5 j0 _ _ Tryd.underlying23 hj hy0 rfl hy1 hy2 (by decide) _ [] rfl (own_sq_empty u8v w _ _ _ (by simp) (by simp)) w.heap.size Aa a ca a.length rfl rfl (sa.alloc (Nat.le_refl _) _) na ?c1 ?c2 ?_)
  case c1 => simp; omega
  case c2 => simp
  intro A1 c1 w1 hown1x hg1 hb1
  have hbe1 : Below w.heap.size w w1 := ((Below.refl _ _).alloc (Nat.le_refl _) _).trans hb1
  have hown1 : w1.ownsRow w.heap.size 5 1 (.slice A1 a.length c1) a.length (a.map u8v) := by simpa using hown1x
  clear hown1x hg1 hb1
  try simp only [List.nil_append]
  go_wp2_with (at_builtin; refine wpList_append_sq (f := u8v) _ rfl (.tmp 19) (.tmp 20) 23 rfl (fun _ => rfl) w.heap.size 5 j0 _ _ Tryd.underlying23 hj hy0 rfl hy1 hy2 (by decide) _ a rfl hown1 w.heap.size Ab b cb b.length rfl rfl (sb.below hbe1) nb ?c3 ?c4 ?_)
  case c3 => omega
  case c4 => exact hbe1.size
  intro A2 c2 w2 hown2 hg2 hb2
  have hbe2 : Below w.heap.size w w2 := hbe1.trans hb2
  have s2 : Sq u8v w2 w2.heap.size A2 (a ++ b) := Sq.of_own (n := a.length + b.length) (c := c2) (base := w.heap.size) (e := 5) (by simpa using hown2)
  have hab : ∀ x ∈ a ++ b, x < 256 := by
    intro x hx
    rcases List.mem_append.1 hx with h | h
    · exact ha x h
    · exact hb x h
  clear hown2 hg2 hb2 hown1
  have hR := Crc.raw_lt a (s := 4294967295) (by decide) ha
  have hz := Crc.zeros_lt hR (b.length : Int)
  have hq := Crc.raw_lt b (s := 0) (by decide) hb
  have HJ : Hid (((Crc.raw 4294967295 (a ++ b) : Nat) : Int) = bits .xor .u32 ((Crc.zeros (Crc.raw 4294967295 a) (b.length : Int) : Nat) : Int) ((Crc.raw 0 b : Nat) : Int)) := Lib.hid (by rw [u32_xor_nat _ _ hz hq, Crc.raw_append, Crc.raw_join])
  have HB := Lib.hid (Crc.bytes_own ha)
  have hxl := Crc.bytes_lt ha
  have HLB := Lib.hid (Crc.low8_byte 4 (Crc.bytes a))
  rw [Crc.low8_four] at HB HLB
  have HX0 := Lib.hid (show Crc.bytes a = Crc.bytes a from rfl)
  have kb := Lib.hid (fun (W : World) (h : Below w.heap.size w W) => bytes_eqs Aa ca a.length _ a W (sa.to h) ha (by omega) rfl rfl)
  go_wp2_with fail
  refine (raw_eq 4294967295 _ _ A2 c2 _ (a ++ b) w2 (by decide) s2 hab (by rw [List.length_append]; omega) (by simp) rfl HJ.out).mono ?_
  rintro e_ w_ ⟨rfl, rfl⟩
  go_wp2_with fail
  refine (raw_eq 4294967295 _ _ Aa ca _ a w2 (by decide) (sa.to hbe2) ha (by omega) rfl rfl rfl).mono ?_
  rintro e_ w_ ⟨rfl, rfl⟩
  clear HJ
  generalize Crc.raw 4294967295 a = R at *
  go_wp2_with fail
  refine (zeros_any R (b.length : Int) _ w2 hR (by omega) (Nat.lt_of_lt_of_le h0 hbe2.size) (HT.out.to h0 hbe2) rfl).mono ?_
  rintro e_x3 w_x3 ⟨rfl, hb_x3⟩
  obtain ⟨x3, rfl⟩ := later_is hb_x3
  clear hb_x3
  have hz_x3 := x3.bel.size
  try simp at hz_x3
  go_wp2_with fail
  refine (raw_eq 0 _ _ Ab cb _ b _ (by decide) (sb.to (bel_later x3 hbe2)) hb (by omega) rfl rfl rfl).mono ?_
  rintro e_ w_ ⟨rfl, rfl⟩
  have hbe3 := bel_later x3 hbe2
  clear s2 hab
  go_wp2_with fail
  refine (kb.out _ hbe3).mono ?_
  rintro e_ w_ ⟨rfl, rfl⟩
  generalize Crc.bytes a = x at *
  have hsz3 := hbe3.size
  go_wp2_with (at_builtin; go_loud (refine wpList_append_sq (f := u8v) _ rfl (.tmp 35) (.tmp 36) 23 rfl (fun _ => rfl) w.heap.size 5 j0 _ _ Tryd.underlying23 hj hy0 rfl hy1 hy2 (by decide) _ [] rfl (own_sq_empty u8v x3.val _ _ _ (by first | rfl | simp) (by first | omega | (simp; omega))) w.heap.size Aa a ca a.length rfl rfl ((sa.below hbe3).alloc hsz3 _) na ?c5 ?c6 ?_))
  case c5 => first | omega | (simp; omega)
  case c6 => first | omega | (simp; omega)
  intro A4 c4 w4 hown4x hg4 hb4
  have hbe4 : Below w.heap.size w w4 := (bel_alloc hbe3 _).trans hb4
  have hown4 : w4.ownsRow w.heap.size 5 1 (.slice A4 a.length c4) a.length (a.map u8v) := by simpa using hown4x
  have hsz4 := hbe4.size
  clear hown4x hg4 hb4
  try simp only [List.nil_append]
  go_wp2_with (at_builtin; go_loud (refine wpList_append_sq (f := u8v) _ rfl (.tmp 37) (.tmp 49) 23 rfl (fun _ => rfl) w.heap.size 5 j0 _ _ Tryd.underlying23 hj hy0 rfl hy1 hy2 (by decide) _ a rfl (hown4.alloc _) (w4.heap.size + 1) _ [x % 256, x / 256 % 256, x / 65536 % 256, x / 16777216 % 256] _ 4 rfl rfl (Sq.lits _ _ _ _ _ _ _ (by simp; omega) (by simp) (by simp)) (by simp) ?c7 ?c8 ?_))
  case c7 => first | omega | (simp; omega)
  case c8 => first | omega | (simp; omega)
  intro A5 c5 w5 hown5 hg5 hb5
  have hbe5 : Below w.heap.size w w5 := (bel_alloc hbe4 _).trans hb5
  have s5 : Sq u8v w5 w5.heap.size A5 (a ++ [x % 256, x / 256 % 256, x / 65536 % 256, x / 16777216 % 256]) := Sq.of_own (n := a.length + 4) (c := c5) (base := w.heap.size) (e := 5) (by simpa using hown5)
  have hal : ∀ y ∈ a ++ [x % 256, x / 256 % 256, x / 65536 % 256, x / 16777216 % 256], y < 256 := by
    intro y hy
    rcases List.mem_append.1 hy with h | h
    · exact ha y h
    · exact HLB.out y h
  clear hown5 hg5 hb5 hown4
  go_wp2_with fail
  refine (bytes_eqs A5 c5 _ (Crc.bytes [0, 0, 0, 0]) _ w5 s5 hal (by simp; omega) (by simp) HB.out).mono ?_
  rintro e_ w_ ⟨rfl, rfl⟩
  go_wp2_with fail
  refine (bytes_eqs _ _ 4 (Crc.bytes [0, 0, 0, 0]) [0, 0, 0, 0] _ (Sq.lits _ _ _ _ _ _ _ rfl (by simp) (by simp)) (by decide) (by decide) rfl rfl).mono ?_
  rintro e_ w_ ⟨rfl, rfl⟩
  go_wp2_with fail
  refine (awake_any _).mono ?_
  rintro e_x6 w_x6 ⟨rfl, hb_x6⟩
  obtain ⟨x6, rfl⟩ := later_is hb_x6
  clear hb_x6
  have hz_x6 := x6.bel.size
  try simp at hz_x6
  go_wp2
  go_ret
  exact ⟨rfl, bel_later x6 (bel_alloc hbe5 _)⟩
theorem sumJoins_walk (Aa Ab : Option Addr) (a b : List Nat) (ca cb : Nat) (w : World) (sa : Sq u8v w w.heap.size Aa a) (sb : Sq u8v w w.heap.size Ab b) (ha : ∀ x ∈ a, x < 256) (hb : ∀ x ∈ b, x < 256) (na : Aa = none → ca = 0) (nb : Ab = none → cb = 0) (h0 : 0 < w.heap.size) (hT : Tab w) :
    Calls Tryd.prog 5 #[.slice Aa a.length ca, .slice Ab b.length cb] w fun e w' => e = .returned (.bool true) ∧ Below w.heap.size w w' := by
  by_cases h1 : 300 < a.length
  · go_enter Tryd.func5, Tryd.ntmps5
    go_wp2_with fail
    refine (awake_any _).mono ?_
    rintro e_x1 w_x1 ⟨rfl, hb_x1⟩
    obtain ⟨x1, rfl⟩ := later_is hb_x1
    clear hb_x1
    have hz_x1 := x1.bel.size
    try simp at hz_x1
    go_wp2
    go_ret
    exact ⟨rfl, (by repeat (first | exact Below.refl _ _ | refine bel_later _ ?_ | refine bel_alloc ?_ _ | refine bel_set ?_ (by first | omega | (simp; done) | (simp; omega)) _ | refine Below.drew ?_ | assumption))⟩
  have g1 : decide ((300 : Int) < (a.length : Int)) = false := by simp; omega
  by_cases h2 : 300 < b.length
  · have g2 : decide ((300 : Int) < (b.length : Int)) = true := by simp; omega
    go_enter Tryd.func5, Tryd.ntmps5
    go_wp2_with fail
    refine (awake_any _).mono ?_
    rintro e_x1 w_x1 ⟨rfl, hb_x1⟩
    obtain ⟨x1, rfl⟩ := later_is hb_x1
    clear hb_x1
    have hz_x1 := x1.bel.size
    try simp at hz_x1
    go_wp2
    go_ret
    exact ⟨rfl, (by repeat (first | exact Below.refl _ _ | refine bel_later _ ?_ | refine bel_alloc ?_ _ | refine bel_set ?_ (by first | omega | (simp; done) | (simp; omega)) _ | refine Below.drew ?_ | assumption))⟩
  exact sumJoins_in Aa Ab a b ca cb w sa sb ha hb na nb h0 hT (by omega) (by omega)
end Go.Proofs.YthnfigdeppncdaaDoor
