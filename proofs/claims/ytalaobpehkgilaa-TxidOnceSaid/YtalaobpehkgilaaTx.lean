/- The walks of package txid. -/
import Derived.Test.YtalaobpehkgilaaProg
import Derived.Test.YtalaobpehkgilaaTxLaw
import Derived.Test.YtalaobpehkgilaaBase
import Derived.Test.YtalaobpehkgilaaRecs
import Derived.WalkLawsBesides
import Derived.WalkSpells
import Derived.Outline
namespace Go.Proofs.Ytalaobpehkgilaa
open Go.ChangeShapes Go.WideShapes Go.ChangeAt Go.RowKit Go.Deep
set_option linter.unusedVariables false
attribute [local go_sem] Later.cell Later.frozen setCell_twice

/-- a record, as its cells say -/
structure Rec where
  what : Nat
  tx : Nat
  who : Nat
  yes : Bool
  ta : Option Addr
  tn : Nat
  tc : Nat
def Rec.cells (r : Rec) : List Value := [.int .u8 (r.what : Int), .int .u32 (r.tx : Int), .int .u8 (r.who : Int), .bool r.yes, .slice r.ta r.tn r.tc]
def Rec.fit (r : Rec) : Prop := r.what < 256 ∧ r.tx < 4294967296 ∧ r.who < 256
def Rec.nums (r : Rec) : Nat × Nat := (r.what, r.tx)

theorem reserved_any (r : Rec) (w : World) (hr : r.fit) (b : Bool) (hb : ((r.what : Int) == 1) = b) :
    Calls Try.prog 23 #[.agg #[.int .u8 (r.what : Int), .int .u32 (r.tx : Int), .int .u8 (r.who : Int), .bool r.yes, .slice r.ta r.tn r.tc]] w fun e w' => e = .returned (.tuple #[.int .u32 (r.tx : Int), .bool b]) ∧ Below w.heap.size w w' := by
  obtain ⟨wh, tx, who, yes, ta, tn, tc⟩ := r
  simp only at hb
  subst hb
  go_enter Try.func23, Try.ntmps23
  go_wp2
  refine wp_region_lat (by kernel_rfl) (by kernel_rfl) ?_
  repeat (go_big_quiet_step (fail))
  refine wpQuiet_nil ?_
  rintro _ ⟨x, rfl⟩
  have hz_x := x.bel.size
  try simp at hz_x
  go_wp2
  go_ret2
  exact ⟨rfl, (by repeat (first | with_reducible exact Below.refl _ _ | with_reducible refine bel_later _ ?_ | with_reducible refine bel_alloc ?_ _ | refine bel_set ?_ (by first | omega | (simp; done) | (simp; omega)) _ | with_reducible refine Below.drew ?_ | with_reducible refine bel_drewN ?_ _ | with_reducible assumption | assumption))⟩

set_option maxRecDepth 100000 in
set_option maxHeartbeats 1000000 in
theorem greatest_any (A : Option Addr) (l : List Rec) (c : Nat) (w : World) (hR : Recs Rec.cells 5 w w.heap.size A l) (hl : ∀ r ∈ l, r.fit) (hlc : l.length ≤ 140737488355328) :
    Calls Try.prog 22 #[.slice A l.length c, .func (.func 23) #[] #[]] w fun e w' => e = .returned (.int .u32 (Tx.gr (l.map Rec.nums) : Int)) ∧ Below w.heap.size w w' := by
  have hgl : ∀ k, Tx.gr ((l.take k).map Rec.nums) < 4294967296 := fun k => Tx.gr_lt (fun r hr => by
    obtain ⟨q, hq, rfl⟩ := List.mem_map.1 hr
    exact (hl q (List.mem_of_mem_take hq)).2.1)
  have HG := Lib.hid hgl
  clear hgl
  go_enter Try.func22, Try.ntmps22
  go_wp2
  go_loopw [5, 12] (fun m i wr => ∃ k : Nat, k ≤ l.length ∧ i = .int .i64 k ∧ m = .int .u32 (Tx.gr ((l.take k).map Rec.nums) : Nat) ∧ Below w.heap.size w wr) (fun _ i _ => l.length - (intOf i).toNat)
  case atStart => exact ⟨0, by omega, rfl, rfl, Below.refl _ _⟩
  case round =>
    obtain ⟨k, hk, rfl, rfl, hbel⟩ := hrel
    have hg := HG.out k
    by_cases hlt : k < l.length
    · obtain ⟨bo, oo, r, rfl, hbo, hop, hcell⟩ := hR.at_ hlt
      have hfit := hl r (List.mem_of_getElem? hop)
      have a0 : wr.cell? ⟨bo, oo + k * 5, none⟩ = some (.int .u8 (r.what : Int)) := (hbel.cell (p := ⟨bo, oo + k * 5, none⟩) hbo).trans (hcell 0 _ rfl)
      have a1 : wr.cell? ⟨bo, oo + k * 5 + 1, none⟩ = some (.int .u32 (r.tx : Int)) := (hbel.cell (p := ⟨bo, oo + k * 5 + 1, none⟩) hbo).trans (hcell 1 _ rfl)
      have a2 : wr.cell? ⟨bo, oo + k * 5 + 2, none⟩ = some (.int .u8 (r.who : Int)) := (hbel.cell (p := ⟨bo, oo + k * 5 + 2, none⟩) hbo).trans (hcell 2 _ rfl)
      have a3 : wr.cell? ⟨bo, oo + k * 5 + 3, none⟩ = some (.bool r.yes) := (hbel.cell (p := ⟨bo, oo + k * 5 + 3, none⟩) hbo).trans (hcell 3 _ rfl)
      have a4 : wr.cell? ⟨bo, oo + k * 5 + 4, none⟩ = some (.slice r.ta r.tn r.tc) := (hbel.cell (p := ⟨bo, oo + k * 5 + 4, none⟩) hbo).trans (hcell 4 _ rfl)
      have HS := Lib.hid (show Tx.gr ((l.take (k + 1)).map Rec.nums) = Tx.most (Tx.gr ((l.take k).map Rec.nums)) r.what r.tx by rw [List.take_add_one, hop, Option.toList, List.map_append, List.map_cons, List.map_nil, Tx.gr_snoc]; rfl)
      generalize Tx.gr ((l.take k).map Rec.nums) = m at *
      by_cases hw : r.what = 1
      · have kr := Lib.hid (fun w => reserved_any r w hfit true (by rw [hw]; rfl))
        by_cases hm : m < r.tx
        · have HM := Lib.hid (show Tx.most m r.what r.tx = r.tx by simp [Tx.most, hw, hm])
          clear hcell hop hfit hw
          obtain ⟨wh, tx, who, yes, ta, tn, tc⟩ := r
          simp only at *
          go_wp2_with fail
          refine (kr.out _).mono ?_
          rintro e w2 ⟨rfl, hb2⟩
          obtain ⟨x2, rfl⟩ := later_is hb2
          clear hb2 kr
          go_wp2
          go_roundw
          case rel => exact ⟨k + 1, by omega, by go_num, by rw [HS.out, HM.out], (by repeat (first | with_reducible exact Below.refl _ _ | with_reducible refine bel_later _ ?_ | with_reducible refine bel_alloc ?_ _ | refine bel_set ?_ (by first | omega | (simp; done) | (simp; omega)) _ | with_reducible refine Below.drew ?_ | with_reducible refine bel_drewN ?_ _ | with_reducible assumption | assumption))⟩
          case measure => simp [intOf]; omega
        · have HM := Lib.hid (show Tx.most m r.what r.tx = m by simp [Tx.most, hm])
          clear hcell hop hfit hw
          obtain ⟨wh, tx, who, yes, ta, tn, tc⟩ := r
          simp only at *
          go_wp2_with fail
          refine (kr.out _).mono ?_
          rintro e w2 ⟨rfl, hb2⟩
          obtain ⟨x2, rfl⟩ := later_is hb2
          clear hb2 kr
          go_wp2
          go_roundw
          case rel => exact ⟨k + 1, by omega, by go_num, by rw [HS.out, HM.out], (by repeat (first | with_reducible exact Below.refl _ _ | with_reducible refine bel_later _ ?_ | with_reducible refine bel_alloc ?_ _ | refine bel_set ?_ (by first | omega | (simp; done) | (simp; omega)) _ | with_reducible refine Below.drew ?_ | with_reducible refine bel_drewN ?_ _ | with_reducible assumption | assumption))⟩
          case measure => simp [intOf]; omega
      · have kr := Lib.hid (fun w => reserved_any r w hfit false (beq_eq_false_iff_ne.2 (by omega)))
        have HM := Lib.hid (show Tx.most m r.what r.tx = m by simp [Tx.most, hw])
        clear hcell hop hfit hw
        obtain ⟨wh, tx, who, yes, ta, tn, tc⟩ := r
        simp only at *
        go_wp2_with fail
        refine (kr.out _).mono ?_
        rintro e w2 ⟨rfl, hb2⟩
        obtain ⟨x2, rfl⟩ := later_is hb2
        clear hb2 kr
        go_wp2
        go_roundw
        case rel => exact ⟨k + 1, by omega, by go_num, by rw [HS.out, HM.out], (by repeat (first | with_reducible exact Below.refl _ _ | with_reducible refine bel_later _ ?_ | with_reducible refine bel_alloc ?_ _ | refine bel_set ?_ (by first | omega | (simp; done) | (simp; omega)) _ | with_reducible refine Below.drew ?_ | with_reducible refine bel_drewN ?_ _ | with_reducible assumption | assumption))⟩
        case measure => simp [intOf]; omega
    · have hkl : k = l.length := by omega
      subst hkl
      rw [List.take_length]
      go_wp2
      go_ret
      exact ⟨rfl, hbel⟩

theorem run_max2 {P : Program} (w : World) (ts : Array TypeId) (t : TypeId) (x y n : Nat) (h : n = max x y) :
    (Builtin.max_ ts t #[.int .u32 (x : Int), .int .u32 (y : Int)]).run P w = .ok (.int .u32 (n : Int)) w := by
  subst h
  simp [Builtin.max_, Builtin.max2]
  repeat split
  all_goals omega

theorem tx_open_any (A : Option Addr) (l : List Rec) (c n : Nat) (w : World) (hR : Recs Rec.cells 5 w w.heap.size A l) (hl : ∀ r ∈ l, r.fit) (hlc : l.length ≤ 140737488355328) (hn : n = max (Tx.gr (l.map Rec.nums)) 1) :
    Calls Try.prog 7 #[.slice A l.length c] w fun e w' => e = .returned (.agg #[.int .u32 (n : Int), .int .u32 (n : Int)]) ∧ Below w.heap.size w w' := by
  have kg := Lib.hid (fun o => greatest_any A l c (w.alloc o) ((hR.alloc (Nat.le_refl _) o).more (by simp)) hl hlc)
  generalize Tx.gr (l.map Rec.nums) = m at *
  have hmax : ∀ w, (Builtin.max_ #[22, 22] 22 #[.int .u32 (m : Int), .int .u32 1]).run Try.prog w = .ok (.int .u32 (n : Int)) w := fun w => run_max2 w _ _ m 1 n hn
  clear hn
  go_enter Try.func7, Try.ntmps7
  go_wp2_with fail
  refine (kg.out _).mono ?_
  rintro e_x1 w_x1 ⟨rfl, hb_x1⟩
  obtain ⟨x1, rfl⟩ := later_is hb_x1
  clear hb_x1
  have hz_x1 := x1.bel.size
  try simp at hz_x1
  have l_x1_0 : w.heap.size < x1.val.heap.size := by omega
  have m_x1_0 : w.heap.size < x1.val.heap.size + 1 := by omega
  have q_ := x1.bel.cell (p := ⟨w.heap.size, 0, none⟩) (by first | omega | (simp; done) | (simp; omega))
  generalize c_x1_0_0 : x1.val.cell? ⟨w.heap.size, 0, none⟩ = q at q_
  first | (have q2_ : q = some _ := q_; subst q2_) | (simp [go_sem] at q_; have q2_ : q = some _ := q_; subst q2_) | (simp [go_sem, *] at q_; have q2_ : q = some _ := q_; subst q2_)
  have q_ := x1.bel.frozen (p := ⟨w.heap.size, 0, none⟩) (by first | omega | (simp; done) | (simp; omega))
  generalize z_x1_0_0 : x1.val.frozen? ⟨w.heap.size, 0, none⟩ = q at q_
  first | (have q2_ : q = false := q_; subst q2_) | (simp [go_sem] at q_; have q2_ : q = false := q_; subst q2_) | (simp [go_sem, *] at q_; have q2_ : q = false := q_; subst q2_)
  have q_ := x1.bel.cell (p := ⟨w.heap.size, 1, none⟩) (by first | omega | (simp; done) | (simp; omega))
  generalize c_x1_0_1 : x1.val.cell? ⟨w.heap.size, 1, none⟩ = q at q_
  first | (have q2_ : q = some _ := q_; subst q2_) | (simp [go_sem] at q_; have q2_ : q = some _ := q_; subst q2_) | (simp [go_sem, *] at q_; have q2_ : q = some _ := q_; subst q2_)
  have q_ := x1.bel.frozen (p := ⟨w.heap.size, 1, none⟩) (by first | omega | (simp; done) | (simp; omega))
  generalize z_x1_0_1 : x1.val.frozen? ⟨w.heap.size, 1, none⟩ = q at q_
  first | (have q2_ : q = false := q_; subst q2_) | (simp [go_sem] at q_; have q2_ : q = false := q_; subst q2_) | (simp [go_sem, *] at q_; have q2_ : q = false := q_; subst q2_)
  go_wp2
  refine bodyPost_ret (v := .agg #[.int .u32 (n : Int), .int .u32 (n : Int)]) (by simp [results, Try.results7, go_sem, *]) rfl ⟨rfl, (by repeat (first | with_reducible exact Below.refl _ _ | with_reducible refine bel_later _ ?_ | with_reducible refine bel_alloc ?_ _ | refine bel_set ?_ (by first | omega | (simp; done) | (simp; omega)) _ | with_reducible refine Below.drew ?_ | with_reducible refine bel_drewN ?_ _ | with_reducible assumption | assumption))⟩

theorem need_no (n e : Nat) (w : World) (hn : n < 4294967296) (he : e < 4294967296) (h : n ≠ e ∨ n = 4294967295) :
    Calls Try.prog 9 #[.agg #[.int .u32 (n : Int), .int .u32 (e : Int)]] w fun en w' => en = .returned (.tuple #[.agg #[.int .u8 0, .int .u32 0, .int .u8 0, .bool false, .slice none 0 0], .bool false]) ∧ Below w.heap.size w w' := by
  by_cases h1 : n = e
  · have h2 : ((n : Int) != (e : Int)) = false := by rw [bne_eq_false_iff_eq]; omega
    have h3 : decide ((4294967295 : Int) ≤ (n : Int)) = true := by simp; omega
    clear h h1
    go_enter Try.func9, Try.ntmps9
    go_wp2
    refine bodyPost_ret (v := .tuple #[.agg #[.int .u8 0, .int .u32 0, .int .u8 0, .bool false, .slice none 0 0], .bool false]) (by simp [results, Try.results9, go_sem, *]) rfl ⟨rfl, (by repeat (first | with_reducible exact Below.refl _ _ | with_reducible refine bel_later _ ?_ | with_reducible refine bel_alloc ?_ _ | refine bel_set ?_ (by first | omega | (simp; done) | (simp; omega)) _ | with_reducible refine Below.drew ?_ | with_reducible refine bel_drewN ?_ _ | with_reducible assumption | assumption))⟩
  · have h2 : ((n : Int) != (e : Int)) = true := by rw [bne_iff_ne]; omega
    clear h
    go_enter Try.func9, Try.ntmps9
    go_wp2
    refine bodyPost_ret (v := .tuple #[.agg #[.int .u8 0, .int .u32 0, .int .u8 0, .bool false, .slice none 0 0], .bool false]) (by simp [results, Try.results9, go_sem, *]) rfl ⟨rfl, (by repeat (first | with_reducible exact Below.refl _ _ | with_reducible refine bel_later _ ?_ | with_reducible refine bel_alloc ?_ _ | refine bel_set ?_ (by first | omega | (simp; done) | (simp; omega)) _ | with_reducible refine Below.drew ?_ | with_reducible refine bel_drewN ?_ _ | with_reducible assumption | assumption))⟩
theorem run_min64 {P : Program} (w : World) (ts : Array TypeId) (t : TypeId) (x y n : Int) (h : n = min x y) :
    (Builtin.min_ ts t #[.int .u64 x, .int .u64 y]).run P w = .ok (.int .u64 n) w := by
  subst h
  simp [Builtin.min_, Builtin.min2]
  repeat split
  all_goals omega
theorem need_yes (n : Nat) (w : World) (hn : n < 4294967295) (m : Nat) (hm : m = min (n + 16) 4294967295) :
    Calls Try.prog 9 #[.agg #[.int .u32 (n : Int), .int .u32 (n : Int)]] w fun en w' => en = .returned (.tuple #[.agg #[.int .u8 1, .int .u32 (m : Int), .int .u8 0, .bool false, .slice none 0 0], .bool true]) ∧ Below w.heap.size w w' := by
  have hmin : ∀ w, (Builtin.min_ #[64, 64] 64 #[.int .u64 ((n : Int) + 16), .int .u64 4294967295]).run Try.prog w = .ok (.int .u64 (m : Int)) w := fun w => run_min64 w _ _ _ _ _ (by omega)
  have h3 : decide ((4294967295 : Int) ≤ (n : Int)) = false := by simp; omega
  have hm1 : m < 4294967296 := by omega
  clear hm
  go_enter Try.func9, Try.ntmps9
  go_wp2
  refine bodyPost_ret (v := .tuple #[.agg #[.int .u8 1, .int .u32 (m : Int), .int .u8 0, .bool false, .slice none 0 0], .bool true]) (by simp [results, Try.results9, go_sem, *]) rfl ⟨rfl, (by repeat (first | with_reducible exact Below.refl _ _ | with_reducible refine bel_later _ ?_ | with_reducible refine bel_alloc ?_ _ | refine bel_set ?_ (by first | omega | (simp; done) | (simp; omega)) _ | with_reducible refine Below.drew ?_ | with_reducible refine bel_drewN ?_ _ | with_reducible assumption | assumption))⟩
theorem reserve_any (n m : Nat) (w : World) (hn : n < 4294967295) (hm : m = min (n + 16) 4294967295) :
    Calls Try.prog 10 #[.agg #[.int .u32 (n : Int), .int .u32 (n : Int)], .agg #[.int .u8 1, .int .u32 (m : Int), .int .u8 0, .bool false, .slice none 0 0]] w fun en w' => en = .returned (.tuple #[.agg #[.int .u32 (n : Int), .int .u32 (m : Int)], .int .i64 0]) ∧ Below w.heap.size w w' := by
  have kn := Lib.hid (fun w => need_yes n w hn m hm)
  clear hm
  go_enter Try.func10, Try.ntmps10
  go_wp2_with fail
  refine (kn.out _).mono ?_
  rintro e_x1 w_x1 ⟨rfl, hb_x1⟩
  obtain ⟨x1, rfl⟩ := later_is hb_x1
  clear hb_x1
  have hz_x1 := x1.bel.size
  try simp at hz_x1
  have l_x1_0 : w.heap.size < x1.val.heap.size := by omega
  have m_x1_0 : w.heap.size < x1.val.heap.size + 1 := by omega
  have q_ := x1.bel.cell (p := ⟨w.heap.size, 0, none⟩) (by first | omega | (simp; done) | (simp; omega))
  generalize c_x1_0_0 : x1.val.cell? ⟨w.heap.size, 0, none⟩ = q at q_
  first | (have q2_ : q = some _ := q_; subst q2_) | (simp [go_sem] at q_; have q2_ : q = some _ := q_; subst q2_) | (simp [go_sem, *] at q_; have q2_ : q = some _ := q_; subst q2_)
  have q_ := x1.bel.frozen (p := ⟨w.heap.size, 0, none⟩) (by first | omega | (simp; done) | (simp; omega))
  generalize z_x1_0_0 : x1.val.frozen? ⟨w.heap.size, 0, none⟩ = q at q_
  first | (have q2_ : q = false := q_; subst q2_) | (simp [go_sem] at q_; have q2_ : q = false := q_; subst q2_) | (simp [go_sem, *] at q_; have q2_ : q = false := q_; subst q2_)
  have q_ := x1.bel.cell (p := ⟨w.heap.size, 1, none⟩) (by first | omega | (simp; done) | (simp; omega))
  generalize c_x1_0_1 : x1.val.cell? ⟨w.heap.size, 1, none⟩ = q at q_
  first | (have q2_ : q = some _ := q_; subst q2_) | (simp [go_sem] at q_; have q2_ : q = some _ := q_; subst q2_) | (simp [go_sem, *] at q_; have q2_ : q = some _ := q_; subst q2_)
  have q_ := x1.bel.frozen (p := ⟨w.heap.size, 1, none⟩) (by first | omega | (simp; done) | (simp; omega))
  generalize z_x1_0_1 : x1.val.frozen? ⟨w.heap.size, 1, none⟩ = q at q_
  first | (have q2_ : q = false := q_; subst q2_) | (simp [go_sem] at q_; have q2_ : q = false := q_; subst q2_) | (simp [go_sem, *] at q_; have q2_ : q = false := q_; subst q2_)
  have l_x1_1 : w.heap.size+1 < x1.val.heap.size := by omega
  have m_x1_1 : w.heap.size+1 < x1.val.heap.size + 1 := by omega
  have q_ := x1.bel.cell (p := ⟨w.heap.size+1, 0, none⟩) (by first | omega | (simp; done) | (simp; omega))
  generalize c_x1_1_0 : x1.val.cell? ⟨w.heap.size+1, 0, none⟩ = q at q_
  first | (have q2_ : q = some _ := q_; subst q2_) | (simp [go_sem] at q_; have q2_ : q = some _ := q_; subst q2_) | (simp [go_sem, *] at q_; have q2_ : q = some _ := q_; subst q2_)
  have q_ := x1.bel.cell (p := ⟨w.heap.size+1, 1, none⟩) (by first | omega | (simp; done) | (simp; omega))
  generalize c_x1_1_1 : x1.val.cell? ⟨w.heap.size+1, 1, none⟩ = q at q_
  first | (have q2_ : q = some _ := q_; subst q2_) | (simp [go_sem] at q_; have q2_ : q = some _ := q_; subst q2_) | (simp [go_sem, *] at q_; have q2_ : q = some _ := q_; subst q2_)
  have q_ := x1.bel.cell (p := ⟨w.heap.size+1, 2, none⟩) (by first | omega | (simp; done) | (simp; omega))
  generalize c_x1_1_2 : x1.val.cell? ⟨w.heap.size+1, 2, none⟩ = q at q_
  first | (have q2_ : q = some _ := q_; subst q2_) | (simp [go_sem] at q_; have q2_ : q = some _ := q_; subst q2_) | (simp [go_sem, *] at q_; have q2_ : q = some _ := q_; subst q2_)
  have q_ := x1.bel.cell (p := ⟨w.heap.size+1, 3, none⟩) (by first | omega | (simp; done) | (simp; omega))
  generalize c_x1_1_3 : x1.val.cell? ⟨w.heap.size+1, 3, none⟩ = q at q_
  first | (have q2_ : q = some _ := q_; subst q2_) | (simp [go_sem] at q_; have q2_ : q = some _ := q_; subst q2_) | (simp [go_sem, *] at q_; have q2_ : q = some _ := q_; subst q2_)
  have q_ := x1.bel.cell (p := ⟨w.heap.size+1, 4, none⟩) (by first | omega | (simp; done) | (simp; omega))
  generalize c_x1_1_4 : x1.val.cell? ⟨w.heap.size+1, 4, none⟩ = q at q_
  first | (have q2_ : q = some _ := q_; subst q2_) | (simp [go_sem] at q_; have q2_ : q = some _ := q_; subst q2_) | (simp [go_sem, *] at q_; have q2_ : q = some _ := q_; subst q2_)
  have l_x1_2 : w.heap.size+1+1 < x1.val.heap.size := by omega
  have m_x1_2 : w.heap.size+1+1 < x1.val.heap.size + 1 := by omega
  have q_ := x1.bel.cell (p := ⟨w.heap.size+1+1, 0, none⟩) (by first | omega | (simp; done) | (simp; omega))
  generalize c_x1_2_0 : x1.val.cell? ⟨w.heap.size+1+1, 0, none⟩ = q at q_
  first | (have q2_ : q = some _ := q_; subst q2_) | (simp [go_sem] at q_; have q2_ : q = some _ := q_; subst q2_) | (simp [go_sem, *] at q_; have q2_ : q = some _ := q_; subst q2_)
  have q_ := x1.bel.frozen (p := ⟨w.heap.size+1+1, 0, none⟩) (by first | omega | (simp; done) | (simp; omega))
  generalize z_x1_2_0 : x1.val.frozen? ⟨w.heap.size+1+1, 0, none⟩ = q at q_
  first | (have q2_ : q = false := q_; subst q2_) | (simp [go_sem] at q_; have q2_ : q = false := q_; subst q2_) | (simp [go_sem, *] at q_; have q2_ : q = false := q_; subst q2_)
  have q_ := x1.bel.cell (p := ⟨w.heap.size+1+1, 1, none⟩) (by first | omega | (simp; done) | (simp; omega))
  generalize c_x1_2_1 : x1.val.cell? ⟨w.heap.size+1+1, 1, none⟩ = q at q_
  first | (have q2_ : q = some _ := q_; subst q2_) | (simp [go_sem] at q_; have q2_ : q = some _ := q_; subst q2_) | (simp [go_sem, *] at q_; have q2_ : q = some _ := q_; subst q2_)
  have q_ := x1.bel.frozen (p := ⟨w.heap.size+1+1, 1, none⟩) (by first | omega | (simp; done) | (simp; omega))
  generalize z_x1_2_1 : x1.val.frozen? ⟨w.heap.size+1+1, 1, none⟩ = q at q_
  first | (have q2_ : q = false := q_; subst q2_) | (simp [go_sem] at q_; have q2_ : q = false := q_; subst q2_) | (simp [go_sem, *] at q_; have q2_ : q = false := q_; subst q2_)
  go_wp2
  refine bodyPost_ret (v := .tuple #[.agg #[.int .u32 (n : Int), .int .u32 (m : Int)], .int .i64 0]) (by simp [results, Try.results10, go_sem, *]) rfl ⟨rfl, (by repeat (first | with_reducible exact Below.refl _ _ | with_reducible refine bel_later _ ?_ | with_reducible refine bel_alloc ?_ _ | refine bel_set ?_ (by first | omega | (simp; done) | (simp; omega)) _ | with_reducible refine Below.drew ?_ | with_reducible refine bel_drewN ?_ _ | with_reducible assumption | assumption))⟩
theorem tx_take_spent (e : Nat) (w : World) :
    Calls Try.prog 11 #[.agg #[.int .u32 4294967295, .int .u32 (e : Int)]] w fun en w' => en = .returned (.tuple #[.agg #[.int .u32 4294967295, .int .u32 (e : Int)], .int .u32 0, .int .i64 241]) ∧ Below w.heap.size w w' := by
  go_enter Try.func11, Try.ntmps11
  go_wp2
  refine bodyPost_ret (v := .tuple #[.agg #[.int .u32 4294967295, .int .u32 (e : Int)], .int .u32 0, .int .i64 241]) (by simp [results, Try.results11, go_sem, *]) rfl ⟨rfl, (by repeat (first | with_reducible exact Below.refl _ _ | with_reducible refine bel_later _ ?_ | with_reducible refine bel_alloc ?_ _ | refine bel_set ?_ (by first | omega | (simp; done) | (simp; omega)) _ | with_reducible refine Below.drew ?_ | with_reducible refine bel_drewN ?_ _ | with_reducible assumption | assumption))⟩
theorem tx_take_none (n : Nat) (w : World) (hn : n < 4294967295) :
    Calls Try.prog 11 #[.agg #[.int .u32 (n : Int), .int .u32 (n : Int)]] w fun en w' => en = .returned (.tuple #[.agg #[.int .u32 (n : Int), .int .u32 (n : Int)], .int .u32 0, .int .i64 240]) ∧ Below w.heap.size w w' := by
  have h1 : ((n : Int) == 4294967295) = false := beq_eq_false_iff_ne.2 (by omega)
  go_enter Try.func11, Try.ntmps11
  go_wp2
  refine bodyPost_ret (v := .tuple #[.agg #[.int .u32 (n : Int), .int .u32 (n : Int)], .int .u32 0, .int .i64 240]) (by simp [results, Try.results11, go_sem, *]) rfl ⟨rfl, (by repeat (first | with_reducible exact Below.refl _ _ | with_reducible refine bel_later _ ?_ | with_reducible refine bel_alloc ?_ _ | refine bel_set ?_ (by first | omega | (simp; done) | (simp; omega)) _ | with_reducible refine Below.drew ?_ | with_reducible refine bel_drewN ?_ _ | with_reducible assumption | assumption))⟩
theorem tx_take_one (n e : Nat) (w : World) (hn : n < 4294967295) (h : n < e) :
    Calls Try.prog 11 #[.agg #[.int .u32 (n : Int), .int .u32 (e : Int)]] w fun en w' => en = .returned (.tuple #[.agg #[.int .u32 ((n : Int) + 1), .int .u32 (e : Int)], .int .u32 (n : Int), .int .i64 0]) ∧ Below w.heap.size w w' := by
  have h1 : ((n : Int) == 4294967295) = false := beq_eq_false_iff_ne.2 (by omega)
  have h2 : ((n : Int) == (e : Int)) = false := beq_eq_false_iff_ne.2 (by omega)
  go_enter Try.func11, Try.ntmps11
  go_wp2
  refine bodyPost_ret (v := .tuple #[.agg #[.int .u32 ((n : Int) + 1), .int .u32 (e : Int)], .int .u32 (n : Int), .int .i64 0]) (by simp [results, Try.results11, go_sem, *]) rfl ⟨rfl, (by repeat (first | with_reducible exact Below.refl _ _ | with_reducible refine bel_later _ ?_ | with_reducible refine bel_alloc ?_ _ | refine bel_set ?_ (by first | omega | (simp; done) | (simp; omega)) _ | with_reducible refine Below.drew ?_ | with_reducible refine bel_drewN ?_ _ | with_reducible assumption | assumption))⟩
end Go.Proofs.Ytalaobpehkgilaa
