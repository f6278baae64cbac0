/- Layer 10: Read. -/
import Derived.Test.YtalaobpehkgilaaNvFirst
import Derived.Test.YtalaobpehkgilaaOlist
import Derived.Test.YtalaobpehkgilaaSqD
namespace Go.Proofs.Ytalaobpehkgilaa
open Go.RowKit
set_option linter.unusedVariables false
attribute [local go_sem] Later.cell Later.frozen setCell_twice
/-- a record in memory: the record, and where its text lies -/
structure Rc where
  p : Nr
  A : Option Addr
  c : Nat
abbrev recK : Kind Rc := { f := fun r => rcV r.p.what r.p.tx r.p.who r.p.yes r.A r.p.text.length r.c, s := 5, A := Rc.A, l := fun r => r.p.text, g := byw }
theorem recK_fine : recK.Fine := ⟨fun _ => rfl, by decide, fun a u hu => by
  simp only [rcV, List.mem_cons, List.not_mem_nil, or_false] at hu
  rcases hu with rfl | rfl | rfl | rfl | rfl <;> rfl⟩
/-- the text's slice is a right one -/
def Rc.Nl (r : Rc) : Prop := (r.A = none → r.c = 0) ∧ r.p.text.length ≤ r.c ∧ r.c ≤ 9223372036854775807
/-- the text lies from block B on -/
def Rc.In (r : Rc) (B : Nat) : Prop := ∀ p, r.A = some p → B ≤ p.block
theorem info_record : (Try.prog.info? 35).map (fun i => (i.zero, i.size, i.bytes)) = some (some (.agg #[.int .u8 0, .int .u32 0, .int .u8 0, .bool false, .slice none 0 0]), 5, 40) := by kernel_rfl
def ReadP (b : List Nat) (w : World) (e : Ending) (w' : World) : Prop :=
  ∃ A c m rs, e = .returned (.tuple #[.slice A m c, .int .i64 (((Nr.read b).2 : Nat) : Int)]) ∧ Olist recK w' w.heap.size 35 A m c rs ∧ rs.map Rc.p = (Nr.read b).1 ∧ (∀ r ∈ rs, r.Nl ∧ r.In w.heap.size) ∧ Below w.heap.size w w'
set_option maxRecDepth 100000 in
set_option maxHeartbeats 1000000 in
theorem nread_any (A : Option Addr) (c n : Nat) (b : List Nat) (hn : b.length = n) (w : World) (hsq : Sq byw w w.heap.size A b) (hu : ∀ y ∈ b, y < 256) (hA : A = none → c = 0) (hnc : n ≤ c) (hc : c ≤ 9223372036854775807) (hn1 : n ≤ 1000000) :
    Calls Try.prog 16 #[.slice A n c] w (ReadP b w) := by
  obtain ⟨i1, hif1, hy0, hy1, hy2⟩ := info_parts info_record
  have HN := Lib.hid hn
  have HSQ := Lib.hid hsq
  have HU := Lib.hid hu
  clear hsq hu hn
  rcases Nat.eq_zero_or_pos n with h0 | hpos
  · subst h0
    have kf0 : Hid (∀ (A2 : Option Addr) (c2 : Nat) (W : World), (A2 = none → c2 = 0) → c2 ≤ 9223372036854775807 → Calls Try.prog 25 #[.slice A2 0 c2] W (FirstP (b.drop 0) W)) := Lib.hid (fun A2 c2 W h1 h2 => first_any A2 c2 0 (b.drop 0) (by rw [List.length_drop, HN.out]) W (fun h => by rw [List.length_drop, HN.out] at h; omega) (fun y hy => HU.out y (List.mem_of_mem_drop hy)) h1 (Nat.zero_le _) h2)
    obtain ⟨n, hn0⟩ : ∃ n, n = 0 := ⟨_, rfl⟩
    cases A with
    | none =>
      obtain rfl : c = 0 := hA rfl
      go_enter Try.func16, Try.ntmps16
      go_wp2
      go_loopw [4, 5] (fun v4 v5 wr => ∃ (rs : List Rc) (m : Nat) (A' : Option Addr) (c' at_ : Nat), v4 = .slice A' m c' ∧ v5 = .int .i64 (at_ : Int) ∧ at_ ≤ n ∧ Olist recK wr w.heap.size 35 A' m c' rs ∧ Nr.read b = (rs.map Rc.p ++ (Nr.read (b.drop at_)).1, at_ + (Nr.read (b.drop at_)).2) ∧ (∀ r ∈ rs, r.Nl ∧ r.In w.heap.size) ∧ m * 13 ≤ at_ ∧ Below w.heap.size w wr) (fun _ v5 _ => n - (intOf v5).toNat)
      case atStart => exact ⟨[], 0, none, 0, 0, rfl, rfl, by omega, Olist.nil _ _ _ _, by simp, by simp, by omega, Below.refl _ _⟩
      case round =>
        obtain ⟨rs, m, A', c', at_, rfl, rfl, hat, hol, hrd, hnl, hml, hbe⟩ := hrel
        rename World => wr
        have OL := Lib.hid hol
        have HRD := Lib.hid hrd
        have HNL := Lib.hid hnl
        have BE := Lib.hid hbe
        clear hol hrd hnl hbe
        have hs0 : (0 : Int) ≤ (at_ : Int) := by omega
        have hs1 : (at_ : Int) ≤ (n : Int) := by omega
        have hs2 : at_ ≤ n := hat
        obtain rfl : at_ = 0 := by omega
        subst hn0
        go_wp2_with fail
        refine (kf0.out _ _ _ (by simp) (by omega)).mono ?_
        rintro e w3 ⟨b3, hm3⟩
        have hf0 : Nr.first (b.drop 0) = none := by unfold Nr.first; rw [if_pos (.inl (by rw [List.length_drop, HN.out]; omega))]
        rw [hf0] at hm3
        simp only at hm3
        subst hm3
        have HFX := Lib.hid hf0
        clear hf0 kf0
        go_wp2
        go_ret2
        refine ⟨A', c', m, rs, ?_, OL.out.to (bel_alloc b3 _), ?_, HNL.out, BE.out.trans ((bel_alloc b3 _).mono BE.out.size)⟩
        · rw [HRD.out, Nr.read_none HFX.out]; rfl
        · rw [HRD.out, Nr.read_none HFX.out]; simp
    | some p => 
      go_enter Try.func16, Try.ntmps16
      go_wp2
      go_loopw [4, 5] (fun v4 v5 wr => ∃ (rs : List Rc) (m : Nat) (A' : Option Addr) (c' at_ : Nat), v4 = .slice A' m c' ∧ v5 = .int .i64 (at_ : Int) ∧ at_ ≤ n ∧ Olist recK wr w.heap.size 35 A' m c' rs ∧ Nr.read b = (rs.map Rc.p ++ (Nr.read (b.drop at_)).1, at_ + (Nr.read (b.drop at_)).2) ∧ (∀ r ∈ rs, r.Nl ∧ r.In w.heap.size) ∧ m * 13 ≤ at_ ∧ Below w.heap.size w wr) (fun _ v5 _ => n - (intOf v5).toNat)
      case atStart => exact ⟨[], 0, none, 0, 0, rfl, rfl, by omega, Olist.nil _ _ _ _, by simp, by simp, by omega, Below.refl _ _⟩
      case round =>
        obtain ⟨rs, m, A', c', at_, rfl, rfl, hat, hol, hrd, hnl, hml, hbe⟩ := hrel
        rename World => wr
        have OL := Lib.hid hol
        have HRD := Lib.hid hrd
        have HNL := Lib.hid hnl
        have BE := Lib.hid hbe
        clear hol hrd hnl hbe
        have hs0 : (0 : Int) ≤ (at_ : Int) := by omega
        have hs1 : (at_ : Int) ≤ (n : Int) := by omega
        have hs2 : at_ ≤ n := hat
        obtain rfl : at_ = 0 := by omega
        subst hn0
        go_wp2_with fail
        refine (kf0.out _ _ _ (by simp) (by omega)).mono ?_
        rintro e w3 ⟨b3, hm3⟩
        have hf0 : Nr.first (b.drop 0) = none := by unfold Nr.first; rw [if_pos (.inl (by rw [List.length_drop, HN.out]; omega))]
        rw [hf0] at hm3
        simp only at hm3
        subst hm3
        have HFX := Lib.hid hf0
        clear hf0 kf0
        go_wp2
        go_ret2
        refine ⟨A', c', m, rs, ?_, OL.out.to (bel_alloc b3 _), ?_, HNL.out, BE.out.trans ((bel_alloc b3 _).mono BE.out.size)⟩
        · rw [HRD.out, Nr.read_none HFX.out]; rfl
        · rw [HRD.out, Nr.read_none HFX.out]; simp
  · obtain ⟨g, o, rfl, hg, _⟩ := HSQ.out (by rw [HN.out]; exact hpos)
    go_enter Try.func16, Try.ntmps16
    go_wp2
    go_loopw [4, 5] (fun v4 v5 wr => ∃ (rs : List Rc) (m : Nat) (A' : Option Addr) (c' at_ : Nat), v4 = .slice A' m c' ∧ v5 = .int .i64 (at_ : Int) ∧ at_ ≤ n ∧ Olist recK wr w.heap.size 35 A' m c' rs ∧ Nr.read b = (rs.map Rc.p ++ (Nr.read (b.drop at_)).1, at_ + (Nr.read (b.drop at_)).2) ∧ (∀ r ∈ rs, r.Nl ∧ r.In w.heap.size) ∧ m * 13 ≤ at_ ∧ Below w.heap.size w wr) (fun _ v5 _ => n - (intOf v5).toNat)
    case atStart => exact ⟨[], 0, none, 0, 0, rfl, rfl, by omega, Olist.nil _ _ _ _, by simp, by simp, by omega, Below.refl _ _⟩
    case round =>
      obtain ⟨rs, m, A', c', at_, rfl, rfl, hat, hol, hrd, hnl, hml, hbe⟩ := hrel
      rename World => wr
      have OL := Lib.hid hol
      have HRD := Lib.hid hrd
      have HNL := Lib.hid hnl
      have BE := Lib.hid hbe
      clear hol hrd hnl hbe
      have hs0 : (0 : Int) ≤ (at_ : Int) := by omega
      have hs1 : (at_ : Int) ≤ (n : Int) := by omega
      have hs2 : at_ ≤ n := hat
      by_cases hca : c = at_
      · have kf := first_any (some ⟨g, o, none⟩) 0 0 (b.drop at_) (by rw [List.length_drop, HN.out]; omega) wr (fun h => by rw [List.length_drop, HN.out] at h; omega) (fun y hy => HU.out y (List.mem_of_mem_drop hy)) (by simp) (by omega) (by omega)
        obtain rfl : n = at_ := by omega
        go_wp2_with fail
        with_reducible refine kf.mono ?_
        rintro e w3 ⟨b3, hm3⟩
        have hf0 : Nr.first (b.drop n) = none := by unfold Nr.first; rw [if_pos (.inl (by rw [List.length_drop, HN.out]; omega))]
        rw [hf0] at hm3
        simp only at hm3
        subst hm3
        have HFX := Lib.hid hf0
        clear hf0 kf
        go_wp2
        go_ret2
        refine ⟨A', c', m, rs, ?_, OL.out.to (bel_alloc b3 _), ?_, HNL.out, BE.out.trans ((bel_alloc b3 _).mono BE.out.size)⟩
        · rw [HRD.out, Nr.read_none HFX.out]; rfl
        · rw [HRD.out, Nr.read_none HFX.out]; simp
      · have hca2 : (c = at_) = False := by simp [hca]
        have kf := Lib.hid (first_any (some ⟨g, o + at_, none⟩) (c - at_) (n - at_) (b.drop at_) (by rw [List.length_drop, HN.out]) wr (Sq.drop ((HSQ.out.below BE.out).more BE.out.size)) (fun y hy => HU.out y (List.mem_of_mem_drop hy)) (by simp) (by omega) (by omega))
        go_wp2_with fail
        with_reducible refine kf.out.mono ?_
        rintro e w3 ⟨b3, hm3⟩
        have HM3 := Lib.hid hm3
        clear hm3 kf
        cases hfx : Nr.first (b.drop at_) with
        | none =>
          have hm3 := HM3.out
          rw [hfx] at hm3
          simp only at hm3
          subst hm3
          have HFX := Lib.hid hfx
          clear hfx
          go_wp2
          go_ret2
          refine ⟨A', c', m, rs, ?_, OL.out.to (bel_alloc b3 _), ?_, HNL.out, BE.out.trans ((bel_alloc b3 _).mono BE.out.size)⟩
          · rw [HRD.out, Nr.read_none HFX.out]; rfl
          · rw [HRD.out, Nr.read_none HFX.out]; simp
        | some x =>
          have hm3 := HM3.out
          rw [hfx] at hm3
          obtain ⟨A3, c3, rfl, o3⟩ := hm3
          have hle := Nr.first_le hfx
          have HFX := Lib.hid hfx
          obtain ⟨z, hz⟩ : ∃ z, x.size = z := ⟨_, rfl⟩
          rw [hz] at hle ⊢
          rw [List.length_drop, HN.out] at hle
          have HZ := Lib.hid hz
          have hz13 : 13 ≤ z := hle.2.2
          have hz1 : z ≤ n - at_ := hle.1
          have gz : ((z : Int) == 0) = false := by simp; omega
          have O3 := Lib.hid o3
          have HOFF : Hid (recK.Off A' ⟨x, A3, c3⟩) := Lib.hid (fun hn p q hp hq => by have h1 := (own_at_s OL.out.own q hq).2.1; have h2 := (own_at_s O3.out p hp).1; omega)
          have OL3 := Lib.hid (OL.out.to b3)
          have BE3 := Lib.hid (BE.out.trans (b3.mono BE.out.size))
          have hsz : wr.heap.size ≤ w3.heap.size := b3.size
          have hwr : w.heap.size ≤ wr.heap.size := BE.out.size
          clear hfx hz hle o3 b3 OL BE HM3
          go_wp2_with (at_builtin; refine wpList_append_el (w3.alloc (.cells (rcV x.what x.tx x.who x.yes A3 x.text.length c3).toArray 35)) rfl (.tmp 19) (.tmp 21) 29 rfl recK_fine w.heap.size 35 i1 _ 40 Try.underlying29 hif1 hy0 hy1 hy2 rfl A' m c' rs rfl 35 ⟨x, A3, c3⟩ (w3.heap.size + 1) (by simp) (OL3.out.to (bel_alloc (Below.refl _ _) _)) rfl (((Sq.of_own O3.out).below (bel_alloc (Below.refl _ _) _)).more (by simp)) HOFF.out (by omega) (by omega) (by simp; omega) ?_; intro A4 c4 w4 ol4 g4 _ b4; have OL4 := Lib.hid ol4; have B4 := Lib.hid (BE3.out.trans (((Below.refl w.heap.size w3).alloc (by omega) _).trans b4)); clear ol4 g4 b4)
          go_wp2
          go_roundw
          case rel =>
            have hrx := Nr.read_some HFX.out
            refine ⟨rs ++ [⟨x, A3, c3⟩], m + 1, A4, c4, at_ + z, rfl, by go_num, by omega, OL4.out, ?_, fun r hr => ?_, by omega, B4.out⟩
            · rw [HRD.out, hrx, HZ.out, List.drop_drop]
              simp [Nat.add_assoc]
            · rcases List.mem_append.1 hr with h1 | h1
              · exact HNL.out r h1
              · obtain rfl := List.mem_singleton.1 h1
                have h2 := own_nil_s O3.out
                exact ⟨⟨fun h => (h2.1 h).1, h2.2.1, h2.2.2⟩, fun p hp => Nat.le_trans hwr (own_at_s O3.out p hp).1⟩
          case measure => simp [intOf]; omega
end Go.Proofs.Ytalaobpehkgilaa
