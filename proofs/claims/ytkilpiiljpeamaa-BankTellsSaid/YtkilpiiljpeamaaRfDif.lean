/- The walk of the reference of layer 17: Diff. -/
import Derived.Test.YtkilpiiljpeamaaIvLaw
import Derived.Test.YtkilpiiljpeamaaDiffAll
import Derived.Test.YtkilpiiljpeamaaStvB
import Derived.Test.YtkilpiiljpeamaaOnly
import Derived.Test.YtkilpiiljpeamaaSqD
namespace Go.Proofs.Ytkilpiiljpeamaa
open Go.RowKit
set_option linter.unusedVariables false
set_option linter.unusedSimpArgs false
attribute [local go_sem] Later.cell Later.frozen setCell_twice
def RDiffQ (a b : List Nat) (w : World) (e : Ending) (w' : World) : Prop := Below w.heap.size w w' ∧ if a.length = 64 ∧ b.length = 64 then ∃ bl Al cl, e = .returned (.tuple #[.slice Al (bl : List Blk).length cl, .int .i64 0]) ∧ prs bl = dif b (difs a b 64) ∧ Blks w' w'.heap.size Al bl ∧ bl.length ≤ cl else e = .returned (.tuple #[.slice none 0 0, .int .i64 21])
theorem lit2h (w : World) (x y : Value) (t : TypeId) (g : Nat) (hg : w.heap.size = g) : ∀ (j : Nat) (u : Value), [x, y][j]? = some u → (w.alloc (.cells #[x, y] t)).cell? ((⟨g, 0, none⟩ : Addr).add j) = some u := by
  subst hg
  exact lit2 w x y t
theorem gw_eqI {a b : List Nat} {i : Nat} (h : gw a i = gw b i) : (((gw a i : Nat) : Int) == ((gw b i : Nat) : Int)) = true := by rw [h]; exact beq_self_eq_true _
theorem gw_neI {a b : List Nat} {i : Nat} (h : gw a i ≠ gw b i) : (((gw a i : Nat) : Int) == ((gw b i : Nat) : Int)) = false := beq_eq_false_iff_ne.2 (fun he => h (by omega))
set_option maxRecDepth 100000 in
set_option maxHeartbeats 2000000 in
theorem rdiff_go (ba oa bb ob ca cb : Nat) (a b : List Nat) (w : World) (hba : ba < w.heap.size) (hbb : bb < w.heap.size) (hbl : b.length = 64) (hub : ∀ x ∈ b, x < 65536) (hcb : 64 ≤ cb)
    (ha : ∀ j, j < 64 → w.cell? ⟨ba, oa + j, none⟩ = some (.int .u16 ((gw a j : Nat) : Int))) (hb : ∀ j, j < 64 → w.cell? ⟨bb, ob + j, none⟩ = some (.int .u16 ((gw b j : Nat) : Int))) (hbs : Sq u16w w w.heap.size (some ⟨bb, ob, none⟩) b) :
    Calls Try.prog 19 #[.slice (some ⟨ba, oa, none⟩) 64 ca, .slice (some ⟨bb, ob, none⟩) 64 cb] w fun e w' => Below w.heap.size w w' ∧ ∃ bl Al cl, e = .returned (.tuple #[.slice Al (bl : List Blk).length cl, .int .i64 0]) ∧ prs bl = (iv a b 64).map (cutb b) ∧ Blks w' w'.heap.size Al bl ∧ bl.length ≤ cl := by
  obtain ⟨iB, hifB, hb0, hb1, hb2⟩ := info_parts info_block
  obtain ⟨iW, hifW, hw0, hw1, hw2⟩ := info_parts info_w16
  have HA := Lib.hid (fun j (hj : j < 64) W (hW : Below w.heap.size w W) => (hW.cell (p := ⟨ba, oa + j, none⟩) hba).trans (ha j hj))
  have HB := Lib.hid (fun j (hj : j < 64) W (hW : Below w.heap.size w W) => (hW.cell (p := ⟨bb, ob + j, none⟩) hbb).trans (hb j hj))
  have HS := Lib.hid hbs
  have HL := Lib.hid hbl
  have HU := Lib.hid hub
  clear ha hb hbs hbl hub
  go_enter Try.func19, Try.ntmps19
  go_wp2
  go_loopw [6, 7] (fun v i wr => ∃ s n : Nat, ∃ A c bl, s ≤ 64 ∧ i = .int .i64 s ∧ v = .slice A n c ∧ n = (bl : List Blk).length ∧ n ≤ s ∧ prs bl = (iv a b s).map (cutb b) ∧ Closed a b s ∧ (∀ y ∈ bl, y.Ok wr wr.heap.size ∧ y.Off (Value.slice A n c).ownBlock ∧ y.In w.heap.size wr.heap.size) ∧ wr.ownsRow w.heap.size 34 2 (.slice A n c) n (bl.flatMap Blk.cells) ∧ Below w.heap.size w wr)
    (fun _ i _ => 64 - (intOf i).toNat)
  case atStart => exact ⟨0, 0, none, 0, [], by omega, rfl, rfl, rfl, by omega, rfl, closed_zero a b, by simp, World.ownsRow_nil _ _ _ _, Below.refl _ _⟩
  case round =>
    obtain ⟨s, n, A, c, bl, hs, rfl, rfl, hn, hns, hprs, hcl, hok, hown, hbe⟩ := hrel
    rename World => wx
    have HP := Lib.hid hprs
    have HC := Lib.hid hcl
    have HK := Lib.hid hok
    have HN := Lib.hid hn
    have HO := Lib.hid hown
    have BE := Lib.hid hbe
    clear hprs hcl hok hn hown
    by_cases hlt : s < 64
    · have hltI : (s : Int) < 64 := by omega
      have c0 := HA.out s hlt wx hbe
      have c1 := HB.out s hlt wx hbe
      have hbx := hbe.size
      have hba' : ba < wx.heap.size := by omega
      have hbb' : bb < wx.heap.size := by omega
      clear hbe
      by_cases he : gw a s = gw b s
      · have g1 := gw_eqI he
        have HE := Lib.hid he
        clear he
        go_wp2
        go_quiet (fail)
        go_wp2
        go_roundw
        case rel =>
          have bd := bel_drewN (Below.refl wx.heap.size wx) nq
          exact ⟨s + 1, n, A, c, bl, by omega, by go_num, rfl, HN.out, by omega, by rw [iv_skip HE.out]; exact HP.out, closed_skip HE.out HC.out, fun y hy => ⟨(HK.out y hy).1.to bd, (HK.out y hy).2.1, fun p hp => ⟨((HK.out y hy).2.2 p hp).1, Nat.lt_of_lt_of_le ((HK.out y hy).2.2 p hp).2 bd.size⟩⟩, own_below HO.out bd, BE.out.trans (bd.mono BE.out.size)⟩
        case measure => simp [intOf]; omega
      · have g1 := gw_neI he
        have HE := Lib.hid he
        have HT := Lib.hid (iv_new he hlt HC.out)
        clear he
        go_wp2
        go_quiet (fail)
        have BD := Lib.hid (bel_drewN (Below.refl wx.heap.size wx) nq)
        clear c0 c1 g1
        go_wp2
        go_loopw [8] (fun v wr2 => ∃ e : Nat, s < e ∧ e ≤ 64 ∧ v = .int .i64 e ∧ iv a b e = iv a b s ++ [(s, e)] ∧ Below wx.heap.size wx wr2) (fun v _ => 64 - (intOf v).toNat)
        case atStart => exact ⟨s + 1, by omega, by omega, by go_num, HT.out, BD.out⟩
        case round =>
          obtain ⟨e, hse, he64, rfl, hiv, hbe2⟩ := hrel
          rename World => wy
          have HI := Lib.hid hiv
          have B2 := Lib.hid hbe2
          clear hiv hbe2
          by_cases h64 : e < 64
          · have h64I : (e : Int) < 64 := by omega
            have h64J : ¬ (64 : Int) ≤ (e : Int) := by omega
            have c0 := HA.out e h64 wy (BE.out.trans (B2.out.mono BE.out.size))
            have c1 := HB.out e h64 wy (BE.out.trans (B2.out.mono BE.out.size))
            have hba2 : ba < wy.heap.size := Nat.lt_of_lt_of_le hba' B2.out.size
            have hbb2 : bb < wy.heap.size := Nat.lt_of_lt_of_le hbb' B2.out.size
            obtain ⟨f, hf⟩ : ∃ f, e + 1 = f := ⟨_, rfl⟩
            have hfI : (e : Int) + 1 = (f : Int) := by omega
            obtain ⟨k, hk⟩ : ∃ k, f = s + k := ⟨f - s, by omega⟩
            have hkI : (f : Int) - (s : Int) = (k : Int) := by omega
            have hkI2 : (e : Int) - (s : Int) = (k : Int) - 1 := by omega
            have hkE : e - s + 1 = k := by omega
            have hwk : IntKind.i64.wrap (k : Int) = (k : Int) := IntWalk.i64_in _ (by omega)
            have hwk2 : IntKind.i64.wrap ((k : Int) - 1) = (k : Int) - 1 := IntWalk.i64_in _ (by omega)
            have HEF := Lib.hid hf
            have HKE := Lib.hid hkE
            clear hk hf hkE
            by_cases hq : gw a e = gw b e
            · have g1 := gw_eqI hq
              by_cases h63 : f < 64
              · have h63I : (f : Int) < 64 := by omega
                have h63J : ¬ (64 : Int) ≤ (f : Int) := by omega
                by_cases hq2 : gw a f = gw b f
                · have g2 := gw_eqI hq2
                  have HCL := Lib.hid (closed_two HI.out hq (by rw [HEF.out]; exact hq2))
                  clear hq hq2
                  go_wp2
                  go_quiet (fail)
                  obtain ⟨wz, hwz⟩ : ∃ wz, wy.drewN nq = wz := ⟨_, rfl⟩
                  have B3 : Hid (Below wx.heap.size wx wz) := Lib.hid (by rw [← hwz]; exact bel_drewN B2.out _)
                  rw [hwz]
                  clear hwz
                  try clear c0
                  try clear c1
                  have hba3 : ba < wz.heap.size := Nat.lt_of_lt_of_le hba' B3.out.size
                  have hbb3 : bb < wz.heap.size := Nat.lt_of_lt_of_le hbb' B3.out.size
                  try have c2 := HA.out _ h63 wz (BE.out.trans (B3.out.mono BE.out.size))
                  try have c3 := HB.out _ h63 wz (BE.out.trans (B3.out.mono BE.out.size))
                  try have c4 := HA.out _ h64 wz (BE.out.trans (B3.out.mono BE.out.size))
                  try have c5 := HB.out _ h64 wz (BE.out.trans (B3.out.mono BE.out.size))
                  go_wp2
                  go_quiet (fail)
                  obtain ⟨wu, hwu⟩ : ∃ wu, wz.drewN nq = wu := ⟨_, rfl⟩
                  have B4 : Hid (Below wx.heap.size wx wu) := Lib.hid (by rw [← hwu]; exact bel_drewN B3.out _)
                  rw [hwu]
                  clear hwu
                  try clear c2 c3
                  try clear c4 c5
                  go_upto_region 15 with fail
                  obtain ⟨W, hW⟩ : ∃ W, wu.alloc (.cells #[.int .i64 (s : Int), .slice none 0 0] 34) = W := ⟨_, rfl⟩
                  have d0 : W.cell? ⟨wu.heap.size, 0, none⟩ = some (.int .i64 (s : Int)) := by rw [← hW]; simp [go_sem]
                  have d1 : W.cell? ⟨wu.heap.size, 1, none⟩ = some (.slice none 0 0) := by rw [← hW]; simp [go_sem]
                  have z1 : W.frozen? ⟨wu.heap.size, 1, none⟩ = false := by rw [← hW]; simp [go_sem]
                  have hWs : W.heap.size = wu.heap.size + 1 := by rw [← hW]; simp
                  have BW : Hid (Below wx.heap.size wx W) := Lib.hid (by rw [← hW]; exact bel_alloc B4.out _)
                  rw [hW]
                  have hwg := B4.out.size
                  clear hW
                  obtain ⟨g7, hg7⟩ : ∃ g, wu.heap.size = g := ⟨_, rfl⟩
                  rw [hg7] at d0 d1 z1 hWs hwg ⊢
                  clear hg7
                  have hg7W : g7 < W.heap.size := by omega
                  have HWS := Lib.hid hWs
                  clear hWs
                  have hseI : (s : Int) ≤ (e : Int) := by omega
                  have he64I : (e : Int) ≤ 64 := by omega
                  have hecI : (e : Int) ≤ (cb : Int) := by omega
                  have hsc : ¬ cb = s := by omega
                  obtain ⟨q, hq⟩ : ∃ q, e = s + q := ⟨e - s, by omega⟩
                  have hqI : (e : Int) - (s : Int) = (q : Int) := by omega
                  have hqN : e - s = q := by omega
                  have HSW := Lib.hid (show Sq u16w W W.heap.size (some ⟨bb, ob + s, none⟩) ((b.drop s).take q) from (Sq.drop (n := s) (HS.out.to (BE.out.trans (BW.out.mono BE.out.size)))).take q)
                  have HQL := Lib.hid (show ((b.drop s).take q).length = q by rw [List.length_take, List.length_drop, HL.out]; omega)
                  have HQU := Lib.hid (show ∀ z ∈ (b.drop s).take q, z < 65536 from fun z hz => HU.out z (List.mem_of_mem_drop (List.mem_of_mem_take hz)))
                  have HCB := Lib.hid (show cutb b (s, e) = ((s : Int), (b.drop s).take q) by unfold cutb; simp only; rw [hqN])
                  have HEQ := Lib.hid hq
                  clear hq
                  refine wp_region_still_tail 6 (by kernel_rfl) (by kernel_rfl) ?_
                  simp only [List.take_succ_cons, List.take_zero, List.drop_succ_cons, List.drop_zero]
                  obtain ⟨V, hV⟩ : ∃ V : World, ({ heap := W.heap, tape := W.tape, drawn := W.drawn + 1, os := W.os, output := W.output } : World) = V := ⟨_, rfl⟩
                  rw [hV]
                  have bWV : Below W.heap.size W V := by rw [← hV]; exact (Below.refl _ _).drew
                  have hVW : V.heap.size = W.heap.size := by rw [← hV]
                  have d0V := (bWV.cell (p := ⟨g7, 0, none⟩) hg7W).trans d0
                  have d1V := (bWV.cell (p := ⟨g7, 1, none⟩) hg7W).trans d1
                  have z1V := (bWV.frozen (p := ⟨g7, 1, none⟩) hg7W).trans z1
                  have HSV := Lib.hid (HSW.out.to bWV)
                  have BV := Lib.hid (BW.out.trans (bWV.mono BW.out.size))
                  have hg7V : g7 < V.heap.size := by omega
                  clear hV bWV hVW d0 d1 z1 HSW BW hg7W HWS
                  repeat still_step
                  try refine wpStill_nil ?_
                  go_wp2_with (first
                    | (refine wpList_append_sq (f := u16w) _ rfl (.tmp 74) (.tmp 78) 22 rfl (fun _ => rfl) V.heap.size 25 iW _ 2 Try.underlying22 hifW hw0 rfl hw1 hw2 (by decide) (.slice none 0 0) [] rfl (World.ownsRow_nil _ _ _ _) V.heap.size (some ⟨bb, ob + s, none⟩) ((b.drop s).take q) (cb - s) q HQL.out rfl HSV.out (by simp) (by simp; omega) (Nat.le_refl _) ?_; intro A5 c5 w5 o5 g5 b5; rw [List.nil_append, HQL.out] at o5 ⊢; have f0 := (b5.cell (p := ⟨g7, 0, none⟩) hg7V).trans d0V; have f1 := (b5.cell (p := ⟨g7, 1, none⟩) hg7V).trans d1V; have fz := (b5.frozen (p := ⟨g7, 1, none⟩) hg7V).trans z1V; have hg75 : g7 < w5.heap.size := Nat.lt_of_lt_of_le hg7V b5.size; have O5 := Lib.hid o5; have B6 : Hid (Below wx.heap.size wx (w5.setCell ⟨g7, 1, none⟩ (.slice A5 q c5))) := Lib.hid (bel_set (BV.out.trans (b5.mono BV.out.size)) (p := ⟨g7, 1, none⟩) hwg _); have OW6 := Lib.hid (own_below HO.out B6.out); have O6 : Hid ((w5.setCell ⟨g7, 1, none⟩ (.slice A5 q c5)).ownsRow V.heap.size 25 1 (.slice A5 q c5) q (((b.drop s).take q).map u16w)) := Lib.hid (((Only.refl g7 w5).set _).own o5 hg7V); clear o5 g5 b5)
                    | (at_builtin; refine wpList_append_own_at _ rfl (.tmp 81) (.tmp 83) 26 rfl w.heap.size 34 iB _ 2 32 Try.underlying26 hifB hb0 hb1 hb2 rfl (Nat.zero_lt_two) (.slice A n c) n (bl.flatMap Blk.cells) rfl (OW6.out.alloc _) ⟨w5.heap.size, 0, none⟩ 1 1 [.int .i64 (s : Int), .slice A5 q c5] rfl rfl ?_ ?_ ?_ ?_ ?_ ?_; exact lit2h (w5.setCell ⟨g7, 1, none⟩ (.slice A5 q c5)) _ _ _ _ (by simp); exact one2 _ _ _ _; (unfold maxLen; omega); omega; (have h1 := (BE.out.trans (B6.out.mono BE.out.size)).size; simp at h1 ⊢; omega); intro v3 w3 hown3 hg3 _ hat3; have HG3 := Lib.hid hg3; have HAT := Lib.hid hat3; clear hg3 hat3))
                  have HVX := Lib.hid BV.out.size
                  obtain ⟨A3, c3, rfl, hA3⟩ := own_form2 hown3
                  go_roundw
                  case rel =>
                    have hg3 := HG3.out
                    have hsz3 := hg3.size
                    have hvx := HVX.out
                    have hwx := BE.out.size
                    have b6 := B6.out
                    have hs6 := b6.size
                    have hs5 : (w5.setCell ⟨g7, 1, none⟩ (.slice A5 q c5)).heap.size = w5.heap.size := by simp
                    simp at hsz3
                    have hob : (Blk.mk (s : Int) ((b.drop s).take q) A5 c5).Ok (w5.setCell ⟨g7, 1, none⟩ (.slice A5 q c5)) (w5.setCell ⟨g7, 1, none⟩ (.slice A5 q c5)).heap.size := Blk.Ok.of_own HQL.out O6.out HQU.out (by omega) (by omega)
                    have hlq : (Blk.mk (s : Int) ((b.drop s).take q) A5 c5).ws.length = q := HQL.out
                    have hlb := HN.out
                    refine ⟨e, n + 1, A3, c3, bl ++ [Blk.mk (s : Int) ((b.drop s).take q) A5 c5], by omega, rfl, rfl, by simp; omega, by omega, ?_, HCL.out, fun z hz => ?_, ?_, ?_⟩
                    · have hp := HP.out
                      rw [HI.out]
                      simp only [prs, List.map_append, List.map_cons, List.map_nil] at hp ⊢
                      rw [hp, HCB.out]
                    · have key : z.Ok (w5.setCell ⟨g7, 1, none⟩ (.slice A5 q c5)) (w5.setCell ⟨g7, 1, none⟩ (.slice A5 q c5)).heap.size ∧ z.Off (Value.slice A n c).ownBlock ∧ z.In w.heap.size (w5.setCell ⟨g7, 1, none⟩ (.slice A5 q c5)).heap.size := by
                        rcases List.mem_append.1 hz with hz | hz
                        · have h := HK.out z hz
                          exact ⟨h.1.to b6, h.2.1, fun p hp => ⟨(h.2.2 p hp).1, Nat.lt_of_lt_of_le (h.2.2 p hp).2 b6.size⟩⟩
                        · obtain rfl : z = _ := List.mem_singleton.1 hz
                          have h5 : ∀ p, A5 = some p → V.heap.size ≤ p.block ∧ p.block < (w5.setCell ⟨g7, 1, none⟩ (.slice A5 q c5)).heap.size := fun p hp => O6.out.lt p.block (by rw [hp]; rfl)
                          refine ⟨hob, fun p hp e => ?_, fun p hp => ⟨by have := (h5 p hp).1; omega, (h5 p hp).2⟩⟩
                          have h1 := (HO.out.lt _ e.symm).2
                          have h2 := (h5 p hp).1
                          omega
                      obtain ⟨y1, y2, y3⟩ := key
                      refine ⟨(y1.to (bel_alloc (Below.refl _ _) _)).grown hg3 y2, fun p hp e => ?_, fun p hp => ?_⟩
                      · have h3 := y3 p hp
                        rcases HAT.out with h | h
                        · rw [h] at e
                          exact y2 p hp e
                        · rw [h] at e
                          have := Option.some.inj e
                          simp at this
                          omega
                      · have h3 := y3 p hp
                        omega
                    · have h := hown3
                      rw [show bl.flatMap Blk.cells ++ [Value.int .i64 (s : Int), .slice A5 q c5] = (bl ++ [Blk.mk (s : Int) ((b.drop s).take q) A5 c5]).flatMap Blk.cells by simp [HQL.out]] at h
                      exact h
                    · exact (bel_alloc (BE.out.trans (b6.mono hwx)) _).grown hg3 (by simp; omega) (fun g hg => (OW6.out.lt g hg).1)
                  case measure => simp [intOf]; omega
                · have g2 := gw_neI hq2
                  by_cases h14 : 14 ≤ k
                  · have h14I : (14 : Int) ≤ (k : Int) := by omega
                    have HCL := Lib.hid (closed_full2 HI.out hq (by rw [HEF.out]; exact hq2) (by have := HKE.out; omega))
                    clear hq hq2
                    go_wp2
                    go_quiet (fail)
                    obtain ⟨wz, hwz⟩ : ∃ wz, wy.drewN nq = wz := ⟨_, rfl⟩
                    have B3 : Hid (Below wx.heap.size wx wz) := Lib.hid (by rw [← hwz]; exact bel_drewN B2.out _)
                    rw [hwz]
                    clear hwz
                    try clear c0
                    try clear c1
                    have hba3 : ba < wz.heap.size := Nat.lt_of_lt_of_le hba' B3.out.size
                    have hbb3 : bb < wz.heap.size := Nat.lt_of_lt_of_le hbb' B3.out.size
                    try have c2 := HA.out _ h63 wz (BE.out.trans (B3.out.mono BE.out.size))
                    try have c3 := HB.out _ h63 wz (BE.out.trans (B3.out.mono BE.out.size))
                    try have c4 := HA.out _ h64 wz (BE.out.trans (B3.out.mono BE.out.size))
                    try have c5 := HB.out _ h64 wz (BE.out.trans (B3.out.mono BE.out.size))
                    go_wp2
                    go_quiet (fail)
                    obtain ⟨wu, hwu⟩ : ∃ wu, wz.drewN nq = wu := ⟨_, rfl⟩
                    have B4 : Hid (Below wx.heap.size wx wu) := Lib.hid (by rw [← hwu]; exact bel_drewN B3.out _)
                    rw [hwu]
                    clear hwu
                    try clear c2 c3
                    try clear c4 c5
                    go_upto_region 15 with fail
                    obtain ⟨W, hW⟩ : ∃ W, wu.alloc (.cells #[.int .i64 (s : Int), .slice none 0 0] 34) = W := ⟨_, rfl⟩
                    have d0 : W.cell? ⟨wu.heap.size, 0, none⟩ = some (.int .i64 (s : Int)) := by rw [← hW]; simp [go_sem]
                    have d1 : W.cell? ⟨wu.heap.size, 1, none⟩ = some (.slice none 0 0) := by rw [← hW]; simp [go_sem]
                    have z1 : W.frozen? ⟨wu.heap.size, 1, none⟩ = false := by rw [← hW]; simp [go_sem]
                    have hWs : W.heap.size = wu.heap.size + 1 := by rw [← hW]; simp
                    have BW : Hid (Below wx.heap.size wx W) := Lib.hid (by rw [← hW]; exact bel_alloc B4.out _)
                    rw [hW]
                    have hwg := B4.out.size
                    clear hW
                    obtain ⟨g7, hg7⟩ : ∃ g, wu.heap.size = g := ⟨_, rfl⟩
                    rw [hg7] at d0 d1 z1 hWs hwg ⊢
                    clear hg7
                    have hg7W : g7 < W.heap.size := by omega
                    have HWS := Lib.hid hWs
                    clear hWs
                    have hseI : (s : Int) ≤ (e : Int) := by omega
                    have he64I : (e : Int) ≤ 64 := by omega
                    have hecI : (e : Int) ≤ (cb : Int) := by omega
                    have hsc : ¬ cb = s := by omega
                    obtain ⟨q, hq⟩ : ∃ q, e = s + q := ⟨e - s, by omega⟩
                    have hqI : (e : Int) - (s : Int) = (q : Int) := by omega
                    have hqN : e - s = q := by omega
                    have HSW := Lib.hid (show Sq u16w W W.heap.size (some ⟨bb, ob + s, none⟩) ((b.drop s).take q) from (Sq.drop (n := s) (HS.out.to (BE.out.trans (BW.out.mono BE.out.size)))).take q)
                    have HQL := Lib.hid (show ((b.drop s).take q).length = q by rw [List.length_take, List.length_drop, HL.out]; omega)
                    have HQU := Lib.hid (show ∀ z ∈ (b.drop s).take q, z < 65536 from fun z hz => HU.out z (List.mem_of_mem_drop (List.mem_of_mem_take hz)))
                    have HCB := Lib.hid (show cutb b (s, e) = ((s : Int), (b.drop s).take q) by unfold cutb; simp only; rw [hqN])
                    have HEQ := Lib.hid hq
                    clear hq
                    refine wp_region_still_tail 6 (by kernel_rfl) (by kernel_rfl) ?_
                    simp only [List.take_succ_cons, List.take_zero, List.drop_succ_cons, List.drop_zero]
                    obtain ⟨V, hV⟩ : ∃ V : World, ({ heap := W.heap, tape := W.tape, drawn := W.drawn + 1, os := W.os, output := W.output } : World) = V := ⟨_, rfl⟩
                    rw [hV]
                    have bWV : Below W.heap.size W V := by rw [← hV]; exact (Below.refl _ _).drew
                    have hVW : V.heap.size = W.heap.size := by rw [← hV]
                    have d0V := (bWV.cell (p := ⟨g7, 0, none⟩) hg7W).trans d0
                    have d1V := (bWV.cell (p := ⟨g7, 1, none⟩) hg7W).trans d1
                    have z1V := (bWV.frozen (p := ⟨g7, 1, none⟩) hg7W).trans z1
                    have HSV := Lib.hid (HSW.out.to bWV)
                    have BV := Lib.hid (BW.out.trans (bWV.mono BW.out.size))
                    have hg7V : g7 < V.heap.size := by omega
                    clear hV bWV hVW d0 d1 z1 HSW BW hg7W HWS
                    repeat still_step
                    try refine wpStill_nil ?_
                    go_wp2_with (first
                      | (refine wpList_append_sq (f := u16w) _ rfl (.tmp 74) (.tmp 78) 22 rfl (fun _ => rfl) V.heap.size 25 iW _ 2 Try.underlying22 hifW hw0 rfl hw1 hw2 (by decide) (.slice none 0 0) [] rfl (World.ownsRow_nil _ _ _ _) V.heap.size (some ⟨bb, ob + s, none⟩) ((b.drop s).take q) (cb - s) q HQL.out rfl HSV.out (by simp) (by simp; omega) (Nat.le_refl _) ?_; intro A5 c5 w5 o5 g5 b5; rw [List.nil_append, HQL.out] at o5 ⊢; have f0 := (b5.cell (p := ⟨g7, 0, none⟩) hg7V).trans d0V; have f1 := (b5.cell (p := ⟨g7, 1, none⟩) hg7V).trans d1V; have fz := (b5.frozen (p := ⟨g7, 1, none⟩) hg7V).trans z1V; have hg75 : g7 < w5.heap.size := Nat.lt_of_lt_of_le hg7V b5.size; have O5 := Lib.hid o5; have B6 : Hid (Below wx.heap.size wx (w5.setCell ⟨g7, 1, none⟩ (.slice A5 q c5))) := Lib.hid (bel_set (BV.out.trans (b5.mono BV.out.size)) (p := ⟨g7, 1, none⟩) hwg _); have OW6 := Lib.hid (own_below HO.out B6.out); have O6 : Hid ((w5.setCell ⟨g7, 1, none⟩ (.slice A5 q c5)).ownsRow V.heap.size 25 1 (.slice A5 q c5) q (((b.drop s).take q).map u16w)) := Lib.hid (((Only.refl g7 w5).set _).own o5 hg7V); clear o5 g5 b5)
                      | (at_builtin; refine wpList_append_own_at _ rfl (.tmp 81) (.tmp 83) 26 rfl w.heap.size 34 iB _ 2 32 Try.underlying26 hifB hb0 hb1 hb2 rfl (Nat.zero_lt_two) (.slice A n c) n (bl.flatMap Blk.cells) rfl (OW6.out.alloc _) ⟨w5.heap.size, 0, none⟩ 1 1 [.int .i64 (s : Int), .slice A5 q c5] rfl rfl ?_ ?_ ?_ ?_ ?_ ?_; exact lit2h (w5.setCell ⟨g7, 1, none⟩ (.slice A5 q c5)) _ _ _ _ (by simp); exact one2 _ _ _ _; (unfold maxLen; omega); omega; (have h1 := (BE.out.trans (B6.out.mono BE.out.size)).size; simp at h1 ⊢; omega); intro v3 w3 hown3 hg3 _ hat3; have HG3 := Lib.hid hg3; have HAT := Lib.hid hat3; clear hg3 hat3))
                    have HVX := Lib.hid BV.out.size
                    obtain ⟨A3, c3, rfl, hA3⟩ := own_form2 hown3
                    go_roundw
                    case rel =>
                      have hg3 := HG3.out
                      have hsz3 := hg3.size
                      have hvx := HVX.out
                      have hwx := BE.out.size
                      have b6 := B6.out
                      have hs6 := b6.size
                      have hs5 : (w5.setCell ⟨g7, 1, none⟩ (.slice A5 q c5)).heap.size = w5.heap.size := by simp
                      simp at hsz3
                      have hob : (Blk.mk (s : Int) ((b.drop s).take q) A5 c5).Ok (w5.setCell ⟨g7, 1, none⟩ (.slice A5 q c5)) (w5.setCell ⟨g7, 1, none⟩ (.slice A5 q c5)).heap.size := Blk.Ok.of_own HQL.out O6.out HQU.out (by omega) (by omega)
                      have hlq : (Blk.mk (s : Int) ((b.drop s).take q) A5 c5).ws.length = q := HQL.out
                      have hlb := HN.out
                      refine ⟨e, n + 1, A3, c3, bl ++ [Blk.mk (s : Int) ((b.drop s).take q) A5 c5], by omega, rfl, rfl, by simp; omega, by omega, ?_, HCL.out, fun z hz => ?_, ?_, ?_⟩
                      · have hp := HP.out
                        rw [HI.out]
                        simp only [prs, List.map_append, List.map_cons, List.map_nil] at hp ⊢
                        rw [hp, HCB.out]
                      · have key : z.Ok (w5.setCell ⟨g7, 1, none⟩ (.slice A5 q c5)) (w5.setCell ⟨g7, 1, none⟩ (.slice A5 q c5)).heap.size ∧ z.Off (Value.slice A n c).ownBlock ∧ z.In w.heap.size (w5.setCell ⟨g7, 1, none⟩ (.slice A5 q c5)).heap.size := by
                          rcases List.mem_append.1 hz with hz | hz
                          · have h := HK.out z hz
                            exact ⟨h.1.to b6, h.2.1, fun p hp => ⟨(h.2.2 p hp).1, Nat.lt_of_lt_of_le (h.2.2 p hp).2 b6.size⟩⟩
                          · obtain rfl : z = _ := List.mem_singleton.1 hz
                            have h5 : ∀ p, A5 = some p → V.heap.size ≤ p.block ∧ p.block < (w5.setCell ⟨g7, 1, none⟩ (.slice A5 q c5)).heap.size := fun p hp => O6.out.lt p.block (by rw [hp]; rfl)
                            refine ⟨hob, fun p hp e => ?_, fun p hp => ⟨by have := (h5 p hp).1; omega, (h5 p hp).2⟩⟩
                            have h1 := (HO.out.lt _ e.symm).2
                            have h2 := (h5 p hp).1
                            omega
                        obtain ⟨y1, y2, y3⟩ := key
                        refine ⟨(y1.to (bel_alloc (Below.refl _ _) _)).grown hg3 y2, fun p hp e => ?_, fun p hp => ?_⟩
                        · have h3 := y3 p hp
                          rcases HAT.out with h | h
                          · rw [h] at e
                            exact y2 p hp e
                          · rw [h] at e
                            have := Option.some.inj e
                            simp at this
                            omega
                        · have h3 := y3 p hp
                          omega
                      · have h := hown3
                        rw [show bl.flatMap Blk.cells ++ [Value.int .i64 (s : Int), .slice A5 q c5] = (bl ++ [Blk.mk (s : Int) ((b.drop s).take q) A5 c5]).flatMap Blk.cells by simp [HQL.out]] at h
                        exact h
                      · exact (bel_alloc (BE.out.trans (b6.mono hwx)) _).grown hg3 (by simp; omega) (fun g hg => (OW6.out.lt g hg).1)
                    case measure => simp [intOf]; omega
                  · have h14I : ¬ (14 : Int) ≤ (k : Int) := by omega
                    have HG := Lib.hid (iv_grow2 hq (by rw [HEF.out]; exact hq2) HI.out (by have := HKE.out; omega))
                    clear hq hq2
                    go_wp2
                    go_quiet (fail)
                    obtain ⟨wz, hwz⟩ : ∃ wz, wy.drewN nq = wz := ⟨_, rfl⟩
                    have B3 : Hid (Below wx.heap.size wx wz) := Lib.hid (by rw [← hwz]; exact bel_drewN B2.out _)
                    rw [hwz]
                    clear hwz
                    try clear c0
                    try clear c1
                    have hba3 : ba < wz.heap.size := Nat.lt_of_lt_of_le hba' B3.out.size
                    have hbb3 : bb < wz.heap.size := Nat.lt_of_lt_of_le hbb' B3.out.size
                    try have c2 := HA.out _ h63 wz (BE.out.trans (B3.out.mono BE.out.size))
                    try have c3 := HB.out _ h63 wz (BE.out.trans (B3.out.mono BE.out.size))
                    try have c4 := HA.out _ h64 wz (BE.out.trans (B3.out.mono BE.out.size))
                    try have c5 := HB.out _ h64 wz (BE.out.trans (B3.out.mono BE.out.size))
                    go_wp2
                    go_quiet (fail)
                    obtain ⟨wu, hwu⟩ : ∃ wu, wz.drewN nq = wu := ⟨_, rfl⟩
                    have B4 : Hid (Below wx.heap.size wx wu) := Lib.hid (by rw [← hwu]; exact bel_drewN B3.out _)
                    rw [hwu]
                    clear hwu
                    try clear c2 c3
                    try clear c4 c5
                    go_wp2
                    go_roundw
                    case rel => exact ⟨e + 2, by omega, by omega, by go_num, HG.out, B4.out⟩
                    case measure => simp [intOf]; omega
              · have h63J : (64 : Int) ≤ (f : Int) := by omega
                have HCL := Lib.hid (closed_last hq (by have := HEF.out; omega))
                clear hq
                go_wp2
                go_quiet (fail)
                obtain ⟨wz, hwz⟩ : ∃ wz, wy.drewN nq = wz := ⟨_, rfl⟩
                have B3 : Hid (Below wx.heap.size wx wz) := Lib.hid (by rw [← hwz]; exact bel_drewN B2.out _)
                rw [hwz]
                clear hwz
                try clear c0
                try clear c1
                have hba3 : ba < wz.heap.size := Nat.lt_of_lt_of_le hba' B3.out.size
                have hbb3 : bb < wz.heap.size := Nat.lt_of_lt_of_le hbb' B3.out.size
                try have c2 := HA.out _ h63 wz (BE.out.trans (B3.out.mono BE.out.size))
                try have c3 := HB.out _ h63 wz (BE.out.trans (B3.out.mono BE.out.size))
                try have c4 := HA.out _ h64 wz (BE.out.trans (B3.out.mono BE.out.size))
                try have c5 := HB.out _ h64 wz (BE.out.trans (B3.out.mono BE.out.size))
                go_wp2
                go_quiet (fail)
                obtain ⟨wu, hwu⟩ : ∃ wu, wz.drewN nq = wu := ⟨_, rfl⟩
                have B4 : Hid (Below wx.heap.size wx wu) := Lib.hid (by rw [← hwu]; exact bel_drewN B3.out _)
                rw [hwu]
                clear hwu
                try clear c2 c3
                try clear c4 c5
                go_upto_region 15 with fail
                obtain ⟨W, hW⟩ : ∃ W, wu.alloc (.cells #[.int .i64 (s : Int), .slice none 0 0] 34) = W := ⟨_, rfl⟩
                have d0 : W.cell? ⟨wu.heap.size, 0, none⟩ = some (.int .i64 (s : Int)) := by rw [← hW]; simp [go_sem]
                have d1 : W.cell? ⟨wu.heap.size, 1, none⟩ = some (.slice none 0 0) := by rw [← hW]; simp [go_sem]
                have z1 : W.frozen? ⟨wu.heap.size, 1, none⟩ = false := by rw [← hW]; simp [go_sem]
                have hWs : W.heap.size = wu.heap.size + 1 := by rw [← hW]; simp
                have BW : Hid (Below wx.heap.size wx W) := Lib.hid (by rw [← hW]; exact bel_alloc B4.out _)
                rw [hW]
                have hwg := B4.out.size
                clear hW
                obtain ⟨g7, hg7⟩ : ∃ g, wu.heap.size = g := ⟨_, rfl⟩
                rw [hg7] at d0 d1 z1 hWs hwg ⊢
                clear hg7
                have hg7W : g7 < W.heap.size := by omega
                have HWS := Lib.hid hWs
                clear hWs
                have hseI : (s : Int) ≤ (e : Int) := by omega
                have he64I : (e : Int) ≤ 64 := by omega
                have hecI : (e : Int) ≤ (cb : Int) := by omega
                have hsc : ¬ cb = s := by omega
                obtain ⟨q, hq⟩ : ∃ q, e = s + q := ⟨e - s, by omega⟩
                have hqI : (e : Int) - (s : Int) = (q : Int) := by omega
                have hqN : e - s = q := by omega
                have HSW := Lib.hid (show Sq u16w W W.heap.size (some ⟨bb, ob + s, none⟩) ((b.drop s).take q) from (Sq.drop (n := s) (HS.out.to (BE.out.trans (BW.out.mono BE.out.size)))).take q)
                have HQL := Lib.hid (show ((b.drop s).take q).length = q by rw [List.length_take, List.length_drop, HL.out]; omega)
                have HQU := Lib.hid (show ∀ z ∈ (b.drop s).take q, z < 65536 from fun z hz => HU.out z (List.mem_of_mem_drop (List.mem_of_mem_take hz)))
                have HCB := Lib.hid (show cutb b (s, e) = ((s : Int), (b.drop s).take q) by unfold cutb; simp only; rw [hqN])
                have HEQ := Lib.hid hq
                clear hq
                refine wp_region_still_tail 6 (by kernel_rfl) (by kernel_rfl) ?_
                simp only [List.take_succ_cons, List.take_zero, List.drop_succ_cons, List.drop_zero]
                obtain ⟨V, hV⟩ : ∃ V : World, ({ heap := W.heap, tape := W.tape, drawn := W.drawn + 1, os := W.os, output := W.output } : World) = V := ⟨_, rfl⟩
                rw [hV]
                have bWV : Below W.heap.size W V := by rw [← hV]; exact (Below.refl _ _).drew
                have hVW : V.heap.size = W.heap.size := by rw [← hV]
                have d0V := (bWV.cell (p := ⟨g7, 0, none⟩) hg7W).trans d0
                have d1V := (bWV.cell (p := ⟨g7, 1, none⟩) hg7W).trans d1
                have z1V := (bWV.frozen (p := ⟨g7, 1, none⟩) hg7W).trans z1
                have HSV := Lib.hid (HSW.out.to bWV)
                have BV := Lib.hid (BW.out.trans (bWV.mono BW.out.size))
                have hg7V : g7 < V.heap.size := by omega
                clear hV bWV hVW d0 d1 z1 HSW BW hg7W HWS
                repeat still_step
                try refine wpStill_nil ?_
                go_wp2_with (first
                  | (refine wpList_append_sq (f := u16w) _ rfl (.tmp 74) (.tmp 78) 22 rfl (fun _ => rfl) V.heap.size 25 iW _ 2 Try.underlying22 hifW hw0 rfl hw1 hw2 (by decide) (.slice none 0 0) [] rfl (World.ownsRow_nil _ _ _ _) V.heap.size (some ⟨bb, ob + s, none⟩) ((b.drop s).take q) (cb - s) q HQL.out rfl HSV.out (by simp) (by simp; omega) (Nat.le_refl _) ?_; intro A5 c5 w5 o5 g5 b5; rw [List.nil_append, HQL.out] at o5 ⊢; have f0 := (b5.cell (p := ⟨g7, 0, none⟩) hg7V).trans d0V; have f1 := (b5.cell (p := ⟨g7, 1, none⟩) hg7V).trans d1V; have fz := (b5.frozen (p := ⟨g7, 1, none⟩) hg7V).trans z1V; have hg75 : g7 < w5.heap.size := Nat.lt_of_lt_of_le hg7V b5.size; have O5 := Lib.hid o5; have B6 : Hid (Below wx.heap.size wx (w5.setCell ⟨g7, 1, none⟩ (.slice A5 q c5))) := Lib.hid (bel_set (BV.out.trans (b5.mono BV.out.size)) (p := ⟨g7, 1, none⟩) hwg _); have OW6 := Lib.hid (own_below HO.out B6.out); have O6 : Hid ((w5.setCell ⟨g7, 1, none⟩ (.slice A5 q c5)).ownsRow V.heap.size 25 1 (.slice A5 q c5) q (((b.drop s).take q).map u16w)) := Lib.hid (((Only.refl g7 w5).set _).own o5 hg7V); clear o5 g5 b5)
                  | (at_builtin; refine wpList_append_own_at _ rfl (.tmp 81) (.tmp 83) 26 rfl w.heap.size 34 iB _ 2 32 Try.underlying26 hifB hb0 hb1 hb2 rfl (Nat.zero_lt_two) (.slice A n c) n (bl.flatMap Blk.cells) rfl (OW6.out.alloc _) ⟨w5.heap.size, 0, none⟩ 1 1 [.int .i64 (s : Int), .slice A5 q c5] rfl rfl ?_ ?_ ?_ ?_ ?_ ?_; exact lit2h (w5.setCell ⟨g7, 1, none⟩ (.slice A5 q c5)) _ _ _ _ (by simp); exact one2 _ _ _ _; (unfold maxLen; omega); omega; (have h1 := (BE.out.trans (B6.out.mono BE.out.size)).size; simp at h1 ⊢; omega); intro v3 w3 hown3 hg3 _ hat3; have HG3 := Lib.hid hg3; have HAT := Lib.hid hat3; clear hg3 hat3))
                have HVX := Lib.hid BV.out.size
                obtain ⟨A3, c3, rfl, hA3⟩ := own_form2 hown3
                go_roundw
                case rel =>
                  have hg3 := HG3.out
                  have hsz3 := hg3.size
                  have hvx := HVX.out
                  have hwx := BE.out.size
                  have b6 := B6.out
                  have hs6 := b6.size
                  have hs5 : (w5.setCell ⟨g7, 1, none⟩ (.slice A5 q c5)).heap.size = w5.heap.size := by simp
                  simp at hsz3
                  have hob : (Blk.mk (s : Int) ((b.drop s).take q) A5 c5).Ok (w5.setCell ⟨g7, 1, none⟩ (.slice A5 q c5)) (w5.setCell ⟨g7, 1, none⟩ (.slice A5 q c5)).heap.size := Blk.Ok.of_own HQL.out O6.out HQU.out (by omega) (by omega)
                  have hlq : (Blk.mk (s : Int) ((b.drop s).take q) A5 c5).ws.length = q := HQL.out
                  have hlb := HN.out
                  refine ⟨e, n + 1, A3, c3, bl ++ [Blk.mk (s : Int) ((b.drop s).take q) A5 c5], by omega, rfl, rfl, by simp; omega, by omega, ?_, HCL.out, fun z hz => ?_, ?_, ?_⟩
                  · have hp := HP.out
                    rw [HI.out]
                    simp only [prs, List.map_append, List.map_cons, List.map_nil] at hp ⊢
                    rw [hp, HCB.out]
                  · have key : z.Ok (w5.setCell ⟨g7, 1, none⟩ (.slice A5 q c5)) (w5.setCell ⟨g7, 1, none⟩ (.slice A5 q c5)).heap.size ∧ z.Off (Value.slice A n c).ownBlock ∧ z.In w.heap.size (w5.setCell ⟨g7, 1, none⟩ (.slice A5 q c5)).heap.size := by
                      rcases List.mem_append.1 hz with hz | hz
                      · have h := HK.out z hz
                        exact ⟨h.1.to b6, h.2.1, fun p hp => ⟨(h.2.2 p hp).1, Nat.lt_of_lt_of_le (h.2.2 p hp).2 b6.size⟩⟩
                      · obtain rfl : z = _ := List.mem_singleton.1 hz
                        have h5 : ∀ p, A5 = some p → V.heap.size ≤ p.block ∧ p.block < (w5.setCell ⟨g7, 1, none⟩ (.slice A5 q c5)).heap.size := fun p hp => O6.out.lt p.block (by rw [hp]; rfl)
                        refine ⟨hob, fun p hp e => ?_, fun p hp => ⟨by have := (h5 p hp).1; omega, (h5 p hp).2⟩⟩
                        have h1 := (HO.out.lt _ e.symm).2
                        have h2 := (h5 p hp).1
                        omega
                    obtain ⟨y1, y2, y3⟩ := key
                    refine ⟨(y1.to (bel_alloc (Below.refl _ _) _)).grown hg3 y2, fun p hp e => ?_, fun p hp => ?_⟩
                    · have h3 := y3 p hp
                      rcases HAT.out with h | h
                      · rw [h] at e
                        exact y2 p hp e
                      · rw [h] at e
                        have := Option.some.inj e
                        simp at this
                        omega
                    · have h3 := y3 p hp
                      omega
                  · have h := hown3
                    rw [show bl.flatMap Blk.cells ++ [Value.int .i64 (s : Int), .slice A5 q c5] = (bl ++ [Blk.mk (s : Int) ((b.drop s).take q) A5 c5]).flatMap Blk.cells by simp [HQL.out]] at h
                    exact h
                  · exact (bel_alloc (BE.out.trans (b6.mono hwx)) _).grown hg3 (by simp; omega) (fun g hg => (OW6.out.lt g hg).1)
                case measure => simp [intOf]; omega
            · have g1 := gw_neI hq
              by_cases h14 : 14 < k
              · have h14I : (14 : Int) ≤ (k : Int) - 1 := by omega
                have HCL := Lib.hid (closed_full HI.out hq (by have := HKE.out; omega))
                clear hq
                go_wp2
                go_quiet (fail)
                obtain ⟨wz, hwz⟩ : ∃ wz, wy.drewN nq = wz := ⟨_, rfl⟩
                have B3 : Hid (Below wx.heap.size wx wz) := Lib.hid (by rw [← hwz]; exact bel_drewN B2.out _)
                rw [hwz]
                clear hwz
                try clear c0
                try clear c1
                have hba3 : ba < wz.heap.size := Nat.lt_of_lt_of_le hba' B3.out.size
                have hbb3 : bb < wz.heap.size := Nat.lt_of_lt_of_le hbb' B3.out.size
                try have c2 := HA.out _ h63 wz (BE.out.trans (B3.out.mono BE.out.size))
                try have c3 := HB.out _ h63 wz (BE.out.trans (B3.out.mono BE.out.size))
                try have c4 := HA.out _ h64 wz (BE.out.trans (B3.out.mono BE.out.size))
                try have c5 := HB.out _ h64 wz (BE.out.trans (B3.out.mono BE.out.size))
                go_wp2
                go_quiet (fail)
                obtain ⟨wu, hwu⟩ : ∃ wu, wz.drewN nq = wu := ⟨_, rfl⟩
                have B4 : Hid (Below wx.heap.size wx wu) := Lib.hid (by rw [← hwu]; exact bel_drewN B3.out _)
                rw [hwu]
                clear hwu
                try clear c2 c3
                try clear c4 c5
                go_upto_region 15 with fail
                obtain ⟨W, hW⟩ : ∃ W, wu.alloc (.cells #[.int .i64 (s : Int), .slice none 0 0] 34) = W := ⟨_, rfl⟩
                have d0 : W.cell? ⟨wu.heap.size, 0, none⟩ = some (.int .i64 (s : Int)) := by rw [← hW]; simp [go_sem]
                have d1 : W.cell? ⟨wu.heap.size, 1, none⟩ = some (.slice none 0 0) := by rw [← hW]; simp [go_sem]
                have z1 : W.frozen? ⟨wu.heap.size, 1, none⟩ = false := by rw [← hW]; simp [go_sem]
                have hWs : W.heap.size = wu.heap.size + 1 := by rw [← hW]; simp
                have BW : Hid (Below wx.heap.size wx W) := Lib.hid (by rw [← hW]; exact bel_alloc B4.out _)
                rw [hW]
                have hwg := B4.out.size
                clear hW
                obtain ⟨g7, hg7⟩ : ∃ g, wu.heap.size = g := ⟨_, rfl⟩
                rw [hg7] at d0 d1 z1 hWs hwg ⊢
                clear hg7
                have hg7W : g7 < W.heap.size := by omega
                have HWS := Lib.hid hWs
                clear hWs
                have hseI : (s : Int) ≤ (e : Int) := by omega
                have he64I : (e : Int) ≤ 64 := by omega
                have hecI : (e : Int) ≤ (cb : Int) := by omega
                have hsc : ¬ cb = s := by omega
                obtain ⟨q, hq⟩ : ∃ q, e = s + q := ⟨e - s, by omega⟩
                have hqI : (e : Int) - (s : Int) = (q : Int) := by omega
                have hqN : e - s = q := by omega
                have HSW := Lib.hid (show Sq u16w W W.heap.size (some ⟨bb, ob + s, none⟩) ((b.drop s).take q) from (Sq.drop (n := s) (HS.out.to (BE.out.trans (BW.out.mono BE.out.size)))).take q)
                have HQL := Lib.hid (show ((b.drop s).take q).length = q by rw [List.length_take, List.length_drop, HL.out]; omega)
                have HQU := Lib.hid (show ∀ z ∈ (b.drop s).take q, z < 65536 from fun z hz => HU.out z (List.mem_of_mem_drop (List.mem_of_mem_take hz)))
                have HCB := Lib.hid (show cutb b (s, e) = ((s : Int), (b.drop s).take q) by unfold cutb; simp only; rw [hqN])
                have HEQ := Lib.hid hq
                clear hq
                refine wp_region_still_tail 6 (by kernel_rfl) (by kernel_rfl) ?_
                simp only [List.take_succ_cons, List.take_zero, List.drop_succ_cons, List.drop_zero]
                obtain ⟨V, hV⟩ : ∃ V : World, ({ heap := W.heap, tape := W.tape, drawn := W.drawn + 1, os := W.os, output := W.output } : World) = V := ⟨_, rfl⟩
                rw [hV]
                have bWV : Below W.heap.size W V := by rw [← hV]; exact (Below.refl _ _).drew
                have hVW : V.heap.size = W.heap.size := by rw [← hV]
                have d0V := (bWV.cell (p := ⟨g7, 0, none⟩) hg7W).trans d0
                have d1V := (bWV.cell (p := ⟨g7, 1, none⟩) hg7W).trans d1
                have z1V := (bWV.frozen (p := ⟨g7, 1, none⟩) hg7W).trans z1
                have HSV := Lib.hid (HSW.out.to bWV)
                have BV := Lib.hid (BW.out.trans (bWV.mono BW.out.size))
                have hg7V : g7 < V.heap.size := by omega
                clear hV bWV hVW d0 d1 z1 HSW BW hg7W HWS
                repeat still_step
                try refine wpStill_nil ?_
                go_wp2_with (first
                  | (refine wpList_append_sq (f := u16w) _ rfl (.tmp 74) (.tmp 78) 22 rfl (fun _ => rfl) V.heap.size 25 iW _ 2 Try.underlying22 hifW hw0 rfl hw1 hw2 (by decide) (.slice none 0 0) [] rfl (World.ownsRow_nil _ _ _ _) V.heap.size (some ⟨bb, ob + s, none⟩) ((b.drop s).take q) (cb - s) q HQL.out rfl HSV.out (by simp) (by simp; omega) (Nat.le_refl _) ?_; intro A5 c5 w5 o5 g5 b5; rw [List.nil_append, HQL.out] at o5 ⊢; have f0 := (b5.cell (p := ⟨g7, 0, none⟩) hg7V).trans d0V; have f1 := (b5.cell (p := ⟨g7, 1, none⟩) hg7V).trans d1V; have fz := (b5.frozen (p := ⟨g7, 1, none⟩) hg7V).trans z1V; have hg75 : g7 < w5.heap.size := Nat.lt_of_lt_of_le hg7V b5.size; have O5 := Lib.hid o5; have B6 : Hid (Below wx.heap.size wx (w5.setCell ⟨g7, 1, none⟩ (.slice A5 q c5))) := Lib.hid (bel_set (BV.out.trans (b5.mono BV.out.size)) (p := ⟨g7, 1, none⟩) hwg _); have OW6 := Lib.hid (own_below HO.out B6.out); have O6 : Hid ((w5.setCell ⟨g7, 1, none⟩ (.slice A5 q c5)).ownsRow V.heap.size 25 1 (.slice A5 q c5) q (((b.drop s).take q).map u16w)) := Lib.hid (((Only.refl g7 w5).set _).own o5 hg7V); clear o5 g5 b5)
                  | (at_builtin; refine wpList_append_own_at _ rfl (.tmp 81) (.tmp 83) 26 rfl w.heap.size 34 iB _ 2 32 Try.underlying26 hifB hb0 hb1 hb2 rfl (Nat.zero_lt_two) (.slice A n c) n (bl.flatMap Blk.cells) rfl (OW6.out.alloc _) ⟨w5.heap.size, 0, none⟩ 1 1 [.int .i64 (s : Int), .slice A5 q c5] rfl rfl ?_ ?_ ?_ ?_ ?_ ?_; exact lit2h (w5.setCell ⟨g7, 1, none⟩ (.slice A5 q c5)) _ _ _ _ (by simp); exact one2 _ _ _ _; (unfold maxLen; omega); omega; (have h1 := (BE.out.trans (B6.out.mono BE.out.size)).size; simp at h1 ⊢; omega); intro v3 w3 hown3 hg3 _ hat3; have HG3 := Lib.hid hg3; have HAT := Lib.hid hat3; clear hg3 hat3))
                have HVX := Lib.hid BV.out.size
                obtain ⟨A3, c3, rfl, hA3⟩ := own_form2 hown3
                go_roundw
                case rel =>
                  have hg3 := HG3.out
                  have hsz3 := hg3.size
                  have hvx := HVX.out
                  have hwx := BE.out.size
                  have b6 := B6.out
                  have hs6 := b6.size
                  have hs5 : (w5.setCell ⟨g7, 1, none⟩ (.slice A5 q c5)).heap.size = w5.heap.size := by simp
                  simp at hsz3
                  have hob : (Blk.mk (s : Int) ((b.drop s).take q) A5 c5).Ok (w5.setCell ⟨g7, 1, none⟩ (.slice A5 q c5)) (w5.setCell ⟨g7, 1, none⟩ (.slice A5 q c5)).heap.size := Blk.Ok.of_own HQL.out O6.out HQU.out (by omega) (by omega)
                  have hlq : (Blk.mk (s : Int) ((b.drop s).take q) A5 c5).ws.length = q := HQL.out
                  have hlb := HN.out
                  refine ⟨e, n + 1, A3, c3, bl ++ [Blk.mk (s : Int) ((b.drop s).take q) A5 c5], by omega, rfl, rfl, by simp; omega, by omega, ?_, HCL.out, fun z hz => ?_, ?_, ?_⟩
                  · have hp := HP.out
                    rw [HI.out]
                    simp only [prs, List.map_append, List.map_cons, List.map_nil] at hp ⊢
                    rw [hp, HCB.out]
                  · have key : z.Ok (w5.setCell ⟨g7, 1, none⟩ (.slice A5 q c5)) (w5.setCell ⟨g7, 1, none⟩ (.slice A5 q c5)).heap.size ∧ z.Off (Value.slice A n c).ownBlock ∧ z.In w.heap.size (w5.setCell ⟨g7, 1, none⟩ (.slice A5 q c5)).heap.size := by
                      rcases List.mem_append.1 hz with hz | hz
                      · have h := HK.out z hz
                        exact ⟨h.1.to b6, h.2.1, fun p hp => ⟨(h.2.2 p hp).1, Nat.lt_of_lt_of_le (h.2.2 p hp).2 b6.size⟩⟩
                      · obtain rfl : z = _ := List.mem_singleton.1 hz
                        have h5 : ∀ p, A5 = some p → V.heap.size ≤ p.block ∧ p.block < (w5.setCell ⟨g7, 1, none⟩ (.slice A5 q c5)).heap.size := fun p hp => O6.out.lt p.block (by rw [hp]; rfl)
                        refine ⟨hob, fun p hp e => ?_, fun p hp => ⟨by have := (h5 p hp).1; omega, (h5 p hp).2⟩⟩
                        have h1 := (HO.out.lt _ e.symm).2
                        have h2 := (h5 p hp).1
                        omega
                    obtain ⟨y1, y2, y3⟩ := key
                    refine ⟨(y1.to (bel_alloc (Below.refl _ _) _)).grown hg3 y2, fun p hp e => ?_, fun p hp => ?_⟩
                    · have h3 := y3 p hp
                      rcases HAT.out with h | h
                      · rw [h] at e
                        exact y2 p hp e
                      · rw [h] at e
                        have := Option.some.inj e
                        simp at this
                        omega
                    · have h3 := y3 p hp
                      omega
                  · have h := hown3
                    rw [show bl.flatMap Blk.cells ++ [Value.int .i64 (s : Int), .slice A5 q c5] = (bl ++ [Blk.mk (s : Int) ((b.drop s).take q) A5 c5]).flatMap Blk.cells by simp [HQL.out]] at h
                    exact h
                  · exact (bel_alloc (BE.out.trans (b6.mono hwx)) _).grown hg3 (by simp; omega) (fun g hg => (OW6.out.lt g hg).1)
                case measure => simp [intOf]; omega
              · have h14I : ¬ (14 : Int) ≤ (k : Int) - 1 := by omega
                have HG := Lib.hid (iv_grow hq HI.out (by have := HKE.out; omega))
                clear hq
                go_wp2
                go_quiet (fail)
                obtain ⟨wz, hwz⟩ : ∃ wz, wy.drewN nq = wz := ⟨_, rfl⟩
                have B3 : Hid (Below wx.heap.size wx wz) := Lib.hid (by rw [← hwz]; exact bel_drewN B2.out _)
                rw [hwz]
                clear hwz
                try clear c0
                try clear c1
                have hba3 : ba < wz.heap.size := Nat.lt_of_lt_of_le hba' B3.out.size
                have hbb3 : bb < wz.heap.size := Nat.lt_of_lt_of_le hbb' B3.out.size
                try have c2 := HA.out _ h63 wz (BE.out.trans (B3.out.mono BE.out.size))
                try have c3 := HB.out _ h63 wz (BE.out.trans (B3.out.mono BE.out.size))
                try have c4 := HA.out _ h64 wz (BE.out.trans (B3.out.mono BE.out.size))
                try have c5 := HB.out _ h64 wz (BE.out.trans (B3.out.mono BE.out.size))
                go_wp2
                go_quiet (fail)
                obtain ⟨wu, hwu⟩ : ∃ wu, wz.drewN nq = wu := ⟨_, rfl⟩
                have B4 : Hid (Below wx.heap.size wx wu) := Lib.hid (by rw [← hwu]; exact bel_drewN B3.out _)
                rw [hwu]
                clear hwu
                try clear c2 c3
                try clear c4 c5
                go_wp2
                go_roundw
                case rel => exact ⟨e + 1, by omega, by omega, by go_num, HG.out, B4.out⟩
                case measure => simp [intOf]; omega
          · have h64K : ¬ (e : Int) < 64 := by omega
            have h64J : (64 : Int) ≤ (e : Int) := by omega
            have g64 : decide ((e : Int) < 64) = false := decide_eq_false h64K
            have g65 : decide ((64 : Int) ≤ (e : Int)) = true := decide_eq_true h64J
            have HCL : Hid (Closed a b e) := Lib.hid (by rw [show e = 64 by omega]; exact closed_64 a b)
            go_wp2
            go_quiet (fail)
            obtain ⟨wz, hwz⟩ : ∃ wz, wy.drewN nq = wz := ⟨_, rfl⟩
            have B3 : Hid (Below wx.heap.size wx wz) := Lib.hid (by rw [← hwz]; exact bel_drewN B2.out _)
            rw [hwz]
            clear hwz
            try clear c0
            try clear c1
            have hba3 : ba < wz.heap.size := Nat.lt_of_lt_of_le hba' B3.out.size
            have hbb3 : bb < wz.heap.size := Nat.lt_of_lt_of_le hbb' B3.out.size
            try have c2 := HA.out _ h63 wz (BE.out.trans (B3.out.mono BE.out.size))
            try have c3 := HB.out _ h63 wz (BE.out.trans (B3.out.mono BE.out.size))
            try have c4 := HA.out _ h64 wz (BE.out.trans (B3.out.mono BE.out.size))
            try have c5 := HB.out _ h64 wz (BE.out.trans (B3.out.mono BE.out.size))
            go_wp2
            go_quiet (fail)
            obtain ⟨wu, hwu⟩ : ∃ wu, wz.drewN nq = wu := ⟨_, rfl⟩
            have B4 : Hid (Below wx.heap.size wx wu) := Lib.hid (by rw [← hwu]; exact bel_drewN B3.out _)
            rw [hwu]
            clear hwu
            try clear c2 c3
            try clear c4 c5
            go_upto_region 15 with fail
            obtain ⟨W, hW⟩ : ∃ W, wu.alloc (.cells #[.int .i64 (s : Int), .slice none 0 0] 34) = W := ⟨_, rfl⟩
            have d0 : W.cell? ⟨wu.heap.size, 0, none⟩ = some (.int .i64 (s : Int)) := by rw [← hW]; simp [go_sem]
            have d1 : W.cell? ⟨wu.heap.size, 1, none⟩ = some (.slice none 0 0) := by rw [← hW]; simp [go_sem]
            have z1 : W.frozen? ⟨wu.heap.size, 1, none⟩ = false := by rw [← hW]; simp [go_sem]
            have hWs : W.heap.size = wu.heap.size + 1 := by rw [← hW]; simp
            have BW : Hid (Below wx.heap.size wx W) := Lib.hid (by rw [← hW]; exact bel_alloc B4.out _)
            rw [hW]
            have hwg := B4.out.size
            clear hW
            obtain ⟨g7, hg7⟩ : ∃ g, wu.heap.size = g := ⟨_, rfl⟩
            rw [hg7] at d0 d1 z1 hWs hwg ⊢
            clear hg7
            have hg7W : g7 < W.heap.size := by omega
            have HWS := Lib.hid hWs
            clear hWs
            have hseI : (s : Int) ≤ (e : Int) := by omega
            have he64I : (e : Int) ≤ 64 := by omega
            have hecI : (e : Int) ≤ (cb : Int) := by omega
            have hsc : ¬ cb = s := by omega
            obtain ⟨q, hq⟩ : ∃ q, e = s + q := ⟨e - s, by omega⟩
            have hqI : (e : Int) - (s : Int) = (q : Int) := by omega
            have hqN : e - s = q := by omega
            have HSW := Lib.hid (show Sq u16w W W.heap.size (some ⟨bb, ob + s, none⟩) ((b.drop s).take q) from (Sq.drop (n := s) (HS.out.to (BE.out.trans (BW.out.mono BE.out.size)))).take q)
            have HQL := Lib.hid (show ((b.drop s).take q).length = q by rw [List.length_take, List.length_drop, HL.out]; omega)
            have HQU := Lib.hid (show ∀ z ∈ (b.drop s).take q, z < 65536 from fun z hz => HU.out z (List.mem_of_mem_drop (List.mem_of_mem_take hz)))
            have HCB := Lib.hid (show cutb b (s, e) = ((s : Int), (b.drop s).take q) by unfold cutb; simp only; rw [hqN])
            have HEQ := Lib.hid hq
            clear hq
            refine wp_region_still_tail 6 (by kernel_rfl) (by kernel_rfl) ?_
            simp only [List.take_succ_cons, List.take_zero, List.drop_succ_cons, List.drop_zero]
            obtain ⟨V, hV⟩ : ∃ V : World, ({ heap := W.heap, tape := W.tape, drawn := W.drawn + 1, os := W.os, output := W.output } : World) = V := ⟨_, rfl⟩
            rw [hV]
            have bWV : Below W.heap.size W V := by rw [← hV]; exact (Below.refl _ _).drew
            have hVW : V.heap.size = W.heap.size := by rw [← hV]
            have d0V := (bWV.cell (p := ⟨g7, 0, none⟩) hg7W).trans d0
            have d1V := (bWV.cell (p := ⟨g7, 1, none⟩) hg7W).trans d1
            have z1V := (bWV.frozen (p := ⟨g7, 1, none⟩) hg7W).trans z1
            have HSV := Lib.hid (HSW.out.to bWV)
            have BV := Lib.hid (BW.out.trans (bWV.mono BW.out.size))
            have hg7V : g7 < V.heap.size := by omega
            clear hV bWV hVW d0 d1 z1 HSW BW hg7W HWS
            repeat still_step
            try refine wpStill_nil ?_
            go_wp2_with (first
              | (refine wpList_append_sq (f := u16w) _ rfl (.tmp 74) (.tmp 78) 22 rfl (fun _ => rfl) V.heap.size 25 iW _ 2 Try.underlying22 hifW hw0 rfl hw1 hw2 (by decide) (.slice none 0 0) [] rfl (World.ownsRow_nil _ _ _ _) V.heap.size (some ⟨bb, ob + s, none⟩) ((b.drop s).take q) (cb - s) q HQL.out rfl HSV.out (by simp) (by simp; omega) (Nat.le_refl _) ?_; intro A5 c5 w5 o5 g5 b5; rw [List.nil_append, HQL.out] at o5 ⊢; have f0 := (b5.cell (p := ⟨g7, 0, none⟩) hg7V).trans d0V; have f1 := (b5.cell (p := ⟨g7, 1, none⟩) hg7V).trans d1V; have fz := (b5.frozen (p := ⟨g7, 1, none⟩) hg7V).trans z1V; have hg75 : g7 < w5.heap.size := Nat.lt_of_lt_of_le hg7V b5.size; have O5 := Lib.hid o5; have B6 : Hid (Below wx.heap.size wx (w5.setCell ⟨g7, 1, none⟩ (.slice A5 q c5))) := Lib.hid (bel_set (BV.out.trans (b5.mono BV.out.size)) (p := ⟨g7, 1, none⟩) hwg _); have OW6 := Lib.hid (own_below HO.out B6.out); have O6 : Hid ((w5.setCell ⟨g7, 1, none⟩ (.slice A5 q c5)).ownsRow V.heap.size 25 1 (.slice A5 q c5) q (((b.drop s).take q).map u16w)) := Lib.hid (((Only.refl g7 w5).set _).own o5 hg7V); clear o5 g5 b5)
              | (at_builtin; refine wpList_append_own_at _ rfl (.tmp 81) (.tmp 83) 26 rfl w.heap.size 34 iB _ 2 32 Try.underlying26 hifB hb0 hb1 hb2 rfl (Nat.zero_lt_two) (.slice A n c) n (bl.flatMap Blk.cells) rfl (OW6.out.alloc _) ⟨w5.heap.size, 0, none⟩ 1 1 [.int .i64 (s : Int), .slice A5 q c5] rfl rfl ?_ ?_ ?_ ?_ ?_ ?_; exact lit2h (w5.setCell ⟨g7, 1, none⟩ (.slice A5 q c5)) _ _ _ _ (by simp); exact one2 _ _ _ _; (unfold maxLen; omega); omega; (have h1 := (BE.out.trans (B6.out.mono BE.out.size)).size; simp at h1 ⊢; omega); intro v3 w3 hown3 hg3 _ hat3; have HG3 := Lib.hid hg3; have HAT := Lib.hid hat3; clear hg3 hat3))
            have HVX := Lib.hid BV.out.size
            obtain ⟨A3, c3, rfl, hA3⟩ := own_form2 hown3
            go_roundw
            case rel =>
              have hg3 := HG3.out
              have hsz3 := hg3.size
              have hvx := HVX.out
              have hwx := BE.out.size
              have b6 := B6.out
              have hs6 := b6.size
              have hs5 : (w5.setCell ⟨g7, 1, none⟩ (.slice A5 q c5)).heap.size = w5.heap.size := by simp
              simp at hsz3
              have hob : (Blk.mk (s : Int) ((b.drop s).take q) A5 c5).Ok (w5.setCell ⟨g7, 1, none⟩ (.slice A5 q c5)) (w5.setCell ⟨g7, 1, none⟩ (.slice A5 q c5)).heap.size := Blk.Ok.of_own HQL.out O6.out HQU.out (by omega) (by omega)
              have hlq : (Blk.mk (s : Int) ((b.drop s).take q) A5 c5).ws.length = q := HQL.out
              have hlb := HN.out
              refine ⟨e, n + 1, A3, c3, bl ++ [Blk.mk (s : Int) ((b.drop s).take q) A5 c5], by omega, rfl, rfl, by simp; omega, by omega, ?_, HCL.out, fun z hz => ?_, ?_, ?_⟩
              · have hp := HP.out
                rw [HI.out]
                simp only [prs, List.map_append, List.map_cons, List.map_nil] at hp ⊢
                rw [hp, HCB.out]
              · have key : z.Ok (w5.setCell ⟨g7, 1, none⟩ (.slice A5 q c5)) (w5.setCell ⟨g7, 1, none⟩ (.slice A5 q c5)).heap.size ∧ z.Off (Value.slice A n c).ownBlock ∧ z.In w.heap.size (w5.setCell ⟨g7, 1, none⟩ (.slice A5 q c5)).heap.size := by
                  rcases List.mem_append.1 hz with hz | hz
                  · have h := HK.out z hz
                    exact ⟨h.1.to b6, h.2.1, fun p hp => ⟨(h.2.2 p hp).1, Nat.lt_of_lt_of_le (h.2.2 p hp).2 b6.size⟩⟩
                  · obtain rfl : z = _ := List.mem_singleton.1 hz
                    have h5 : ∀ p, A5 = some p → V.heap.size ≤ p.block ∧ p.block < (w5.setCell ⟨g7, 1, none⟩ (.slice A5 q c5)).heap.size := fun p hp => O6.out.lt p.block (by rw [hp]; rfl)
                    refine ⟨hob, fun p hp e => ?_, fun p hp => ⟨by have := (h5 p hp).1; omega, (h5 p hp).2⟩⟩
                    have h1 := (HO.out.lt _ e.symm).2
                    have h2 := (h5 p hp).1
                    omega
                obtain ⟨y1, y2, y3⟩ := key
                refine ⟨(y1.to (bel_alloc (Below.refl _ _) _)).grown hg3 y2, fun p hp e => ?_, fun p hp => ?_⟩
                · have h3 := y3 p hp
                  rcases HAT.out with h | h
                  · rw [h] at e
                    exact y2 p hp e
                  · rw [h] at e
                    have := Option.some.inj e
                    simp at this
                    omega
                · have h3 := y3 p hp
                  omega
              · have h := hown3
                rw [show bl.flatMap Blk.cells ++ [Value.int .i64 (s : Int), .slice A5 q c5] = (bl ++ [Blk.mk (s : Int) ((b.drop s).take q) A5 c5]).flatMap Blk.cells by simp [HQL.out]] at h
                exact h
              · exact (bel_alloc (BE.out.trans (b6.mono hwx)) _).grown hg3 (by simp; omega) (fun g hg => (OW6.out.lt g hg).1)
            case measure => simp [intOf]; omega
    · obtain rfl : s = 64 := by omega
      have hc := own_form2 HO.out
      have BE2 := Lib.hid hbe
      clear hbe
      go_wp2
      go_ret2
      have hlc : bl.length ≤ c := by
        obtain ⟨A', c', hv, _, h2, _⟩ := hc
        obtain ⟨rfl, rfl⟩ : A = A' ∧ c = c' := by simpa using hv
        rw [← HN.out]; exact h2
      exact ⟨BE2.out, bl, A, c, by rw [← HN.out]; rfl, HP.out, ⟨Recs.of_own2 HN.out HO.out, fun y hy => (HK.out y hy).1⟩, hlc⟩
set_option maxHeartbeats 400000 in
theorem rdiff_any (A B : Option Addr) (a b : List Nat) (ca cb n m : Nat) (w : World) (ha : Sq u16w w w.heap.size A a) (hb : Sq u16w w w.heap.size B b) (hub : ∀ x ∈ b, x < 65536) (hn : a.length = n) (hm : b.length = m) (hcb : m ≤ cb) :
    Calls Try.prog 19 #[.slice A n ca, .slice B m cb] w (RDiffQ a b w) := by
  by_cases h1 : n = 64
  · subst h1
    by_cases h2 : m = 64
    · subst h2
      obtain ⟨ba, oa, rfl, hba, hca⟩ := sq_full ha (by omega)
      have hbs := hb
      obtain ⟨bb, ob, rfl, hbb, hcb2⟩ := sq_full hb (by omega)
      rw [hn] at hca
      rw [hm] at hcb2
      refine (rdiff_go ba oa bb ob ca cb a b w hba hbb hm hub hcb hca hcb2 hbs).mono ?_
      rintro e w' ⟨h3, h4⟩
      rw [← dif_iv hm 64 (Nat.le_refl _)] at h4
      exact ⟨h3, by rw [if_pos ⟨hn, hm⟩]; exact h4⟩
    · have g1 : ((m : Int) != 64) = true := bne_iff_ne.2 (by omega)
      have HM := Lib.hid hm
      clear hn hm ha hb hcb hub
      go_enter Try.func19, Try.ntmps19
      go_wp2
      go_ret2
      exact ⟨(by repeat (first | with_reducible exact Below.refl _ _ | with_reducible refine bel_later _ ?_ | with_reducible refine bel_alloc ?_ _ | refine bel_set ?_ (by first | omega | (simp; done) | (simp; omega)) _ | with_reducible refine Below.drew ?_ | with_reducible refine bel_drewN ?_ _ | with_reducible assumption | assumption)), by rw [if_neg (by rw [HM.out]; omega)]; rfl⟩
  · have g1 : ((n : Int) != 64) = true := bne_iff_ne.2 (by omega)
    have HN := Lib.hid hn
    clear hn hm ha hb hcb hub
    go_enter Try.func19, Try.ntmps19
    go_wp2
    go_ret2
    exact ⟨(by repeat (first | with_reducible exact Below.refl _ _ | with_reducible refine bel_later _ ?_ | with_reducible refine bel_alloc ?_ _ | refine bel_set ?_ (by first | omega | (simp; done) | (simp; omega)) _ | with_reducible refine Below.drew ?_ | with_reducible refine bel_drewN ?_ _ | with_reducible assumption | assumption)), by rw [if_neg (by rw [HN.out]; omega)]; rfl⟩
end Go.Proofs.Ytkilpiiljpeamaa
