/- Layer 23: the walk of LedgerApart. -/
import Derived.Test.YtegmeodmjaijnaaLgFit
namespace Go.Proofs.Ytegmeodmjaijnaa
open Go.RowKit
set_option linter.unusedVariables false
set_option linter.unusedSimpArgs false
attribute [local go_sem] Later.cell Later.frozen setCell_twice
theorem JL.push2 {w w' : World} {base n c c' : Nat} {A A' : Option Addr} {l : List Jb} (h : JL w base A n c l) (a0 : Jb) (htx : w.ownsRow base 5 1 (.slice a0.A a0.p.text.length a0.c) a0.p.text.length (a0.p.text.map byw)) (hfit : a0.p.Fit) (ho : w'.ownsRow base 38 4 (.slice A' (n + 1) c') (n + 1) ((l ++ [a0]).flatMap jbF)) (hg : w.grownBy w' (Value.slice A n c).ownBlock) : JL w' base A' (n + 1) c' (l ++ [a0]) := by
  have key : ∀ y ∈ l ++ [a0], w'.ownsRow base 5 1 (.slice y.A y.p.text.length y.c) y.p.text.length (y.p.text.map byw) ∧ y.p.Fit := by
    intro y hy
    rcases List.mem_append.1 hy with hy | hy
    · exact ⟨own_grown_j (h.txt y hy) hg (own_ne' (h.txt y hy) h.own (by decide)), h.fit y hy⟩
    · obtain rfl := List.mem_singleton.1 hy
      exact ⟨own_grown_j htx hg (own_ne' htx h.own (by decide)), hfit⟩
  exact ⟨by rw [List.length_append, h.len]; rfl, ho, fun y hy => (key y hy).1, fun y hy => own_ne' (key y hy).1 ho (by decide), fun y hy => (key y hy).2⟩
/-- a row of jobs that is written over: what its slices are stays -/
def Mut (w : World) (B : Nat) (A : Option Addr) (n c : Nat) (S : List (Option Addr × Nat × Nat)) : Prop :=
  ∃ jl : List Jb, jl.length = n ∧ jl.map (fun y => (y.A, y.p.text.length, y.c)) = S ∧ w.ownsRow B 38 4 (.slice A n c) n (jl.flatMap jbF) ∧ ∀ s ∈ S, ∃ xs : List Nat, xs.length = s.2.1 ∧ (∀ b ∈ xs, b < 256) ∧ w.ownsRow B 5 1 (.slice s.1 s.2.1 s.2.2) s.2.1 (xs.map byw)
theorem JL.mut {w : World} {B n c : Nat} {A : Option Addr} {l : List Jb} (h : JL w B A n c l) : Mut w B A n c (l.map fun y => (y.A, y.p.text.length, y.c)) :=
  ⟨l, h.len, rfl, h.own, fun s hs => by
    obtain ⟨y, hy, rfl⟩ := List.mem_map.1 hs
    exact ⟨y.p.text, rfl, (h.fit y hy).text, h.txt y hy⟩⟩
theorem flat_set1 {l : List Jb} {i v : Nat} {y : Jb} (h : l[i]? = some y) : (l.set i ⟨⟨y.p.tx, v, y.p.text, y.p.st⟩, y.A, y.c⟩).flatMap jbF = (l.flatMap jbF).set (i * 4 + 1) (.int .u8 (v : Int)) := by
  induction l generalizing i with
  | nil => cases h
  | cons x l ih =>
    cases i with
    | zero =>
      obtain rfl : x = y := by simpa using h
      simp [jbF, jbV]
    | succ i =>
      have := ih (i := i) (by simpa using h)
      rw [List.set_cons_succ, List.flatMap_cons, this, List.flatMap_cons]
      rw [List.set_append_right _ _ (by rw [jbF_length]; omega), jbF_length]
      congr 2
      omega
theorem map_set_same {α β : Type} (f : α → β) {l : List α} {i : Nat} {x y : α} (h : l[i]? = some x) (e : f y = f x) : (l.set i y).map f = l.map f := by
  rw [List.map_set, e]
  apply List.ext_getElem?
  intro k
  rw [List.getElem?_set]
  by_cases hk : i = k
  · subst hk
    have := (List.getElem?_eq_some_iff.1 h).1
    rw [if_pos rfl, if_pos (by simpa using this), List.getElem?_map, h]
    rfl
  · rw [if_neg hk]
section
variable {w w' : World} {B n c g i : Nat} {A : Option Addr} {S : List (Option Addr × Nat × Nat)}
theorem Mut.to (h : Mut w B A n c S) (k : Below w.heap.size w w') : Mut w' B A n c S := by
  obtain ⟨jl, h1, h2, h3, h4⟩ := h
  exact ⟨jl, h1, h2, own_below h3 k, fun s hs => by
    obtain ⟨xs, x1, x2, x3⟩ := h4 s hs
    exact ⟨xs, x1, x2, own_below x3 k⟩⟩
theorem Mut.two (h : Mut w B (some ⟨g, 0, none⟩) n c S) (hi : i < n) : Mut ((w.setCell ⟨g, i * 4 + 1, none⟩ (.int .u8 9)).setCell ⟨g, i * 4 + 3, none⟩ (.int .u8 9)) B (some ⟨g, 0, none⟩) n c S := by
  obtain ⟨jl, h1, h2, h3, h4⟩ := h
  obtain ⟨y, hy⟩ : ∃ y, jl[i]? = some y := ⟨_, List.getElem?_eq_getElem (by omega)⟩
  have s1 := h3.stored (i * 4 + 1) (.int .u8 9)
  have hy2 : (jl.set i ⟨⟨y.p.tx, 9, y.p.text, y.p.st⟩, y.A, y.c⟩)[i]? = some ⟨⟨y.p.tx, 9, y.p.text, y.p.st⟩, y.A, y.c⟩ := by rw [List.getElem?_set_self (by omega)]
  have f1 := flat_set1 (v := 9) hy
  have s1' : (w.setCell ⟨g, i * 4 + 1, none⟩ (.int .u8 9)).ownsRow B 38 4 (.slice (some ⟨g, 0, none⟩) n c) n ((jl.set i ⟨⟨y.p.tx, 9, y.p.text, y.p.st⟩, y.A, y.c⟩).flatMap jbF) := by rw [f1]; exact s1.1
  have s2 := s1'.stored (i * 4 + 3) (.int .u8 9)
  have f2 := flat_set (s := 9) hy2
  refine ⟨(jl.set i ⟨⟨y.p.tx, 9, y.p.text, y.p.st⟩, y.A, y.c⟩).set i ⟨⟨y.p.tx, 9, y.p.text, 9⟩, y.A, y.c⟩, by simp [h1], ?_, by rw [f2]; exact s2.1, fun s hs => ?_⟩
  · exact ((map_set_same (fun y : Jb => (y.A, y.p.text.length, y.c)) hy2 (y := ⟨⟨y.p.tx, 9, y.p.text, 9⟩, y.A, y.c⟩) rfl).trans (map_set_same (fun y : Jb => (y.A, y.p.text.length, y.c)) hy (y := ⟨⟨y.p.tx, 9, y.p.text, y.p.st⟩, y.A, y.c⟩) rfl)).trans h2
  · obtain ⟨xs, x1, x2, x3⟩ := h4 s hs
    have x4 := own_grown_j x3 s1.2 (own_ne' x3 h3 (by decide))
    exact ⟨xs, x1, x2, own_grown_j x4 s2.2 (own_ne' x4 s1' (by decide))⟩
/-- a byte of a text is written over -/
theorem Mut.byte {b k z : Nat} {s0 : Option Addr × Nat × Nat} (h : Mut w B A n c S) (hs0 : s0 ∈ S) (hA : s0.1 = some ⟨b, 0, none⟩) (hz : z < 256) : Mut (w.setCell ⟨b, k, none⟩ (.int .u8 (z : Int))) B A n c S := by
  obtain ⟨jl, h1, h2, h3, h4⟩ := h
  obtain ⟨xs0, x1, x2, x3⟩ := h4 s0 hs0
  rw [hA] at x3
  have st := x3.stored k (.int .u8 (z : Int))
  refine ⟨jl, h1, h2, own_grown_j h3 st.2 (own_ne' h3 x3 (by decide)), fun s hs => ?_⟩
  obtain ⟨xs, y1, y2, y3⟩ := h4 s hs
  by_cases e : s.1 = some ⟨b, 0, none⟩
  · rw [e] at y3 ⊢
    have st2 := y3.stored k (.int .u8 (z : Int))
    refine ⟨xs.set k z, by rw [List.length_set]; exact y1, fun v hv => ?_, ?_⟩
    · rcases List.mem_or_eq_of_mem_set hv with hv | rfl
      · exact y2 v hv
      · exact hz
    · have := st2.1
      rw [List.map_set]
      exact this
  · refine ⟨xs, y1, y2, own_grown_j y3 st.2 (fun p hp hq => e ?_)⟩
    have h5 := (own_at_s y3 p hp).2.2
    have h6 : p.block = b := by simpa [Value.ownBlock] using hq
    exact hp.trans (congrArg some (h5.trans (by rw [h6])))
/-- the cells of row i, and its text's bytes -/
theorem Mut.at_ (h : Mut w B A n c S) (hi : i < n) : ∃ g TA m tc, A = some ⟨g, 0, none⟩ ∧ B ≤ g ∧ g < w.heap.size ∧ S[i]? = some (TA, m, tc) ∧ m ≤ tc ∧ w.cell? ⟨g, i * 4 + 2, none⟩ = some (.slice TA m tc) ∧ (∃ v, w.cell? ⟨g, i * 4 + 1, none⟩ = some v) ∧ (∃ v, w.cell? ⟨g, i * 4 + 3, none⟩ = some v) ∧ (∀ j, w.frozen? ⟨g, j, none⟩ = false) := by
  obtain ⟨jl, h1, h2, h3, h4⟩ := h
  obtain ⟨y, hy⟩ : ∃ y, jl[i]? = some y := ⟨_, List.getElem?_eq_getElem (by omega)⟩
  have hS : S[i]? = some (y.A, y.p.text.length, y.c) := by rw [← h2, List.getElem?_map, hy]; rfl
  obtain ⟨xs, x1, x2, x3⟩ := h4 _ (List.mem_of_getElem? hS)
  have hrc : Recs jbF 4 w w.heap.size A jl := Recs.of_own jbF_length (by decide) h3
  obtain ⟨g, o, b, hA, hg, hb, hc⟩ := hrc.at_ (j := i) (by omega)
  rw [hy] at hb
  obtain rfl := Option.some.inj hb
  obtain ⟨hB, _, hp⟩ := own_at_s h3 _ hA
  have ho : o = 0 := by simpa using congrArg Addr.off hp
  subst ho
  refine ⟨g, y.A, y.p.text.length, y.c, hA, hB, hg, hS, (own_slice x3).2.1, by simpa using hc 2 _ rfl, ⟨_, by simpa using hc 1 _ rfl⟩, ⟨_, by simpa using hc 3 _ rfl⟩, fun j => ?_⟩
  rcases h3.2 with ⟨h1', _⟩ | ⟨g', cap, cur, hv, _, hh, _⟩
  · rw [hA] at h1'; simp at h1'
  · rw [hA] at hv
    obtain ⟨rfl, _⟩ : g = g' ∧ c = cap := by simpa using hv
    simp [World.frozen?, hh]
theorem Mut.text (h : Mut w B A n c S) {TA : Option Addr} {m tc k : Nat} (hS : S[i]? = some (TA, m, tc)) (hk : k < m) : ∃ (b x : Nat), TA = some ⟨b, 0, none⟩ ∧ B ≤ b ∧ b < w.heap.size ∧ x < 256 ∧ w.cell? ⟨b, k, none⟩ = some (.int .u8 (x : Int)) ∧ w.frozen? ⟨b, k, none⟩ = false := by
  obtain ⟨jl, h1, h2, h3, h4⟩ := h
  obtain ⟨xs, x1, x2, x3⟩ := h4 _ (List.mem_of_getElem? hS)
  dsimp only at x1 x3
  obtain ⟨b, o, x, hA, hb, hx, hc⟩ := (Sq.of_own x3).at_ (j := k) (by omega)
  obtain ⟨hB, _, hp⟩ := own_at_s x3 _ hA
  have ho : o = 0 := by simpa using congrArg Addr.off hp
  subst ho
  refine ⟨b, x, hA, hB, hb, x2 x (List.mem_of_getElem? hx), by simpa using hc, ?_⟩
  rcases x3.2 with ⟨h1', _⟩ | ⟨g', cap, cur, hv, _, hh, _⟩
  · rw [hA] at h1'; simp at h1'
  · rw [hA] at hv
    obtain ⟨rfl, _⟩ : b = g' ∧ tc = cap := by simpa using hv
    simp [World.frozen?, hh]
end
theorem jbeg_any (A : Option Addr) (n c : Nat) (l : List Jb) (tx : Nat) (text : List Nat) (XA : Option Addr) (m xc : Nat) (w : World) (hJ : Jbs w w.heap.size A l) (hln : l.length = n) (hm : text.length = m) (hsq : Sq byw w w.heap.size XA text) (hfit : (Nr.mk 2 tx 1 false text).Fit) (hnl : XA = none → xc = 0) (hs : Jp.Sorted (jps l)) (hn : n ≤ 90000) (ht : m ≤ 1000000) (hsh : ∀ y ∈ l, y.p.text.length ≤ 1000000) :
    Calls Try.prog 13 #[.slice A n c, .agg #[.int .u8 2, .int .u32 (tx : Int), .int .u8 1, .bool false, .slice XA m xc]] w (LgP w.heap.size (Jp.put (jps l) ⟨2, tx, 1, false, text⟩) w) :=
  jadd_any A n c l 2 tx 1 false text XA m xc w hJ hln hm hsq hfit hnl hs hn ht hsh
theorem rsame_beg (t : Nat) (A1 : Option Addr) (l : List Nat) (c1 m : Nat) (A2 : Option Addr) (c2 : Nat) (w : World) (hm : l.length = m) (s1 : Sq byw w w.heap.size A1 l) (s2 : Sq byw w w.heap.size A2 l) (u : ∀ x ∈ l, x < 256) :
    Calls Try.prog 20 #[.agg #[.int .u8 2, .int .u32 (t : Int), .int .u8 1, .bool false, .slice A1 m c1], .agg #[.int .u8 2, .int .u32 (t : Int), .int .u8 1, .bool false, .slice A2 m c2]] w fun e w' => e = .returned (.bool true) ∧ Below w.heap.size w w' :=
  rsame_go 2 t 1 false A1 l c1 m 2 t 1 false A2 l c2 m w hm hm s1 s2 u u true (by simp)
theorem put_beg {L : List Jp} {t : Nat} {text : List Nat} (ht : Jp.lastTx L < t) (hl : text.length ≤ 8192) : Jp.put L ⟨2, t, 1, false, text⟩ = some (L ++ [⟨t, 1, text, 1⟩]) := by
  have h := put_begin (l := L) (x := ⟨2, t, 1, false, text⟩) (by simp [Nr.right, hl]) rfl
  rw [h]
  simp only [Jp.step]
  rw [if_pos (by simp)]
  simp only
  rw [if_neg (by omega)]
theorem lastTx_snoc {l : List Jp} {k : Nat} {x : Jp} (h : l[k]? = some x) : Jp.lastTx (l.take (k + 1)) = x.tx := by
  unfold Jp.lastTx
  rw [List.take_add_one, h, Option.toList, List.getLast?_append]
  rfl
set_option maxRecDepth 100000 in
set_option maxHeartbeats 4000000 in
theorem ledgerApart_any (A A1 : Option Addr) (l : List Rc) (text : List Nat) (cl nl c1 m1 : Nat) (w : World) (hnl : l.length = nl) (hm1 : text.length = m1) (hl : Rcs w w.heap.size A l) (hB : Bs w w.heap.size A1 c1 text) :
    Calls Try.prog 6 #[.slice A nl cl, .slice A1 m1 c1] w fun e w' => e = .returned (.bool true) ∧ Below w.heap.size w w' := by
  obtain ⟨iJ, hifJ, hj0, hj1, hj2⟩ := info_parts info_job
  obtain ⟨i8, hif8, h80, h81, h82⟩ := info_parts info_b8
  have HL := Lib.hid hl
  have HB := Lib.hid hB
  have HNL := Lib.hid hnl
  have HM1 := Lib.hid hm1
  clear hl hnl hm1 hB
  go_enter Try.func6, Try.ntmps6
  go_wp2_with fail
  refine (light_any A none l [] cl 0 nl 0 w HNL.out rfl HL.out Jbs.nil).mono ?_
  rintro e w1 ⟨r1, rfl, b1, h1⟩
  have B1 := Lib.hid b1
  clear b1
  cases r1
  · have BX := B1
    go_wp2_with fail
    refine (awake_any _).mono ?_
    rintro e w9 ⟨rfl, b9⟩
    have B9 := Lib.hid (BX.out.trans (b9.mono BX.out.size))
    clear b9
    go_wp2
    go_ret
    exact ⟨rfl, B9.out⟩
  have LT1 := Lib.hid (h1.out rfl)
  have h80l : nl ≤ 80 := by rw [← HNL.out]; exact LT1.out.ln
  clear h1
  by_cases h3 : 300 < m1
  · have h3I : (300 : Int) < (m1 : Int) := by omega
    have BX := B1
    go_wp2_with fail
    refine (awake_any _).mono ?_
    rintro e w9 ⟨rfl, b9⟩
    have B9 := Lib.hid (BX.out.trans (b9.mono BX.out.size))
    clear b9
    go_wp2
    go_ret
    exact ⟨rfl, B9.out⟩
  have h3I : ¬ (300 : Int) < (m1 : Int) := by omega
  go_wp2_with fail
  refine (fitting_apart A nl cl l w1 (HL.out.to B1.out) HNL.out h80l LT1.out.lt).mono ?_
  intro e w2 h2
  obtain ⟨A2, n2, c2, A3, n3, c3, fl, jl, rfl, b2, h2⟩ := h2
  have B2 := Lib.hid (B1.out.trans (b2.mono B1.out.size))
  have HRT : Hid (Jp.Rt (jps jl)) := Lib.hid (by rw [h2.out.2.2.1]; exact Jp.fits_rt _)
  have HST : Hid (Jp.Sorted (jps jl)) := Lib.hid (And.left (show _ ∧ _ from HRT.out))
  have hshj : Hid (∀ y ∈ jl, y.p.text.length ≤ 8192) := Lib.hid (fun y hy => ((And.right (show _ ∧ _ from HRT.out)) y.p (List.mem_map_of_mem hy)).2.2.1)
  have JJ := Lib.hid h2.out.2.2.2.2.1.jbs
  have HJL := Lib.hid h2.out.2.2.2.2.1.len
  have hn3 : n3 ≤ 80 := Nat.le_trans h2.out.2.2.2.2.2.2.1 (by rw [HNL.out]; exact h80l)
  clear b2 h2 B1
  go_wp2
  go_loopw [8, 9, 36] (fun v lv i wr => ∃ (k last : Nat) (A' : Option Addr) (c' : Nat) (wl : List Jb), k ≤ n3 ∧ i = .int .i64 k ∧ lv = .int .u32 (last : Int) ∧ v = .slice A' k c' ∧ Hid (last = Jp.lastTx ((jps jl).take k) ∧ jps wl = (jps jl).take k ∧ JL wr w2.heap.size A' k c' wl ∧ Below w2.heap.size w2 wr)) (fun _ _ i _ => n3 - (intOf i).toNat)
  case atStart => exact ⟨0, 0, none, 0, [], by omega, rfl, rfl, rfl, Lib.hid ⟨rfl, rfl, JL.nil _ _, Below.refl _ _⟩⟩
  case round =>
    rename World => wr
    obtain ⟨k, last, A', c', wl, hk, rfl, rfl, rfl, hh⟩ := hrel
    have HLA := Lib.hid hh.out.1
    have HWL := Lib.hid hh.out.2.1
    have JW := Lib.hid hh.out.2.2.1
    have BE := Lib.hid hh.out.2.2.2
    have hbw : w2.heap.size ≤ wr.heap.size := BE.out.size
    clear hh
    by_cases hlt : k < n3
    · obtain ⟨g1, o1, x, rfl, hg1, hx, hxo, hx0, hx1, hx2, hx3⟩ := (JJ.out.to BE.out).at_ (k := k) (by rw [HJL.out]; exact hlt)
      have hltI : (k : Int) < (n3 : Int) := by omega
      have h0I : (0 : Int) ≤ (k : Int) := by omega
      have HX : Hid ((jps jl)[k]? = some x.p) := Lib.hid (by rw [jps, List.getElem?_map, hx]; rfl)
      have HXT : Hid (x.p.text.length ≤ 8192) := Lib.hid (hshj.out x (List.mem_of_getElem? hx))
      have HXO := Lib.hid hxo
      obtain ⟨⟨tx, who, xtext, st⟩, XA, xc⟩ := x
      dsimp only at hx0 hx1 hx2 hx3 HX HXT
      obtain ⟨m, hm⟩ : ∃ m, xtext.length = m := ⟨_, rfl⟩
      have HM := Lib.hid hm
      rw [hm] at hx2 HXT
      clear hx hxo hm
      go_upto_region 11 with fail
      obtain ⟨V, hV⟩ : ∃ V, wr.alloc (.cells #[.int .u32 (tx : Int), .int .u8 (who : Int), .slice XA m xc, .int .u8 (st : Int)] 38) = V := ⟨_, rfl⟩
      obtain ⟨gv, hgv⟩ : ∃ gv, wr.heap.size = gv := ⟨_, rfl⟩
      have RV : Hid (RowAt V gv 38 (jbV tx who XA m xc st)) := Lib.hid (by rw [← hV, ← hgv]; exact RowAt.new _ _ _)
      have bV : Below wr.heap.size wr V := by rw [← hV]; exact bel_alloc (Below.refl _ _) _
      rw [hV]
      have JV := Lib.hid (JW.out.to bV)
      have XV : Hid (JbOk V V.heap.size ⟨⟨tx, who, xtext, st⟩, XA, xc⟩) := Lib.hid (HXO.out.to bV)
      have BV : Hid (Below w2.heap.size w2 V) := Lib.hid (BE.out.trans (bV.mono hbw))
      have HGV := Lib.hid hgv
      have hgb : w2.heap.size ≤ gv := by omega
      rw [hgv]
      clear hV hgv bV hx0 hx1 hx2 hx3
      have hgV : gv < V.heap.size := RV.out.lt
      have dlt : gv < (V).heap.size := RV.out.lt
      have dlu : gv < (V).heap.size + 1 := Nat.lt_succ_of_lt RV.out.lt
      have d0 : (V).cell? ⟨gv, 0, none⟩ = some (.int .u32 (tx : Int)) := RV.out.cells 0
      have dz0 : (V).frozen? ⟨gv, 0, none⟩ = false := RV.out.frozen 0
      have d1 : (V).cell? ⟨gv, 1, none⟩ = some (.int .u8 (who : Int)) := RV.out.cells 1
      have dz1 : (V).frozen? ⟨gv, 1, none⟩ = false := RV.out.frozen 1
      have d2 : (V).cell? ⟨gv, 2, none⟩ = some (.slice XA m xc) := RV.out.cells 2
      have dz2 : (V).frozen? ⟨gv, 2, none⟩ = false := RV.out.frozen 2
      have d3 : (V).cell? ⟨gv, 3, none⟩ = some (.int .u8 (st : Int)) := RV.out.cells 3
      have dz3 : (V).frozen? ⟨gv, 3, none⟩ = false := RV.out.frozen 3
      have hq := XV.out.sq.alloc (Nat.le_refl _) (.cells #[] 5)
      go_upto_region 13 with (at_builtin; (refine wpList_append_sq (f := byw) _ rfl (.tmp 42) (.tmp 44) 29 rfl (fun _ => rfl) V.heap.size 5 i8 _ _ Try.underlying29 hif8 h80 rfl h81 h82 (by decide) _ [] rfl (own_empty V 5 .u8) V.heap.size XA xtext xc _ HM.out rfl hq XV.out.nl (by simp; have := HXT.out; omega) (by simp) ?_); intro A5 c5 w5 o5 g5 b5; simp only [List.nil_append, HM.out] at o5 ⊢; have O5 := Lib.hid o5; have B5 : Hid (Below V.heap.size V w5) := Lib.hid ((bel_alloc (Below.refl _ _) _).trans b5); have R5 := Lib.hid (RV.out.to B5.out); have e0 := R5.out.cells 0; have e1 := R5.out.cells 1; have e2 := R5.out.cells 2; have e3 := R5.out.cells 3; have ez2 := R5.out.frozen 2; have ez0 := R5.out.frozen 0; have ez1 := R5.out.frozen 1; have ez3 := R5.out.frozen 3; have elt := R5.out.lt; clear o5 g5 b5)
      obtain ⟨w6, hw6⟩ : ∃ w6, w5.setCell ⟨gv, 2, none⟩ (.slice A5 m c5) = w6 := ⟨_, rfl⟩
      have o6 : Only gv w5 w6 := by rw [← hw6]; exact (Only.refl _ _).set _
      have R6 : Hid (RowAt w6 gv 38 (jbV tx who A5 m c5 st)) := Lib.hid (by rw [← hw6]; exact R5.out.set 2 (.slice A5 m c5))
      have hVw : w2.heap.size ≤ V.heap.size := BV.out.size
      have J5 : Hid (JL w5 w2.heap.size A' k c' wl) := Lib.hid (JV.out.to B5.out)
      have B6 : Hid (Below w2.heap.size w2 w6) := Lib.hid ((BV.out.trans (B5.out.mono hVw)).trans (o6.below hgb))
      have hjb : Hid (∀ q, (Value.slice A' k c').ownBlock = some q → q ≠ gv) := Lib.hid (fun q hq e => by have h1 := (JW.out.own.lt q hq).2; have h2 := HGV.out; omega)
      have J6 : Hid (JL w6 w2.heap.size A' k c' wl) := Lib.hid (by
        refine ⟨J5.out.len, own_grown_j J5.out.own o6.grown (fun p hp e => ?_), fun y hy => own_grown_j (J5.out.txt y hy) o6.grown (fun p hp e => ?_), J5.out.off, J5.out.fit⟩
        · exact hjb.out p.block (by rw [hp]; rfl) (Option.some.inj e)
        · have h1 := (own_at_s (JW.out.txt y hy) p hp).2.1
          have h2 := HGV.out
          have h3 := Option.some.inj e
          omega)
      have O6 : Hid (w6.ownsRow w2.heap.size 5 1 (.slice A5 m c5) m (xtext.map byw)) := Lib.hid (own_more (own_grown_j O5.out o6.grown (fun p hp e => by have h1 := (own_at_s O5.out p hp).1; have h3 := Option.some.inj e; omega)) hVw)
      rw [hw6]
      clear hw6 o6 d0 d1 d2 d3 dz0 dz1 dz2 dz3 dlt dlu e0 e1 e2 e3 ez0 ez1 ez2 ez3 elt hq
      have dlt : gv < (w6).heap.size := R6.out.lt
      have dlu : gv < (w6).heap.size + 1 := Nat.lt_succ_of_lt R6.out.lt
      have d0 : (w6).cell? ⟨gv, 0, none⟩ = some (.int .u32 (tx : Int)) := R6.out.cells 0
      have dz0 : (w6).frozen? ⟨gv, 0, none⟩ = false := R6.out.frozen 0
      have d1 : (w6).cell? ⟨gv, 1, none⟩ = some (.int .u8 (who : Int)) := R6.out.cells 1
      have dz1 : (w6).frozen? ⟨gv, 1, none⟩ = false := R6.out.frozen 1
      have d2 : (w6).cell? ⟨gv, 2, none⟩ = some (.slice A5 m c5) := R6.out.cells 2
      have dz2 : (w6).frozen? ⟨gv, 2, none⟩ = false := R6.out.frozen 2
      have d3 : (w6).cell? ⟨gv, 3, none⟩ = some (.int .u8 (st : Int)) := R6.out.cells 3
      have dz3 : (w6).frozen? ⟨gv, 3, none⟩ = false := R6.out.frozen 3
      have hbw6 : w2.heap.size ≤ w6.heap.size := B6.out.size
      go_wp2_with (at_builtin; (refine wpList_append_rn (f := jbF) (s := 4) _ rfl (.tmp 47) (.tmp 49) 25 rfl jbF_length (by decide) (fun a => jbF_one a) w2.heap.size 38 iJ _ _ Try.underlying25 hifJ hj0 hj1 hj2 (by decide) rfl A' c' k wl rfl J6.out.len (own_below J6.out.own (bel_alloc (Below.refl _ _) _)) (w6.heap.size + 1) _ [⟨⟨tx, who, xtext, st⟩, A5, c5⟩] 1 1 rfl rfl (Recs.lits (f := jbF) (s := 4) jbF_length (by decide) _ _ _ _ _ _ (by simp [HM.out]) (by simp) (by simp)) (by simp) (k + 1) rfl (by omega) (by simp; omega) ?_); intro A7 c7 w7 o7 g7 b7; have J7 : Hid (JL w7 w2.heap.size A7 (k + 1) c7 (wl ++ [⟨⟨tx, who, xtext, st⟩, A5, c5⟩])) := Lib.hid ((J6.out.to (bel_alloc (Below.refl _ _) _)).push2 ⟨⟨tx, who, xtext, st⟩, A5, c5⟩ (by have h := O6.out; rw [← HM.out] at h; exact own_below h (bel_alloc (Below.refl _ _) _)) XV.out.fit o7 g7); have B7 : Hid (Below w2.heap.size w2 w7) := Lib.hid ((B6.out.alloc hbw6 _).trans b7); clear o7 g7 b7)
      go_wp2
      go_roundw
      case rel => exact ⟨k + 1, tx, A7, c7, wl ++ [⟨⟨tx, who, xtext, st⟩, A5, c5⟩], by omega, by go_num, rfl, rfl, Lib.hid ⟨(lastTx_snoc HX.out).symm, by rw [List.take_add_one, HX.out, jps, List.map_append, Option.toList]; exact congrArg (· ++ [_]) HWL.out, J7.out, B7.out⟩⟩
      case measure => simp [intOf]; omega
    · obtain rfl : k = n3 := by omega
      have HLA2 : Hid (last = Jp.lastTx (jps jl)) := Lib.hid (by have h := HLA.out; rwa [List.take_of_length_le (by rw [jps, List.length_map, HJL.out]; exact Nat.le_refl _)] at h)
      have HWL2 : Hid (jps wl = jps jl) := Lib.hid (by have h := HWL.out; rwa [List.take_of_length_le (by rw [jps, List.length_map, HJL.out]; exact Nat.le_refl _)] at h)
      have BR : Hid (Below w.heap.size w wr) := Lib.hid (B2.out.trans (BE.out.mono B2.out.size))
      have JJR := Lib.hid (JJ.out.to BE.out)
      have JWR := Lib.hid JW.out.jbs
      have HWN := Lib.hid JW.out.len
      have HLT : Hid (last < 4294967296) := Lib.hid (by
        rw [HLA2.out]
        unfold Jp.lastTx
        split
        · omega
        · next j hj =>
          obtain ⟨y, hy, rfl⟩ := List.mem_map.1 (List.mem_of_getLast? hj)
          exact ((JJ.out.ok y hy).fit).tx)
      clear HLA HWL BE JW JJ B2 hlt hbw
      by_cases hmax : last = 4294967295
      · have hmI : ((last : Int) == 4294967295) = true := by rw [hmax]; rfl
        have BX := BR
        clear hmax
        go_wp2_with fail
        refine (awake_any _).mono ?_
        rintro e w9 ⟨rfl, b9⟩
        have B9 := Lib.hid (BX.out.trans (b9.mono BX.out.size))
        clear b9
        go_wp2
        go_ret
        exact ⟨rfl, B9.out⟩
      have hmI : ((last : Int) == 4294967295) = false := beq_eq_false_iff_ne.2 (by omega)
      obtain ⟨t, ht⟩ : ∃ t, last + 1 = t := ⟨_, rfl⟩
      have hltm : (last : Int) + 1 ≤ 4294967295 := by have := HLT.out; omega
      have htI : (last : Int) + 1 = (t : Int) := by omega
      have HT := Lib.hid ht
      have htL : t < 4294967296 := by have := HLT.out; omega
      clear ht hmax
      have hq := ((HB.out.sq.below BR.out).more BR.out.size).alloc (Nat.le_refl _) (.cells #[] 5)
      have BWR := Lib.hid (bel_alloc (Below.refl wr.heap.size wr) (.cells #[] 5))
      go_upto_region 18 with (at_builtin; (refine wpList_append_sq (f := byw) _ rfl (.tmp 57) (.tmp 58) 29 rfl (fun _ => rfl) wr.heap.size 5 i8 _ _ Try.underlying29 hif8 h80 rfl h81 h82 (by decide) _ [] rfl (own_empty wr 5 .u8) wr.heap.size A1 text c1 _ HM1.out rfl hq HB.out.nl (by simp; omega) (by simp) ?_); intro A5 c5 w5 o5 g5 b5; simp only [List.nil_append, HM1.out] at o5 ⊢; have O5 := Lib.hid o5; have B5 : Hid (Below wr.heap.size wr w5) := Lib.hid (BWR.out.trans b5); clear o5 g5 b5)
      have hbw5 : wr.heap.size ≤ w5.heap.size := B5.out.size
      obtain ⟨V, hV⟩ : ∃ V, w5.alloc (.cells #[.int .u8 2, .int .u32 (t : Int), .int .u8 1, .bool false, .slice A5 m1 c5] 31) = V := ⟨_, rfl⟩
      obtain ⟨gx, hgx⟩ : ∃ gx, w5.heap.size = gx := ⟨_, rfl⟩
      have RX : Hid (RowAt V gx 31 [.int .u8 2, .int .u32 (t : Int), .int .u8 1, .bool false, .slice A5 m1 c5]) := Lib.hid (by rw [← hV, ← hgx]; exact RowAt.new _ _ _)
      have b5V : Below w5.heap.size w5 V := by rw [← hV]; exact bel_alloc (Below.refl _ _) _
      have bV : Below wr.heap.size wr V := B5.out.trans (b5V.mono hbw5)
      have SX : Hid (Sq byw V V.heap.size A5 text) := Lib.hid (((Sq.of_own O5.out).below b5V).more b5V.size)
      have HX5 : Hid (A5 = none → c5 = 0) := Lib.hid (own_slice O5.out).1
      have JJV := Lib.hid (JJR.out.to bV)
      have JWV := Lib.hid (JWR.out.to bV)
      have BV : Hid (Below w.heap.size w V) := Lib.hid (BR.out.trans (bV.mono BR.out.size))
      have HPUT : Hid (Jp.put (jps jl) ⟨2, t, 1, false, text⟩ = some (jps jl ++ [⟨t, 1, text, 1⟩])) := Lib.hid (put_beg (by rw [← HLA2.out, ← HT.out]; exact Nat.lt_succ_self _) (by rw [HM1.out]; omega))
      rw [hV, hgx]
      have hgxV : gx < V.heap.size := RX.out.lt
      clear hV hgx bV b5V hbw5 BR JJR JWR O5 B5 BWR hq
      have dlt : gx < (V).heap.size := RX.out.lt
      have dlu : gx < (V).heap.size + 1 := Nat.lt_succ_of_lt RX.out.lt
      have d0 : (V).cell? ⟨gx, 0, none⟩ = some (.int .u8 2) := RX.out.cells 0
      have dz0 : (V).frozen? ⟨gx, 0, none⟩ = false := RX.out.frozen 0
      have d1 : (V).cell? ⟨gx, 1, none⟩ = some (.int .u32 (t : Int)) := RX.out.cells 1
      have dz1 : (V).frozen? ⟨gx, 1, none⟩ = false := RX.out.frozen 1
      have d2 : (V).cell? ⟨gx, 2, none⟩ = some (.int .u8 1) := RX.out.cells 2
      have dz2 : (V).frozen? ⟨gx, 2, none⟩ = false := RX.out.frozen 2
      have d3 : (V).cell? ⟨gx, 3, none⟩ = some (.bool false) := RX.out.cells 3
      have dz3 : (V).frozen? ⟨gx, 3, none⟩ = false := RX.out.frozen 3
      have d4 : (V).cell? ⟨gx, 4, none⟩ = some (.slice A5 m1 c5) := RX.out.cells 4
      have dz4 : (V).frozen? ⟨gx, 4, none⟩ = false := RX.out.frozen 4
      go_wp2_with fail
      (with_reducible refine (jbeg_any A3 k c3 jl t text A5 m1 c5 V JJV.out HJL.out HM1.out SX.out ⟨by simp, htL, by simp, HB.out.u⟩ HX5.out HST.out (by omega) (by omega) (fun y hy => Nat.le_trans (hshj.out y hy) (by decide))).mono ?_)
      intro e w7 h7
      obtain ⟨A6, n6, c6, jl6, rfl, b7, h6, J6⟩ := h7.yes_form HPUT.out
      obtain rfl : n6 = k + 1 := by
        have h := congrArg List.length h6
        rw [jps, List.length_map, J6.out.len, List.length_append, jps, List.length_map, HJL.out] at h
        exact h
      obtain ⟨S, hS⟩ : ∃ S, (jl6.map fun y => (y.A, y.p.text.length, y.c)) = S := ⟨_, rfl⟩
      have MU : Hid (Mut w7 V.heap.size A6 (k + 1) c6 S) := Lib.hid (by rw [← hS]; exact J6.out.mut)
      have HSL : Hid (∀ s ∈ S, s.2.1 ≤ 8192) := Lib.hid (by
        intro s hs
        rw [← hS] at hs
        obtain ⟨y, hy, rfl⟩ := List.mem_map.1 hs
        have hrt := Jp.put_rt HRT.out HPUT.out
        rw [← h6] at hrt
        exact ((And.right (show _ ∧ _ from hrt)) y.p (List.mem_map_of_mem hy)).2.2.1)
      have B7 := Lib.hid b7
      clear b7 h7 h6 J6 hS d0 d1 d2 d3 d4 dz0 dz1 dz2 dz3 dz4 dlt dlu htI hltm
      go_wp2
      go_loopw [79] (fun i wq => ∃ q : Nat, q ≤ k + 1 ∧ i = .int .i64 (q : Int) ∧ Hid (Mut wq V.heap.size A6 (k + 1) c6 S ∧ Below V.heap.size V wq)) (fun i _ => k + 1 - (intOf i).toNat)
      case atStart => exact ⟨0, by omega, rfl, Lib.hid ⟨MU.out, B7.out⟩⟩
      case round =>
        rename World => wq
        obtain ⟨q, hq, rfl, hh⟩ := hrel
        have MQ := Lib.hid hh.out.1
        have BQ := Lib.hid hh.out.2
        clear hh MU
        by_cases hlt : q < k + 1
        · obtain ⟨g, TA, m, tc, rfl, hgB, hgq, hSq, hmt, y2, ⟨v1, y1⟩, ⟨v3, y3⟩, hfz⟩ := MQ.out.at_ hlt
          have z1 := hfz (q * 4 + 1)
          have z3 := hfz (q * 4 + 3)
          have hltI : (q : Int) < (k : Int) + 1 := by omega
          have h0I : (0 : Int) ≤ (q : Int) := by omega
          have HSQ := Lib.hid hSq
          have hm8 : m ≤ 8192 := HSL.out _ (List.mem_of_getElem? hSq)
          clear hfz hSq
          go_upto_region 25 with fail
          obtain ⟨w8, hw8⟩ : ∃ w8, (wq.setCell ⟨g, q * 4 + 1, none⟩ (.int .u8 9)).setCell ⟨g, q * 4 + 3, none⟩ (.int .u8 9) = w8 := ⟨_, rfl⟩
          have M8 : Hid (Mut w8 V.heap.size (some ⟨g, 0, none⟩) (k + 1) c6 S) := Lib.hid (by rw [← hw8]; exact MQ.out.two hlt)
          have B8 : Hid (Below V.heap.size V w8) := Lib.hid (by rw [← hw8]; exact bel_set (bel_set BQ.out hgB _) hgB _)
          have y8 : w8.cell? ⟨g, q * 4 + 2, none⟩ = some (.slice TA m tc) := by rw [← hw8]; exact keep_set (keep_set y2 (by simp)) (by simp)
          rw [hw8]
          clear hw8 y1 y2 y3 z1 z3
          go_wp2
          go_loopw [96] (fun i wp => ∃ p : Nat, p ≤ m ∧ i = .int .i64 (p : Int) ∧ Hid (Mut wp V.heap.size (some ⟨g, 0, none⟩) (k + 1) c6 S ∧ Below V.heap.size V wp ∧ wp.cell? ⟨g, q * 4 + 2, none⟩ = some (.slice TA m tc))) (fun i _ => m - (intOf i).toNat)
          case atStart => exact ⟨0, by omega, rfl, Lib.hid ⟨M8.out, B8.out, y8⟩⟩
          case round =>
            rename World => wp
            obtain ⟨p, hp, rfl, hh⟩ := hrel
            have MP := Lib.hid hh.out.1
            have BP := Lib.hid hh.out.2.1
            have yp := hh.out.2.2
            clear hh y8
            by_cases hlt2 : p < m
            · obtain ⟨b, x, rfl, hbB, hbw, hx, hc, hz⟩ := MP.out.text HSQ.out hlt2
              have hltI2 : (p : Int) < (m : Int) := by omega
              have h0I2 : (0 : Int) ≤ (p : Int) := by omega
              have hgb : g ≠ b := by
                rintro rfl
                obtain ⟨jl', _, _, h3, h4⟩ := MP.out
                obtain ⟨xs, _, _, h5⟩ := h4 _ (List.mem_of_getElem? HSQ.out)
                exact own_ne' h3 h5 (by decide) _ rfl rfl
              obtain ⟨z, hz8⟩ : ∃ z, (x + 1) % 256 = z := ⟨_, rfl⟩
              have hzl : z < 256 := by omega
              have hzI : ((x : Int) + 1) % 256 = (z : Int) := by omega
              clear hz8
              go_wp2
              go_roundw
              case rel => exact ⟨p + 1, by omega, by go_num, Lib.hid ⟨MP.out.byte (s0 := (some ⟨b, 0, none⟩, m, tc)) (List.mem_of_getElem? HSQ.out) rfl hzl, bel_set BP.out hbB _, keep_block (fun e => hgb e.symm) yp⟩⟩
              case measure => simp [intOf]; omega
            · obtain rfl : p = m := by omega
              go_wp2
              go_roundw
              case rel => exact ⟨q + 1, by omega, by go_num, Lib.hid ⟨MP.out, BP.out⟩⟩
              case measure => simp [intOf]; omega
        · obtain rfl : q = k + 1 := by omega
          have bq := BQ.out
          have JJQ := Lib.hid (JJV.out.to bq)
          have JWQ := Lib.hid (JWV.out.to bq)
          have RXQ := Lib.hid (RX.out.to bq)
          have SXQ := Lib.hid ((SX.out.below bq).more bq.size)
          have BWQ : Hid (Below w.heap.size w wq) := Lib.hid (BV.out.trans (bq.mono BV.out.size))
          have HQ1 : Hid (Jp.eqs (jps jl) (jps wl) = true) := Lib.hid (by rw [HWL2.out]; exact Jp.eqs_self _)
          have htI : (last : Int) + 1 = (t : Int) := by have := HT.out; omega
          have hltm : (last : Int) + 1 ≤ 4294967295 := by have := HLT.out; omega
          clear bq MQ BQ
          go_wp2_with fail
          refine (jsame_any A3 A' jl wl c3 c' k k wq HJL.out HWN.out JJQ.out JWQ.out (by omega)).mono ?_
          rintro e w8 ⟨rfl, b8⟩
          rw [HQ1.out]
          have BW8 : Hid (Below w.heap.size w w8) := Lib.hid (BWQ.out.trans (b8.mono BWQ.out.size))
          have RX8 := Lib.hid (RXQ.out.to b8)
          have SX8 := Lib.hid ((SXQ.out.below b8).more b8.size)
          have ST8 : Hid (Sq byw w8 w8.heap.size A1 text) := Lib.hid ((HB.out.sq.below BW8.out).more BW8.out.size)
          clear b8 BWQ RXQ SXQ JJQ JWQ
          have dlt : gx < (w8).heap.size := RX8.out.lt
          have dlu : gx < (w8).heap.size + 1 := Nat.lt_succ_of_lt RX8.out.lt
          have d0 : (w8).cell? ⟨gx, 0, none⟩ = some (.int .u8 2) := RX8.out.cells 0
          have dz0 : (w8).frozen? ⟨gx, 0, none⟩ = false := RX8.out.frozen 0
          have d1 : (w8).cell? ⟨gx, 1, none⟩ = some (.int .u32 (t : Int)) := RX8.out.cells 1
          have dz1 : (w8).frozen? ⟨gx, 1, none⟩ = false := RX8.out.frozen 1
          have d2 : (w8).cell? ⟨gx, 2, none⟩ = some (.int .u8 1) := RX8.out.cells 2
          have dz2 : (w8).frozen? ⟨gx, 2, none⟩ = false := RX8.out.frozen 2
          have d3 : (w8).cell? ⟨gx, 3, none⟩ = some (.bool false) := RX8.out.cells 3
          have dz3 : (w8).frozen? ⟨gx, 3, none⟩ = false := RX8.out.frozen 3
          have d4 : (w8).cell? ⟨gx, 4, none⟩ = some (.slice A5 m1 c5) := RX8.out.cells 4
          have dz4 : (w8).frozen? ⟨gx, 4, none⟩ = false := RX8.out.frozen 4
          go_wp2_with fail
          (with_reducible refine (rsame_beg t A5 text c5 m1 A1 c1 w8 HM1.out SX8.out ST8.out HB.out.u).mono ?_)
          rintro e w10 ⟨rfl, b10⟩
          have BX : Hid (Below w.heap.size w w10) := Lib.hid (BW8.out.trans (b10.mono BW8.out.size))
          clear b10 BW8 RX8 SX8 ST8 d0 d1 d2 d3 d4 dz0 dz1 dz2 dz3 dz4 dlt dlu
          go_wp2_with fail
          refine (awake_any _).mono ?_
          rintro e w9 ⟨rfl, b9⟩
          have B9 := Lib.hid (BX.out.trans (b9.mono BX.out.size))
          clear b9
          go_wp2
          go_ret
          exact ⟨rfl, B9.out⟩
end Go.Proofs.Ytegmeodmjaijnaa
