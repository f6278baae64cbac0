/- A disk beside the document's disk (a variable), and a log: what stays of them while one of them moves. -/
import Derived.Test.YtbokggilfepdhaaRfNvA
import Derived.Test.YtbokggilfepdhaaRfNv5
import Derived.Test.YtbokggilfepdhaaDkFree
import Derived.Test.YtbokggilfepdhaaOpenRc
import Derived.Test.YtbokggilfepdhaaNvKLaw
namespace Go.Proofs.Ytbokggilfepdhaa
open Go.RowKit
set_option linter.unusedVariables false
theorem size_nrd : (Try.prog.info? 67).map (·.size) = some 5 := by kernel_rfl
/-- Open of the document's answer, whole -/
theorem ropen_any (D : Dk) (A : Option Addr) (c : Nat) (w : World) (hok : D.Ok) (hb : Rb w A c D.l) :
    Calls Try.prog 32 #[D.R A c] w (ROpenP w A D.lopen) :=
  ropen_go D A c w hok hb (fun W hW => rread_any A c D.l.length D.l rfl W (hb.to hW).sq hok.u hb.nil hb.le hb.cap (Nat.le_trans (Nat.le_trans hok.room hok.hi) (by decide)))
theorem Rb.moves {w w' : World} {A A' : Option Addr} {c g : Nat} {l : List Nat} (h : Rb w A c l) (k : Moves g A' w w') (h1 : ∀ p, A = some p → p.block ≠ g) (h2 : ∀ p q, A = some p → A' = some q → q.block ≠ p.block) : Rb w' A c l := ⟨k.sq h.sq (fun _ => h1) (fun _ => h2), h.nil, h.le, h.cap, fun p hp => Nat.lt_of_lt_of_le (h.lt p hp) k.size⟩
/-- block gd: the disk D; block gm: the document's disk E, a variable -/
structure Two (w : World) (gd gm : Nat) (D E : Dk) (Ad : Option Addr) (cd : Nat) (Am : Option Addr) (cm : Nat) : Prop where
  dk : DkAt w gd gd Ad cd D
  mr : RowAt w gm 67 (E.RC Am cm E.l.length)
  rb : Rb w Am cm E.l
  ne : gm ≠ gd
  agm : ∀ p, Ad = some p → p.block ≠ gm
  amd : ∀ p, Am = some p → p.block ≠ gd ∧ p.block ≠ gm
  apart : ∀ p q, Am = some p → Ad = some q → q.block ≠ p.block
/-- block gl: a log upon the disk gd, apart from gm and the disk's bytes -/
structure Lg (w : World) (gl gd gm : Nat) (Ad : Option Addr) : Prop where
  at_ : LogAt w gl gd
  nd : gl ≠ gd
  nm : gl ≠ gm
  agl : ∀ p, Ad = some p → p.block ≠ gl
section
variable {w w' : World} {gd gm gl cd cm cd' cm' : Nat} {D E D' E' : Dk} {Ad Am Ad' Am' : Option Addr}
theorem Two.to (h : Two w gd gm D E Ad cd Am cm) (k : Below w.heap.size w w') : Two w' gd gm D E Ad cd Am cm := ⟨h.dk.to k, h.mr.to k, h.rb.to k, h.ne, h.agm, h.amd, h.apart⟩
theorem Lg.to (h : Lg w gl gd gm Ad) (k : Below w.heap.size w w') : Lg w' gl gd gm Ad := ⟨h.at_.to k, h.nd, h.nm, h.agl⟩
/-- the disk moves -/
theorem Two.moves (h : Two w gd gm D E Ad cd Am cm) (k : Moves gd Ad w w') (hd : DkAt w' gd gd Ad' cd' D') (fr : Ad' = Ad ∨ ∀ p, Ad' = some p → w.heap.size ≤ p.block) : Two w' gd gm D' E Ad' cd' Am cm := by
  have hm := h.mr.lt
  refine ⟨hd, k.row h.mr h.ne h.agm, h.rb.moves k (fun p hp => (h.amd p hp).1) h.apart, h.ne, fun p hp => ?_, h.amd, fun p q hp hq => ?_⟩
  · rcases fr with f | f
    · exact h.agm p (f.symm.trans hp)
    · have := f p hp; omega
  · rcases fr with f | f
    · exact h.apart p q hp (f.symm.trans hq)
    · have h1 := f q hq; have h2 := h.rb.lt p hp; omega
theorem Lg.moves (h : Lg w gl gd gm Ad) (k : Moves gd Ad w w') (fr : Ad' = Ad ∨ ∀ p, Ad' = some p → w.heap.size ≤ p.block) : Lg w' gl gd gm Ad' := by
  have hl := h.at_.lt
  refine ⟨k.row h.at_ h.nd h.agl, h.nd, h.nm, fun p hp => ?_⟩
  rcases fr with f | f
  · exact h.agl p (f.symm.trans hp)
  · have := f p hp; omega
/-- the document's disk is another one, its bytes made anew or as they were -/
theorem Two.store (h : Two w gd gm D E Ad cd Am cm) (k : Only gm w w') (hr : RowAt w' gm 67 (E'.RC Am' cm' E'.l.length)) (hb : Rb w Am' cm' E'.l) (ha : ∀ p, Am' = some p → p.block ≠ gd ∧ p.block ≠ gm ∧ ∀ q, Ad = some q → q.block ≠ p.block) : Two w' gd gm D E' Ad cd Am' cm' :=
  ⟨h.dk.other k h.ne h.agm, hr, hb.only k (fun p hp => (ha p hp).2.1), h.ne, h.agm, fun p hp => ⟨(ha p hp).1, (ha p hp).2.1⟩, fun p q hp hq => (ha p hp).2.2 q hq⟩
theorem Lg.only (h : Lg w gl gd gm Ad) (k : Only gm w w') : Lg w' gl gd gm Ad := ⟨h.at_.only k h.nm, h.nd, h.nm, h.agl⟩
/-- what the document's functions hand back lies apart: w0 the world ahead of the call, w the one behind it -/
theorem Two.fresh {w0 : World} (h : Two w0 gd gm D E Ad cd Am cm) (fr : Am' = Am ∨ ∀ p, Am' = some p → w0.heap.size ≤ p.block) : ∀ p, Am' = some p → p.block ≠ gd ∧ p.block ≠ gm ∧ ∀ q, Ad = some q → q.block ≠ p.block := fun p hp => by
  rcases fr with f | f
  · have hp' := f.symm.trans hp
    exact ⟨(h.amd p hp').1, (h.amd p hp').2, fun q hq => h.apart p q hp' hq⟩
  · have h1 := f p hp
    have h2 := h.dk.lt
    have h3 := h.mr.lt
    exact ⟨by omega, by omega, fun q hq => by have := (own_at h.dk.own q hq).2.1; omega⟩
/-- what Open hands back: a log, if there is no error -/
def Lgo (w : World) (E : Int) (pl : Option Addr) (gd gm : Nat) (Ad : Option Addr) : Prop := E = 0 → ∃ gl, pl = some ⟨gl, 0, none⟩ ∧ Lg w gl gd gm Ad
theorem Lgo.to {E : Int} {pl : Option Addr} (h : Lgo w E pl gd gm Ad) (k : Below w.heap.size w w') : Lgo w' E pl gd gm Ad := fun e => by
  obtain ⟨g, h1, h2⟩ := h e
  exact ⟨g, h1, h2.to k⟩
theorem Lgo.only {E : Int} {pl : Option Addr} (h : Lgo w E pl gd gm Ad) (k : Only gm w w') : Lgo w' E pl gd gm Ad := fun e => by
  obtain ⟨g, h1, h2⟩ := h e
  exact ⟨g, h1, h2.only k⟩
theorem Two.moved (h : Two w gd gm D E Ad cd Am cm) (k : Moves gd Ad w w') {b : Nat} (hb : b ≤ gd) : Below b w w' := (h.dk.moves k).mono hb
end
/-- a disk that is on, with sparks without end, is opened -/
theorem Dk.lopen_free {D : Dk} (h : D.left = none) (ho : D.off = false) : (D.lopen).2.2 = 0 := by
  have hs : D.sparked = (D, true) := by unfold Dk.sparked; rw [h]
  have key : ∀ (E : Dk) rs, E.left = none → E.off = false → (E.lopen2 rs).2.2 = 0 := by
    intro E rs hl hO
    have hs : E.sparked = (E, true) := by unfold Dk.sparked; rw [hl]
    have : (E.sync).2 = 0 := by unfold Dk.sync; rw [if_neg (by rw [hO]; decide), hs, if_pos rfl]
    unfold Dk.lopen2
    rw [if_pos this]
  unfold Dk.lopen
  have hle := Nr.read_le D.l
  split
  · have hc : D.cut ((Nr.read D.l).2 : Nat) = ({ D with l := D.l.take ((Nr.read D.l).2 : Nat), safe := min D.safe ((Nr.read D.l).2 : Nat) }, 0) := by
      unfold Dk.cut
      rw [if_neg (by rw [ho]; decide), if_neg (by omega), hs, if_pos rfl]
      simp
    rw [hc, if_pos rfl]
    exact key _ _ h ho
  · exact key _ _ h ho
theorem Dk.append_free (r : Nat) (b : List Nat) : ((Dk.new r).append b).1.left = none ∧ ((Dk.new r).append b).1.off = false := by
  unfold Dk.append
  rw [if_neg (show ¬ ((Dk.new r).off = true) from Bool.false_ne_true)]
  split
  · exact ⟨rfl, rfl⟩
  · rw [Dk.puts_free _ _ rfl]
    exact ⟨rfl, rfl⟩
theorem ReadP.rcs {b : List Nat} {w w' : World} {e : Ending} (h : ReadP b w e w') (hu : ∀ y ∈ b, y < 256) {G : List Nr} {q : Nat} (hr : Nr.read b = (G, q)) : ∃ A' c' m rs, e = .returned (.tuple #[.slice A' m c', .int .i64 (q : Int)]) ∧ rs.length = m ∧ rs.map Rc.p = G ∧ Rcs w' w'.heap.size A' rs ∧ Below w.heap.size w w' := by
  obtain ⟨A', c', m, rs, rfl, og, hrs, hnl, bb⟩ := h
  have hf := (Nr.read_back hu).2
  rw [hr] at hrs hf
  exact ⟨A', c', m, rs, by rw [hr], og.len, hrs, og.rcs (fun x hx => ⟨(hf x.p (by rw [← hrs]; exact List.mem_map_of_mem hx)).2, (hnl x hx).1⟩), bb⟩
theorem Dk.lopen_fit {D : Dk} (h : D.Ok) : ∀ x ∈ (D.lopen).2.1, x.right = true ∧ x.Fit := by
  have hf := (Nr.read_back h.u).2
  have key : ∀ (E : Dk) x, x ∈ (E.lopen2 (Nr.read D.l).1).2.1 → x.right = true ∧ x.Fit := by
    intro E x hx
    unfold Dk.lopen2 at hx
    split at hx
    · exact hf x hx
    · cases hx
  intro x hx
  unfold Dk.lopen at hx
  split at hx
  · split at hx
    · exact key _ x hx
    · cases hx
  · exact key _ x hx
theorem Nr.all_few (H : List Nr) : H.length * 13 ≤ (Nr.all H).length := by
  induction H with
  | nil => simp
  | cons x H ih =>
    rw [Nr.all_cons, List.length_append, Nr.bytes_length, Nr.size, List.length_cons]
    omega
theorem Dk.lopen_few {D : Dk} (h : D.Ok) : (D.lopen).2.1.length ≤ 100000 := by
  have hb := Nr.read_back h.u
  have hl : (Nr.read D.l).1.length ≤ 100000 := by
    have h1 := Nr.all_few (Nr.read D.l).1
    rw [← hb.1, List.length_take] at h1
    have := h.room
    have := h.hi
    omega
  have key : ∀ (E : Dk), (E.lopen2 (Nr.read D.l).1).2.1.length ≤ 100000 := by
    intro E
    unfold Dk.lopen2
    split
    · exact hl
    · exact Nat.zero_le _
  unfold Dk.lopen
  split
  · split
    · exact key _
    · exact Nat.zero_le _
  · exact key _
end Go.Proofs.Ytbokggilfepdhaa
