/-
  No cell of these rows narrows 'for every input' (looked for: loops, veiled, ifaces, maps, wideKeys, modest, calm, conditions, laid).
  DERIVED. THE GIVEN ROWS OF THIS SEAT. 6 by the template 'for every input the law returns true; each argument reads behind the call as it read before'; 0 by the template 'total and deterministic' (their statements: YtajbghjjpebndaaTotals.lean).
  GIVEN WITH THE SEED: the statements are not yours to turn. If you find one false, say at which input.
  Laid BY PROGRAM, IN A SANDBOX (cutbox-rows.mjs): the forced cells as the released guide's own fill.sh prints them over the translation ef828fdcedc9e3c4… (all of the seat's roots in one cut). By AI agents, Wed Nov 11 2026. No macro, syntax, notation, axiom, sorry.
-/
import Derived.Test.YtajbghjjpebndaaChecked
import GoSem.Claim
import GoSem.ClaimJoined
import GoSem.ClaimMapViews
import Derived.JoinedTies
import Derived.KernelRfl
namespace Go.Proofs.Ytajbghjjpebndaa
/- THE CELL 'sum', in the pinned program and in every row, IS THE sha256 OF THE DUMP (.gsa) THAT YtajbghjjpebndaaProg.lean LOADS. Nothing in Lean hashes anything: it is a label: what it is worth is what the hold of that sum in a sandbox is worth. -/
noncomputable def Try.pinned : Pinned := { name := "ytajbghjjpebndaa", sum := "ef828fdcedc9e3c4bf767c3039efde2e5bc71fa91c812842338f3bef4a0bb9c1", checked := Try.checked }
namespace Rows
def none {H : Type} : Left H := { results := [], args := [] }

/-- 'saucierlaw20.AgentOnce': WHATEVER THE INPUT: true; the input reads as it did. -/
def agentOnceSpec : ChangeSpec := { name := "agentOnce", fn := fun _ => fun
  | [d1, d2, d3] => { results := [.lit (.bool true)], args := [d1, d2, d3] }
  | _ => none }
def agentOnceRow : OpenClaim := { program := "ytajbghjjpebndaa", sum := "ef828fdcedc9e3c4bf767c3039efde2e5bc71fa91c812842338f3bef4a0bb9c1", func := "saucier/saucierlaw20.AgentOnce", spec := "agentOnce", unfollowed := true, recurses := true, apart := false }
def AgentOnceSaid : Prop := agentOnceRow.holds Try.pinned (OpenSpec.ofChange agentOnceSpec)

/-- ITS FALSE NEIGHBOUR: 'it returns false'. Refute it at one input. -/
def agentOnceWrong : ChangeSpec := { name := "agentOnce", fn := fun _ => fun
  | [d1, d2, d3] => { results := [.lit (.bool false)], args := [d1, d2, d3] }
  | _ => none }
def AgentOnceWrongFalsely : Prop := agentOnceRow.holds Try.pinned (OpenSpec.ofChange agentOnceWrong)

/-- 'saucierlaw20.AgentTells': WHATEVER THE INPUT: true; the input reads as it did. -/
def agentTellsSpec : ChangeSpec := { name := "agentTells", fn := fun _ => fun
  | [d1, d2, d3, d4, d5] => { results := [.lit (.bool true)], args := [d1, d2, d3, d4, d5] }
  | _ => none }
def agentTellsRow : OpenClaim := { program := "ytajbghjjpebndaa", sum := "ef828fdcedc9e3c4bf767c3039efde2e5bc71fa91c812842338f3bef4a0bb9c1", func := "saucier/saucierlaw20.AgentTells", spec := "agentTells", unfollowed := true, recurses := true, apart := false }
def AgentTellsSaid : Prop := agentTellsRow.holds Try.pinned (OpenSpec.ofChange agentTellsSpec)

/-- ITS FALSE NEIGHBOUR: 'it returns false'. Refute it at one input. -/
def agentTellsWrong : ChangeSpec := { name := "agentTells", fn := fun _ => fun
  | [d1, d2, d3, d4, d5] => { results := [.lit (.bool false)], args := [d1, d2, d3, d4, d5] }
  | _ => none }
def AgentTellsWrongFalsely : Prop := agentTellsRow.holds Try.pinned (OpenSpec.ofChange agentTellsWrong)

/-- 'saucierlaw20.AgentOwns': WHATEVER THE INPUT: true; the input reads as it did. -/
def agentOwnsSpec : ChangeSpec := { name := "agentOwns", fn := fun _ => fun
  | [d1, d2, d3, d4] => { results := [.lit (.bool true)], args := [d1, d2, d3, d4] }
  | _ => none }
def agentOwnsRow : OpenClaim := { program := "ytajbghjjpebndaa", sum := "ef828fdcedc9e3c4bf767c3039efde2e5bc71fa91c812842338f3bef4a0bb9c1", func := "saucier/saucierlaw20.AgentOwns", spec := "agentOwns", unfollowed := true, recurses := true, apart := false }
def AgentOwnsSaid : Prop := agentOwnsRow.holds Try.pinned (OpenSpec.ofChange agentOwnsSpec)

/-- ITS FALSE NEIGHBOUR: 'it returns false'. Refute it at one input. -/
def agentOwnsWrong : ChangeSpec := { name := "agentOwns", fn := fun _ => fun
  | [d1, d2, d3, d4] => { results := [.lit (.bool false)], args := [d1, d2, d3, d4] }
  | _ => none }
def AgentOwnsWrongFalsely : Prop := agentOwnsRow.holds Try.pinned (OpenSpec.ofChange agentOwnsWrong)

/-- 'saucierlaw20.AgentLease': WHATEVER THE INPUT: true; the input reads as it did. -/
def agentLeaseSpec : ChangeSpec := { name := "agentLease", fn := fun _ => fun
  | [d1, d2, d3, d4, d5, d6, d7] => { results := [.lit (.bool true)], args := [d1, d2, d3, d4, d5, d6, d7] }
  | _ => none }
def agentLeaseRow : OpenClaim := { program := "ytajbghjjpebndaa", sum := "ef828fdcedc9e3c4bf767c3039efde2e5bc71fa91c812842338f3bef4a0bb9c1", func := "saucier/saucierlaw20.AgentLease", spec := "agentLease", unfollowed := true, recurses := true, apart := false }
def AgentLeaseSaid : Prop := agentLeaseRow.holds Try.pinned (OpenSpec.ofChange agentLeaseSpec)

/-- ITS FALSE NEIGHBOUR: 'it returns false'. Refute it at one input. -/
def agentLeaseWrong : ChangeSpec := { name := "agentLease", fn := fun _ => fun
  | [d1, d2, d3, d4, d5, d6, d7] => { results := [.lit (.bool false)], args := [d1, d2, d3, d4, d5, d6, d7] }
  | _ => none }
def AgentLeaseWrongFalsely : Prop := agentLeaseRow.holds Try.pinned (OpenSpec.ofChange agentLeaseWrong)

/-- 'saucierlaw20.AgentAgain': WHATEVER THE INPUT: true; the input reads as it did. -/
def agentAgainSpec : ChangeSpec := { name := "agentAgain", fn := fun _ => fun
  | [d1, d2, d3, d4, d5] => { results := [.lit (.bool true)], args := [d1, d2, d3, d4, d5] }
  | _ => none }
def agentAgainRow : OpenClaim := { program := "ytajbghjjpebndaa", sum := "ef828fdcedc9e3c4bf767c3039efde2e5bc71fa91c812842338f3bef4a0bb9c1", func := "saucier/saucierlaw20.AgentAgain", spec := "agentAgain", unfollowed := true, recurses := true, apart := false }
def AgentAgainSaid : Prop := agentAgainRow.holds Try.pinned (OpenSpec.ofChange agentAgainSpec)

/-- ITS FALSE NEIGHBOUR: 'it returns false'. Refute it at one input. -/
def agentAgainWrong : ChangeSpec := { name := "agentAgain", fn := fun _ => fun
  | [d1, d2, d3, d4, d5] => { results := [.lit (.bool false)], args := [d1, d2, d3, d4, d5] }
  | _ => none }
def AgentAgainWrongFalsely : Prop := agentAgainRow.holds Try.pinned (OpenSpec.ofChange agentAgainWrong)

/-- 'saucierlaw20.AgentWords': WHATEVER THE INPUT: true; the input reads as it did. -/
def agentWordsSpec : ChangeSpec := { name := "agentWords", fn := fun _ => fun
  | [d1, d2, d3, d4, d5] => { results := [.lit (.bool true)], args := [d1, d2, d3, d4, d5] }
  | _ => none }
def agentWordsRow : OpenClaim := { program := "ytajbghjjpebndaa", sum := "ef828fdcedc9e3c4bf767c3039efde2e5bc71fa91c812842338f3bef4a0bb9c1", func := "saucier/saucierlaw20.AgentWords", spec := "agentWords", unfollowed := true, recurses := true, apart := false }
def AgentWordsSaid : Prop := agentWordsRow.holds Try.pinned (OpenSpec.ofChange agentWordsSpec)

/-- ITS FALSE NEIGHBOUR: 'it returns false'. Refute it at one input. -/
def agentWordsWrong : ChangeSpec := { name := "agentWords", fn := fun _ => fun
  | [d1, d2, d3, d4, d5] => { results := [.lit (.bool false)], args := [d1, d2, d3, d4, d5] }
  | _ => none }
def AgentWordsWrongFalsely : Prop := agentWordsRow.holds Try.pinned (OpenSpec.ofChange agentWordsWrong)

/- THE SECOND FORM. 'bulk': how many values and letters a reading holds, each counted each time it is reached (what is shared counts as often as it is met; a slice's spare places count too). A statement '..UptoSaid' is the law's where the arguments, and the package variables that the reading takes, are together of bulk at most 1048576: NARROWER than '..Said'. Prove '..Said' where nothing that the law and all that it calls make is longer than what came in: it says more and counts as full. Else prove '..UptoSaid'. A law counts once. -/
mutual
def uptoBulk {H : Type} : DataW H → Nat
  | .lit (.string bytes) => bytes.length + 1
  | .lit _ => 1
  | .nil => 1
  | .ptr d => uptoBulk d + 1
  | .slice elems spare => uptoBulkAll elems + uptoBulkAll spare + 1
  | .agg parts => uptoBulkAll parts + 1
  | .iface _ d => uptoBulk d + 1
  | .map entries => uptoBulkEntries entries + 1
  | .held _ => 1
def uptoBulkAll {H : Type} : List (DataW H) → Nat
  | [] => 0
  | d :: r => uptoBulk d + uptoBulkAll r
def uptoBulkEntries {H : Type} : List (Lit × DataW H) → Nat
  | [] => 0
  | x :: r => uptoBulkEntry x + uptoBulkEntries r
def uptoBulkEntry {H : Type} : Lit × DataW H → Nat
  | (.string bytes, d) => bytes.length + uptoBulk d + 1
  | (_, d) => uptoBulk d + 1
 end
def uptoSmall : (H : Type) → List (DataW H) → Bool := fun _ ds => decide (uptoBulkAll ds ≤ 1048576)
def OpenSpec.upto (s : _root_.Go.ChangeSpec) : _root_.Go.OpenSpec := { _root_.Go.OpenSpec.ofChange s with cond := some uptoSmall }

/-- 'saucierlaw20.AgentOnce', WHERE WHAT IT READS IS OF BULK AT MOST 1048576: true; the input reads as it did. -/
def agentOnceUptoRow : OpenClaim := { program := "ytajbghjjpebndaa", sum := "ef828fdcedc9e3c4bf767c3039efde2e5bc71fa91c812842338f3bef4a0bb9c1", func := "saucier/saucierlaw20.AgentOnce", spec := "agentOnce", unfollowed := true, recurses := true, apart := false, narrowed := true }
def AgentOnceUptoSaid : Prop := agentOnceUptoRow.holds Try.pinned (OpenSpec.upto agentOnceSpec)

/-- 'saucierlaw20.AgentTells', WHERE WHAT IT READS IS OF BULK AT MOST 1048576: true; the input reads as it did. -/
def agentTellsUptoRow : OpenClaim := { program := "ytajbghjjpebndaa", sum := "ef828fdcedc9e3c4bf767c3039efde2e5bc71fa91c812842338f3bef4a0bb9c1", func := "saucier/saucierlaw20.AgentTells", spec := "agentTells", unfollowed := true, recurses := true, apart := false, narrowed := true }
def AgentTellsUptoSaid : Prop := agentTellsUptoRow.holds Try.pinned (OpenSpec.upto agentTellsSpec)

/-- 'saucierlaw20.AgentOwns', WHERE WHAT IT READS IS OF BULK AT MOST 1048576: true; the input reads as it did. -/
def agentOwnsUptoRow : OpenClaim := { program := "ytajbghjjpebndaa", sum := "ef828fdcedc9e3c4bf767c3039efde2e5bc71fa91c812842338f3bef4a0bb9c1", func := "saucier/saucierlaw20.AgentOwns", spec := "agentOwns", unfollowed := true, recurses := true, apart := false, narrowed := true }
def AgentOwnsUptoSaid : Prop := agentOwnsUptoRow.holds Try.pinned (OpenSpec.upto agentOwnsSpec)

/-- 'saucierlaw20.AgentLease', WHERE WHAT IT READS IS OF BULK AT MOST 1048576: true; the input reads as it did. -/
def agentLeaseUptoRow : OpenClaim := { program := "ytajbghjjpebndaa", sum := "ef828fdcedc9e3c4bf767c3039efde2e5bc71fa91c812842338f3bef4a0bb9c1", func := "saucier/saucierlaw20.AgentLease", spec := "agentLease", unfollowed := true, recurses := true, apart := false, narrowed := true }
def AgentLeaseUptoSaid : Prop := agentLeaseUptoRow.holds Try.pinned (OpenSpec.upto agentLeaseSpec)

/-- 'saucierlaw20.AgentAgain', WHERE WHAT IT READS IS OF BULK AT MOST 1048576: true; the input reads as it did. -/
def agentAgainUptoRow : OpenClaim := { program := "ytajbghjjpebndaa", sum := "ef828fdcedc9e3c4bf767c3039efde2e5bc71fa91c812842338f3bef4a0bb9c1", func := "saucier/saucierlaw20.AgentAgain", spec := "agentAgain", unfollowed := true, recurses := true, apart := false, narrowed := true }
def AgentAgainUptoSaid : Prop := agentAgainUptoRow.holds Try.pinned (OpenSpec.upto agentAgainSpec)

/-- 'saucierlaw20.AgentWords', WHERE WHAT IT READS IS OF BULK AT MOST 1048576: true; the input reads as it did. -/
def agentWordsUptoRow : OpenClaim := { program := "ytajbghjjpebndaa", sum := "ef828fdcedc9e3c4bf767c3039efde2e5bc71fa91c812842338f3bef4a0bb9c1", func := "saucier/saucierlaw20.AgentWords", spec := "agentWords", unfollowed := true, recurses := true, apart := false, narrowed := true }
def AgentWordsUptoSaid : Prop := agentWordsUptoRow.holds Try.pinned (OpenSpec.upto agentWordsSpec)

end Rows
end Go.Proofs.Ytajbghjjpebndaa
