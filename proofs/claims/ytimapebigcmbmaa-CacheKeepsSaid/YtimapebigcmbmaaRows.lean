/-
  No cell of these rows narrows 'for every input' (looked for: loops, veiled, ifaces, maps, wideKeys, modest, calm, conditions, laid).
  DERIVED. THE GIVEN ROWS OF THIS SEAT. 5 by the template 'for every input the law returns true; each argument reads behind the call as it read before'; 0 by the template 'total and deterministic' (their statements: YtimapebigcmbmaaTotals.lean).
  GIVEN WITH THE SEED: the statements are not yours to turn. If you find one false, say at which input.
  Laid BY PROGRAM, IN A SANDBOX (cutbox-rows.mjs): the forced cells as the released guide's own fill.sh prints them over the translation 9fea783d234ab1b4… (all of the seat's roots in one cut). By AI agents, Wed Nov 11 2026. No macro, syntax, notation, axiom, sorry.
-/
import Derived.Test.YtimapebigcmbmaaChecked
import GoSem.Claim
import GoSem.ClaimJoined
import GoSem.ClaimMapViews
import Derived.JoinedTies
import Derived.KernelRfl
namespace Go.Proofs.Ytimapebigcmbmaa
/- THE CELL 'sum', in the pinned program and in every row, IS THE sha256 OF THE DUMP (.gsa) THAT YtimapebigcmbmaaProg.lean LOADS. Nothing in Lean hashes anything: it is a label: what it is worth is what the hold of that sum in a sandbox is worth. -/
noncomputable def Try.pinned : Pinned := { name := "ytimapebigcmbmaa", sum := "9fea783d234ab1b4c649b895ff3ff2bbad424d8e21c45fe263d73d0621375ca2", checked := Try.checked }
namespace Rows
def none {H : Type} : Left H := { results := [], args := [] }

/-- 'quietuslaw42.CacheMatchesSpec': WHATEVER THE INPUT: true; the input reads as it did. -/
def cacheMatchesSpecSpec : ChangeSpec := { name := "cacheMatchesSpec", fn := fun _ => fun
  | [d1, d2, d3] => { results := [.lit (.bool true)], args := [d1, d2, d3] }
  | _ => none }
def cacheMatchesSpecRow : OpenClaim := { program := "ytimapebigcmbmaa", sum := "9fea783d234ab1b4c649b895ff3ff2bbad424d8e21c45fe263d73d0621375ca2", func := "quietus/quietuslaw42.CacheMatchesSpec", spec := "cacheMatchesSpec", inPlace := ["slices.overlaps[quietus/api.Kept]"], unfollowed := true, recurses := true, apart := false }
def CacheMatchesSpecSaid : Prop := cacheMatchesSpecRow.holds Try.pinned (OpenSpec.ofChange cacheMatchesSpecSpec)

/-- ITS FALSE NEIGHBOUR: 'it returns false'. Refute it at one input. -/
def cacheMatchesSpecWrong : ChangeSpec := { name := "cacheMatchesSpec", fn := fun _ => fun
  | [d1, d2, d3] => { results := [.lit (.bool false)], args := [d1, d2, d3] }
  | _ => none }
def CacheMatchesSpecWrongFalsely : Prop := cacheMatchesSpecRow.holds Try.pinned (OpenSpec.ofChange cacheMatchesSpecWrong)

/-- 'quietuslaw42.CacheRunsAsSpecified': WHATEVER THE INPUT: true; the input reads as it did. -/
def cacheRunsAsSpecifiedSpec : ChangeSpec := { name := "cacheRunsAsSpecified", fn := fun _ => fun
  | [d1, d2] => { results := [.lit (.bool true)], args := [d1, d2] }
  | _ => none }
def cacheRunsAsSpecifiedRow : OpenClaim := { program := "ytimapebigcmbmaa", sum := "9fea783d234ab1b4c649b895ff3ff2bbad424d8e21c45fe263d73d0621375ca2", func := "quietus/quietuslaw42.CacheRunsAsSpecified", spec := "cacheRunsAsSpecified", inPlace := ["slices.overlaps[quietus/api.Kept]"], unfollowed := true, recurses := true, apart := false }
def CacheRunsAsSpecifiedSaid : Prop := cacheRunsAsSpecifiedRow.holds Try.pinned (OpenSpec.ofChange cacheRunsAsSpecifiedSpec)

/-- ITS FALSE NEIGHBOUR: 'it returns false'. Refute it at one input. -/
def cacheRunsAsSpecifiedWrong : ChangeSpec := { name := "cacheRunsAsSpecified", fn := fun _ => fun
  | [d1, d2] => { results := [.lit (.bool false)], args := [d1, d2] }
  | _ => none }
def CacheRunsAsSpecifiedWrongFalsely : Prop := cacheRunsAsSpecifiedRow.holds Try.pinned (OpenSpec.ofChange cacheRunsAsSpecifiedWrong)

/-- 'quietuslaw42.CacheForgets': WHATEVER THE INPUT: true; the input reads as it did. -/
def cacheForgetsSpec : ChangeSpec := { name := "cacheForgets", fn := fun _ => fun
  | [d1, d2] => { results := [.lit (.bool true)], args := [d1, d2] }
  | _ => none }
def cacheForgetsRow : OpenClaim := { program := "ytimapebigcmbmaa", sum := "9fea783d234ab1b4c649b895ff3ff2bbad424d8e21c45fe263d73d0621375ca2", func := "quietus/quietuslaw42.CacheForgets", spec := "cacheForgets", inPlace := ["slices.overlaps[quietus/api.Kept]"], unfollowed := true, recurses := true, apart := false }
def CacheForgetsSaid : Prop := cacheForgetsRow.holds Try.pinned (OpenSpec.ofChange cacheForgetsSpec)

/-- ITS FALSE NEIGHBOUR: 'it returns false'. Refute it at one input. -/
def cacheForgetsWrong : ChangeSpec := { name := "cacheForgets", fn := fun _ => fun
  | [d1, d2] => { results := [.lit (.bool false)], args := [d1, d2] }
  | _ => none }
def CacheForgetsWrongFalsely : Prop := cacheForgetsRow.holds Try.pinned (OpenSpec.ofChange cacheForgetsWrong)

/-- 'quietuslaw42.CacheIsFresh': WHATEVER THE INPUT: true; the input reads as it did. -/
def cacheIsFreshSpec : ChangeSpec := { name := "cacheIsFresh", fn := fun _ => fun
  | [d1, d2] => { results := [.lit (.bool true)], args := [d1, d2] }
  | _ => none }
def cacheIsFreshRow : OpenClaim := { program := "ytimapebigcmbmaa", sum := "9fea783d234ab1b4c649b895ff3ff2bbad424d8e21c45fe263d73d0621375ca2", func := "quietus/quietuslaw42.CacheIsFresh", spec := "cacheIsFresh", inPlace := ["slices.overlaps[quietus/api.Kept]"], unfollowed := true, recurses := true, apart := false }
def CacheIsFreshSaid : Prop := cacheIsFreshRow.holds Try.pinned (OpenSpec.ofChange cacheIsFreshSpec)

/-- ITS FALSE NEIGHBOUR: 'it returns false'. Refute it at one input. -/
def cacheIsFreshWrong : ChangeSpec := { name := "cacheIsFresh", fn := fun _ => fun
  | [d1, d2] => { results := [.lit (.bool false)], args := [d1, d2] }
  | _ => none }
def CacheIsFreshWrongFalsely : Prop := cacheIsFreshRow.holds Try.pinned (OpenSpec.ofChange cacheIsFreshWrong)

/-- 'quietuslaw42.CacheKeeps': WHATEVER THE INPUT: true; the input reads as it did. -/
def cacheKeepsSpec : ChangeSpec := { name := "cacheKeeps", fn := fun _ => fun
  | [d1, d2] => { results := [.lit (.bool true)], args := [d1, d2] }
  | _ => none }
def cacheKeepsRow : OpenClaim := { program := "ytimapebigcmbmaa", sum := "9fea783d234ab1b4c649b895ff3ff2bbad424d8e21c45fe263d73d0621375ca2", func := "quietus/quietuslaw42.CacheKeeps", spec := "cacheKeeps", inPlace := ["slices.overlaps[quietus/api.Kept]"], unfollowed := true, recurses := true, apart := false }
def CacheKeepsSaid : Prop := cacheKeepsRow.holds Try.pinned (OpenSpec.ofChange cacheKeepsSpec)

/-- ITS FALSE NEIGHBOUR: 'it returns false'. Refute it at one input. -/
def cacheKeepsWrong : ChangeSpec := { name := "cacheKeeps", fn := fun _ => fun
  | [d1, d2] => { results := [.lit (.bool false)], args := [d1, d2] }
  | _ => none }
def CacheKeepsWrongFalsely : Prop := cacheKeepsRow.holds Try.pinned (OpenSpec.ofChange cacheKeepsWrong)

/- THE SECOND FORM. 'bulk': how many values and letters a reading holds, each counted each time it is reached (what is shared counts as often as it is met; a slice's spare places count too). A statement '..UptoSaid' is the law's where the arguments, and the package variables that the reading takes, are together of bulk at most 1048576: NARROWER than '..Said'. Prove '..Said' where nothing that the law and all that it calls make is longer than what came in: it says more and counts as full. Else prove '..UptoSaid'. A law counts once. -/
mutual
def uptoBulk {H : Type} : DataW H → Nat
  | .lit (.string bytes) => bytes.length + 1
  | .lit _ => 1
  | .nil => 1
  | .ptr d => uptoBulk d + 1
  | .slice elems spare => uptoBulkAll elems + uptoBulkAll spare + 1
  | .agg parts => uptoBulkAll parts + 1
  | .iface _ d => uptoBulk d + 1
  | .map entries => uptoBulkEntries entries + 1
  | .held _ => 1
def uptoBulkAll {H : Type} : List (DataW H) → Nat
  | [] => 0
  | d :: r => uptoBulk d + uptoBulkAll r
def uptoBulkEntries {H : Type} : List (Lit × DataW H) → Nat
  | [] => 0
  | x :: r => uptoBulkEntry x + uptoBulkEntries r
def uptoBulkEntry {H : Type} : Lit × DataW H → Nat
  | (.string bytes, d) => bytes.length + uptoBulk d + 1
  | (_, d) => uptoBulk d + 1
 end
def uptoSmall : (H : Type) → List (DataW H) → Bool := fun _ ds => decide (uptoBulkAll ds ≤ 1048576)
def OpenSpec.upto (s : _root_.Go.ChangeSpec) : _root_.Go.OpenSpec := { _root_.Go.OpenSpec.ofChange s with cond := some uptoSmall }

/-- 'quietuslaw42.CacheMatchesSpec', WHERE WHAT IT READS IS OF BULK AT MOST 1048576: true; the input reads as it did. -/
def cacheMatchesSpecUptoRow : OpenClaim := { program := "ytimapebigcmbmaa", sum := "9fea783d234ab1b4c649b895ff3ff2bbad424d8e21c45fe263d73d0621375ca2", func := "quietus/quietuslaw42.CacheMatchesSpec", spec := "cacheMatchesSpec", inPlace := ["slices.overlaps[quietus/api.Kept]"], unfollowed := true, recurses := true, apart := false, narrowed := true }
def CacheMatchesSpecUptoSaid : Prop := cacheMatchesSpecUptoRow.holds Try.pinned (OpenSpec.upto cacheMatchesSpecSpec)

/-- 'quietuslaw42.CacheRunsAsSpecified', WHERE WHAT IT READS IS OF BULK AT MOST 1048576: true; the input reads as it did. -/
def cacheRunsAsSpecifiedUptoRow : OpenClaim := { program := "ytimapebigcmbmaa", sum := "9fea783d234ab1b4c649b895ff3ff2bbad424d8e21c45fe263d73d0621375ca2", func := "quietus/quietuslaw42.CacheRunsAsSpecified", spec := "cacheRunsAsSpecified", inPlace := ["slices.overlaps[quietus/api.Kept]"], unfollowed := true, recurses := true, apart := false, narrowed := true }
def CacheRunsAsSpecifiedUptoSaid : Prop := cacheRunsAsSpecifiedUptoRow.holds Try.pinned (OpenSpec.upto cacheRunsAsSpecifiedSpec)

/-- 'quietuslaw42.CacheForgets', WHERE WHAT IT READS IS OF BULK AT MOST 1048576: true; the input reads as it did. -/
def cacheForgetsUptoRow : OpenClaim := { program := "ytimapebigcmbmaa", sum := "9fea783d234ab1b4c649b895ff3ff2bbad424d8e21c45fe263d73d0621375ca2", func := "quietus/quietuslaw42.CacheForgets", spec := "cacheForgets", inPlace := ["slices.overlaps[quietus/api.Kept]"], unfollowed := true, recurses := true, apart := false, narrowed := true }
def CacheForgetsUptoSaid : Prop := cacheForgetsUptoRow.holds Try.pinned (OpenSpec.upto cacheForgetsSpec)

/-- 'quietuslaw42.CacheIsFresh', WHERE WHAT IT READS IS OF BULK AT MOST 1048576: true; the input reads as it did. -/
def cacheIsFreshUptoRow : OpenClaim := { program := "ytimapebigcmbmaa", sum := "9fea783d234ab1b4c649b895ff3ff2bbad424d8e21c45fe263d73d0621375ca2", func := "quietus/quietuslaw42.CacheIsFresh", spec := "cacheIsFresh", inPlace := ["slices.overlaps[quietus/api.Kept]"], unfollowed := true, recurses := true, apart := false, narrowed := true }
def CacheIsFreshUptoSaid : Prop := cacheIsFreshUptoRow.holds Try.pinned (OpenSpec.upto cacheIsFreshSpec)

/-- 'quietuslaw42.CacheKeeps', WHERE WHAT IT READS IS OF BULK AT MOST 1048576: true; the input reads as it did. -/
def cacheKeepsUptoRow : OpenClaim := { program := "ytimapebigcmbmaa", sum := "9fea783d234ab1b4c649b895ff3ff2bbad424d8e21c45fe263d73d0621375ca2", func := "quietus/quietuslaw42.CacheKeeps", spec := "cacheKeeps", inPlace := ["slices.overlaps[quietus/api.Kept]"], unfollowed := true, recurses := true, apart := false, narrowed := true }
def CacheKeepsUptoSaid : Prop := cacheKeepsUptoRow.holds Try.pinned (OpenSpec.upto cacheKeepsSpec)

end Rows
end Go.Proofs.Ytimapebigcmbmaa
