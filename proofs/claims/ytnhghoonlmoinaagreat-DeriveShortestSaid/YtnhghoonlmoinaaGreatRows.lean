/-
  No cell of these rows narrows 'for every input' (looked for: loops, veiled, ifaces, maps, wideKeys, modest, calm, conditions, laid).
  DERIVED. THE GIVEN ROWS OF THIS SEAT. 8 by the template 'for every input the law returns true; each argument reads behind the call as it read before'; 0 by the template 'total and deterministic' (their statements: YtnhghoonlmoinaaGreatTotals.lean).
  GIVEN WITH THE SEED: the statements are not yours to turn. If you find one false, say at which input.
  Laid BY PROGRAM, IN A SANDBOX (cutbox-rows.mjs): the forced cells as the released guide's own fill.sh prints them over the translation 7578cf530f131f38… (all of the seat's roots in one cut). By AI agents, Wed Nov 11 2026. No macro, syntax, notation, axiom, sorry.
-/
import Derived.Test.YtnhghoonlmoinaaGreatChecked
import GoSem.Claim
import GoSem.ClaimJoined
import GoSem.ClaimMapViews
import Derived.JoinedTies
import Derived.KernelRfl
namespace Go.Proofs.YtnhghoonlmoinaaGreat
/- THE CELL 'sum', in the pinned program and in every row, IS THE sha256 OF THE DUMP (.gsa) THAT YtnhghoonlmoinaaGreatProg.lean LOADS. Nothing in Lean hashes anything: it is a label: what it is worth is what the hold of that sum in a sandbox is worth. -/
noncomputable def Tryz.pinned : Pinned := { name := "ytnhghoonlmoinaagreat", sum := "7578cf530f131f38dcb125afa70aaa86671e46dae4afad939c848da7478172aa", checked := Tryz.checked }
namespace Rows
def none {H : Type} : Left H := { results := [], args := [] }

/-- 'topiarylaw21.DeriveMember': WHATEVER THE INPUT: true; the input reads as it did. -/
def deriveMemberSpec : ChangeSpec := { name := "deriveMember", fn := fun _ => fun
  | [d1, d2] => { results := [.lit (.bool true)], args := [d1, d2] }
  | _ => none }
def deriveMemberRow : OpenClaim := { program := "ytnhghoonlmoinaagreat", sum := "7578cf530f131f38dcb125afa70aaa86671e46dae4afad939c848da7478172aa", func := "topiary/topiarylaw21.DeriveMember", spec := "deriveMember", inPlace := ["internal/bytealg.IndexByteString", "sync/atomic.LoadUint32", "(*internal/sync.Mutex).Lock", "internal/race.Disable", "sync/atomic.CompareAndSwapInt32", "internal/race.Enable", "internal/race.Acquire", "(*internal/sync.Mutex).lockSlow", "internal/sync.runtime_canSpin", "internal/sync.runtime_doSpin", "internal/sync.throw", "internal/sync.runtime_nanotime", "internal/sync.runtime_SemacquireMutex", "sync/atomic.AddInt32", "(*internal/sync.Mutex).Unlock", "internal/race.ReleaseMerge", "(*internal/sync.Mutex).unlockSlow", "internal/sync.fatal", "internal/sync.runtime_Semrelease", "sync/atomic.StoreUint32"], unfollowed := true, recurses := true, apart := false }
def DeriveMemberSaid : Prop := deriveMemberRow.holds Tryz.pinned (OpenSpec.ofChange deriveMemberSpec)

/-- ITS FALSE NEIGHBOUR: 'it returns false'. Refute it at one input. -/
def deriveMemberWrong : ChangeSpec := { name := "deriveMember", fn := fun _ => fun
  | [d1, d2] => { results := [.lit (.bool false)], args := [d1, d2] }
  | _ => none }
def DeriveMemberWrongFalsely : Prop := deriveMemberRow.holds Tryz.pinned (OpenSpec.ofChange deriveMemberWrong)

/-- 'topiarylaw21.DeriveWords': WHATEVER THE INPUT: true; the input reads as it did. -/
def deriveWordsSpec : ChangeSpec := { name := "deriveWords", fn := fun _ => fun
  | [d1, d2] => { results := [.lit (.bool true)], args := [d1, d2] }
  | _ => none }
def deriveWordsRow : OpenClaim := { program := "ytnhghoonlmoinaagreat", sum := "7578cf530f131f38dcb125afa70aaa86671e46dae4afad939c848da7478172aa", func := "topiary/topiarylaw21.DeriveWords", spec := "deriveWords", inPlace := ["internal/bytealg.IndexByteString", "sync/atomic.LoadUint32", "(*internal/sync.Mutex).Lock", "internal/race.Disable", "sync/atomic.CompareAndSwapInt32", "internal/race.Enable", "internal/race.Acquire", "(*internal/sync.Mutex).lockSlow", "internal/sync.runtime_canSpin", "internal/sync.runtime_doSpin", "internal/sync.throw", "internal/sync.runtime_nanotime", "internal/sync.runtime_SemacquireMutex", "sync/atomic.AddInt32", "(*internal/sync.Mutex).Unlock", "internal/race.ReleaseMerge", "(*internal/sync.Mutex).unlockSlow", "internal/sync.fatal", "internal/sync.runtime_Semrelease", "sync/atomic.StoreUint32"], unfollowed := true, recurses := true, apart := false }
def DeriveWordsSaid : Prop := deriveWordsRow.holds Tryz.pinned (OpenSpec.ofChange deriveWordsSpec)

/-- ITS FALSE NEIGHBOUR: 'it returns false'. Refute it at one input. -/
def deriveWordsWrong : ChangeSpec := { name := "deriveWords", fn := fun _ => fun
  | [d1, d2] => { results := [.lit (.bool false)], args := [d1, d2] }
  | _ => none }
def DeriveWordsWrongFalsely : Prop := deriveWordsRow.holds Tryz.pinned (OpenSpec.ofChange deriveWordsWrong)

/-- 'topiarylaw21.DeriveFirst': WHATEVER THE INPUT: true; the input reads as it did. -/
def deriveFirstSpec : ChangeSpec := { name := "deriveFirst", fn := fun _ => fun
  | [d1, d2] => { results := [.lit (.bool true)], args := [d1, d2] }
  | _ => none }
def deriveFirstRow : OpenClaim := { program := "ytnhghoonlmoinaagreat", sum := "7578cf530f131f38dcb125afa70aaa86671e46dae4afad939c848da7478172aa", func := "topiary/topiarylaw21.DeriveFirst", spec := "deriveFirst", inPlace := ["internal/bytealg.IndexByteString", "sync/atomic.LoadUint32", "(*internal/sync.Mutex).Lock", "internal/race.Disable", "sync/atomic.CompareAndSwapInt32", "internal/race.Enable", "internal/race.Acquire", "(*internal/sync.Mutex).lockSlow", "internal/sync.runtime_canSpin", "internal/sync.runtime_doSpin", "internal/sync.throw", "internal/sync.runtime_nanotime", "internal/sync.runtime_SemacquireMutex", "sync/atomic.AddInt32", "(*internal/sync.Mutex).Unlock", "internal/race.ReleaseMerge", "(*internal/sync.Mutex).unlockSlow", "internal/sync.fatal", "internal/sync.runtime_Semrelease", "sync/atomic.StoreUint32"], unfollowed := true, recurses := true, apart := false }
def DeriveFirstSaid : Prop := deriveFirstRow.holds Tryz.pinned (OpenSpec.ofChange deriveFirstSpec)

/-- ITS FALSE NEIGHBOUR: 'it returns false'. Refute it at one input. -/
def deriveFirstWrong : ChangeSpec := { name := "deriveFirst", fn := fun _ => fun
  | [d1, d2] => { results := [.lit (.bool false)], args := [d1, d2] }
  | _ => none }
def DeriveFirstWrongFalsely : Prop := deriveFirstRow.holds Tryz.pinned (OpenSpec.ofChange deriveFirstWrong)

/-- 'topiarylaw16.ItemsClosure': WHATEVER THE INPUT: true; the input reads as it did. -/
def itemsClosureSpec : ChangeSpec := { name := "itemsClosure", fn := fun _ => fun
  | [d1, d2] => { results := [.lit (.bool true)], args := [d1, d2] }
  | _ => none }
def itemsClosureRow : OpenClaim := { program := "ytnhghoonlmoinaagreat", sum := "7578cf530f131f38dcb125afa70aaa86671e46dae4afad939c848da7478172aa", func := "topiary/topiarylaw16.ItemsClosure", spec := "itemsClosure", inPlace := ["internal/bytealg.IndexByteString", "sync/atomic.LoadUint32", "(*internal/sync.Mutex).Lock", "internal/race.Disable", "sync/atomic.CompareAndSwapInt32", "internal/race.Enable", "internal/race.Acquire", "(*internal/sync.Mutex).lockSlow", "internal/sync.runtime_canSpin", "internal/sync.runtime_doSpin", "internal/sync.throw", "internal/sync.runtime_nanotime", "internal/sync.runtime_SemacquireMutex", "sync/atomic.AddInt32", "(*internal/sync.Mutex).Unlock", "internal/race.ReleaseMerge", "(*internal/sync.Mutex).unlockSlow", "internal/sync.fatal", "internal/sync.runtime_Semrelease", "sync/atomic.StoreUint32"], unfollowed := true, recurses := true, apart := false }
def ItemsClosureSaid : Prop := itemsClosureRow.holds Tryz.pinned (OpenSpec.ofChange itemsClosureSpec)

/-- ITS FALSE NEIGHBOUR: 'it returns false'. Refute it at one input. -/
def itemsClosureWrong : ChangeSpec := { name := "itemsClosure", fn := fun _ => fun
  | [d1, d2] => { results := [.lit (.bool false)], args := [d1, d2] }
  | _ => none }
def ItemsClosureWrongFalsely : Prop := itemsClosureRow.holds Tryz.pinned (OpenSpec.ofChange itemsClosureWrong)

/-- 'topiarylaw16.ItemsGoto': WHATEVER THE INPUT: true; the input reads as it did. -/
def itemsGotoSpec : ChangeSpec := { name := "itemsGoto", fn := fun _ => fun
  | [d1, d2, d3] => { results := [.lit (.bool true)], args := [d1, d2, d3] }
  | _ => none }
def itemsGotoRow : OpenClaim := { program := "ytnhghoonlmoinaagreat", sum := "7578cf530f131f38dcb125afa70aaa86671e46dae4afad939c848da7478172aa", func := "topiary/topiarylaw16.ItemsGoto", spec := "itemsGoto", inPlace := ["internal/bytealg.IndexByteString", "sync/atomic.LoadUint32", "(*internal/sync.Mutex).Lock", "internal/race.Disable", "sync/atomic.CompareAndSwapInt32", "internal/race.Enable", "internal/race.Acquire", "(*internal/sync.Mutex).lockSlow", "internal/sync.runtime_canSpin", "internal/sync.runtime_doSpin", "internal/sync.throw", "internal/sync.runtime_nanotime", "internal/sync.runtime_SemacquireMutex", "sync/atomic.AddInt32", "(*internal/sync.Mutex).Unlock", "internal/race.ReleaseMerge", "(*internal/sync.Mutex).unlockSlow", "internal/sync.fatal", "internal/sync.runtime_Semrelease", "sync/atomic.StoreUint32"], unfollowed := true, recurses := true, apart := false }
def ItemsGotoSaid : Prop := itemsGotoRow.holds Tryz.pinned (OpenSpec.ofChange itemsGotoSpec)

/-- ITS FALSE NEIGHBOUR: 'it returns false'. Refute it at one input. -/
def itemsGotoWrong : ChangeSpec := { name := "itemsGoto", fn := fun _ => fun
  | [d1, d2, d3] => { results := [.lit (.bool false)], args := [d1, d2, d3] }
  | _ => none }
def ItemsGotoWrongFalsely : Prop := itemsGotoRow.holds Tryz.pinned (OpenSpec.ofChange itemsGotoWrong)

/-- 'topiarylaw16.ItemsUnion': WHATEVER THE INPUT: true; the input reads as it did. -/
def itemsUnionSpec : ChangeSpec := { name := "itemsUnion", fn := fun _ => fun
  | [d1, d2, d3] => { results := [.lit (.bool true)], args := [d1, d2, d3] }
  | _ => none }
def itemsUnionRow : OpenClaim := { program := "ytnhghoonlmoinaagreat", sum := "7578cf530f131f38dcb125afa70aaa86671e46dae4afad939c848da7478172aa", func := "topiary/topiarylaw16.ItemsUnion", spec := "itemsUnion", inPlace := ["internal/bytealg.IndexByteString", "sync/atomic.LoadUint32", "(*internal/sync.Mutex).Lock", "internal/race.Disable", "sync/atomic.CompareAndSwapInt32", "internal/race.Enable", "internal/race.Acquire", "(*internal/sync.Mutex).lockSlow", "internal/sync.runtime_canSpin", "internal/sync.runtime_doSpin", "internal/sync.throw", "internal/sync.runtime_nanotime", "internal/sync.runtime_SemacquireMutex", "sync/atomic.AddInt32", "(*internal/sync.Mutex).Unlock", "internal/race.ReleaseMerge", "(*internal/sync.Mutex).unlockSlow", "internal/sync.fatal", "internal/sync.runtime_Semrelease", "sync/atomic.StoreUint32"], unfollowed := true, recurses := true, apart := false }
def ItemsUnionSaid : Prop := itemsUnionRow.holds Tryz.pinned (OpenSpec.ofChange itemsUnionSpec)

/-- ITS FALSE NEIGHBOUR: 'it returns false'. Refute it at one input. -/
def itemsUnionWrong : ChangeSpec := { name := "itemsUnion", fn := fun _ => fun
  | [d1, d2, d3] => { results := [.lit (.bool false)], args := [d1, d2, d3] }
  | _ => none }
def ItemsUnionWrongFalsely : Prop := itemsUnionRow.holds Tryz.pinned (OpenSpec.ofChange itemsUnionWrong)

/-- 'topiarylaw16.ItemsMore': WHATEVER THE INPUT: true; the input reads as it did. -/
def itemsMoreSpec : ChangeSpec := { name := "itemsMore", fn := fun _ => fun
  | [d1, d2, d3] => { results := [.lit (.bool true)], args := [d1, d2, d3] }
  | _ => none }
def itemsMoreRow : OpenClaim := { program := "ytnhghoonlmoinaagreat", sum := "7578cf530f131f38dcb125afa70aaa86671e46dae4afad939c848da7478172aa", func := "topiary/topiarylaw16.ItemsMore", spec := "itemsMore", inPlace := ["internal/bytealg.IndexByteString", "sync/atomic.LoadUint32", "(*internal/sync.Mutex).Lock", "internal/race.Disable", "sync/atomic.CompareAndSwapInt32", "internal/race.Enable", "internal/race.Acquire", "(*internal/sync.Mutex).lockSlow", "internal/sync.runtime_canSpin", "internal/sync.runtime_doSpin", "internal/sync.throw", "internal/sync.runtime_nanotime", "internal/sync.runtime_SemacquireMutex", "sync/atomic.AddInt32", "(*internal/sync.Mutex).Unlock", "internal/race.ReleaseMerge", "(*internal/sync.Mutex).unlockSlow", "internal/sync.fatal", "internal/sync.runtime_Semrelease", "sync/atomic.StoreUint32"], unfollowed := true, recurses := true, apart := false }
def ItemsMoreSaid : Prop := itemsMoreRow.holds Tryz.pinned (OpenSpec.ofChange itemsMoreSpec)

/-- ITS FALSE NEIGHBOUR: 'it returns false'. Refute it at one input. -/
def itemsMoreWrong : ChangeSpec := { name := "itemsMore", fn := fun _ => fun
  | [d1, d2, d3] => { results := [.lit (.bool false)], args := [d1, d2, d3] }
  | _ => none }
def ItemsMoreWrongFalsely : Prop := itemsMoreRow.holds Tryz.pinned (OpenSpec.ofChange itemsMoreWrong)

/-- 'topiarylaw21.DeriveShortest': WHATEVER THE INPUT: true; the input reads as it did. -/
def deriveShortestSpec : ChangeSpec := { name := "deriveShortest", fn := fun _ => fun
  | [d] => { results := [.lit (.bool true)], args := [d] }
  | _ => none }
def deriveShortestRow : OpenClaim := { program := "ytnhghoonlmoinaagreat", sum := "7578cf530f131f38dcb125afa70aaa86671e46dae4afad939c848da7478172aa", func := "topiary/topiarylaw21.DeriveShortest", spec := "deriveShortest", inPlace := ["internal/bytealg.IndexByteString", "sync/atomic.LoadUint32", "(*internal/sync.Mutex).Lock", "internal/race.Disable", "sync/atomic.CompareAndSwapInt32", "internal/race.Enable", "internal/race.Acquire", "(*internal/sync.Mutex).lockSlow", "internal/sync.runtime_canSpin", "internal/sync.runtime_doSpin", "internal/sync.throw", "internal/sync.runtime_nanotime", "internal/sync.runtime_SemacquireMutex", "sync/atomic.AddInt32", "(*internal/sync.Mutex).Unlock", "internal/race.ReleaseMerge", "(*internal/sync.Mutex).unlockSlow", "internal/sync.fatal", "internal/sync.runtime_Semrelease", "sync/atomic.StoreUint32"], unfollowed := true, recurses := true, apart := false }
def DeriveShortestSaid : Prop := deriveShortestRow.holds Tryz.pinned (OpenSpec.ofChange deriveShortestSpec)

/-- ITS FALSE NEIGHBOUR: 'it returns false'. Refute it at one input. -/
def deriveShortestWrong : ChangeSpec := { name := "deriveShortest", fn := fun _ => fun
  | [d] => { results := [.lit (.bool false)], args := [d] }
  | _ => none }
def DeriveShortestWrongFalsely : Prop := deriveShortestRow.holds Tryz.pinned (OpenSpec.ofChange deriveShortestWrong)

/- THE SECOND FORM. 'bulk': how many values and letters a reading holds, each counted each time it is reached (what is shared counts as often as it is met; a slice's spare places count too). A statement '..UptoSaid' is the law's where the arguments, and the package variables that the reading takes, are together of bulk at most 1048576: NARROWER than '..Said'. Prove '..Said' where nothing that the law and all that it calls make is longer than what came in: it says more and counts as full. Else prove '..UptoSaid'. A law counts once. -/
mutual
def uptoBulk {H : Type} : DataW H → Nat
  | .lit (.string bytes) => bytes.length + 1
  | .lit _ => 1
  | .nil => 1
  | .ptr d => uptoBulk d + 1
  | .slice elems spare => uptoBulkAll elems + uptoBulkAll spare + 1
  | .agg parts => uptoBulkAll parts + 1
  | .iface _ d => uptoBulk d + 1
  | .map entries => uptoBulkEntries entries + 1
  | .held _ => 1
def uptoBulkAll {H : Type} : List (DataW H) → Nat
  | [] => 0
  | d :: r => uptoBulk d + uptoBulkAll r
def uptoBulkEntries {H : Type} : List (Lit × DataW H) → Nat
  | [] => 0
  | x :: r => uptoBulkEntry x + uptoBulkEntries r
def uptoBulkEntry {H : Type} : Lit × DataW H → Nat
  | (.string bytes, d) => bytes.length + uptoBulk d + 1
  | (_, d) => uptoBulk d + 1
 end
def uptoSmall : (H : Type) → List (DataW H) → Bool := fun _ ds => decide (uptoBulkAll ds ≤ 1048576)
def OpenSpec.upto (s : _root_.Go.ChangeSpec) : _root_.Go.OpenSpec := { _root_.Go.OpenSpec.ofChange s with cond := some uptoSmall }

/-- 'topiarylaw21.DeriveMember', WHERE WHAT IT READS IS OF BULK AT MOST 1048576: true; the input reads as it did. -/
def deriveMemberUptoRow : OpenClaim := { program := "ytnhghoonlmoinaagreat", sum := "7578cf530f131f38dcb125afa70aaa86671e46dae4afad939c848da7478172aa", func := "topiary/topiarylaw21.DeriveMember", spec := "deriveMember", inPlace := ["internal/bytealg.IndexByteString", "sync/atomic.LoadUint32", "(*internal/sync.Mutex).Lock", "internal/race.Disable", "sync/atomic.CompareAndSwapInt32", "internal/race.Enable", "internal/race.Acquire", "(*internal/sync.Mutex).lockSlow", "internal/sync.runtime_canSpin", "internal/sync.runtime_doSpin", "internal/sync.throw", "internal/sync.runtime_nanotime", "internal/sync.runtime_SemacquireMutex", "sync/atomic.AddInt32", "(*internal/sync.Mutex).Unlock", "internal/race.ReleaseMerge", "(*internal/sync.Mutex).unlockSlow", "internal/sync.fatal", "internal/sync.runtime_Semrelease", "sync/atomic.StoreUint32"], unfollowed := true, recurses := true, apart := false, narrowed := true }
def DeriveMemberUptoSaid : Prop := deriveMemberUptoRow.holds Tryz.pinned (OpenSpec.upto deriveMemberSpec)

/-- 'topiarylaw21.DeriveWords', WHERE WHAT IT READS IS OF BULK AT MOST 1048576: true; the input reads as it did. -/
def deriveWordsUptoRow : OpenClaim := { program := "ytnhghoonlmoinaagreat", sum := "7578cf530f131f38dcb125afa70aaa86671e46dae4afad939c848da7478172aa", func := "topiary/topiarylaw21.DeriveWords", spec := "deriveWords", inPlace := ["internal/bytealg.IndexByteString", "sync/atomic.LoadUint32", "(*internal/sync.Mutex).Lock", "internal/race.Disable", "sync/atomic.CompareAndSwapInt32", "internal/race.Enable", "internal/race.Acquire", "(*internal/sync.Mutex).lockSlow", "internal/sync.runtime_canSpin", "internal/sync.runtime_doSpin", "internal/sync.throw", "internal/sync.runtime_nanotime", "internal/sync.runtime_SemacquireMutex", "sync/atomic.AddInt32", "(*internal/sync.Mutex).Unlock", "internal/race.ReleaseMerge", "(*internal/sync.Mutex).unlockSlow", "internal/sync.fatal", "internal/sync.runtime_Semrelease", "sync/atomic.StoreUint32"], unfollowed := true, recurses := true, apart := false, narrowed := true }
def DeriveWordsUptoSaid : Prop := deriveWordsUptoRow.holds Tryz.pinned (OpenSpec.upto deriveWordsSpec)

/-- 'topiarylaw21.DeriveFirst', WHERE WHAT IT READS IS OF BULK AT MOST 1048576: true; the input reads as it did. -/
def deriveFirstUptoRow : OpenClaim := { program := "ytnhghoonlmoinaagreat", sum := "7578cf530f131f38dcb125afa70aaa86671e46dae4afad939c848da7478172aa", func := "topiary/topiarylaw21.DeriveFirst", spec := "deriveFirst", inPlace := ["internal/bytealg.IndexByteString", "sync/atomic.LoadUint32", "(*internal/sync.Mutex).Lock", "internal/race.Disable", "sync/atomic.CompareAndSwapInt32", "internal/race.Enable", "internal/race.Acquire", "(*internal/sync.Mutex).lockSlow", "internal/sync.runtime_canSpin", "internal/sync.runtime_doSpin", "internal/sync.throw", "internal/sync.runtime_nanotime", "internal/sync.runtime_SemacquireMutex", "sync/atomic.AddInt32", "(*internal/sync.Mutex).Unlock", "internal/race.ReleaseMerge", "(*internal/sync.Mutex).unlockSlow", "internal/sync.fatal", "internal/sync.runtime_Semrelease", "sync/atomic.StoreUint32"], unfollowed := true, recurses := true, apart := false, narrowed := true }
def DeriveFirstUptoSaid : Prop := deriveFirstUptoRow.holds Tryz.pinned (OpenSpec.upto deriveFirstSpec)

/-- 'topiarylaw16.ItemsClosure', WHERE WHAT IT READS IS OF BULK AT MOST 1048576: true; the input reads as it did. -/
def itemsClosureUptoRow : OpenClaim := { program := "ytnhghoonlmoinaagreat", sum := "7578cf530f131f38dcb125afa70aaa86671e46dae4afad939c848da7478172aa", func := "topiary/topiarylaw16.ItemsClosure", spec := "itemsClosure", inPlace := ["internal/bytealg.IndexByteString", "sync/atomic.LoadUint32", "(*internal/sync.Mutex).Lock", "internal/race.Disable", "sync/atomic.CompareAndSwapInt32", "internal/race.Enable", "internal/race.Acquire", "(*internal/sync.Mutex).lockSlow", "internal/sync.runtime_canSpin", "internal/sync.runtime_doSpin", "internal/sync.throw", "internal/sync.runtime_nanotime", "internal/sync.runtime_SemacquireMutex", "sync/atomic.AddInt32", "(*internal/sync.Mutex).Unlock", "internal/race.ReleaseMerge", "(*internal/sync.Mutex).unlockSlow", "internal/sync.fatal", "internal/sync.runtime_Semrelease", "sync/atomic.StoreUint32"], unfollowed := true, recurses := true, apart := false, narrowed := true }
def ItemsClosureUptoSaid : Prop := itemsClosureUptoRow.holds Tryz.pinned (OpenSpec.upto itemsClosureSpec)

/-- 'topiarylaw16.ItemsGoto', WHERE WHAT IT READS IS OF BULK AT MOST 1048576: true; the input reads as it did. -/
def itemsGotoUptoRow : OpenClaim := { program := "ytnhghoonlmoinaagreat", sum := "7578cf530f131f38dcb125afa70aaa86671e46dae4afad939c848da7478172aa", func := "topiary/topiarylaw16.ItemsGoto", spec := "itemsGoto", inPlace := ["internal/bytealg.IndexByteString", "sync/atomic.LoadUint32", "(*internal/sync.Mutex).Lock", "internal/race.Disable", "sync/atomic.CompareAndSwapInt32", "internal/race.Enable", "internal/race.Acquire", "(*internal/sync.Mutex).lockSlow", "internal/sync.runtime_canSpin", "internal/sync.runtime_doSpin", "internal/sync.throw", "internal/sync.runtime_nanotime", "internal/sync.runtime_SemacquireMutex", "sync/atomic.AddInt32", "(*internal/sync.Mutex).Unlock", "internal/race.ReleaseMerge", "(*internal/sync.Mutex).unlockSlow", "internal/sync.fatal", "internal/sync.runtime_Semrelease", "sync/atomic.StoreUint32"], unfollowed := true, recurses := true, apart := false, narrowed := true }
def ItemsGotoUptoSaid : Prop := itemsGotoUptoRow.holds Tryz.pinned (OpenSpec.upto itemsGotoSpec)

/-- 'topiarylaw16.ItemsUnion', WHERE WHAT IT READS IS OF BULK AT MOST 1048576: true; the input reads as it did. -/
def itemsUnionUptoRow : OpenClaim := { program := "ytnhghoonlmoinaagreat", sum := "7578cf530f131f38dcb125afa70aaa86671e46dae4afad939c848da7478172aa", func := "topiary/topiarylaw16.ItemsUnion", spec := "itemsUnion", inPlace := ["internal/bytealg.IndexByteString", "sync/atomic.LoadUint32", "(*internal/sync.Mutex).Lock", "internal/race.Disable", "sync/atomic.CompareAndSwapInt32", "internal/race.Enable", "internal/race.Acquire", "(*internal/sync.Mutex).lockSlow", "internal/sync.runtime_canSpin", "internal/sync.runtime_doSpin", "internal/sync.throw", "internal/sync.runtime_nanotime", "internal/sync.runtime_SemacquireMutex", "sync/atomic.AddInt32", "(*internal/sync.Mutex).Unlock", "internal/race.ReleaseMerge", "(*internal/sync.Mutex).unlockSlow", "internal/sync.fatal", "internal/sync.runtime_Semrelease", "sync/atomic.StoreUint32"], unfollowed := true, recurses := true, apart := false, narrowed := true }
def ItemsUnionUptoSaid : Prop := itemsUnionUptoRow.holds Tryz.pinned (OpenSpec.upto itemsUnionSpec)

/-- 'topiarylaw16.ItemsMore', WHERE WHAT IT READS IS OF BULK AT MOST 1048576: true; the input reads as it did. -/
def itemsMoreUptoRow : OpenClaim := { program := "ytnhghoonlmoinaagreat", sum := "7578cf530f131f38dcb125afa70aaa86671e46dae4afad939c848da7478172aa", func := "topiary/topiarylaw16.ItemsMore", spec := "itemsMore", inPlace := ["internal/bytealg.IndexByteString", "sync/atomic.LoadUint32", "(*internal/sync.Mutex).Lock", "internal/race.Disable", "sync/atomic.CompareAndSwapInt32", "internal/race.Enable", "internal/race.Acquire", "(*internal/sync.Mutex).lockSlow", "internal/sync.runtime_canSpin", "internal/sync.runtime_doSpin", "internal/sync.throw", "internal/sync.runtime_nanotime", "internal/sync.runtime_SemacquireMutex", "sync/atomic.AddInt32", "(*internal/sync.Mutex).Unlock", "internal/race.ReleaseMerge", "(*internal/sync.Mutex).unlockSlow", "internal/sync.fatal", "internal/sync.runtime_Semrelease", "sync/atomic.StoreUint32"], unfollowed := true, recurses := true, apart := false, narrowed := true }
def ItemsMoreUptoSaid : Prop := itemsMoreUptoRow.holds Tryz.pinned (OpenSpec.upto itemsMoreSpec)

/-- 'topiarylaw21.DeriveShortest', WHERE WHAT IT READS IS OF BULK AT MOST 1048576: true; the input reads as it did. -/
def deriveShortestUptoRow : OpenClaim := { program := "ytnhghoonlmoinaagreat", sum := "7578cf530f131f38dcb125afa70aaa86671e46dae4afad939c848da7478172aa", func := "topiary/topiarylaw21.DeriveShortest", spec := "deriveShortest", inPlace := ["internal/bytealg.IndexByteString", "sync/atomic.LoadUint32", "(*internal/sync.Mutex).Lock", "internal/race.Disable", "sync/atomic.CompareAndSwapInt32", "internal/race.Enable", "internal/race.Acquire", "(*internal/sync.Mutex).lockSlow", "internal/sync.runtime_canSpin", "internal/sync.runtime_doSpin", "internal/sync.throw", "internal/sync.runtime_nanotime", "internal/sync.runtime_SemacquireMutex", "sync/atomic.AddInt32", "(*internal/sync.Mutex).Unlock", "internal/race.ReleaseMerge", "(*internal/sync.Mutex).unlockSlow", "internal/sync.fatal", "internal/sync.runtime_Semrelease", "sync/atomic.StoreUint32"], unfollowed := true, recurses := true, apart := false, narrowed := true }
def DeriveShortestUptoSaid : Prop := deriveShortestUptoRow.holds Tryz.pinned (OpenSpec.upto deriveShortestSpec)

end Rows
end Go.Proofs.YtnhghoonlmoinaaGreat
