/-
  No cell of these rows narrows 'for every input' (looked for: loops, veiled, ifaces, maps, wideKeys, modest, calm, conditions, laid).
  DERIVED. THE GIVEN ROWS OF THIS SEAT. 7 by the template 'for every input the law returns true; each argument reads behind the call as it read before'; 0 by the template 'total and deterministic' (their statements: YtlfocagdjjgmmaaGreatTotals.lean).
  GIVEN WITH THE SEED: the statements are not yours to turn. If you find one false, say at which input.
  Laid BY PROGRAM, IN A SANDBOX (cutbox-rows.mjs): the forced cells as the released guide's own fill.sh prints them over the translation 7d4473cc3dec2443… (all of the seat's roots in one cut). By AI agents, Wed Nov 11 2026. No macro, syntax, notation, axiom, sorry.
-/
import Derived.Test.YtlfocagdjjgmmaaGreatChecked
import GoSem.Claim
import GoSem.ClaimJoined
import GoSem.ClaimMapViews
import Derived.JoinedTies
import Derived.KernelRfl
namespace Go.Proofs.YtlfocagdjjgmmaaGreat
/- THE CELL 'sum', in the pinned program and in every row, IS THE sha256 OF THE DUMP (.gsa) THAT YtlfocagdjjgmmaaGreatProg.lean LOADS. Nothing in Lean hashes anything: it is a label: what it is worth is what the hold of that sum in a sandbox is worth. -/
noncomputable def Tryz.pinned : Pinned := { name := "ytlfocagdjjgmmaagreat", sum := "7d4473cc3dec2443e314aee6c45b88c9ba6fca3b99188d26702f6cf718f641aa", checked := Tryz.checked }
namespace Rows
def none {H : Type} : Left H := { results := [], args := [] }

/-- 'topiarylaw21.DeriveReplay': WHATEVER THE INPUT: true; the input reads as it did. -/
def deriveReplaySpec : ChangeSpec := { name := "deriveReplay", fn := fun _ => fun
  | [d1, d2] => { results := [.lit (.bool true)], args := [d1, d2] }
  | _ => none }
def deriveReplayRow : OpenClaim := { program := "ytlfocagdjjgmmaagreat", sum := "7d4473cc3dec2443e314aee6c45b88c9ba6fca3b99188d26702f6cf718f641aa", func := "topiary/topiarylaw21.DeriveReplay", spec := "deriveReplay", inPlace := ["internal/bytealg.IndexByteString", "sync/atomic.LoadUint32", "(*internal/sync.Mutex).Lock", "internal/race.Disable", "sync/atomic.CompareAndSwapInt32", "internal/race.Enable", "internal/race.Acquire", "(*internal/sync.Mutex).lockSlow", "internal/sync.runtime_canSpin", "internal/sync.runtime_doSpin", "internal/sync.throw", "internal/sync.runtime_nanotime", "internal/sync.runtime_SemacquireMutex", "sync/atomic.AddInt32", "(*internal/sync.Mutex).Unlock", "internal/race.ReleaseMerge", "(*internal/sync.Mutex).unlockSlow", "internal/sync.fatal", "internal/sync.runtime_Semrelease", "sync/atomic.StoreUint32"], unfollowed := true, recurses := true, apart := false }
def DeriveReplaySaid : Prop := deriveReplayRow.holds Tryz.pinned (OpenSpec.ofChange deriveReplaySpec)

/-- ITS FALSE NEIGHBOUR: 'it returns false'. Refute it at one input. -/
def deriveReplayWrong : ChangeSpec := { name := "deriveReplay", fn := fun _ => fun
  | [d1, d2] => { results := [.lit (.bool false)], args := [d1, d2] }
  | _ => none }
def DeriveReplayWrongFalsely : Prop := deriveReplayRow.holds Tryz.pinned (OpenSpec.ofChange deriveReplayWrong)

/-- 'topiarylaw16.ItemsRight': WHATEVER THE INPUT: true; the input reads as it did. -/
def itemsRightSpec : ChangeSpec := { name := "itemsRight", fn := fun _ => fun
  | [d1, d2] => { results := [.lit (.bool true)], args := [d1, d2] }
  | _ => none }
def itemsRightRow : OpenClaim := { program := "ytlfocagdjjgmmaagreat", sum := "7d4473cc3dec2443e314aee6c45b88c9ba6fca3b99188d26702f6cf718f641aa", func := "topiary/topiarylaw16.ItemsRight", spec := "itemsRight", inPlace := ["internal/bytealg.IndexByteString", "sync/atomic.LoadUint32", "(*internal/sync.Mutex).Lock", "internal/race.Disable", "sync/atomic.CompareAndSwapInt32", "internal/race.Enable", "internal/race.Acquire", "(*internal/sync.Mutex).lockSlow", "internal/sync.runtime_canSpin", "internal/sync.runtime_doSpin", "internal/sync.throw", "internal/sync.runtime_nanotime", "internal/sync.runtime_SemacquireMutex", "sync/atomic.AddInt32", "(*internal/sync.Mutex).Unlock", "internal/race.ReleaseMerge", "(*internal/sync.Mutex).unlockSlow", "internal/sync.fatal", "internal/sync.runtime_Semrelease", "sync/atomic.StoreUint32"], unfollowed := true, recurses := true, apart := false }
def ItemsRightSaid : Prop := itemsRightRow.holds Tryz.pinned (OpenSpec.ofChange itemsRightSpec)

/-- ITS FALSE NEIGHBOUR: 'it returns false'. Refute it at one input. -/
def itemsRightWrong : ChangeSpec := { name := "itemsRight", fn := fun _ => fun
  | [d1, d2] => { results := [.lit (.bool false)], args := [d1, d2] }
  | _ => none }
def ItemsRightWrongFalsely : Prop := itemsRightRow.holds Tryz.pinned (OpenSpec.ofChange itemsRightWrong)

/-- 'topiarylaw15.FirstVanish': WHATEVER THE INPUT: true; the input reads as it did. -/
def firstVanishSpec : ChangeSpec := { name := "firstVanish", fn := fun _ => fun
  | [d] => { results := [.lit (.bool true)], args := [d] }
  | _ => none }
def firstVanishRow : OpenClaim := { program := "ytlfocagdjjgmmaagreat", sum := "7d4473cc3dec2443e314aee6c45b88c9ba6fca3b99188d26702f6cf718f641aa", func := "topiary/topiarylaw15.FirstVanish", spec := "firstVanish", inPlace := ["internal/bytealg.IndexByteString", "sync/atomic.LoadUint32", "(*internal/sync.Mutex).Lock", "internal/race.Disable", "sync/atomic.CompareAndSwapInt32", "internal/race.Enable", "internal/race.Acquire", "(*internal/sync.Mutex).lockSlow", "internal/sync.runtime_canSpin", "internal/sync.runtime_doSpin", "internal/sync.throw", "internal/sync.runtime_nanotime", "internal/sync.runtime_SemacquireMutex", "sync/atomic.AddInt32", "(*internal/sync.Mutex).Unlock", "internal/race.ReleaseMerge", "(*internal/sync.Mutex).unlockSlow", "internal/sync.fatal", "internal/sync.runtime_Semrelease", "sync/atomic.StoreUint32"], unfollowed := true, recurses := true, apart := false }
def FirstVanishSaid : Prop := firstVanishRow.holds Tryz.pinned (OpenSpec.ofChange firstVanishSpec)

/-- ITS FALSE NEIGHBOUR: 'it returns false'. Refute it at one input. -/
def firstVanishWrong : ChangeSpec := { name := "firstVanish", fn := fun _ => fun
  | [d] => { results := [.lit (.bool false)], args := [d] }
  | _ => none }
def FirstVanishWrongFalsely : Prop := firstVanishRow.holds Tryz.pinned (OpenSpec.ofChange firstVanishWrong)

/-- 'topiarylaw15.FirstOf': WHATEVER THE INPUT: true; the input reads as it did. -/
def firstOfSpec : ChangeSpec := { name := "firstOf", fn := fun _ => fun
  | [d1, d2] => { results := [.lit (.bool true)], args := [d1, d2] }
  | _ => none }
def firstOfRow : OpenClaim := { program := "ytlfocagdjjgmmaagreat", sum := "7d4473cc3dec2443e314aee6c45b88c9ba6fca3b99188d26702f6cf718f641aa", func := "topiary/topiarylaw15.FirstOf", spec := "firstOf", inPlace := ["internal/bytealg.IndexByteString", "sync/atomic.LoadUint32", "(*internal/sync.Mutex).Lock", "internal/race.Disable", "sync/atomic.CompareAndSwapInt32", "internal/race.Enable", "internal/race.Acquire", "(*internal/sync.Mutex).lockSlow", "internal/sync.runtime_canSpin", "internal/sync.runtime_doSpin", "internal/sync.throw", "internal/sync.runtime_nanotime", "internal/sync.runtime_SemacquireMutex", "sync/atomic.AddInt32", "(*internal/sync.Mutex).Unlock", "internal/race.ReleaseMerge", "(*internal/sync.Mutex).unlockSlow", "internal/sync.fatal", "internal/sync.runtime_Semrelease", "sync/atomic.StoreUint32"], unfollowed := true, recurses := true, apart := false }
def FirstOfSaid : Prop := firstOfRow.holds Tryz.pinned (OpenSpec.ofChange firstOfSpec)

/-- ITS FALSE NEIGHBOUR: 'it returns false'. Refute it at one input. -/
def firstOfWrong : ChangeSpec := { name := "firstOf", fn := fun _ => fun
  | [d1, d2] => { results := [.lit (.bool false)], args := [d1, d2] }
  | _ => none }
def FirstOfWrongFalsely : Prop := firstOfRow.holds Tryz.pinned (OpenSpec.ofChange firstOfWrong)

/-- 'topiarylaw15.FirstBehind': WHATEVER THE INPUT: true; the input reads as it did. -/
def firstBehindSpec : ChangeSpec := { name := "firstBehind", fn := fun _ => fun
  | [d] => { results := [.lit (.bool true)], args := [d] }
  | _ => none }
def firstBehindRow : OpenClaim := { program := "ytlfocagdjjgmmaagreat", sum := "7d4473cc3dec2443e314aee6c45b88c9ba6fca3b99188d26702f6cf718f641aa", func := "topiary/topiarylaw15.FirstBehind", spec := "firstBehind", inPlace := ["internal/bytealg.IndexByteString", "sync/atomic.LoadUint32", "(*internal/sync.Mutex).Lock", "internal/race.Disable", "sync/atomic.CompareAndSwapInt32", "internal/race.Enable", "internal/race.Acquire", "(*internal/sync.Mutex).lockSlow", "internal/sync.runtime_canSpin", "internal/sync.runtime_doSpin", "internal/sync.throw", "internal/sync.runtime_nanotime", "internal/sync.runtime_SemacquireMutex", "sync/atomic.AddInt32", "(*internal/sync.Mutex).Unlock", "internal/race.ReleaseMerge", "(*internal/sync.Mutex).unlockSlow", "internal/sync.fatal", "internal/sync.runtime_Semrelease", "sync/atomic.StoreUint32"], unfollowed := true, recurses := true, apart := false }
def FirstBehindSaid : Prop := firstBehindRow.holds Tryz.pinned (OpenSpec.ofChange firstBehindSpec)

/-- ITS FALSE NEIGHBOUR: 'it returns false'. Refute it at one input. -/
def firstBehindWrong : ChangeSpec := { name := "firstBehind", fn := fun _ => fun
  | [d] => { results := [.lit (.bool false)], args := [d] }
  | _ => none }
def FirstBehindWrongFalsely : Prop := firstBehindRow.holds Tryz.pinned (OpenSpec.ofChange firstBehindWrong)

/-- 'topiarylaw15.FirstJoins': WHATEVER THE INPUT: true; the input reads as it did. -/
def firstJoinsSpec : ChangeSpec := { name := "firstJoins", fn := fun _ => fun
  | [d1, d2, d3] => { results := [.lit (.bool true)], args := [d1, d2, d3] }
  | _ => none }
def firstJoinsRow : OpenClaim := { program := "ytlfocagdjjgmmaagreat", sum := "7d4473cc3dec2443e314aee6c45b88c9ba6fca3b99188d26702f6cf718f641aa", func := "topiary/topiarylaw15.FirstJoins", spec := "firstJoins", inPlace := ["internal/bytealg.IndexByteString", "sync/atomic.LoadUint32", "(*internal/sync.Mutex).Lock", "internal/race.Disable", "sync/atomic.CompareAndSwapInt32", "internal/race.Enable", "internal/race.Acquire", "(*internal/sync.Mutex).lockSlow", "internal/sync.runtime_canSpin", "internal/sync.runtime_doSpin", "internal/sync.throw", "internal/sync.runtime_nanotime", "internal/sync.runtime_SemacquireMutex", "sync/atomic.AddInt32", "(*internal/sync.Mutex).Unlock", "internal/race.ReleaseMerge", "(*internal/sync.Mutex).unlockSlow", "internal/sync.fatal", "internal/sync.runtime_Semrelease", "sync/atomic.StoreUint32"], unfollowed := true, recurses := true, apart := false }
def FirstJoinsSaid : Prop := firstJoinsRow.holds Tryz.pinned (OpenSpec.ofChange firstJoinsSpec)

/-- ITS FALSE NEIGHBOUR: 'it returns false'. Refute it at one input. -/
def firstJoinsWrong : ChangeSpec := { name := "firstJoins", fn := fun _ => fun
  | [d1, d2, d3] => { results := [.lit (.bool false)], args := [d1, d2, d3] }
  | _ => none }
def FirstJoinsWrongFalsely : Prop := firstJoinsRow.holds Tryz.pinned (OpenSpec.ofChange firstJoinsWrong)

/-- 'topiarylaw15.FirstProds': WHATEVER THE INPUT: true; the input reads as it did. -/
def firstProdsSpec : ChangeSpec := { name := "firstProds", fn := fun _ => fun
  | [d] => { results := [.lit (.bool true)], args := [d] }
  | _ => none }
def firstProdsRow : OpenClaim := { program := "ytlfocagdjjgmmaagreat", sum := "7d4473cc3dec2443e314aee6c45b88c9ba6fca3b99188d26702f6cf718f641aa", func := "topiary/topiarylaw15.FirstProds", spec := "firstProds", inPlace := ["internal/bytealg.IndexByteString", "sync/atomic.LoadUint32", "(*internal/sync.Mutex).Lock", "internal/race.Disable", "sync/atomic.CompareAndSwapInt32", "internal/race.Enable", "internal/race.Acquire", "(*internal/sync.Mutex).lockSlow", "internal/sync.runtime_canSpin", "internal/sync.runtime_doSpin", "internal/sync.throw", "internal/sync.runtime_nanotime", "internal/sync.runtime_SemacquireMutex", "sync/atomic.AddInt32", "(*internal/sync.Mutex).Unlock", "internal/race.ReleaseMerge", "(*internal/sync.Mutex).unlockSlow", "internal/sync.fatal", "internal/sync.runtime_Semrelease", "sync/atomic.StoreUint32"], unfollowed := true, recurses := true, apart := false }
def FirstProdsSaid : Prop := firstProdsRow.holds Tryz.pinned (OpenSpec.ofChange firstProdsSpec)

/-- ITS FALSE NEIGHBOUR: 'it returns false'. Refute it at one input. -/
def firstProdsWrong : ChangeSpec := { name := "firstProds", fn := fun _ => fun
  | [d] => { results := [.lit (.bool false)], args := [d] }
  | _ => none }
def FirstProdsWrongFalsely : Prop := firstProdsRow.holds Tryz.pinned (OpenSpec.ofChange firstProdsWrong)

/- THE SECOND FORM. 'bulk': how many values and letters a reading holds, each counted each time it is reached (what is shared counts as often as it is met; a slice's spare places count too). A statement '..UptoSaid' is the law's where the arguments, and the package variables that the reading takes, are together of bulk at most 1048576: NARROWER than '..Said'. Prove '..Said' where nothing that the law and all that it calls make is longer than what came in: it says more and counts as full. Else prove '..UptoSaid'. A law counts once. -/
mutual
def uptoBulk {H : Type} : DataW H → Nat
  | .lit (.string bytes) => bytes.length + 1
  | .lit _ => 1
  | .nil => 1
  | .ptr d => uptoBulk d + 1
  | .slice elems spare => uptoBulkAll elems + uptoBulkAll spare + 1
  | .agg parts => uptoBulkAll parts + 1
  | .iface _ d => uptoBulk d + 1
  | .map entries => uptoBulkEntries entries + 1
  | .held _ => 1
def uptoBulkAll {H : Type} : List (DataW H) → Nat
  | [] => 0
  | d :: r => uptoBulk d + uptoBulkAll r
def uptoBulkEntries {H : Type} : List (Lit × DataW H) → Nat
  | [] => 0
  | x :: r => uptoBulkEntry x + uptoBulkEntries r
def uptoBulkEntry {H : Type} : Lit × DataW H → Nat
  | (.string bytes, d) => bytes.length + uptoBulk d + 1
  | (_, d) => uptoBulk d + 1
 end
def uptoSmall : (H : Type) → List (DataW H) → Bool := fun _ ds => decide (uptoBulkAll ds ≤ 1048576)
def OpenSpec.upto (s : _root_.Go.ChangeSpec) : _root_.Go.OpenSpec := { _root_.Go.OpenSpec.ofChange s with cond := some uptoSmall }

/-- 'topiarylaw21.DeriveReplay', WHERE WHAT IT READS IS OF BULK AT MOST 1048576: true; the input reads as it did. -/
def deriveReplayUptoRow : OpenClaim := { program := "ytlfocagdjjgmmaagreat", sum := "7d4473cc3dec2443e314aee6c45b88c9ba6fca3b99188d26702f6cf718f641aa", func := "topiary/topiarylaw21.DeriveReplay", spec := "deriveReplay", inPlace := ["internal/bytealg.IndexByteString", "sync/atomic.LoadUint32", "(*internal/sync.Mutex).Lock", "internal/race.Disable", "sync/atomic.CompareAndSwapInt32", "internal/race.Enable", "internal/race.Acquire", "(*internal/sync.Mutex).lockSlow", "internal/sync.runtime_canSpin", "internal/sync.runtime_doSpin", "internal/sync.throw", "internal/sync.runtime_nanotime", "internal/sync.runtime_SemacquireMutex", "sync/atomic.AddInt32", "(*internal/sync.Mutex).Unlock", "internal/race.ReleaseMerge", "(*internal/sync.Mutex).unlockSlow", "internal/sync.fatal", "internal/sync.runtime_Semrelease", "sync/atomic.StoreUint32"], unfollowed := true, recurses := true, apart := false, narrowed := true }
def DeriveReplayUptoSaid : Prop := deriveReplayUptoRow.holds Tryz.pinned (OpenSpec.upto deriveReplaySpec)

/-- 'topiarylaw16.ItemsRight', WHERE WHAT IT READS IS OF BULK AT MOST 1048576: true; the input reads as it did. -/
def itemsRightUptoRow : OpenClaim := { program := "ytlfocagdjjgmmaagreat", sum := "7d4473cc3dec2443e314aee6c45b88c9ba6fca3b99188d26702f6cf718f641aa", func := "topiary/topiarylaw16.ItemsRight", spec := "itemsRight", inPlace := ["internal/bytealg.IndexByteString", "sync/atomic.LoadUint32", "(*internal/sync.Mutex).Lock", "internal/race.Disable", "sync/atomic.CompareAndSwapInt32", "internal/race.Enable", "internal/race.Acquire", "(*internal/sync.Mutex).lockSlow", "internal/sync.runtime_canSpin", "internal/sync.runtime_doSpin", "internal/sync.throw", "internal/sync.runtime_nanotime", "internal/sync.runtime_SemacquireMutex", "sync/atomic.AddInt32", "(*internal/sync.Mutex).Unlock", "internal/race.ReleaseMerge", "(*internal/sync.Mutex).unlockSlow", "internal/sync.fatal", "internal/sync.runtime_Semrelease", "sync/atomic.StoreUint32"], unfollowed := true, recurses := true, apart := false, narrowed := true }
def ItemsRightUptoSaid : Prop := itemsRightUptoRow.holds Tryz.pinned (OpenSpec.upto itemsRightSpec)

/-- 'topiarylaw15.FirstVanish', WHERE WHAT IT READS IS OF BULK AT MOST 1048576: true; the input reads as it did. -/
def firstVanishUptoRow : OpenClaim := { program := "ytlfocagdjjgmmaagreat", sum := "7d4473cc3dec2443e314aee6c45b88c9ba6fca3b99188d26702f6cf718f641aa", func := "topiary/topiarylaw15.FirstVanish", spec := "firstVanish", inPlace := ["internal/bytealg.IndexByteString", "sync/atomic.LoadUint32", "(*internal/sync.Mutex).Lock", "internal/race.Disable", "sync/atomic.CompareAndSwapInt32", "internal/race.Enable", "internal/race.Acquire", "(*internal/sync.Mutex).lockSlow", "internal/sync.runtime_canSpin", "internal/sync.runtime_doSpin", "internal/sync.throw", "internal/sync.runtime_nanotime", "internal/sync.runtime_SemacquireMutex", "sync/atomic.AddInt32", "(*internal/sync.Mutex).Unlock", "internal/race.ReleaseMerge", "(*internal/sync.Mutex).unlockSlow", "internal/sync.fatal", "internal/sync.runtime_Semrelease", "sync/atomic.StoreUint32"], unfollowed := true, recurses := true, apart := false, narrowed := true }
def FirstVanishUptoSaid : Prop := firstVanishUptoRow.holds Tryz.pinned (OpenSpec.upto firstVanishSpec)

/-- 'topiarylaw15.FirstOf', WHERE WHAT IT READS IS OF BULK AT MOST 1048576: true; the input reads as it did. -/
def firstOfUptoRow : OpenClaim := { program := "ytlfocagdjjgmmaagreat", sum := "7d4473cc3dec2443e314aee6c45b88c9ba6fca3b99188d26702f6cf718f641aa", func := "topiary/topiarylaw15.FirstOf", spec := "firstOf", inPlace := ["internal/bytealg.IndexByteString", "sync/atomic.LoadUint32", "(*internal/sync.Mutex).Lock", "internal/race.Disable", "sync/atomic.CompareAndSwapInt32", "internal/race.Enable", "internal/race.Acquire", "(*internal/sync.Mutex).lockSlow", "internal/sync.runtime_canSpin", "internal/sync.runtime_doSpin", "internal/sync.throw", "internal/sync.runtime_nanotime", "internal/sync.runtime_SemacquireMutex", "sync/atomic.AddInt32", "(*internal/sync.Mutex).Unlock", "internal/race.ReleaseMerge", "(*internal/sync.Mutex).unlockSlow", "internal/sync.fatal", "internal/sync.runtime_Semrelease", "sync/atomic.StoreUint32"], unfollowed := true, recurses := true, apart := false, narrowed := true }
def FirstOfUptoSaid : Prop := firstOfUptoRow.holds Tryz.pinned (OpenSpec.upto firstOfSpec)

/-- 'topiarylaw15.FirstBehind', WHERE WHAT IT READS IS OF BULK AT MOST 1048576: true; the input reads as it did. -/
def firstBehindUptoRow : OpenClaim := { program := "ytlfocagdjjgmmaagreat", sum := "7d4473cc3dec2443e314aee6c45b88c9ba6fca3b99188d26702f6cf718f641aa", func := "topiary/topiarylaw15.FirstBehind", spec := "firstBehind", inPlace := ["internal/bytealg.IndexByteString", "sync/atomic.LoadUint32", "(*internal/sync.Mutex).Lock", "internal/race.Disable", "sync/atomic.CompareAndSwapInt32", "internal/race.Enable", "internal/race.Acquire", "(*internal/sync.Mutex).lockSlow", "internal/sync.runtime_canSpin", "internal/sync.runtime_doSpin", "internal/sync.throw", "internal/sync.runtime_nanotime", "internal/sync.runtime_SemacquireMutex", "sync/atomic.AddInt32", "(*internal/sync.Mutex).Unlock", "internal/race.ReleaseMerge", "(*internal/sync.Mutex).unlockSlow", "internal/sync.fatal", "internal/sync.runtime_Semrelease", "sync/atomic.StoreUint32"], unfollowed := true, recurses := true, apart := false, narrowed := true }
def FirstBehindUptoSaid : Prop := firstBehindUptoRow.holds Tryz.pinned (OpenSpec.upto firstBehindSpec)

/-- 'topiarylaw15.FirstJoins', WHERE WHAT IT READS IS OF BULK AT MOST 1048576: true; the input reads as it did. -/
def firstJoinsUptoRow : OpenClaim := { program := "ytlfocagdjjgmmaagreat", sum := "7d4473cc3dec2443e314aee6c45b88c9ba6fca3b99188d26702f6cf718f641aa", func := "topiary/topiarylaw15.FirstJoins", spec := "firstJoins", inPlace := ["internal/bytealg.IndexByteString", "sync/atomic.LoadUint32", "(*internal/sync.Mutex).Lock", "internal/race.Disable", "sync/atomic.CompareAndSwapInt32", "internal/race.Enable", "internal/race.Acquire", "(*internal/sync.Mutex).lockSlow", "internal/sync.runtime_canSpin", "internal/sync.runtime_doSpin", "internal/sync.throw", "internal/sync.runtime_nanotime", "internal/sync.runtime_SemacquireMutex", "sync/atomic.AddInt32", "(*internal/sync.Mutex).Unlock", "internal/race.ReleaseMerge", "(*internal/sync.Mutex).unlockSlow", "internal/sync.fatal", "internal/sync.runtime_Semrelease", "sync/atomic.StoreUint32"], unfollowed := true, recurses := true, apart := false, narrowed := true }
def FirstJoinsUptoSaid : Prop := firstJoinsUptoRow.holds Tryz.pinned (OpenSpec.upto firstJoinsSpec)

/-- 'topiarylaw15.FirstProds', WHERE WHAT IT READS IS OF BULK AT MOST 1048576: true; the input reads as it did. -/
def firstProdsUptoRow : OpenClaim := { program := "ytlfocagdjjgmmaagreat", sum := "7d4473cc3dec2443e314aee6c45b88c9ba6fca3b99188d26702f6cf718f641aa", func := "topiary/topiarylaw15.FirstProds", spec := "firstProds", inPlace := ["internal/bytealg.IndexByteString", "sync/atomic.LoadUint32", "(*internal/sync.Mutex).Lock", "internal/race.Disable", "sync/atomic.CompareAndSwapInt32", "internal/race.Enable", "internal/race.Acquire", "(*internal/sync.Mutex).lockSlow", "internal/sync.runtime_canSpin", "internal/sync.runtime_doSpin", "internal/sync.throw", "internal/sync.runtime_nanotime", "internal/sync.runtime_SemacquireMutex", "sync/atomic.AddInt32", "(*internal/sync.Mutex).Unlock", "internal/race.ReleaseMerge", "(*internal/sync.Mutex).unlockSlow", "internal/sync.fatal", "internal/sync.runtime_Semrelease", "sync/atomic.StoreUint32"], unfollowed := true, recurses := true, apart := false, narrowed := true }
def FirstProdsUptoSaid : Prop := firstProdsUptoRow.holds Tryz.pinned (OpenSpec.upto firstProdsSpec)

end Rows
end Go.Proofs.YtlfocagdjjgmmaaGreat
