/- The library's copy of a list that lies in a block: what is reckoned outright takes it from its contract. -/
import Derived.Test.YtmnbljfbdiodbaaGreatTyTryzz
import Derived.Test.YtmnbljfbdiodbaaGreatDrTryzz
import Derived.Test.YtmnbljfbdiodbaaGreatTopWz
import Derived.Test.YtmnbljfbdiodbaaGreatAbsFrz
import Derived.Test.YtmnbljfbdiodbaaGreatFiKz
namespace Go.Abs
open Go.Proofs
set_option linter.unusedVariables false
set_option linter.unusedSimpArgs false
set_option maxRecDepth 100000
set_option maxHeartbeats 4000000
def hkClone : Hook := fun args h => match args,h with
 | [.ref 0 1 off len],[.plain 1 rows] => match Nat.ble (off + len) rows.length,Nat.ble len 100000,rowInts ((rows.drop off).take len) with
  | true,true,some zs => some (.ret (.ref 1 1 0 len),[.dead,.plain 1 ((rows.drop off).take len)])
  | _,_,_ => none
 | _,_ => none
theorem hkClone_ok (args : List AV) (h : List Blk) (o : AOut) (h' : List Blk) (e : hkClone args h = some (o,h')) : Ok Tryz.prog 70 args h o h' := by
 unfold hkClone at e
 split at e
 ·rename_i off len rows
  split at e
  ·rename_i zs h1 h2 h3
   cases e
   obtain ⟨e1,e2⟩ := rowInts_get h3
   have h1 := Nat.le_of_ble_eq_true h1
   have h2 := Nat.le_of_ble_eq_true h2
   have hlen : zs.length = len := by rw [← e1,List.length_take,List.length_drop]; omega
   have hc := ok70 zs (by omega)
   rw [hlen,show ints zs = (rows.drop off).take len from e2.symm] at hc
   exact ok_frz h1 hc
  ·cases e
 ·cases e
def hooks2 : List (FuncId × Hook) := [(62,hkPrec),(70,hkClone)]
theorem hooks2_ok (f : FuncId) (k : Hook) (h : extTab hooks2 f = some k) (args : List AV) (hp : List Blk) (o : AOut) (h' : List Blk) (e : k args hp = some (o,h')) : Ok Tryz.prog f args hp o h' := by
 unfold hooks2 extTab at h
 split at h
 ·rename_i hf
  obtain rfl := Nat.eq_of_beq_eq_true hf
  cases h
  exact hkPrec_ok args hp o h' e
 ·unfold extTab at h
  split at h
  ·rename_i hf
   obtain rfl := Nat.eq_of_beq_eq_true hf
   cases h
   exact hkClone_ok args hp o h' e
  ·simp [extTab] at h
theorem reckoned2 {n lf : Nat} {f : FuncId} {args : List AV} {h : List Blk} {o : AOut} {h' : List Blk} (e : goFn Tryz.prog exts hooks2 lf n f args h = some (o,h')) : Ok Tryz.prog f args h o h' :=
 goFn_ok mix names_ok exts_ok hooks2_ok n f args h o h' e
end Go.Abs
