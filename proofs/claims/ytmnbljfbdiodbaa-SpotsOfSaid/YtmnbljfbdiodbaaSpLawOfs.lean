/- The row of the law SpotsOf, out of its contract. -/
import Derived.Test.YtmnbljfbdiodbaaRows
import Derived.Test.YtmnbljfbdiodbaaSpMs
import Derived.Test.YtmnbljfbdiodbaaSpLs
import Derived.Test.YtmnbljfbdiodbaaTopRs
import Derived.Test.YtmnbljfbdiodbaaChecked
import Derived.WalkKit
import Derived.ProofKit
import Derived.OpenShut
import Derived.ShutString
import Derived.ChangeOld
import Derived.Below
import Derived.SizedLaws
namespace Go.Proofs.Ytmnbljfbdiodbaa.spotsOf
open Go.ChangeShapes Go.WideShapes Go.ChangeAt Go.RowKit Go.Abs
open Go.ChangeMaps (open_string shut_string)
set_option linter.unusedVariables false
set_option linter.unusedSimpArgs false
theorem own : ownKnob Try.prog.godebug = none := by kernel_rfl
theorem laidOut : laidOutB Try.prog = true := by kernel_rfl
theorem noglob : ((List.range Try.prog.globals.size).all fun g => (gdata Try.prog g).isNone) = true := by kernel_rfl
theorem gok {W : World} {S : Nat → Prop} : GOk Try.prog W S := fun g row hg => by
 have hlt : g < Try.prog.globals.size := by
  rcases Nat.lt_or_ge g Try.prog.globals.size with h1 | h1
  ·exact h1
  ·unfold gdata at hg
   rw [Array.getElem?_eq_none h1] at hg
   cases hg
 have h2 := List.all_eq_true.1 noglob g (List.mem_range.2 hlt)
 rw [hg] at h2
 cases h2
theorem sh_l : shOf Try.prog 8 22 = some ([.slc 40 shCel]) := by kernel_rfl
set_option maxRecDepth 100000 in
theorem lifted (os : Os) (started : os.Started) (H : Type) (enc : TypeId × Value → H) :
  ReturnsInHanded {} Try.checked os 3 .any (Rows.spotsOfSpec.pre6 enc Try.prog Try.f3 Rows.spotsOfRow.domain false) (Rows.spotsOfSpec.post enc Try.prog Try.f3 false true false false) := by
 refine returnsInHanded_of_change_sized (C := Try.checked) own started (by kernel_rfl) Try.func3
  (ChangeSpec.witness6 (enc := enc) (C := Try.checked) false ⟨#[],#[.slice none 0 0],[]⟩ 8 (by kernel_rfl) (by kernel_rfl) (by kernel_rfl) (by kernel_rfl)) ?_
 intro W base args ds gs before hval0 hW hcnd hsz0 _
 have hsz : (DataW.weightsEach Try.prog (Try.f3.params.toList ++ Rows.spotsOfSpec.plain.varTypes Try.prog) (ds ++ gs)).all (· ≤ reachBytes) = true := hsz0
 have hval : ∀ (j : Nat) t v,Try.f3.params[j]? = some t → args[j]? = some v → Value.okWide Try.prog W .any base t v := hval0
 have hW' := hW
 obtain ⟨p,q,hA0,hV,rfl,hfz,hnd⟩ := hW
 have hA : DataW.TrodAll enc Try.prog W 0 (fun _ => true) true Try.f3.params.toList args.toList ds p := hA0
 rw [Try.params3] at hA hval hsz
 obtain ⟨v0,vs0,d0,ds0,p0,q0,hargs,rfl,rfl,h0,r0⟩ := trodAll_cons hA
 obtain ⟨rfl,rfl,rfl⟩ := trodAll_nil r0
 obtain rfl : args = #[v0] := by cases args; simp_all
 obtain ⟨rfl,rfl⟩ := trodVars_none hV
 have k0 := h0
 have lt0 : ∀ x ∈ p0,x.block < W.heap.size := by obtain ⟨m,hm⟩ := k0; exact DataW.trod_lt m _ _ _ hm
 have z0 : ∀ k ∈ d0.weights Try.prog 22,k ≤ reachBytes := fun k hk => by simpa using List.all_eq_true.1 hsz k (DataW.weights_mem_each (j := 0) (t := 22) (d := d0) rfl rfl k hk)
 obtain ⟨x0,cf0,rel0⟩ := handed_slice Try.underlying22 sh_l (hval 0 22 v0 rfl rfl) h0 z0
 obtain ⟨l0,rfl,w0,y0⟩ := cf0.slc_inv Cel.row Cel.okk cel_ofk
 have wk : Calls Try.prog 3 #[v0] W fun e W' => e = .returned (.bool true) ∧ Below W.heap.size W W' :=
  walk_of_ok gok ((fun l (w : _) (y : _) => lawSpotsOf l w y) l0 w0 y0) (lrel_cons rel0 lrel_nil)
 clear hA0 hval0 hsz0 hsz
 refine wk.mono fun e W' ⟨he,bel⟩ => ?_
 subst he
 exact ⟨_,rfl,_,_,_,[],_,[],hW',trodAll_mk1 (shut_bool Try.underlying4 _),(trodAll_cons_mk (Below.trod laidOut (by kernel_rfl) (of_decide_eq_true (by kernel_rfl)) k0 bel lt0) trodAll_mk0),rfl,bel.frame _,fun h => by cases h⟩
theorem over : Rows.spotsOfRow.holds Try.pinned (OpenSpec.ofChange Rows.spotsOfSpec) :=
 OpenClaim.holds_of_wide 3 Try.f3 rfl rfl rfl rfl rfl rfl rfl ⟨rfl,rfl,rfl,rfl,rfl⟩ rfl rfl rfl rfl rfl (by kernel_rfl) Try.func3 (by kernel_rfl)
  (of_decide_eq_true (by kernel_rfl)) (by unfold Func.isWrapper; first | (rw [if_pos (by decide +kernel)]; kernel_rfl) | (rw [if_neg (by decide +kernel)]; exact ⟨rfl,rfl⟩))
  (fun os started H enc _ => lifted os started H enc)
theorem proved : Rows.SpotsOfSaid := over
#print axioms proved
end Go.Proofs.Ytmnbljfbdiodbaa.spotsOf
