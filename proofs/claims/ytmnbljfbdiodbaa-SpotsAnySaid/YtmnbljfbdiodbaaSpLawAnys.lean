/- The row of the law SpotsAny, out of its contract. -/
import Derived.Test.YtmnbljfbdiodbaaRows
import Derived.Test.YtmnbljfbdiodbaaSpLs
import Derived.Test.YtmnbljfbdiodbaaTopRs
import Derived.Test.YtmnbljfbdiodbaaChecked
import Derived.WalkKit
import Derived.ProofKit
import Derived.OpenShut
import Derived.ShutString
import Derived.ChangeOld
import Derived.Below
import Derived.SizedLaws
namespace Go.Proofs.Ytmnbljfbdiodbaa.spotsAny
open Go.ChangeShapes Go.WideShapes Go.ChangeAt Go.RowKit Go.Abs
open Go.ChangeMaps (open_string shut_string)
set_option linter.unusedVariables false
set_option linter.unusedSimpArgs false
theorem own : ownKnob Try.prog.godebug = none := by kernel_rfl
theorem laidOut : laidOutB Try.prog = true := by kernel_rfl
theorem noglob : ((List.range Try.prog.globals.size).all fun g => (gdata Try.prog g).isNone) = true := by kernel_rfl
theorem gok {W : World} {S : Nat → Prop} : GOk Try.prog W S := fun g row hg => by
 have hlt : g < Try.prog.globals.size := by
  rcases Nat.lt_or_ge g Try.prog.globals.size with h1 | h1
  ·exact h1
  ·unfold gdata at hg
   rw [Array.getElem?_eq_none h1] at hg
   cases hg
 have h2 := List.all_eq_true.1 noglob g (List.mem_range.2 hlt)
 rw [hg] at h2
 cases h2
theorem sh_p : shOf Try.prog 8 27 = some (shSpo) := by kernel_rfl
set_option maxRecDepth 100000 in
theorem lifted (os : Os) (started : os.Started) (H : Type) (enc : TypeId × Value → H) :
  ReturnsInHanded {} Try.checked os 4 .any (Rows.spotsAnySpec.pre6 enc Try.prog Try.f4 Rows.spotsAnyRow.domain false) (Rows.spotsAnySpec.post enc Try.prog Try.f4 false true false false) := by
 refine returnsInHanded_of_change_sized (C := Try.checked) own started (by kernel_rfl) Try.func4
  (ChangeSpec.witness6 (enc := enc) (C := Try.checked) false ⟨#[],#[.agg #[.slice none 0 0,.bool false,.slice none 0 0,.slice none 0 0,.slice none 0 0],.string ⟨#[]⟩],[]⟩ 8 (by kernel_rfl) (by kernel_rfl) (by kernel_rfl) (by kernel_rfl)) ?_
 intro W base args ds gs before hval0 hW hcnd hsz0 _
 have hsz : (DataW.weightsEach Try.prog (Try.f4.params.toList ++ Rows.spotsAnySpec.plain.varTypes Try.prog) (ds ++ gs)).all (· ≤ reachBytes) = true := hsz0
 have hval : ∀ (j : Nat) t v,Try.f4.params[j]? = some t → args[j]? = some v → Value.okWide Try.prog W .any base t v := hval0
 have hW' := hW
 obtain ⟨p,q,hA0,hV,rfl,hfz,hnd⟩ := hW
 have hA : DataW.TrodAll enc Try.prog W 0 (fun _ => true) true Try.f4.params.toList args.toList ds p := hA0
 rw [Try.params4] at hA hval hsz
 obtain ⟨v0,vs0,d0,ds0,p0,q0,hargs,rfl,rfl,h0,r0⟩ := trodAll_cons hA
 obtain ⟨v1,vs1,d1,ds1,p1,q1,rfl,rfl,rfl,h1,r1⟩ := trodAll_cons r0
 obtain ⟨rfl,rfl,rfl⟩ := trodAll_nil r1
 obtain rfl : args = #[v0,v1] := by cases args; simp_all
 obtain ⟨rfl,rfl⟩ := trodVars_none hV
 have k0 := h0
 have lt0 : ∀ x ∈ p0,x.block < W.heap.size := by obtain ⟨m,hm⟩ := k0; exact DataW.trod_lt m _ _ _ hm
 have z0 : ∀ k ∈ d0.weights Try.prog 27,k ≤ reachBytes := fun k hk => by simpa using List.all_eq_true.1 hsz k (DataW.weights_mem_each (j := 0) (t := 27) (d := d0) rfl rfl k hk)
 obtain ⟨row0,rc0,rel0⟩ := handed_agg Try.underlying27 sh_p (hval 0 27 v0 rfl rfl) h0 z0
 obtain ⟨p_0,rfl,w0⟩ := spo_of row0 rc0
 have k1 := h1
 have lt1 : ∀ x ∈ p1,x.block < W.heap.size := by obtain ⟨m,hm⟩ := k1; exact DataW.trod_lt m _ _ _ hm
 have z1 : ∀ k ∈ d1.weights Try.prog 9,k ≤ reachBytes := fun k hk => by simpa using List.all_eq_true.1 hsz k (DataW.weights_mem_each (j := 1) (t := 9) (d := d1) rfl rfl k hk)
 obtain ⟨s1,rfl,rfl,rfl,w1⟩ := open_string Try.underlying9 (hval 1 9 v1 rfl rfl) h1
 have wk : Calls Try.prog 4 #[v0,.string s1] W fun e W' => e = .returned (.bool true) ∧ Below W.heap.size W W' :=
  walk_of_ok gok ((fun p s (_ : _) (_ : _) => lawAny p s) p_0 s1.data.toList w0 w1) (lrel_cons rel0 (lrel_cons (.fv _ _ (.str _)) lrel_nil))
 clear hA0 hval0 hsz0 hsz
 refine wk.mono fun e W' ⟨he,bel⟩ => ?_
 subst he
 exact ⟨_,rfl,_,_,_,[],_,[],hW',trodAll_mk1 (shut_bool Try.underlying4 _),(trodAll_cons_mk (Below.trod laidOut (by kernel_rfl) (of_decide_eq_true (by kernel_rfl)) k0 bel lt0) (trodAll_cons_mk (Below.trod laidOut (by kernel_rfl) (of_decide_eq_true (by kernel_rfl)) k1 bel lt1) trodAll_mk0)),rfl,bel.frame _,fun h => by cases h⟩
theorem over : Rows.spotsAnyRow.holds Try.pinned (OpenSpec.ofChange Rows.spotsAnySpec) :=
 OpenClaim.holds_of_wide 4 Try.f4 rfl rfl rfl rfl rfl rfl rfl ⟨rfl,rfl,rfl,rfl,rfl⟩ rfl rfl rfl rfl rfl (by kernel_rfl) Try.func4 (by kernel_rfl)
  (of_decide_eq_true (by kernel_rfl)) (by unfold Func.isWrapper; first | (rw [if_pos (by decide +kernel)]; kernel_rfl) | (rw [if_neg (by decide +kernel)]; exact ⟨rfl,rfl⟩))
  (fun os started H enc _ => lifted os started H enc)
theorem proved : Rows.SpotsAnySaid := over
#print axioms proved
end Go.Proofs.Ytmnbljfbdiodbaa.spotsAny
