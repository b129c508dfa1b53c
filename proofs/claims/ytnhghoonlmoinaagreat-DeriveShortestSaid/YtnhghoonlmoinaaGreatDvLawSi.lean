/- The row of the law DeriveShortest, out of its contract. -/
import Derived.Test.YtnhghoonlmoinaaGreatRows
import Derived.Test.YtnhghoonlmoinaaGreatDvRi
import Derived.Test.YtnhghoonlmoinaaGreatTopRi
import Derived.Test.YtnhghoonlmoinaaGreatItNi
import Derived.Test.YtnhghoonlmoinaaGreatChecked
import Derived.WalkKit
import Derived.ProofKit
import Derived.OpenShut
import Derived.ShutString
import Derived.ChangeOld
import Derived.Below
import Derived.SizedLaws
namespace Go.Proofs.YtnhghoonlmoinaaGreat.deriveShortest
open Go.ChangeShapes Go.WideShapes Go.ChangeAt Go.RowKit Go.Abs
open Go.ChangeMaps (open_string shut_string)
set_option linter.unusedVariables false
set_option linter.unusedSimpArgs false
theorem own : ownKnob Tryz.prog.godebug = none := by kernel_rfl
theorem laidOut : laidOutB Tryz.prog = true := by kernel_rfl
theorem noglob : ((List.range Tryz.prog.globals.size).all fun g => (gdata Tryz.prog g).isNone) = true := by kernel_rfl
theorem gok {W : World} {S : Nat → Prop} : GOk Tryz.prog W S := fun g row hg => by
 have hlt : g < Tryz.prog.globals.size := by
  rcases Nat.lt_or_ge g Tryz.prog.globals.size with h1 | h1
  ·exact h1
  ·unfold gdata at hg
   rw [Array.getElem?_eq_none h1] at hg
   cases hg
 have h2 := List.all_eq_true.1 noglob g (List.mem_range.2 hlt)
 rw [hg] at h2
 cases h2
theorem sh_g : shOf Tryz.prog 8 27 = some (shGra 48 16 16 40) := by kernel_rfl
set_option maxRecDepth 100000 in
theorem lifted (os : Os) (started : os.Started) (H : Type) (enc : TypeId × Value → H) :
  ReturnsInHanded {} Tryz.checked os 10 .any (Rows.deriveShortestSpec.pre6 enc Tryz.prog Tryz.f10 Rows.deriveShortestRow.domain false) (Rows.deriveShortestSpec.post enc Tryz.prog Tryz.f10 false true false false) := by
 refine returnsInHanded_of_change_sized (C := Tryz.checked) own started (by kernel_rfl) Tryz.func10
  (ChangeSpec.witness6 (enc := enc) (C := Tryz.checked) false ⟨#[],#[.agg #[.slice none 0 0,.slice none 0 0,.slice none 0 0,.slice none 0 0,.int .i64 0]],[]⟩ 8 (by kernel_rfl) (by kernel_rfl) (by kernel_rfl) (by kernel_rfl)) ?_
 intro W base args ds gs before hval0 hW hcnd hsz0 _
 have hsz : (DataW.weightsEach Tryz.prog (Tryz.f10.params.toList ++ Rows.deriveShortestSpec.plain.varTypes Tryz.prog) (ds ++ gs)).all (· ≤ reachBytes) = true := hsz0
 have hval : ∀ (j : Nat) t v,Tryz.f10.params[j]? = some t → args[j]? = some v → Value.okWide Tryz.prog W .any base t v := hval0
 have hW' := hW
 obtain ⟨p,q,hA0,hV,rfl,hfz,hnd⟩ := hW
 have hA : DataW.TrodAll enc Tryz.prog W 0 (fun _ => true) true Tryz.f10.params.toList args.toList ds p := hA0
 rw [Tryz.params10] at hA hval hsz
 obtain ⟨v0,vs0,d0,ds0,p0,q0,hargs,rfl,rfl,h0,r0⟩ := trodAll_cons hA
 obtain ⟨rfl,rfl,rfl⟩ := trodAll_nil r0
 obtain rfl : args = #[v0] := by cases args; simp_all
 obtain ⟨rfl,rfl⟩ := trodVars_none hV
 have k0 := h0
 have lt0 : ∀ x ∈ p0,x.block < W.heap.size := by obtain ⟨m,hm⟩ := k0; exact DataW.trod_lt m _ _ _ hm
 have z0 : ∀ k ∈ d0.weights Tryz.prog 27,k ≤ reachBytes := fun k hk => by simpa using List.all_eq_true.1 hsz k (DataW.weights_mem_each (j := 0) (t := 27) (d := d0) rfl rfl k hk)
 obtain ⟨row0,rc0,rel0⟩ := handed_agg Tryz.underlying27 sh_g (hval 0 27 v0 rfl rfl) h0 z0
 obtain ⟨g0,rfl,w0⟩ := gra_of (by omega) (by omega) (by omega) (by omega) row0 rc0
 have wk : Calls Tryz.prog 10 #[v0] W fun e W' => e = .returned (.bool true) ∧ Below W.heap.size W W' :=
  walk_of_ok gok ((fun g (_ : _) => lawShortest g) g0 w0) (lrel_cons rel0 lrel_nil)
 clear hA0 hval0 hsz0 hsz
 refine wk.mono fun e W' ⟨he,bel⟩ => ?_
 subst he
 exact ⟨_,rfl,_,_,_,[],_,[],hW',trodAll_mk1 (shut_bool Tryz.underlying4 _),(trodAll_cons_mk (Below.trod laidOut (by kernel_rfl) (of_decide_eq_true (by kernel_rfl)) k0 bel lt0) trodAll_mk0),rfl,bel.frame _,fun h => by cases h⟩
theorem over : Rows.deriveShortestRow.holds Tryz.pinned (OpenSpec.ofChange Rows.deriveShortestSpec) :=
 OpenClaim.holds_of_wide 10 Tryz.f10 rfl rfl rfl rfl rfl rfl rfl ⟨rfl,rfl,rfl,rfl,rfl⟩ rfl rfl rfl rfl rfl (by kernel_rfl) Tryz.func10 (by kernel_rfl)
  (of_decide_eq_true (by kernel_rfl)) (by unfold Func.isWrapper; first | (rw [if_pos (by decide +kernel)]; kernel_rfl) | (rw [if_neg (by decide +kernel)]; exact ⟨rfl,rfl⟩))
  (fun os started H enc _ => lifted os started H enc)
theorem proved : Rows.DeriveShortestSaid := over
#print axioms proved
end Go.Proofs.YtnhghoonlmoinaaGreat.deriveShortest
