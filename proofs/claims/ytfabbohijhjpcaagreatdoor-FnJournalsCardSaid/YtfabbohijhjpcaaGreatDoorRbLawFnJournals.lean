/-
  Edits that are undone lead back, edits between two graphs lead from the one to the other, and membership is that of each step: the law FnJournals answers true at every input.
  No condition.
-/
import Derived.Test.YtfabbohijhjpcaaGreatDoorRbDoorZ
import Derived.Test.YtfabbohijhjpcaaGreatDoorCards
import Derived.Test.YtfabbohijhjpcaaGreatDoorTie
import Derived.ChangeMaps5
namespace Go.Proofs.YtfabbohijhjpcaaGreatDoor.fnJournals
open Go.ChangeShapes Go.WideShapes Go.ChangeAt Go.RowKit
/-- The tables that the row lists. -/
def laidL : List (String × DataW Unit) := [("math/bits.deBruijn32tab", Rows.laid_math_bits_deBruijn32tab), ("math/bits.deBruijn64tab", Rows.laid_math_bits_deBruijn64tab), ("internal/strconv.uint64pow10", Rows.laid_internal_strconv_uint64pow10), ("unicode/utf8.acceptRanges", Rows.laid_unicode_utf8_acceptRanges), ("unicode/utf8.first", Rows.laid_unicode_utf8_first)]
set_option maxRecDepth 100000 in
theorem lifted (os:Os) (started:os.Started) (H:Type) (enc:TypeId×Value->H):
 ReturnsInHanded {} Tryz.checked os 3 .any (fun w args=>(Rows.fnJournalsSpec.pre enc Tryz.prog Tryz.f3 [] false w args/\laidMetH Tryz.prog laidL w)/\sizedMet enc Tryz.prog Tryz.f3 (OpenSpec.ofChange Rows.fnJournalsSpec) false w args)
  (Rows.fnJournalsSpec.post enc Tryz.prog Tryz.f3 false true false false):=by
 refine handed_shaped (C:=Tryz.checked) (X:=fun w _=>laidMetH Tryz.prog laidL w) (fun _ _ _ hh h=>h.of_heap hh) own started (by kernel_rfl) Tryz.func3
  (ChangeSpec.witness_shaped (enc:=enc) (C:=Tryz.checked) (os:=os) (X:=fun w _=>laidMetH Tryz.prog laidL w) false (World.laidAll Tryz.prog os laidL) #[.slice none 0 0] 8 (World.laidAll_os _ _ _) (World.shaped_of_ZipB (by kernel_rfl) (by kernel_rfl)) (by kernel_rfl) (by kernel_rfl) (by kernel_rfl)
    (by rw[MakeChecks.laidMetH_plain _ _ _ (by kernel_rfl)];exact laidMet_laidAll _ (by kernel_rfl) (by kernel_rfl))) ?_
 intro W base args ds gs before hval0 hW hsh hL _;have hval: ∀(j:Nat) t v,Tryz.f3.params[j]? =some t->args[j]? =some v->Value.okWide Tryz.prog W .any base t v:=hval0;have hW':=hW;obtain⟨p,q,hA0,hV,rfl,hfz,hnd⟩:=hW;have hA:DataW.TrodAll enc Tryz.prog W 0 (fun _=>true) true Tryz.f3.params.toList args.toList ds p:=hA0;rw[Tryz.params3] at hA hval;obtain⟨v0,vs0,d0,ds0,p0,q0,hargs,rfl,rfl,l0,r0⟩:=trodAll_cons hA;obtain⟨rfl,rfl,rfl⟩:=trodAll_nil r0;obtain rfl:args= #[v0]:=by cases args;simp_all
 obtain⟨rfl,rfl⟩:=trodVars_none hV;have lt0:=places_lt l0;obtain⟨A,n,c,rfl,h1,n1⟩:=open_bytes_arg (hval 0 22 v0 rfl rfl) l0;clear hA0 hval0;refine(fnJournals_walk A n c W h1 n1 (mx_of hsh)).mono fun e W' ⟨he,bel⟩=> ?_
 subst he;exact⟨_,rfl,_,_,_,[],_,[],hW',trodAll_mk1 (shut_bool Tryz.underlying4 _),(trodAll_cons_mk (Below.trod laidOut (by kernel_rfl) (of_decide_eq_true (by kernel_rfl)) l0 bel lt0) trodAll_mk0),rfl,bel.frame _,fun h=>by cases h⟩
theorem clo:Tryz.prog.closure 3=cloLFnJournals:=(closure_tab tab_len tab_is 3).trans (by kernel_rfl)
theorem unf:Tryz.pinned.checked.prog.unfollowed 3=true:=by
 show Tryz.prog.unfollowed 3=true;unfold Program.unfollowed;rw[clo];kernel_rfl
theorem inp:Tryz.pinned.checked.prog.inPlace 3=Rows.fnJournalsRow.inPlace:=by
 show Tryz.prog.inPlace 3=_;unfold Program.inPlace;rw[clo];kernel_rfl
theorem vns:Tryz.pinned.checked.prog.varsNamed 3=Rows.fnJournalsRow.named:=by
 show Tryz.prog.varsNamed 3=_;unfold Program.varsNamed;rw[clo];kernel_rfl
theorem closed:joinedFacts Tryz.pinned.checked.prog 3 Tryz.f3 Rows.fnJournalsSpec Rows.fnJournalsRow=true:=by
 unfold joinedFacts;rw[inp,vns,recurses_of unf,unf];kernel_rfl
theorem over:Rows.fnJournalsRow.holds Tryz.pinned (OpenSpec.ofChange Rows.fnJournalsSpec):=
 OpenClaim.holds_of_wide 3 Tryz.f3 rfl rfl rfl rfl rfl rfl rfl ⟨rfl,rfl,rfl,rfl,rfl⟩ rfl rfl rfl rfl rfl (by kernel_rfl) Tryz.func3 closed
  (of_decide_eq_true (by kernel_rfl)) (by unfold Func.isWrapper;first|(rw[if_pos (by decide+kernel)];kernel_rfl)|(rw[if_neg (by decide+kernel)];exact⟨rfl,rfl⟩))
  (fun os started H enc _=>lifted os started H enc)
theorem t_hg:false=Rows.fnJournalsRow.goesBy Tryz.pinned.checked.prog:=by kernel_rfl
theorem t_hm : Tryz.pinned.checked.prog.mainIs = some (((true, "2fff6e37d94d14ef8209aae0a44569e43abc427152a0ce1d8820f3a6ab4a7131") : Bool × String).1, ((true, "2fff6e37d94d14ef8209aae0a44569e43abc427152a0ce1d8820f3a6ab4a7131") : Bool × String).2.toList) := by kernel_rfl
theorem t_hw:Rows.fnJournalsRow.wfByText (OpenSpec.ofChange Rows.fnJournalsSpec)=true:=by kernel_rfl
theorem t_lk:false=Tryz.pinned.checked.prog.looks []:=by kernel_rfl
theorem t_nm : Tryz.prog.funcNamed "loop.example/g02081/laws.FnJournals" = some 3 := by kernel_rfl
theorem t_w:([22].all fun u=> !Tryz.prog.wantsStandIn u)=true:=by kernel_rfl
theorem t_hl: ∀f fn,Tryz.pinned.checked.prog.funcNamed Rows.fnJournalsRow.func=some f->Tryz.pinned.checked.prog.funcs[f]? =some fn->false=Tryz.pinned.checked.prog.looks []/\ ∀(j:Nat) t,fn.params[j]? =some t->Tryz.pinned.checked.prog.wantsStandIn t=false:=fun f fn hf hfn=>by
 obtain rfl:f=3:=Option.some.inj (t_nm.symm.trans hf)|>.symm
 obtain rfl:fn=Tryz.f3:=(Option.some.inj (Tryz.func3.symm.trans hfn)).symm
 exact⟨t_lk,fun j t ht=>by
  rw[Tryz.params3] at ht
  have hm:t∈ [22]:=by simpa using Array.mem_of_getElem? ht
  exact(show Tryz.prog.wantsStandIn t=false by simpa using List.all_eq_true.1 t_w t hm)⟩
/-- The statement: the card. -/
theorem proved:Rows.FnJournalsCardSaid:=
 Claim7.holds_tied_plain_at .later [] [.data, .data, .data, .data, .pinned] true (true, "2fff6e37d94d14ef8209aae0a44569e43abc427152a0ce1d8820f3a6ab4a7131") false
  over (fun _ h=>by cases h) t_hw (fun _ h=>by cases h) fnJournals_row_tie rfl ⟨rfl,rfl⟩ t_hm rfl t_hl t_hg
#print axioms proved
end Go.Proofs.YtfabbohijhjpcaaGreatDoor.fnJournals
