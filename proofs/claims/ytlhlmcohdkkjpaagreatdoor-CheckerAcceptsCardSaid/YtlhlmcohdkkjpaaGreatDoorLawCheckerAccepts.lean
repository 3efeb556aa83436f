/- The law CheckerAccepts: for every input it returns true, and the arguments read as before; the table deBruijn64tab is tied to the program's text. -/
import Derived.Test.YtlhlmcohdkkjpaaGreatDoorCards
import Derived.Test.YtlhlmcohdkkjpaaGreatDoorTie
import Derived.Test.YtlhlmcohdkkjpaaGreatDoorCe2
import Derived.Test.YtlhlmcohdkkjpaaGreatDoorCe5
import Derived.Test.YtlhlmcohdkkjpaaGreatDoorCe5F
set_option linter.all false
set_option maxHeartbeats 16000000
set_option maxRecDepth 100000
namespace Go.Proofs.YtlhlmcohdkkjpaaGreatDoor.checkerAccepts
open Go.ChangeShapes Go.WideShapes Go.ChangeAt Go.RowKit
theorem lifted (os:Os)(started:os.Started)(H:Type)(enc:TypeId×Value→H):
  ReturnsInHanded {} Tryz.checked os 3 .any (fun w args=>(Rows.checkerAcceptsSpec.pre enc Tryz.prog Tryz.f3 [] false w args∧laidMetH Tryz.prog sH w)∧sizedMet enc Tryz.prog Tryz.f3 (OpenSpec.ofChange Rows.checkerAcceptsSpec) false w args)
   (Rows.checkerAcceptsSpec.post enc Tryz.prog Tryz.f3 false true false false):=by
 refine handed (X:=fun w _=>laidMetH Tryz.prog sH w) (fun _ _ _ hh h=>h.of_heap hh) started (by as_aux_lemma=>kernel_rfl) Tryz.func3
  (ChangeSpec.witness_shaped (enc:=enc) (C:=Tryz.checked) (os:=os) (X:=fun w _=>laidMetH Tryz.prog sH w) false (World.doorLaid Tryz.prog 400 os) #[.agg #[.slice none 0 0,.slice none 0 0,.slice none 0 0,.slice none 0 0],.slice none 0 0,.agg #[.int .i64 0,.slice none 0 0,.slice none 0 0,.slice none 0 0,.int .i64 0]] 8 rfl (World.shaped_of_RefB (by as_aux_lemma=>kernel_rfl) (by as_aux_lemma=>kernel_rfl)) (by as_aux_lemma=>kernel_rfl) (by as_aux_lemma=>kernel_rfl) (by as_aux_lemma=>kernel_rfl) (NJ os _)) ?_
 intro W base args ds gs before qt3 hW hL hS;have RF: ∀(j:Nat) t v,Tryz.f3.params[j]? =some t→args[j]? =some v→Value.okWide Tryz.prog W .any base t v:=qt3;have hW':=hW;obtain⟨p,q,PX,hV,rfl,hfz,Yz⟩:=hW;have hA:DataW.TrodAll enc Tryz.prog W 0 (fun _=>true) true Tryz.f3.params.toList args.toList ds p:=PX;rw[Tryz.params3]at hA RF;obtain⟨v0,vs0,d0,ds0,p0,q0,Cu,rfl,rfl,h0,r0⟩:=trodAll_cons hA;obtain⟨v1,vs1,d1,bG,p1,q1,rfl,rfl,rfl,h1,r1⟩:=trodAll_cons r0;obtain⟨v2,vs2,d2,ds2,p2,q2,rfl,rfl,rfl,h2,r2⟩:=trodAll_cons r1;obtain⟨rfl,rfl,rfl⟩:=trodAll_nil r2;obtain rfl:args=#[v0,v1,v2]:=by cases args;simp_all
 obtain⟨rfl,rfl⟩:=trodVars_none hV;have k0:=h0;have lt0: ∀x∈p0,x.block<W.heap.size:=by obtain⟨m,hm⟩:=k0;exact DataW.trod_lt m _ _ _ hm
 have k1:=h1;have lt1: ∀x∈p1,x.block<W.heap.size:=by obtain⟨m,hm⟩:=k1;exact DataW.trod_lt m _ _ _ hm
 have k2:=h2;have lt2: ∀x∈p2,x.block<W.heap.size:=by obtain⟨m,hm⟩:=k2;exact DataW.trod_lt m _ _ _ hm
 obtain⟨x0,VD,VP,VL,VC,rfl,o0⟩:=sg (RF 0 29 v0 rfl rfl) h0;obtain⟨x1,o1⟩:=sy (RF 1 30 v1 rfl rfl) h1;obtain⟨x2,VA,VY,VM,rfl,o2⟩:=LM (RF 2 37 v2 rfl rfl) h2;have hT:=qg2 hL hS;refine(TJ x0 VD VP VL VC v1 VA VY VM x1 x2 W o0 (KO hT) o1 o2 (fun W1 t1=>wC (hT.z7 t1))).mono fun e W' ⟨he,tch⟩=> ?_;have bel:=tch.tN;subst he;exact⟨_,rfl,_,_,_,[],_,[],hW',trodAll_mk1 (shut_bool Tryz.underlying4 _),(trodAll_cons_mk (Below.trod eD (by as_aux_lemma=>kernel_rfl) (U9 (by as_aux_lemma=>kernel_rfl)) k0 bel lt0) (trodAll_cons_mk (Below.trod eD (by as_aux_lemma=>kernel_rfl) (U9 (by as_aux_lemma=>kernel_rfl)) k1 bel lt1) (trodAll_cons_mk (Below.trod eD (by as_aux_lemma=>kernel_rfl) (U9 (by as_aux_lemma=>kernel_rfl)) k2 bel lt2) trodAll_mk0))),rfl,bel.frame _,fun h=>by cases h⟩
theorem proved_row:Rows.CheckerAcceptsSaid:=
 OpenClaim.holds_of_wide 3 Tryz.f3 rfl rfl rfl rfl rfl rfl rfl ⟨rfl,rfl,rfl,rfl,rfl⟩ rfl rfl rfl rfl rfl (by as_aux_lemma=>kernel_rfl) Tryz.func3 closed
  (U9 (by as_aux_lemma=>kernel_rfl)) (by unfold Func.isWrapper;first | (rw[x9 (by decide+kernel)];kernel_rfl) | (rw[z9 (by decide+kernel)];exact⟨rfl,rfl⟩))
  (fun os started H enc _=>lifted os started H enc)
theorem proved:Rows.CheckerAcceptsCardSaid:=
 Claim7.holds_tied_plain_at .later [] [.data] true (true, "68fed69feed01156c8f3b34c4e54534bfb6666f704c0cd0140e8ac92f7f40c6d") false
  proved_row (fun _ h=>by cases h) (by as_aux_lemma=>kernel_rfl) (fun _ h=>by cases h) checkerAccepts_row_tie rfl ⟨rfl,rfl⟩ (by as_aux_lemma=>kernel_rfl) rfl
  (fun f fn hf xH=>by
   obtain rfl : f = 3 := Z3 ((show Tryz.prog.funcNamed "bandplan/bandplanlaw25.CheckerAccepts" = some 3 by kernel_rfl).symm.trans hf) |>.symm
   obtain rfl:fn=Tryz.f3:=(Z3 (Tryz.func3.symm.trans xH)).symm
   exact⟨by as_aux_lemma=>kernel_rfl,fun j t ht=>by
    rw[Tryz.params3]at ht
    match j,ht with
    | 0,ht=>cases ht;exact(show Tryz.prog.wantsStandIn 29=false by as_aux_lemma=>kernel_rfl)
    | 1,ht=>cases ht;exact(show Tryz.prog.wantsStandIn 30=false by as_aux_lemma=>kernel_rfl)
    | 2,ht=>cases ht;exact(show Tryz.prog.wantsStandIn 37=false by as_aux_lemma=>kernel_rfl)
    | n+3,ht=>simp at ht⟩)
  (by as_aux_lemma=>kernel_rfl)
#print axioms proved
end Go.Proofs.YtlhlmcohdkkjpaaGreatDoor.checkerAccepts
