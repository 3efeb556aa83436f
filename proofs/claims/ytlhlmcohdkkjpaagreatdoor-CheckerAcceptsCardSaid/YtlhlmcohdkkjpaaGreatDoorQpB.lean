/- A quick interpreter for the kernel: proofs, sixth part: regions that draw their order. -/
import Derived.Test.YtlhlmcohdkkjpaaGreatDoorQpA
set_option linter.all false
namespace Go.Proofs.YtlhlmcohdkkjpaaGreatDoor.Ev
open Go
variable{ops:Array Oper}{ex:Ex}{fv v:FV}{f f':Fm}{F:xC}{fn:Func}{hk:Zm}{k:KD}{U:List (Nat×v5)}{l args:List FV}{A ds D8:List Nat}{ls:List mO}{rs ms:List Sp}{xs:List V}{i a nx b nt j5 m:Nat}{o:Oper}{x:Operand}{P:Program}{Q:QF}{s r:Sp}{H H':Tr v5}{tm:Tr V}
theorem rv {t:Tmp}(h:Operand.tmp t∈o.op.operands.toList):t∈o.looksAt ops:=by
 unfold Oper.looksAt;rw[cQ];exact .inl (List.mem_filterMap.2 ⟨_,h,rfl⟩)
theorem BB (h:x∈o.op.operands.toList):B9 P (n8 tm (o.looksAt ops)) x=B9 P tm x:=by
 cases x with
 | tmp t=>simp only[B9];rw[Dn,x9 (rv h)]
 | _=>rfl
theorem B1 (h:x∈o.op.operands.toList):((G2 P x).get f).J4=B9 P (n8 f.tr (o.looksAt ops)) x:=by
 rw[BB h];exact G6 P f x
theorem Ri :G7 ops o (n8 tm (o.looksAt ops))=G7 ops o tm:=by
 unfold G7;split
 ·rfl
 ·rename_i j want hg;split
  ·rename_i oj hj;split
   ·rename_i d hd
    have:d∈o.looksAt ops:=by
     unfold Oper.looksAt;rw[cQ];refine .inr ?_;simp[hg,hj,hd]
    rw[Dn,x9 this]
   ·rfl
  ·rfl
theorem Ve {G0:Tr V}(e: ∀t,tm.get t=G0.get t): ∀l,n8 tm l=n8 G0 l
 | []=>rfl
 | t::l=>by simp only[n8,e,Ve e l]
def Nu (Q:QF)(P:Program)(ops:Array Oper)(A:List Nat)(a i:Nat)(ms:List Sp)(ls:List mO)(o:Oper)(f:Fm)(H:Tr v5)(nx:Nat)(k:KD)(r:RR):Prop:=
 ∃v s fv,(∀rs,K0 A i rs=K0 A i ms→Tf Q.f P A i rs o (n8 f.tr (o.looksAt ops)) H nx=some (v,s))∧fv.J4=some v∧
  ((A6 s=true∧s.Mx= []∧r=k ms ls (f.Gc o.dst fv) s.H' s.j5)∨(A6 s=true∧rS a s.Mx ms=true∧r=k ms ((i,s.Mx)::ls) (f.Gc o.dst fv) s.H' s.j5)∨
   (A6 s=false∧nj a s ms=true∧ny a s ls=true∧r=k (s::ms) ls (f.Gc o.dst fv) s.H' s.j5))
theorem xu (h:K0 A i rs=K0 A i ms)(o:Oper)(tm:Tr V)(H:Tr v5)(nx:Nat):Tf F P A i rs o tm H nx=Tf F P A i ms o tm H nx:=by
 unfold Tf;rw[h]
theorem qq (Q:QF)(P:Program)(ops:Array Oper)(A:List Nat)(a i:Nat)(ms:List Sp)(ls:List mO)(o:Oper)(f:Fm)(H:Tr v5)(nx:Nat)(k:KD):
  Nu Q P ops A a i ms ls o f H nx k (Xy Q P ops A a i ms ls f H nx k o)∨Xy Q P ops A a i ms ls f H nx k o= .no:=by
 unfold Xy;rw[Wy]
 cases he:Tf Q.f P A i ms o (n8 f.tr (o.looksAt ops)) H nx with
 | none=>exact .inr rfl
 | some p=>
  obtain⟨v,s⟩:=p;have M9: ∀rs,K0 A i rs=K0 A i ms→Tf Q.f P A i rs o (n8 f.tr (o.looksAt ops)) H nx=some (v,s):=fun rs h=>by rw[xu h];exact he
  have cont: ∀kk:KK,jw (p6 o.dst) f v s kk=kk (f.Gc o.dst (FV.BZ v)) s.H' s.j5:=by
   intro kk;unfold jw;rw[Ga,E8,Gy (FV.Ia v),F6]
  simp only[YU]
  cases hq:A6 s with
  | true=>
   simp only
   cases hc:rS a s.Mx ms with
   | true=>simp only[cont];exact .inl ⟨v,s,FV.BZ v,M9,FV.Ia v,.inr (.inl ⟨hq,hc,rfl⟩)⟩
   | false=>exact .inr rfl
  | false=>
   simp only
   cases hc:nj a s ms with
   | false=>exact .inr rfl
   | true=>cases hd:ny a s ls with
    | false=>exact .inr rfl
    | true=>simp only[cont,Bool.and_self];exact .inl ⟨v,s,FV.BZ v,M9,FV.Ia v,.inr (.inr ⟨hq,hc,hd,rfl⟩)⟩
theorem Sg {v:V}(hv:fv.J4=some v)(hc:Oc o.op=false)
  (hn:N1 P o (n8 f.tr (o.looksAt ops))= []) (hr:Qk P o (n8 f.tr (o.looksAt ops)) .nil=some v):Nu Q P ops A a i ms ls o f H nx k (k ms ls (f.Gc o.dst fv) H nx):=by
 refine⟨v,⟨i,n8 f.tr (o.looksAt ops),v,H,nx,H,nx,.nil,.nil,[],[],false⟩,fv,fun rs _=> ?_,hv,.inl ⟨rfl,rfl,rfl⟩⟩;simp only[Tf,hc,hn,T7,hr]
theorem Fx {s:RR}(hc:Oc o.op=false)
  (hs:Nu Q P ops A a i ms ls o f H nx k s∨s= .no) (h: ∀v,fv.J4=some v→N1 P o (n8 f.tr (o.looksAt ops))= []∧Qk P o (n8 f.tr (o.looksAt ops)) .nil=some v):
  Nu Q P ops A a i ms ls o f H nx k (toQ fv (p6 o.dst) f H nx (k ms ls) s)∨toQ fv (p6 o.dst) f H nx (k ms ls) s= .no:=by
 unfold toQ;rcases Kg fv (fun v=>(p6 o.dst).Bs v f fun M4=>k ms ls M4 H nx) s with⟨_,h2⟩ | ⟨x,h1,h2⟩
 ·rw[show FV.jJ fv (fun v=>N7.rec (motive:=fun _=>FV→Fm→(Fm→RR)→RR) Rn (fun g=>g) An (p6 o.dst) v f fun M4=>k ms ls M4 H nx) s=s from h2];exact hs
 ·refine .inl ?_;rw[show FV.jJ fv (fun v=>N7.rec (motive:=fun _=>FV→Fm→(Fm→RR)→RR) Rn (fun g=>g) An (p6 o.dst) v f fun M4=>k ms ls M4 H nx) s=_ from h2,F6];exact Sg h1 hc (h x h1).1 (h x h1).2
theorem qE {t:TypeId}(h:H.get b=H'.get b):Gr P H t (.ptr b i)=Gr P H' t (.ptr b i):=by
 simp only[Gr,row,h]
theorem KL (u w:FV)(g:ER){v:V}(hv:(qd3 u w g).J4=some v):((∃n,u= .i n)∨(∃n,u= .u n))∧((∃n,w= .i n)∨(∃n,w= .u n)):=by
 cases u<;>try(cases hv;done)
 ·cases w<;>try(cases hv;done)
  exact⟨.inl ⟨_,rfl⟩,.inl ⟨_,rfl⟩⟩
 ·cases w<;>try(cases hv;done)
  ·exact⟨.inr ⟨_,rfl⟩,.inl ⟨_,rfl⟩⟩
  ·exact⟨.inr ⟨_,rfl⟩,.inr ⟨_,rfl⟩⟩
theorem lu (ops:Array Oper)(A:List Nat)(a i:Nat)(ms:List Sp)(ls:List mO)(o:Oper)(f:Fm)(H:Tr v5)(nx:Nat)(k:KD):
  Nu Q P ops A a i ms ls o f H nx k (rL (cl P o) Q P ops A a i ms ls f H nx k)∨rL (cl P o) Q P ops A a i ms ls f H nx k= .no:=by
 have Kx:=qq Q P ops A a i ms ls o f H nx k;obtain⟨dst,op,type,pos,after,guard⟩:=o
 cases op with
 | move x=>
  refine Fx (o:=⟨dst,.move x,type,pos,after,guard⟩) rfl (.inr rfl) (fun v hv=>⟨rfl,?_⟩);simp only[Qk];rw[←B1 (o:=⟨dst,.move x,type,pos,after,guard⟩) (by simp[Op.operands])];exact hv
 | assign x=>
  refine Fx (o:=⟨dst,.assign x,type,pos,after,guard⟩) rfl (.inr rfl) (fun v hv=>⟨rfl,?_⟩);simp only[Qk];rw[←B1 (o:=⟨dst,.assign x,type,pos,after,guard⟩) (by simp[Op.operands])];exact hv
 | binOp op t x y yt=>
  have hx:((G2 P x).get f).J4=B9 P (n8 f.tr (Oper.looksAt ops ⟨dst,.binOp op t x y yt,type,pos,after,guard⟩)) x:=B1 (by simp[Op.operands]);have hy:((G2 P y).get f).J4=B9 P (n8 f.tr (Oper.looksAt ops ⟨dst,.binOp op t x y yt,type,pos,after,guard⟩)) y:=B1 (by simp[Op.operands])
  have hb:Nu Q P ops A a i ms ls ⟨dst,.binOp op t x y yt,type,pos,after,guard⟩ f H nx k (rL (.bin (p6 dst) (Ns op) (G2 P x) (G2 P y) ⟨dst,.binOp op t x y yt,type,pos,after,guard⟩) Q P ops A a i ms ls f H nx k)∨rL (.bin (p6 dst) (Ns op) (G2 P x) (G2 P y) ⟨dst,.binOp op t x y yt,type,pos,after,guard⟩) Q P ops A a i ms ls f H nx k= .no:=by
   refine Fx (o:=⟨dst,.binOp op t x y yt,type,pos,after,guard⟩) rfl Kx (fun v hv=>⟨?_,ba hx hy hv⟩)
   have bl: ∀(z:Operand) (u:FV),u.J4=B9 P (n8 f.tr (Oper.looksAt ops ⟨dst,.binOp op t x y yt,type,pos,after,guard⟩)) z→((∃n,u= .i n)∨(∃n,u= .u n))→P4 P (n8 f.tr (Oper.looksAt ops ⟨dst,.binOp op t x y yt,type,pos,after,guard⟩)) z= []:=by
    rintro z u hu (⟨n,rfl⟩ | ⟨n,rfl⟩)<;>simp only[FV.J4]at hu<;>simp only[P4,←hu]<;>rfl
   have two:=KL ((G2 P x).get f) ((G2 P y).get f) (Ns op) hv;have b1:=bl x _ hx two.1;have b2:=bl y _ hy two.2;cases op<;>first | rfl | (simp only[N1,b1,b2];rfl)
  cases op<;>try exact hb
  ·simp only[cl];cases h:OQ P t<;>first | exact hb | exact Kx
  ·simp only[cl];cases h:OQ P t<;>first | exact hb | exact Kx
 | load t x=>
  simp only[cl]
  cases ht:Xx P t with
  | none=>exact Kx
  | some p=>
   obtain⟨g,n⟩:=p;have hx:((G2 P x).get f).J4=B9 P (n8 f.tr (Oper.looksAt ops ⟨dst,.load t x,type,pos,after,guard⟩)) x:=B1 (by simp[Op.operands]);show Nu Q P ops A a i ms ls _ f H nx k (FV.Ng ((G2 P x).get f) (fun b j=>Bool.rec .no (toQ (I2 g n H b j) (p6 dst) f H nx (k ms ((i,[b])::ls)) .no) (sS a [b] ms)) .no)∨FV.Ng ((G2 P x).get f) (fun b j=>Bool.rec .no (toQ (I2 g n H b j) (p6 dst) f H nx (k ms ((i,[b])::ls)) .no) (sS a [b] ms)) .no= .no;rcases Ar ((G2 P x).get f) (fun b j=>Bool.rec .no (toQ (I2 g n H b j) (p6 dst) f H nx (k ms ((i,[b])::ls)) .no) (sS a [b] ms)) .no with⟨b,j,hp,he⟩ | he
   ·rw[he];rw[hp]at hx;simp only[FV.J4]at hx
    cases hc:sS a [b] ms with
    | false=>exact .inr rfl
    | true=>
     show Nu Q P ops A a i ms ls _ f H nx k (FV.jJ (I2 g n H b j) (fun v=>(p6 dst).Bs v f fun M4=>k ms ((i,[b])::ls) M4 H nx) .no)∨FV.jJ (I2 g n H b j) (fun v=>(p6 dst).Bs v f fun M4=>k ms ((i,[b])::ls) M4 H nx) .no= .no
     have gR:rS a [b] ms=true:=by
      cases ms with
      | nil=>rfl
      | cons m l=>exact hc
     rcases Kg (I2 g n H b j) (fun v=>(p6 dst).Bs v f fun M4=>k ms ((i,[b])::ls) M4 H nx) .no with⟨_,h2⟩ | ⟨v,h1,h2⟩
     ·exact .inr h2
     ·rw[h2,F6]
      have qu0:N1 P ⟨dst,.load t x,type,pos,after,guard⟩ (n8 f.tr (Oper.looksAt ops ⟨dst,.load t x,type,pos,after,guard⟩))= [b]:=by
       simp only[N1,P4,←hx];rfl
      have hev:Qk P ⟨dst,.load t x,type,pos,after,guard⟩ (n8 f.tr (Oper.looksAt ops ⟨dst,.load t x,type,pos,after,guard⟩)) (T7 H [b])=some v:=by
       simp only[Qk,←hx];rw[qE (H':=H)]
       ·exact uK ht h1
       ·simp only[T7]
        cases ho:H.get b with
        | none=>simp[Tr.E5]
        | some z=>simp[Tr.V2]
      refine .inl ⟨v,⟨i,n8 f.tr (Oper.looksAt ops ⟨dst,.load t x,type,pos,after,guard⟩),v,H,nx,H,nx,T7 H [b],T7 H [b],[b],[],false⟩,I2 g n H b j,fun rs _=> ?_,h1,.inr (.inl ⟨rfl,gR,rfl⟩)⟩;simp only[Tf,Oc,qu0,hev]
   ·rw[he];exact .inr rfl
 | fieldAddr s x fd=>
  simp only[cl]
  cases hf:sO P s fd with
  | none=>exact Kx
  | some off=>
   have hx:((G2 P x).get f).J4=B9 P (n8 f.tr (Oper.looksAt ops ⟨dst,.fieldAddr s x fd,type,pos,after,guard⟩)) x:=B1 (by simp[Op.operands]);show Nu Q P ops A a i ms ls _ f H nx k (FV.Ng ((G2 P x).get f) (fun b j=>A8 (Nat.add j off) fun j=>(p6 dst).Bs (.p b j) f fun M4=>k ms ls M4 H nx) .no)∨FV.Ng ((G2 P x).get f) (fun b j=>A8 (Nat.add j off) fun j=>(p6 dst).Bs (.p b j) f fun M4=>k ms ls M4 H nx) .no= .no;rcases Ar ((G2 P x).get f) (fun b j=>A8 (Nat.add j off) fun j=>(p6 dst).Bs (.p b j) f fun M4=>k ms ls M4 H nx) .no with⟨b,j,hp,he⟩ | he
   ·rw[he,E8,F6];rw[hp]at hx;simp only[FV.J4]at hx;refine .inl (Sg (o:=⟨dst,.fieldAddr s x fd,type,pos,after,guard⟩) rfl rfl rfl ?_);simp only[Qk,←hx];exact YN hf b j
   ·rw[he];exact .inr rfl
 | indexAddr t x y=>
  simp only[cl]
  cases hl:EY P t with
  | none=>exact Kx
  | some p=>
   obtain⟨l,sz⟩:=p;refine Fx (o:=⟨dst,.indexAddr t x y,type,pos,after,guard⟩) rfl Kx (fun v hv=>⟨rfl,?_⟩);simp only[Qk];exact YC hl (B1 (o:=⟨dst,.indexAddr t x y,type,pos,after,guard⟩) (by simp[Op.operands])) (B1 (o:=⟨dst,.indexAddr t x y,type,pos,after,guard⟩) (by simp[Op.operands])) hv
 | pick c x y=>
  exact Fx (o:=⟨dst,.pick c x y,type,pos,after,guard⟩) rfl (.inr rfl) (fun v hv=>⟨rfl,XW (B1 (by simp[Op.operands])) (B1 (by simp[Op.operands])) (B1 (by simp[Op.operands])) hv⟩)
 | nilCheck x=>
  have hx:((G2 P x).get f).J4=B9 P (n8 f.tr (Oper.looksAt ops ⟨dst,.nilCheck x,type,pos,after,guard⟩)) x:=B1 (by simp[Op.operands]);show Nu Q P ops A a i ms ls _ f H nx k (FV.Ng ((G2 P x).get f) (fun b j=>(p6 dst).Bs (.p b j) f fun M4=>k ms ls M4 H nx) (Xy Q P ops A a i ms ls f H nx k ⟨dst,.nilCheck x,type,pos,after,guard⟩))∨FV.Ng ((G2 P x).get f) (fun b j=>(p6 dst).Bs (.p b j) f fun M4=>k ms ls M4 H nx) (Xy Q P ops A a i ms ls f H nx k ⟨dst,.nilCheck x,type,pos,after,guard⟩)= .no;rcases Ar ((G2 P x).get f) (fun b j=>(p6 dst).Bs (.p b j) f fun M4=>k ms ls M4 H nx) (Xy Q P ops A a i ms ls f H nx k ⟨dst,.nilCheck x,type,pos,after,guard⟩)with⟨b,j,hp,he⟩ | he
  ·rw[he,F6];rw[hp]at hx;simp only[FV.J4]at hx;refine .inl (Sg (o:=⟨dst,.nilCheck x,type,pos,after,guard⟩) rfl rfl rfl ?_);simp only[Qk,←hx]
  ·rw[he];exact Kx
 | extract x j=>exact Fx (o:=⟨dst,.extract x j,type,pos,after,guard⟩) rfl (.inr rfl) (fun v hv=>⟨rfl,YO (B1 (by simp[Op.operands])) hv⟩)
 | store t x y=>
  simp only[cl];cases P.info? t<;>exact Kx
 | alloc t=>
  simp only[cl]
  cases Nn P t with
  | none=>exact Kx
  | some p=>exact Kx
 | unOp op t x=>cases op<;>exact Kx
 | convert s t x=>
  simp only[cl];cases FO P s t<;>exact Kx
 | call c=>
  obtain⟨callee,args,argTypes⟩:=c
  cases callee with
  | invoke r mth=>exact Kx
  | builtin b=>
   cases b<;>try exact Kx
   simp only[cl];split
   ·rename_i x t ts ha ht;cases Ot P t<;>exact Kx
   ·exact Kx
  | value g=>cases g<;>exact Kx
 | _=>exact Kx
theorem UQ (a j:Nat):bV a j=a.testBit j:=by
 unfold bV Nat.testBit;have e:Nat.land 1 (Nat.shiftRight a j)=1&&&(a>>>j):=rfl;rw[e]
 cases h:Nat.beq (1&&&(a>>>j)) 0 with
 | true=>have:=Y0 h;simp[this]
 | false=>
  have:(1&&&(a>>>j))≠0:=fun e2=>by rw[e2]at h;cases h
  simpa using this
theorem ky (A:List Nat)(i j:Nat):Rt A i j=bV (A.getD i 0) j:=by rw[UQ];rfl
theorem eS: ∀l,iJ l []=true
 | []=>rfl
 | b::l=>by simp[iJ,kC,eS l]
structure Cov (rs ms:List Sp)(ls:List mO):Prop where
 fm:ms=rs.filter (fun r=> !A6 r)
 Mx: ∀r∈rs,A6 r=true→r.Mx= []∨(r.idx,r.Mx)∈ls
theorem Kf (h:A6 s=true):s.iF= []∧s.QB=false:=by
 unfold A6 at h;split at h
 ·rename_i h1 h2;exact⟨h1,h2⟩
 ·cases h
theorem Md : ∀ {rs:List Sp},K0 A i rs=K0 A i (rs.filter (fun r=> !A6 r))
 | []=>rfl
 | r::l=>by
  simp only[K0,Yk]
  cases hq:A6 r with
  | true=>
   simp only[Bool.not_true,Uc,if_false];rw[(Kf hq).1,Md (rs:=l)];cases Rt A i r.idx<;>rfl
  | false=>
   simp only[Bool.not_false,if_true,K0];rw[Md (rs:=l)]
theorem yo {Mx:List Nat}: ∀ {l:List Sp},rS a Mx l=true→ ∀m∈l,(bV a m.idx || Qt m Mx)=true
 | [],_,m,hm=>by cases hm
 | x::l,h,m,hm=>by
  simp only[rS]at h;split at h
  ·rename_i hx;rcases m6.1 hm with rfl | hm
   ·exact hx
   ·exact yo h m hm
  ·cases h
theorem kq : ∀ {l:List Sp},nj a s l=true→ ∀m∈l,(bV a m.idx || O6 m s)=true
 | [],_,m,hm=>by cases hm
 | x::l,h,m,hm=>by
  simp only[nj]at h;split at h
  ·rename_i hx;rcases m6.1 hm with rfl | hm
   ·exact hx
   ·exact kq h m hm
  ·cases h
theorem kx : ∀ {l:List mO},ny a s l=true→ ∀e∈l,(bV a e.1 || Qt s e.2)=true
 | [],_,m,hm=>by cases hm
 | x::l,h,m,hm=>by
  simp only[ny]at h;split at h
  ·rename_i hx;rcases m6.1 hm with rfl | hm
   ·exact hx
   ·exact kx h m hm
  ·cases h
theorem Lu (hs:A6 s=true)(h:A6 r=true∨s.Mx= []∨Qt r s.Mx=true):O6 r s=true:=by
 obtain⟨h1,h2⟩:=Kf hs;unfold O6;rw[h2,h1]
 cases hb:r.QB with
 | false=>
  simp only[iJ,Bool.and_true];rcases h with h | h | h
  ·rw[(Kf h).1];rfl
  ·rw[h];exact eS _
  ·unfold Qt at h;rw[hb]at h;exact h
 | true=>
  simp only[Ny,Z4];rcases h with h | h | h
  ·rw[(Kf h).2]at hb;cases hb
  ·rw[h];rfl
  ·unfold Qt at h;rw[hb]at h;exact h
theorem lB (hr:A6 r=true)(h:r.Mx= []∨Qt s r.Mx=true):O6 r s=true:=by
 obtain⟨h1,h2⟩:=Kf hr;unfold O6;rw[h2,h1]
 cases hb:s.QB with
 | false=>
  simp only[iJ,Z4];rcases h with h | h
  ·rw[h];exact eS _
  ·unfold Qt at h;rw[hb]at h;exact h
 | true=>
  simp only[Ny,Z4];rcases h with h | h
  ·rw[h];rfl
  ·unfold Qt at h;rw[hb]at h;exact h
theorem NE {v:V}(h:Tf F P A i rs o tm H nx=some (v,s)):s.idx=i:=by
 unfold Tf at h;split at h
 ·split at h
  ·split at h
   ·cases h;rfl
   ·cases h
  ·cases h
 ·split at h
  ·cases h;rfl
  ·split at h
   ·cases h;rfl
   ·cases h
theorem kZ {d:Option Tmp}{v:V}(h:sQ nt d=true): ∃G0,Ql nt tm d v=some G0∧ ∀(f:Fm) (fv:FV),(∀t,tm.get t=f.tr.get t)→fv.J4=some v→ ∀t,G0.get t=(f.Gc d fv).tr.get t:=by
 cases d with
 | none=>exact⟨tm,rfl,fun f fv e _ t=>e t⟩
 | some d=>
  have h:Nat.blt d nt=true:=h;refine⟨tm.put (some v) d,by simp only[Ql,h],fun f fv e hv t=> ?_⟩;rw[Tr.F7,Fm.Et];simp only[Fm.Gc,Fm.jd];by_cases ht:t=d
  ·rw[x9 ht,x9 ht,hv]
  ·rw[z9 ht,z9 ht,e,Fm.Et]
theorem qg7 : ∀(l:List Oper) (i:Nat) (rs ms:List Sp) (ls:List mO) (f:Fm) (tm:Tr V) (H:Tr v5) (nx:Nat) (f':Fm) (H':Tr v5) (j5:Nat),
  (∀t,tm.get t=f.tr.get t)→Cov rs ms ls→tz (Td P ops A i l) Q P ops A i ms ls f H nx= .ok f' H' j5→O1 nt l=true→
  ∃G0 ss,mh Q.f P ops nt A i l rs tm H nx=some (G0,H',j5,ss)∧(∀t,G0.get t=f'.tr.get t)∧Gs A ss=true∧ ∀r∈rs,Gq A r ss=true:=by
 intro l
 induction l with
 | nil=>
  intro i rs ms ls f tm H nx f' H' j5 htm Wb he _;have he:RR.ok f H nx= .ok f' H' j5:=he;cases he;exact⟨tm,[],rfl,htm,rfl,fun _ _=>rfl⟩
 | cons o l ih=>
  intro i rs ms ls f tm H nx f' H' j5 htm Wb he Z;have he:rL (gdD P ops o) Q P ops A (A.getD i 0) i ms ls f H nx (tz (Td P ops A (i+1) l) Q P ops A (i+1))= .ok f' H' j5:=he
  have FH:sQ nt o.dst=true:=by
   simp only[O1]at Z;split at Z
   ·assumption
   ·cases Z
  have j1:O1 nt l=true:=by
   simp only[O1]at Z;split at Z
   ·exact Z
   ·cases Z
  have hre:n8 tm (o.looksAt ops)=n8 f.tr (o.looksAt ops):=Ve htm _
  -- the operation is done
  have done:G7 ops o f.tr=some true→Nu Q P ops A (A.getD i 0) i ms ls o f H nx (tz (Td P ops A (i+1) l) Q P ops A (i+1)) (.ok f' H' j5)→
    ∃G0 ss,mh Q.f P ops nt A i (o::l) rs tm H nx=some (G0,H',j5,ss)∧(∀t,G0.get t=f'.tr.get t)∧Gs A ss=true∧ ∀r∈rs,Gq A r ss=true:=by
   rintro hg ⟨v,s,fv,M9,hv,hr⟩;have Za:=M9 rs (by rw[Wb.fm];exact Md);have FF:=NE Za;obtain⟨Yw,Nh,FG⟩:=kZ (tm:=tm) (v:=v) FH;have II:=FG f fv htm hv
   have key: ∀Fj ls',Cov (s::rs) Fj ls'→tz (Td P ops A (i+1) l) Q P ops A (i+1) Fj ls' (f.Gc o.dst fv) s.H' s.j5= .ok f' H' j5→(∀r∈rs,(Rt A s.idx r.idx || O6 r s)=true)→
     ∃G0 ss,mh Q.f P ops nt A i (o::l) rs tm H nx=some (G0,H',j5,ss)∧(∀t,G0.get t=f'.tr.get t)∧Gs A ss=true∧ ∀r∈rs,Gq A r ss=true:=by
    intro Fj ls' hc hq hp;obtain⟨PF,ss,h1,h2,h3,h4⟩:=ih (i+1) (s::rs) Fj ls' _ Yw _ _ _ _ _ II hc hq j1;refine⟨PF,s::ss,?_,h2,?_,fun r hr=> ?_⟩
    ·simp only[mh];rw[hre,Ri,hg];simp only[Za,Nh,h1]
    ·simp only[Gs,h4 s N3,h3]
    ·simp only[Gq,hp r hr,h4 r (T8 _ hr)]
   rcases hr with⟨hq,qn4,hr⟩ | ⟨hq,PS,hr⟩ | ⟨hq,hm,hl,hr⟩
   ·refine key ms ls ⟨?_,fun r gV qX=> ?_⟩ hr.symm (fun r gV=> ?_)
    ·rw[Yk,hq];simpa using Wb.fm
    ·rcases m6.1 gV with rfl | gV
     ·exact .inl qn4
     ·exact Wb.Mx r gV qX
    ·rw[Lu hq (.inr (.inl qn4)),Bool.or_true]
   ·refine key ms ((i,s.Mx)::ls) ⟨?_,fun r gV qX=> ?_⟩ hr.symm (fun r gV=> ?_)
    ·rw[Yk,hq];simpa using Wb.fm
    ·rcases m6.1 gV with rfl | gV
     ·exact .inr (by rw[FF];exact N3)
     ·rcases Wb.Mx r gV qX with h | h
      ·exact .inl h
      ·exact .inr (T8 _ h)
    ·cases qX:A6 r with
     | true=>rw[Lu hq (.inl qX),Bool.or_true]
     | false=>
      have hm:r∈ms:=by rw[Wb.fm];exact G4.2 ⟨gV,by simp[qX]⟩
      have:=yo PS r hm;rw[FF,ky]
      cases hb:bV (A.getD i 0) r.idx with
      | true=>rfl
      | false=>rw[hb,Yl]at this;rw[Lu hq (.inr (.inr this))];rfl
   ·refine key (s::ms) ls ⟨?_,fun r gV qX=> ?_⟩ hr.symm (fun r gV=> ?_)
    ·rw[Yk,hq];simp;exact Wb.fm
    ·rcases m6.1 gV with rfl | gV
     ·rw[hq]at qX;cases qX
     ·exact Wb.Mx r gV qX
    ·rw[FF,ky]
     cases hb:bV (A.getD i 0) r.idx with
     | true=>rfl
     | false=>
      cases qX:A6 r with
      | true=>
       rcases Wb.Mx r gV qX with h | h
       ·rw[lB qX (.inl h)];rfl
       ·have:=kx hl _ h;simp only at this;rw[hb,Yl]at this;rw[lB qX (.inr this)];rfl
      | false=>
       have hm':r∈ms:=by rw[Wb.fm];exact G4.2 ⟨gV,by simp[qX]⟩
       have:=kq hm r hm';rw[hb]at this;exact this
  -- the guard is false
  have skip:G7 ops o f.tr=some false→tz (Td P ops A (i+1) l) Q P ops A (i+1) ms ls (f.Gc o.dst (.v V.undef)) H nx= .ok f' H' j5→
    ∃G0 ss,mh Q.f P ops nt A i (o::l) rs tm H nx=some (G0,H',j5,ss)∧(∀t,G0.get t=f'.tr.get t)∧Gs A ss=true∧ ∀r∈rs,Gq A r ss=true:=by
   intro hg hq;obtain⟨Yw,Nh,FG⟩:=kZ (tm:=tm) (v:=V.undef) FH;have II:=FG f (.v V.undef) htm rfl
   have hc:Cov (⟨i,n8 f.tr (o.looksAt ops),V.undef,H,nx,H,nx,.nil,.nil,[],[],false⟩::rs) ms ls:=by
    refine⟨?_,fun r gV qX=> ?_⟩
    ·rw[Yk];simpa[A6]using Wb.fm
    ·rcases m6.1 gV with rfl | gV
     ·exact .inl rfl
     ·exact Wb.Mx r gV qX
   obtain⟨PF,ss,h1,h2,h3,h4⟩:=ih (i+1) _ ms ls _ Yw _ _ _ _ _ II hc hq j1;refine⟨PF,⟨i,n8 f.tr (o.looksAt ops),V.undef,H,nx,H,nx,.nil,.nil,[],[],false⟩::ss,?_,h2,?_,fun r hr=> ?_⟩
   ·simp only[mh];rw[hre,Ri,hg];simp only[Nh,h1]
   ·simp only[Gs,h4 _ N3,h3]
   ·simp only[Gq,Lu (r:=r) (s:=⟨i,n8 f.tr (o.looksAt ops),V.undef,H,nx,H,nx,.nil,.nil,[],[],false⟩) rfl (.inr (.inl rfl)),Bool.or_true,h4 r (T8 _ hr)]
  have plain:G7 ops o f.tr=some true→rL (cl P o) Q P ops A (A.getD i 0) i ms ls f H nx (tz (Td P ops A (i+1) l) Q P ops A (i+1))= .ok f' H' j5→
    ∃G0 ss,mh Q.f P ops nt A i (o::l) rs tm H nx=some (G0,H',j5,ss)∧(∀t,G0.get t=f'.tr.get t)∧Gs A ss=true∧ ∀r∈rs,Gq A r ss=true:=by
   intro hg hr;rcases lu (Q:=Q) (P:=P) ops A (A.getD i 0) i ms ls o f H nx (tz (Td P ops A (i+1) l) Q P ops A (i+1))with h | h
   ·rw[hr]at h;exact done hg h
   ·rw[hr]at h;cases h
  unfold gdD at he;split at he
  ·rename_i hg;exact plain (by simp[G7,hg]) he
  ·rename_i j want hg;split at he
   ·rename_i oj hj;split at he
    ·rename_i d hd;have he:gdK ((Tc d).get f) want (rL (cl P o) Q P ops A (A.getD i 0) i ms ls f H nx (tz (Td P ops A (i+1) l) Q P ops A (i+1))) (jW (p6 o.dst) f H nx (tz (Td P ops A (i+1) l) Q P ops A (i+1) ms ls))= .ok f' H' j5:=he;have hu:((Tc d).get f).J4=f.tr.get d:=(Fm.Et f d).symm;have sK:jW (p6 o.dst) f H nx (tz (Td P ops A (i+1) l) Q P ops A (i+1) ms ls)=tz (Td P ops A (i+1) l) Q P ops A (i+1) ms ls (f.Gc o.dst (.v V.undef)) H nx:=F6 o.dst (.v V.undef) f (fun M4=>tz (Td P ops A (i+1) l) Q P ops A (i+1) ms ls M4 H nx);rw[sK]at he
     have Cn: ∀r,(match f.tr.get d with | some (.c false [.bool b])=>some (b==want) | some (.tup _)=>some false | _=>none)=some r→G7 ops o f.tr=some r:=by
      intro r hr;simp only[G7,hg,hj,hd];exact hr
     generalize (Tc d).get f=u at hu he;cases u<;>try(cases he;done)
     ·rename_i x;simp only[FV.J4]at hu;rw[←hu]at Cn;cases x<;>cases want
      ·exact plain (Cn true rfl) he
      ·exact skip (Cn false rfl) he
      ·exact skip (Cn false rfl) he
      ·exact plain (Cn true rfl) he
     ·rename_i x;simp only[FV.J4]at hu;rw[←hu]at Cn
      cases x with
      | c g l=>cases he
      | tup l=>exact skip (Cn false rfl) he
    ·cases he
   ·cases he
theorem LD (he:ur Q P ops f H nx= .ok f' H' j5)(Z:O1 nt ops.toList=true):
  ∃G0,dE Q.f P ops nt f.tr H nx=some (G0,H',j5)∧ ∀t,G0.get t=f'.tr.get t:=by
 unfold ur at he
 cases hd:zH ops with
 | false=>rw[hd]at he;cases he
 | true=>
  rw[hd]at he;obtain⟨G0,ss,h1,h2,h3,_⟩:=qg7 (nt:=nt) ops.toList 0 [] [] [] f f.tr H nx f' H' j5 (fun _=>rfl) ⟨rfl,fun _ h=>by cases h⟩ he Z;refine⟨G0,?_,h2⟩;unfold zH at hd;simp only[dE,hd,h1,h3]
def ZM (P:Program)(c:Code)(nt:Nat)(f:Fm)(H:Tr v5)(nx:Nat)(ds:List Nat)(ex:Ex)(f':Fm)(H':Tr v5)(j5:Nat)(D8:List Nat):Prop:=
 Dm H.get H'.get nx j5∧ ∀η h w A n Q,Ctx P nt η h w H nx j5 f.tr ds none A none→Ends η h w H H' nx j5 f'.tr D8 nt (Q (CQ ex))→c.wpIn (fe none) n P Q A w
theorem tU (hQ:QE P Q m){c:Code}(he:um c Q P nt f H nx ds= .ok ex f' H' j5 D8):ZM P c nt f H nx ds ex f' H' j5 D8:=by
 unfold um at he
 cases hc:Q.f.code c nt none f.tr H nx ds with
 | none=>rw[hc]at he;cases he
 | some r=>
  obtain⟨ex1,Yw,H1,L6,bG⟩:=r;rw[hc]at he;cases he;obtain⟨d,h1⟩:=hQ.f.code _ _ _ _ _ _ _ _ _ _ _ _ hc;exact⟨d,fun η h w A n R cx hE=>(h1 η h w A none n R cx (fun o7 w' A' s ra sz dr=>hE o7 w' A' s (ra.congr (Fm.MT Yw)) sz dr)).wp⟩
theorem ji {r:RR}(h:EV r ds= .ok ex f' H' j5 D8):r= .ok f' H' j5∧ex= .normal∧D8=ds:=by
 cases r with
 | no=>cases h
 | ok f H nx=>cases h;exact⟨rfl,rfl,rfl⟩
theorem tQ {r:QR}{k:CK}(h:sE r k= .ok ex f' H' j5 D8):
  (∃f1 H1 L6 bG,r= .ok .normal f1 H1 L6 bG∧k f1 H1 L6 bG= .ok ex f' H' j5 D8)∨(r= .ok ex f' H' j5 D8∧ex≠ .normal):=by
 cases r with
 | no=>cases h
 | ok e f1 H1 L6 bG=>
  cases e with
  | normal=>exact .inl ⟨f1,H1,L6,bG,rfl,h⟩
  | exit i=>cases h;exact .inr ⟨rfl,by simp⟩
  | goto l=>cases h;exact .inr ⟨rfl,by simp⟩
  | ret=>cases h;exact .inr ⟨rfl,by simp⟩
theorem qs5 (hN:Bj P)(Qo:P.follows .mixedOrders=true)(hQ:QE P Q m)(hb:b≤nt): ∀(c:Code),Cd b c=true→ ∀(f:Fm) (H:Tr v5) (nx:Nat) (ds:List Nat) (ex:Ex) (f':Fm) (H':Tr v5) (j5:Nat) (D8:List Nat),
  qc c Q P nt f H nx ds= .ok ex f' H' j5 D8→ZM P c nt f H nx ds ex f' H' j5 D8:=by
 intro c
 induction c with
 | skip=>
  intro _ f H nx ds ex f' H' j5 D8 he;have he:QR.ok .normal f H nx ds= .ok ex f' H' j5 D8:=he;cases he;exact⟨Dm.refl _ _,fun η h w A n R c hE=>wpIn_skip (hE η w A (Y6.refl c.pre.ext c.pre.rh) c.ra c.sz c.dr)⟩
 | exit id=>
  intro _ f H nx ds ex f' H' j5 D8 he;have he:QR.ok (.exit id) f H nx ds= .ok ex f' H' j5 D8:=he;cases he;exact⟨Dm.refl _ _,fun η h w A n R c hE=>wpIn_exit (hE η w A (Y6.refl c.pre.ext c.pre.rh) c.ra c.sz c.dr)⟩
 | ret=>
  intro _ f H nx ds ex f' H' j5 D8 he;have he:QR.ok .ret f H nx ds= .ok ex f' H' j5 D8:=he;cases he;exact⟨Dm.refl _ _,fun η h w A n R c hE=>wpIn_ret (hE η w A (Y6.refl c.pre.ext c.pre.rh) c.ra c.sz c.dr)⟩
 | label l=>
  intro _ f H nx ds ex f' H' j5 D8 he;have he:QR.ok .normal f H nx ds= .ok ex f' H' j5 D8:=he;cases he;exact⟨Dm.refl _ _,fun η h w A n R c hE=>wpIn_label (hE η w A (Y6.refl c.pre.ext c.pre.rh) c.ra c.sz c.dr)⟩
 | goto l=>
  intro _ f H nx ds ex f' H' j5 D8 he;have he:QR.ok (.goto l) f H nx ds= .ok ex f' H' j5 D8:=he;cases he;exact⟨Dm.refl _ _,fun η h w A n R c hE=>wpIn_goto (hE η w A (Y6.refl c.pre.ext c.pre.rh) c.ra c.sz c.dr)⟩
 | refuse why=>
  intro _ f H nx ds ex f' H' j5 D8 he;have he:QR.no= .ok ex f' H' j5 D8:=he;cases he
 | region id ops draw=>
  intro Z f H nx ds ex f' H' j5 D8 he;have Z:O1 b ops.toList=true:=Z
  cases draw with
  | false=>
   have he:EV (dv (x_ P ops ops.toList) Q P ops f H nx) ds= .ok ex f' H' j5 D8:=he;obtain⟨h1,rfl,rfl⟩:=ji he;obtain⟨d,h2⟩:=SH hN hQ _ _ _ _ _ _ _ h1 Z;refine⟨d,fun η h w A n R c hE=> ?_⟩;exact wpIn_region_list (h2 η h w A none n R c.pre c.ra (by rw[c.sz];exact hb) c.gl (fun o7 w' A' s ra sz my=>hE o7 w' A' s ra (sz.trans c.sz) (by rw[my];exact c.dr.mono s.le)))
  | true=>
   have he:EV (ur Q P ops f H nx) ds= .ok ex f' H' j5 D8:=he;obtain⟨h1,rfl,rfl⟩:=ji he
   have j1:O1 nt ops.toList=true:=by
    have key: ∀l,O1 b l=true→O1 nt l=true:=by
     intro l
     induction l with
     | nil=>intro _;rfl
     | cons o l ih=>
      intro h;simp only[O1]at h⊢;split at h
      ·rename_i ho
       have:sQ nt o.dst=true:=by
        cases hd:o.dst with
        | none=>rfl
        | some t=>rw[hd]at ho;have:=Ce (show Nat.blt t b=true from ho);show Nat.blt t nt=true;simp[kj];omega
       rw[this];exact ih h
      ·cases h
    exact key _ Z
   obtain⟨G0,h2,h3⟩:=LD (nt:=nt) h1 j1;obtain⟨d,h4⟩:=lX hN Qo hQ.f.ops h2;refine⟨d,fun η h w A n R c hE=> ?_⟩;exact h4 η h w A none n id R c.pre c.ra c.sz c.gl (fun o7 w' A' s ra sz my=>hE o7 w' A' s (ra.congr (fun t=>(h3 t).symm)) sz (by rw[my];exact c.dr.mono s.le))
 | seq a b' iha ihb=>
  intro Z f H nx ds ex f' H' j5 D8 he;have Z:(Cd b a&&Cd b b')=true:=Z;rw[p9]at Z;have he:sE (qc a Q P nt f H nx ds) (qc b' Q P nt)= .ok ex f' H' j5 D8:=he;rcases tQ he with⟨f1,H1,L6,bG,h1,h2⟩ | ⟨h1,X3⟩
  ·obtain⟨d1,g1⟩:=iha Z.1 _ _ _ _ _ _ _ _ _ h1;obtain⟨d2,g2⟩:=ihb Z.2 _ _ _ _ _ _ _ _ _ h2;refine⟨d1.trans d2,fun η h w A n R c hE=>wpIn_seq (g1 η h w A n _ (c.less d2.le) (fun O4 w1 A1 s1 Fh Km Iv=> ?_))⟩;exact g2 O4 _ w1 A1 n R (c.next d1 s1 Fh Km Iv) (hE.next d1 d2 s1)
  ·obtain⟨d1,g1⟩:=iha Z.1 _ _ _ _ _ _ _ _ _ h1;refine⟨d1,fun η h w A n R c hE=>wpIn_seq (g1 η h w A n _ c (fun O4 w1 A1 s1 Fh Km Iv=> ?_))⟩;rw[Lt X3];exact hE O4 w1 A1 s1 Fh Km Iv
 | cond x a b' iha ihb=>
  intro Z f H nx ds ex f' H' j5 D8 he;have Z:(Cd b a&&Cd b b')=true:=Z;rw[p9]at Z;have he:YQ ((G2 P x).get f) (qc a Q P nt) (qc b' Q P nt) f H nx ds= .ok ex f' H' j5 D8:=he;have hx:=G6 P f x;generalize (G2 P x).get f=u at he hx;cases u<;>try(cases he;done)
  rename_i t;simp only[FV.J4]at hx;have hc:dF P f.tr x=some t:=by simp only[dF,←hx]
  cases t with
  | true=>
   obtain⟨d,h1⟩:=iha Z.1 _ _ _ _ _ _ _ _ _ he;exact⟨d,fun η h w A n R c hE=>wpIn_cond_true (Qf hc c.ra c.gl) (h1 η h w A n R c hE)⟩
  | false=>
   obtain⟨d,h1⟩:=ihb Z.2 _ _ _ _ _ _ _ _ _ he;exact⟨d,fun η h w A n R c hE=>wpIn_cond_false (Qf hc c.ra c.gl) (h1 η h w A n R c hE)⟩
 | block id b' ih=>
  intro Z f H nx ds ex f' H' j5 D8 he;have Z:Cd b b'=true:=Z;have he:JU (qc b' Q P nt f H nx ds) id= .ok ex f' H' j5 D8:=he
  cases hr:qc b' Q P nt f H nx ds with
  | no=>rw[hr]at he;cases he
  | ok e f1 H1 L6 bG=>
   rw[hr]at he;obtain⟨d1,g1⟩:=ih Z _ _ _ _ _ _ _ _ _ hr
   cases e with
   | normal=>
    cases he;exact⟨d1,fun η h w A n R c hE=>wpIn_block (g1 η h w A n _ c (fun O4 w1 A1 s1 Fh Km Iv=>hE O4 w1 A1 s1 Fh Km Iv))⟩
   | goto l=>
    cases he;exact⟨d1,fun η h w A n R c hE=>wpIn_block (g1 η h w A n _ c (fun O4 w1 A1 s1 Fh Km Iv=>hE O4 w1 A1 s1 Fh Km Iv))⟩
   | ret=>
    cases he;exact⟨d1,fun η h w A n R c hE=>wpIn_block (g1 η h w A n _ c (fun O4 w1 A1 s1 Fh Km Iv=>hE O4 w1 A1 s1 Fh Km Iv))⟩
   | exit j=>
    have he:(Bool.rec (motive:=fun _=>QR) (.ok (.exit j) f1 H1 L6 bG) (.ok .normal f1 H1 L6 bG) (Nat.beq j id))= .ok ex f' H' j5 D8:=he
    cases hj:Nat.beq j id with
    | true=>
     rw[hj]at he;cases he;refine⟨d1,fun η h w A n R c hE=>wpIn_block (g1 η h w A n _ c (fun O4 w1 A1 s1 Fh Km Iv=> ?_))⟩;show Exit.inBlock id R (.exit j) A1 w1;simp only[Exit.inBlock,Y0 hj,if_true];exact hE O4 w1 A1 s1 Fh Km Iv
    | false=>
     rw[hj]at he;cases he;have X3: ¬(j=id):=fun e=>by subst e;simp at hj
     refine⟨d1,fun η h w A n R c hE=>wpIn_block (g1 η h w A n _ c (fun O4 w1 A1 s1 Fh Km Iv=> ?_))⟩;show Exit.inBlock id R (.exit j) A1 w1;simp only[Exit.inBlock,X3,if_false];exact hE O4 w1 A1 s1 Fh Km Iv
 | loop b' ih=>
  intro Z f H nx ds ex f' H' j5 D8 he;have Z:Cd b b'=true:=Z;have he:ue (qc b' Q P nt) 1000000 f H nx ds= .ok ex f' H' j5 D8:=he
  have key: ∀(k:Nat) (f:Fm) (H:Tr v5) (nx:Nat) (ds:List Nat),ue (qc b' Q P nt) k f H nx ds= .ok ex f' H' j5 D8→
    Dm H.get H'.get nx j5∧ ∀η h w A n R,Ctx P nt η h w H nx j5 f.tr ds none A none→Ends η h w H H' nx j5 f'.tr D8 nt (R (CQ ex))→Code.roundsIn (fe none) n P b' R k A w:=by
   intro k
   induction k with
   | zero=>intro f H nx ds h;cases h
   | succ k ihk=>
    intro f H nx ds h;have h:sE (qc b' Q P nt f H nx ds) (JX (ue (qc b' Q P nt) k))= .ok ex f' H' j5 D8:=h;rcases tQ h with⟨f1,H1,L6,bG,h1,h2⟩ | ⟨h1,X3⟩
    ·obtain⟨d1,g1⟩:=ih Z _ _ _ _ _ _ _ _ _ h1;obtain⟨d2,g2⟩:=ihk _ _ _ _ h2;refine⟨d1.trans d2,fun η h w A n R c hE=> ?_⟩;refine g1 η h w A n (Exit.then (Code.roundsIn (fe none) n P b' R k) R) (c.less d2.le) (fun O4 w1 A1 s1 Fh Km Iv=> ?_);exact g2 O4 _ w1 A1 n R (c.next d1 s1 Fh Km Iv) (hE.next d1 d2 s1)
    ·obtain⟨d1,g1⟩:=ih Z _ _ _ _ _ _ _ _ _ h1;refine⟨d1,fun η h w A n R c hE=> ?_⟩;refine g1 η h w A n (Exit.then (Code.roundsIn (fe none) n P b' R k) R) c (fun O4 w1 A1 s1 Fh Km Iv=> ?_);rw[Lt X3];exact hE O4 w1 A1 s1 Fh Km Iv
  obtain⟨d,h1⟩:=key _ _ _ _ _ he;exact⟨d,fun η h w A n R c hE=>wpIn_loop_rounds 1000000 (h1 η h w A n R c hE)⟩
 | scope b' _=>intro _ f H nx ds ex f' H' j5 D8 he;exact tU hQ he
 | rangeFunc g ps as bo _ _=>intro _ f H nx ds ex f' H' j5 D8 he;exact tU hQ he
theorem Ij: ∀ {l:List FV} {xs:List V},Kz l=some xs→xs.length=l.length
 | [],xs,h=>by cases h;rfl
 | v::l,xs,h=>by
  simp only[Kz]at h
  cases hv:v.J4 with
  | none=>simp[hv]at h
  | some x=>cases hl:Kz l with
   | none=>simp[hv,hl]at h
   | some ys=>simp[hv,hl]at h;subst h;simp[Ij hl]
theorem dY: ∀ {l:List FV} {xs:List V} (n:Nat),Kz l=some xs→(iD l n).J4=xs[n]?
 | [],xs,n,h=>by cases h;rfl
 | v::l,xs,n,h=>by
  simp only[Kz]at h
  cases hv:v.J4 with
  | none=>simp[hv]at h
  | some x=>cases hl:Kz l with
   | none=>simp[hv,hl]at h
   | some ys=>
    simp[hv,hl]at h;subst h
    cases n with
    | zero=>exact hv
    | succ n=>exact dY n hl
theorem yq: ∀l:List FV,RE l=l.length
 | []=>rfl
 | _::l=>by show Nat.add (RE l) 1=_;rw[yq l];rfl
theorem mG (l:List FV)(n:Nat): ∀j,j<8→(Eu l n).at (i8 j)=iD l (n+j)
 | 0,_=>rfl | 1,_=>rfl | 2,_=>rfl | 3,_=>rfl | 4,_=>rfl | 5,_=>rfl | 6,_=>rfl | 7,_=>rfl
 | n+8,h=>absurd h (by omega)
theorem aK (j:I8):(R8.none).at j= .no:=by cases j<;>rfl
theorem AO (h:Kz l=some xs)(hl:l.length≤8)(t:Nat):(sN l).val t=xs[t]? :=by
 have hlen:=Ij h;by_cases ht:t<64
 ·rw[Fm.Ry _ ht];by_cases h8:t<8
  ·have e1:(sN l).at (i8 (t / 8))=Eu l 0:=by rw[show t / 8=0 by omega];rfl
   rw[e1,mG _ _ _ (by omega),show 0+t % 8=t by omega,dY t h]
  ·have e1:(sN l).at (i8 (t / 8))=R8.none:=by
    rcases(show t / 8=1∨t / 8=2∨t / 8=3∨t / 8=4∨t / 8=5∨t / 8=6∨t / 8=7 by omega)with e | e | e | e | e | e | e<;>rw[e]<;>rfl
   rw[e1,aK,Ra (by omega)];rfl
 ·rw[Fm.Nv _ (by omega),Ra (by omega)];exact Tr.E5 t
theorem zk (h:Kz l=some xs)(hl:l.length≤64)(t:Nat):(nR l).val t=xs[t]? :=by
 have hlen:=Ij h;by_cases ht:t<64
 ·rw[Fm.Ry _ ht]
  have e1:(nR l).at (i8 (t / 8))=Eu l (8*(t / 8)):=by
   rcases(show t / 8=0∨t / 8=1∨t / 8=2∨t / 8=3∨t / 8=4∨t / 8=5∨t / 8=6∨t / 8=7 by omega)with e | e | e | e | e | e | e | e<;>rw[e]<;>rfl
  rw[e1,mG _ _ _ (by omega),show 8*(t / 8)+t % 8=t by omega,dY t h]
 ·rw[Fm.Nv _ (by omega),Ra (by omega)];exact Tr.E5 t
theorem tP: ∀(l:List V) (i t:Nat),(xU i l).get t=if i≤t then l[t - i]? else none
 | [],i,t=>by simp[xU,Tr.E5]
 | v::l,i,t=>by
  simp only[xU,Tr.F7];by_cases e:t=i
  ·subst e;simp
  ·rw[z9 e,tP l (i+1) t];by_cases h:i+1≤t
   ·rw[x9 h,x9 (by omega),show t - i=(t - (i+1))+1 by omega];rfl
   ·rw[z9 h,z9 (by omega)]
theorem SE (P:Program)(f:Fm)(H:Tr v5)(r:ResultVar):qa4 P f H r=mU P f.tr H r:=by
 cases r<;>simp only[qa4,mU,Fm.Et]<;>rfl
theorem tX (P:Program)(f:Fm)(H:Tr v5): ∀l,ud P f H l=Jj P f.tr H l
 | []=>rfl
 | r::l=>by
  simp only[ud,Jj,SE,tX P f H l];cases mU P f.tr H r<;>cases Jj P f.tr H l<;>rfl
theorem LX {u:FV}(h:GZ u H nx= .ok v H' j5):H'=H∧j5=nx∧ ∃g l,u.J4=some (.c g l)∧v.J4=some (.c g l):=by
 cases u<;>try(cases h;exact⟨rfl,rfl,_,_,rfl,rfl⟩)
 ·cases h
 ·rename_i x
  cases x with
  | c g l=>cases h;exact⟨rfl,rfl,g,l,rfl,rfl⟩
  | tup l=>cases h
theorem rl (h:nK (rM fn.results.toList) P f H nx= .ok v H' j5): ∃cs,Jj P f.tr H fn.results.toList=some cs∧v.J4=some (xW cs)∧H'=H∧j5=nx:=by
 have all: ∀l,eA P l f H nx= .ok v H' j5→ ∃cs,Jj P f.tr H l=some cs∧v.J4=some (xW cs)∧H'=H∧j5=nx:=by
  intro l h;unfold eA at h;split at h
  ·rename_i cs Gb;cases h;exact⟨cs,by rw[←tX];exact Gb,FV.Ia _,rfl,rfl⟩
  ·cases h
 generalize fn.results.toList=l at h
 match l,h with
 | [],h=>exact all _ h
 | [.cell a t],h=>exact all _ h
 | a::b::r,h=>exact all _ (by cases a<;>exact h)
 | [.tmp t],h=>
  have h:GZ ((Tc t).get f) H nx= .ok v H' j5:=h;obtain⟨rfl,rfl,g,m,h1,h2⟩:=LX h;have ht:f.tr.get t=some (.c g m):=by rw[Fm.Et];exact h1
  exact⟨[(g,m)],by simp only[Jj,mU,ht],h2,rfl,rfl⟩
theorem rr (h:nM ds P (rM fn.results.toList) f H nx= .ok v H' j5): ∃x,v.J4=some x∧sG P fn f.tr H nx ds=some (x,H',j5):=by
 have key: ∀H1,Ld ds H=some H1→nK (rM fn.results.toList) P f H1 nx= .ok v H' j5→ ∃x,v.J4=some x∧sG P fn f.tr H nx ds=some (x,H',j5):=by
  intro H1 h1 h2;obtain⟨cs,g1,g2,rfl,rfl⟩:=rl h2;exact⟨_,g2,by simp only[sG,h1,g1]⟩
 cases ds with
 | nil=>exact key H rfl h
 | cons d l=>
  have h:JO (Ld (d::l) H) P (rM fn.results.toList) f nx= .ok v H' j5:=h
  cases hd:Ld (d::l) H with
  | none=>rw[hd]at h;cases h
  | some H1=>rw[hd]at h;exact key H1 hd h
theorem LF (hN:Bj P)(Qo:P.follows .mixedOrders=true)(hQ:QE P Q m){f:FuncId}(he:GR Q P f args H nx= .ok v H' j5)(CB:Kz args=some xs):
  ∃x,v.J4=some x∧Lh P f xs H nx x H' j5:=by
 unfold GR fi at he;split at he
 ·rename_i fn hf;split at he
  ·rename_i c hb;split at he
   ·rename_i Z;have he:qa3 (RE args) fn.ntmps c (rM fn.results.toList) Q P args H nx= .ok v H' j5:=he;have hlen:=Ij CB
    have M9: ∃fr:Fm,(∀t,fr.val t=xs[t]?)∧args.length≤fn.ntmps∧qc9 (qc c Q P fn.ntmps fr H nx []) P (rM fn.results.toList)= .ok v H' j5:=by
     unfold qa3 at he;rw[yq]at he
     cases h1:Nat.ble args.length 8 with
     | true=>
      rw[h1]at he
      cases h2:Nat.ble args.length fn.ntmps with
      | false=>rw[h2]at he;cases he
      | true=>rw[h2]at he;exact⟨sN args,AO CB (G9 h1),G9 h2,he⟩
     | false=>
      rw[h1]at he
      cases h2:Nat.ble args.length fn.ntmps with
      | false=>rw[h2]at he;cases he
      | true=>
       rw[h2]at he
       cases h3:Nat.ble args.length 64 with
       | false=>rw[h3]at he;cases he
       | true=>rw[h3]at he;exact⟨nR args,zk CB (G9 h3),G9 h2,he⟩
    obtain⟨fr,PQ,hle,Nj⟩:=M9
    cases hr:qc c Q P fn.ntmps fr H nx []with
    | no=>rw[hr]at Nj;cases Nj
    | ok ex f1 H1 L6 ds=>
     rw[hr]at Nj
     have hex:(ex= .normal∨ex= .ret)∧nM ds P (rM fn.results.toList) f1 H1 L6= .ok v H' j5:=by
      cases ex with
      | normal=>exact⟨.inl rfl,Nj⟩
      | ret=>exact⟨.inr rfl,Nj⟩
      | exit i=>cases Nj
      | goto l=>cases Nj
     obtain⟨x,hv,qi1⟩:=rr hex.2;obtain⟨d1,h1⟩:=qs5 hN Qo hQ (a9 fn.ntmps) c Z _ _ _ _ _ _ _ _ _ hr;obtain⟨rfl,d2,h2⟩:=MM qi1;refine⟨x,hv,⟨fn,hf,by rw[hb];rfl⟩,d1.trans d2,fun η h w X8 p Yx hg=> ?_⟩;have Nc:=Yx.length
     have qi4:CallsIn (fe none) 0 P f ⟨X8⟩ w (Vb η h w H.get H'.get nx j5 x):=by
      refine callsIn_of_wp_marks hf hb trivial ?_ rfl;refine h1 η h w ⟨(⟨X8⟩:Array Value)++Array.replicate (fn.ntmps - (⟨X8⟩:Array Value).size) Go.undef,[]⟩ 0 _ ⟨p,?_,?_,trivial,hg,trivial⟩ (fun O4 w1 A1 s1 Fh Km Iv=> ?_)
      ·have:=RX xs X8 Yx 0 [] (List.replicate (fn.ntmps - X8.length) Go.undef) rfl
       have e:(⟨X8⟩:Array Value)++Array.replicate (fn.ntmps - (⟨X8⟩:Array Value).size) Go.undef=⟨[]++X8++List.replicate (fn.ntmps - X8.length) Go.undef⟩:=by
        apply Ky;simp
       simp only;rw[e];exact this.congr (fun t=>by rw[Fm.Et,PQ,tP];simp)
      ·simp;omega
      ·have hl:=h2 O4 _ w1 A1 0 (Vb η h w H.get H'.get nx j5 x) (p.next d1 s1) Fh Iv (fun cv w' hv s'=>⟨cv,O4,rfl,hv,Y6.trans d1 d2 s1 s'⟩);rcases hex.1 with rfl | rfl<;>exact hl
     exact callsIn_wide.1 (show CallsIn Fence.wide 0 P f ⟨X8⟩ w _ from qi4)
   ·cases he
  ·cases he
 ·cases he
def Ey (P:Program)(hk:Zm):Prop:= ∀f args H nx v H' j5,hk f args H nx= .ok v H' j5→ ∀xs,Kz args=some xs→ ∃x,v.J4=some x∧Lh P f xs H nx x H' j5
theorem lF (P:Program):Ey P yZ:=fun _ _ _ _ _ _ _ h=>by cases h
theorem gA: ∀l,Kz (jX l)=some l
 | []=>rfl
 | v::l=>by simp only[jX,Kz,FV.Ia,gA l]
theorem kY (hN:Bj P)(Qo:P.follows .mixedOrders=true)(hh:Ey P hk)(hQ:QE P Q m){f:FuncId}(he:Wg hk Q P f args H nx= .ok v H' j5)(CB:Kz args=some xs):
  ∃x,v.J4=some x∧Lh P f xs H nx x H' j5:=by
 unfold Wg at he
 cases h:hk f args H nx with
 | no=>rw[h]at he;exact LF hN Qo hQ he CB
 | ok v1 H1 L6=>rw[h]at he;cases he;exact hh _ _ _ _ _ _ _ h xs CB
theorem zE (hN:Bj P)(Qo:P.follows .mixedOrders=true)(hh:Ey P hk): ∀n,QE P (XA P hk n) n
 | 0=>by
  refine⟨⟨⟨?_,?_⟩,?_,?_⟩,?_⟩
  ·intro f args H nx v H' j5 h;cases h
  ·intro f args H nx v H' j5 h;cases h
  ·intro c nt ro tm H nx ds ex G0 H' j5 D8 h;cases h
  ·intro b r nt ro tm H nx ds ex G0 H' j5 D8 h;cases h
  ·intro f args H nx v H' j5 h;cases h
 | n+1=>by
  have ih:=zE hN Qo hh n;refine⟨⟨⟨fun f args H nx v H' j5 h=> ?_,fun l args H nx v H' j5 h=>pF ih.f h⟩,fun c nt ro tm H nx ds ex G0 H' j5 D8 h=> ?_,fun b r nt ro tm H nx ds ex G0 H' j5 D8 h=>pE ih.f h⟩,fun f args H nx v H' j5 h xs CB=>kY hN Qo hh ih h CB⟩
  ·have h:qb3 (Wg hk (XA P hk n) P f (jX args) H nx)=some (v,H',j5):=h
   cases hc:Wg hk (XA P hk n) P f (jX args) H nx with
   | no=>rw[hc]at h;cases h
   | ok v1 H1 L6=>
    rw[hc]at h;obtain⟨x,hx,J3⟩:=kY hN Qo hh ih hc (gA args);simp only[qb3,hx]at h;cases h;exact J3
  ·have h:Y9 (XA P hk n).f P c nt ro tm H nx ds=some (ex,G0,H',j5,D8):=h;exact vO hN Qo ih.f h
structure Cut where
 f:FuncId
 args:List FV
 nx:Nat
 G:List (Nat×v5)
 v:FV
 U:List (Nat×v5)
 j5:Nat
noncomputable section
def tu:List (Nat×v5)→Tr v5
 | []=> .nil
 | p::l=>(tu l).put (some p.2) p.1
def FR:List At→List At→Bool
 | [],[]=>true
 | a::l,b::m=>match atB a b with | true=>FR l m | false=>false
 | _,_=>false
def uh:List (Bool×List At)→List (Bool×List At)→Bool
 | [],[]=>true
 | a::l,b::m=>match(a.1==b.1)&&FR a.2 b.2 with | true=>uh l m | false=>false
 | _,_=>false
def fvB:FV→FV→Bool
 | .i a,.i b=>Nat.beq a b
 | .u a,.u b=>Nat.beq a b
 | .b a,.b b=>a==b
 | .p a b,.p c d=>Nat.beq a c&&Nat.beq b d
 | .a x,.a y=>atB x y
 | .v (.c g l),.v (.c g' l')=>(g==g')&&FR l l'
 | .v (.tup l),.v (.tup l')=>uh l l'
 | _,_=>false
def RM:List FV→List FV→Bool
 | [],[]=>true
 | a::l,b::m=>match fvB a b with | true=>RM l m | false=>false
 | _,_=>false
def ZW (H:Tr v5):List (Nat×v5)→Bool
 | []=>true
 | p::l=>match xX (H.get p.1) (some p.2)with | true=>ZW H l | false=>false
def rK (H:Tr v5):List (Nat×v5)→Tr v5
 | []=>H
 | p::l=>(rK H l).put (some p.2) p.1
def FN (b:Nat):List (Nat×v5)→Bool
 | []=>false
 | p::l=>match Nat.beq p.1 b with | true=>true | false=>FN b l
def sI (H:Tr v5)(U:List (Nat×v5)):List (Nat×v5)→Bool
 | []=>true
 | p::l=>match FN p.1 U || xX (H.get p.1) (some p.2)with | true=>sI H U l | false=>false
def zK (c:Cut)(args:List FV)(H:Tr v5)(nx:Nat):CR:=
 match Nat.beq nx c.nx&&(RM args c.args&&ZW H c.G)with
 | true=> .ok c.v (rK H c.U) c.j5
 | false=> .no
def Cut.rR (c:Cut):Zm:=fun f args H nx=>Bool.rec (motive:=fun _=>CR) .no (zK c args H nx) (Nat.beq f c.f)
def yX (a b:Zm):Zm:=fun f args H nx=>YH (a f args H nx) (b f args H nx)
def Cut.chk (P:Program)(hk:Zm)(n:Nat)(c:Cut):Bool:=
 match(XA P hk n).c c.f c.args (tu c.G) c.nx with
 | .ok v H' j5=>fvB v c.v&&(Nat.beq j5 c.j5&&(ZW H' c.U&&sI H' c.U c.G))
 | .no=>false
end
theorem oV: ∀ {l m:List At},FR l m=true→l=m
 | [],[],_=>rfl
 | [],_::_,h=>by cases h
 | _::_,[],h=>by cases h
 | a::l,b::m,h=>by
  simp only[FR]at h;split at h
  ·rename_i jN;rw[nU jN,oV h]
  ·cases h
theorem tL: ∀ {l m:List (Bool×List At)},uh l m=true→l=m
 | [],[],_=>rfl
 | [],_::_,h=>by cases h
 | _::_,[],h=>by cases h
 | (a,x)::l,(b,y)::m,h=>by
  simp only[uh]at h;split at h
  ·rename_i jN;rw[p9]at jN;rw[eq_of_beq jN.1,oV jN.2,tL h]
  ·cases h
theorem JQ {a b:FV}(h:fvB a b=true):a=b:=by
 unfold fvB at h;split at h
 ·rw[Y0 h]
 ·rw[Y0 h]
 ·rw[eq_of_beq h]
 ·rw[p9]at h;rw[Y0 h.1,Y0 h.2]
 ·rw[nU h]
 ·rw[p9]at h;rw[eq_of_beq h.1,oV h.2]
 ·rw[tL h]
 ·cases h
theorem yh: ∀ {l m:List FV},RM l m=true→l=m
 | [],[],_=>rfl
 | [],_::_,h=>by cases h
 | _::_,[],h=>by cases h
 | a::l,b::m,h=>by
  simp only[RM]at h;split at h
  ·rename_i jN;rw[JQ jN,yh h]
  ·cases h
theorem zB : ∀ {l:List (Nat×v5)},ZW H l=true→ ∀p∈l,H.get p.1=some p.2
 | [],_,p,hp=>by cases hp
 | q::l,h,p,hp=>by
  simp only[ZW]at h;split at h
  ·rename_i hq;rcases m6.1 hp with rfl | hp
   ·exact Uf hq
   ·exact zB h p hp
  ·cases h
theorem oI: ∀ {l:List (Nat×v5)} {b:Nat} {o:v5},(tu l).get b=some o→(b,o)∈l
 | [],b,o,h=>by simp[tu,Tr.E5]at h
 | p::l,b,o,h=>by
  simp only[tu,Tr.F7]at h;by_cases e:b=p.1
  ·rw[x9 e]at h;cases h;subst e;exact N3
  ·rw[z9 e]at h;exact T8 _ (oI h)
theorem dO : ∀(l:List (Nat×v5)) (b:Nat),(∃o,(b,o)∈l∧(rK H l).get b=some o)∨(FN b l=false∧(rK H l).get b=H.get b)
 | [],b=> .inr ⟨rfl,rfl⟩
 | p::l,b=>by
  simp only[rK,Tr.F7,FN];by_cases e:b=p.1
  ·subst e;exact .inl ⟨p.2,N3,by simp⟩
  ·rw[z9 e];have:Nat.beq p.1 b=false:=by cases h:Nat.beq p.1 b with | false=>rfl | true=>exact absurd (Y0 h).symm e
   rw[this];rcases dO l b with⟨o,h1,h2⟩ | h
   ·exact .inl ⟨o,T8 _ h1,h2⟩
   ·exact .inr h
theorem uM : ∀ {l:List (Nat×v5)},sI H U l=true→ ∀p∈l,FN p.1 U=true∨H.get p.1=some p.2
 | [],_,p,hp=>by cases hp
 | q::l,h,p,hp=>by
  simp only[sI]at h;split at h
  ·rename_i hq;rcases m6.1 hp with rfl | hp
   ·rw[S9]at hq;rcases hq with hq | hq
    ·exact .inl hq
    ·exact .inr (Uf hq)
   ·exact uM h p hp
  ·cases h
theorem RH.sub {η:Env}{h h':Hp}{w:World}(r:RH η h w)(e: ∀b o,h' b=some o→h b=some o):RH η h' w:=
 ⟨fun b o hb=>r.live b o (e b o hb),fun b b' B B' hb Pm hB Sy eB=>by
  have key: ∀b,h' b≠none→h b≠none:=fun b hb=>by
   cases ho:h' b with
   | none=>exact absurd ho hb
   | some o=>rw[e b o ho];simp
  exact r.inj b b' B B' (key b hb) (key b' Pm) hB Sy eB⟩
theorem Lh.frame {f:FuncId}{G:List (Nat×v5)}{x:V}{G1:Tr v5}(hc:Lh P f xs (tu G) nx x G1 j5)(hU:ZW G1 U=true)(hK:sI G1 U G=true)
  {H:Tr v5} (hG:ZW H G=true):Lh P f xs H nx x (rK H U) j5:=by
 obtain⟨xH,d,IK⟩:=hc;have Ro: ∀b o,(tu G).get b=some o→H.get b=some o:=fun b o hb=>zB hG _ (oI hb);have hu: ∀b o,(b,o)∈U→G1.get b=some o:=fun b o hm=>zB hU _ hm;refine⟨xH,⟨d.le,fun b hb=> ?_⟩,fun η h w X8 p Yx hg=> ?_⟩
 ·rcases dO (H:=H) U b with⟨o,h1,h2⟩ | ⟨_,h2⟩
  ·rcases d.EA b (by rw[hu b o h1];simp)with h3 | h3
   ·refine .inl ?_
    cases ho:(tu G).get b with
    | none=>exact absurd ho h3
    | some o'=>rw[Ro b o' ho];simp
   ·exact .inr h3
  ·rw[h2]at hb;exact .inl hb
 ·have p':Ek η h w (tu G).get nx j5:=⟨fun b o hb=>p.ext b o (Ro b o hb),p.rh,p.fresh⟩;refine(IK η h w X8 p' Yx hg).mono ?_;rintro e w' ⟨cv,o7,rfl,hv,s⟩;refine⟨cv,o7,rfl,hv,s.le,s.names,?_,?_,s.fr⟩
  all_goals
   have nO: ∀b,nx≤b→b<j5→H.get b=none:=fun b h1 h2=>by
    cases ho:H.get b with
    | none=>rfl
    | some o=>have:=p.ext b o ho;rw[p.rh.fresh (p.fresh b h1 h2).1]at this;cases this
   have YK: ∀b o,Mz h H.get (rK H U).get nx j5 b=some o→Mz h (tu G).get G1.get nx j5 b=some o:=by
    intro b o hb;by_cases M8:H.get b≠none∨(nx≤b∧b<j5)
    ·rw[Y2 M8]at hb;rcases dO (H:=H) U b with⟨o',h1,h2⟩ | ⟨hd,h2⟩
     ·rw[h2]at hb;cases hb;have WQ:=hu b o h1;rw[Y2 (d.EA b (by rw[WQ];simp)),WQ]
     ·rw[h2]at hb;have hnf: ¬(nx≤b∧b<j5):=fun hf=>by rw[nO b hf.1 hf.2]at hb;cases hb
      cases DX:(tu G).get b with
      | none=>rw[M7 (by intro hc;rcases hc with hc | hc;exact hc DX;exact hnf hc)];exact p.ext b o hb
      | some o2=>
       have:H.get b=some o2:=Ro b o2 DX;rw[hb]at this;cases this;rcases uM hK _ (oI DX)with h3 | h3
       ·rw[hd]at h3;cases h3
       ·rw[Y2 (.inl (by rw[DX];simp))];exact h3
    ·rw[M7 M8]at hb
     rw[M7 (by
      intro hc;rcases hc with hc | hc
      ·cases DX:(tu G).get b with
       | none=>exact hc DX
       | some o2=>exact M8 (.inl (by rw[Ro b o2 DX];simp))
      ·exact M8 (.inr hc))]
     exact hb
  ·exact s.rh.sub YK
  ·rintro k ⟨b,B,hb,hB,rfl⟩;refine s.ZX _ ⟨b,B,?_,hB,rfl⟩
   cases ho:Mz h H.get (rK H U).get nx j5 b with
   | none=>exact absurd ho hb
   | some o=>rw[YK b o ho];simp
theorem zJ (hN:Bj P)(Qo:P.follows .mixedOrders=true)(hh:Ey P hk){n:Nat}{c:Cut}(nG:c.chk P hk n=true):Ey P c.rR:=by
 intro f args H nx v H' j5 he xs CB;unfold Cut.rR at he
 cases hf:Nat.beq f c.f with
 | false=>rw[hf]at he;cases he
 | true=>
  rw[hf]at he;have he:zK c args H nx= .ok v H' j5:=he;unfold zK at he;split at he
  ·rename_i hb;cases he;rw[p9,p9]at hb;obtain⟨h1,h2,h3⟩:=hb;have e1:=Y0 hf;have e2:=Y0 h1;have e3:=yh h2;subst e1;subst e2;subst e3;unfold Cut.chk at nG
   cases hr:(XA P hk n).c c.f c.args (tu c.G) c.nx with
   | no=>rw[hr]at nG;cases nG
   | ok v1 G1 L6=>
    rw[hr]at nG;simp only[p9]at nG;obtain⟨g1,g2,g3,g4⟩:=nG;have e4:=JQ g1;have e5:=Y0 g2;subst e4;subst e5;obtain⟨x,hx,J3⟩:=(zE hN Qo hh n).c _ _ _ _ _ _ _ hr xs CB;exact⟨x,hx,J3.frame g3 g4 h3⟩
  ·cases he
theorem su {a b:Zm}(ha:Ey P a)(hb:Ey P b):Ey P (yX a b):=by
 intro f args H nx v H' j5 he;unfold yX at he
 cases h:a f args H nx with
 | no=>rw[h]at he;exact hb _ _ _ _ _ _ _ he
 | ok v1 H1 L6=>rw[h]at he;cases he;exact ha _ _ _ _ _ _ _ h
end Go.Proofs.YtlhlmcohdkkjpaaGreatDoor.Ev
