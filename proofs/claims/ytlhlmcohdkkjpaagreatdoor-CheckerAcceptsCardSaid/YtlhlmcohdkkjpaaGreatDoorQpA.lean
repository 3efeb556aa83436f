/- A quick interpreter for the kernel: proofs, first part: frames. No program in sight. -/
import Derived.Test.YtlhlmcohdkkjpaaGreatDoorQA
set_option linter.all false
namespace Go.Proofs.YtlhlmcohdkkjpaaGreatDoor.Ev
open Go
def R8.at (r:R8):I8→FV
 | .i0=>r.1
 | .i1=>r.2
 | .i2=>r.3
 | .i3=>r.4
 | .i4=>r.5
 | .i5=>r.6
 | .i6=>r.7
 | .i7=>r.8
def Fm.at (f:Fm):I8→R8
 | .i0=>f.1
 | .i1=>f.2
 | .i2=>f.3
 | .i3=>f.4
 | .i4=>f.5
 | .i5=>f.6
 | .i6=>f.7
 | .i7=>f.8
def R8.set (r:R8)(v:FV):I8→R8
 | .i0=>⟨v,r.2,r.3,r.4,r.5,r.6,r.7,r.8⟩
 | .i1=>⟨r.1,v,r.3,r.4,r.5,r.6,r.7,r.8⟩
 | .i2=>⟨r.1,r.2,v,r.4,r.5,r.6,r.7,r.8⟩
 | .i3=>⟨r.1,r.2,r.3,v,r.5,r.6,r.7,r.8⟩
 | .i4=>⟨r.1,r.2,r.3,r.4,v,r.6,r.7,r.8⟩
 | .i5=>⟨r.1,r.2,r.3,r.4,r.5,v,r.7,r.8⟩
 | .i6=>⟨r.1,r.2,r.3,r.4,r.5,r.6,v,r.8⟩
 | .i7=>⟨r.1,r.2,r.3,r.4,r.5,r.6,r.7,v⟩
def Fm.QX (f:Fm)(r:R8):I8→Fm
 | .i0=>⟨r,f.2,f.3,f.4,f.5,f.6,f.7,f.8,f.9⟩
 | .i1=>⟨f.1,r,f.3,f.4,f.5,f.6,f.7,f.8,f.9⟩
 | .i2=>⟨f.1,f.2,r,f.4,f.5,f.6,f.7,f.8,f.9⟩
 | .i3=>⟨f.1,f.2,f.3,r,f.5,f.6,f.7,f.8,f.9⟩
 | .i4=>⟨f.1,f.2,f.3,f.4,r,f.6,f.7,f.8,f.9⟩
 | .i5=>⟨f.1,f.2,f.3,f.4,f.5,r,f.7,f.8,f.9⟩
 | .i6=>⟨f.1,f.2,f.3,f.4,f.5,f.6,r,f.8,f.9⟩
 | .i7=>⟨f.1,f.2,f.3,f.4,f.5,f.6,f.7,r,f.9⟩
theorem R8.JW (r:R8)(v:FV)(j j':I8):(r.set v j).at j'=if j'=j then v else r.at j':=by cases j<;>cases j'<;>rfl
theorem Fm.UX (f:Fm)(r:R8)(i i':I8):(f.QX r i).at i'=if i'=i then r else f.at i':=by cases i<;>cases i'<;>rfl
theorem Fm.rz (f:Fm)(r:R8)(i:I8):(f.QX r i).more=f.more:=by cases i<;>rfl
theorem Fm.wM (f:Fm)(t:Tr V)(i:I8):(f.Uq t).at i=f.at i:=by cases i<;>rfl
theorem Fm.iX (f:Fm)(t:Tr V):(f.Uq t).more=t:=rfl
theorem YS (n:Nat):Nat.blt (n+64) 64=false:=Bool.eq_false_iff.2 (fun h=>by rw[Nat.blt_eq]at h;omega)
theorem TS (t:Nat)(h:t<64):FL t=some (fun f=>(f.at (i8 (t / 8))).at (i8 (t % 8))):=by
 unfold FL PY;rw[show Nat.blt t 64=true from by rw[Nat.blt_eq];exact h];generalize i8 (t / 8)=i;generalize i8 (t % 8)=j;cases i<;>cases j<;>rfl
theorem TT (n:Nat):FL (n+64)=none:=by unfold FL;rw[YS]
noncomputable def za9 (i j:I8)(v:FV)(f:Fm)(k:Fm→RR):RR:=k (f.QX ((f.at i).set v j) i)
theorem SJ (t:Nat)(h:t<64):du t=some (za9 (i8 (t / 8)) (i8 (t % 8))):=by
 unfold du PG;rw[show Nat.blt t 64=true from by rw[Nat.blt_eq];exact h];generalize i8 (t / 8)=i;generalize i8 (t % 8)=j;cases i<;>cases j<;>rfl
theorem SK (n:Nat):du (n+64)=none:=by unfold du;rw[YS]
theorem KQ {t u:Nat}(ht:t<64)(hu:u<64)(h1:i8 (t / 8)=i8 (u / 8))(h2:i8 (t % 8)=i8 (u % 8)):t=u:=by
 have e1:=zC (by omega) (by omega) h1;have e2:=zC (by omega) (by omega) h2;omega
theorem FV.tO (x:At):(FV.RC x).J4=some (.one x):=by
 cases x<;>try rfl
 rename_i k n;cases k<;>cases n<;>rfl
theorem FV.Ia (x:V):(FV.BZ x).J4=some x:=by
 cases x with
 | tup l=>rfl
 | c g l=>
  cases g with
  | true=>rfl
  | false=>
   cases l with
   | nil=>rfl
   | cons y l=>cases l with
    | nil=>exact FV.tO y
    | cons z l=>rfl
theorem FV.Pq (x:Option V):(FV.VR x).J4=x:=by
 cases x with
 | none=>rfl
 | some y=>exact FV.Ia y
theorem Fm.Ry (f:Fm){t:Nat}(h:t<64):f.val t=((f.at (i8 (t / 8))).at (i8 (t % 8))).J4:=by
 unfold Fm.val Tc;rw[TS t h];rfl
theorem Fm.Nv (f:Fm){t:Nat}(h:64≤t):f.val t=f.more.get t:=by
 obtain⟨n,rfl⟩: ∃n,t=n+64:=⟨t - 64,by omega⟩;unfold Fm.val Tc;rw[TT];exact FV.Pq _
noncomputable def Fm.set (f:Fm)(t:Nat)(v:FV):Fm:=
 if t<64 then f.QX ((f.at (i8 (t / 8))).set v (i8 (t % 8))) (i8 (t / 8))else f.Uq (f.more.put v.J4 t)
theorem Fm.jd (f:Fm)(t:Nat)(v:FV)(u:Nat):(f.set t v).val u=if u=t then v.J4 else f.val u:=by
 unfold Fm.set;by_cases ht:t<64
 ·rw[x9 ht];by_cases hu:u<64
  ·rw[Fm.Ry _ hu,Fm.UX];by_cases e:u=t
   ·subst e;rw[x9 rfl,x9 rfl,R8.JW,x9 rfl]
   ·rw[z9 e,Fm.Ry _ hu];by_cases e1:i8 (u / 8)=i8 (t / 8)
    ·rw[x9 e1,R8.JW,z9 (fun e2=>e (KQ hu ht e1 e2)),e1]
    ·rw[z9 e1]
  ·rw[Fm.Nv _ (by omega),Fm.rz,z9 (by omega),Fm.Nv _ (by omega)]
 ·rw[z9 ht];by_cases hu:u<64
  ·rw[Fm.Ry _ hu,Fm.wM,z9 (by omega),Fm.Ry _ hu]
  ·rw[Fm.Nv _ (by omega),Fm.iX,Tr.F7,Fm.Nv f (by omega)]
theorem lp (t:Nat)(v:FV)(f:Fm)(k:Fm→RR):(p6 (some t)).Bs v f k=k (f.set t v):=by
 show(qp4 t (du t)).Bs v f k=_;unfold Fm.set;by_cases ht:t<64
 ·rw[SJ t ht,x9 ht];rfl
 ·obtain⟨n,rfl⟩: ∃n,t=n+64:=⟨t - 64,by omega⟩;rw[SK,z9 ht];rfl
noncomputable def Fm.Gc (f:Fm)(d:Option Tmp)(v:FV):Fm:=match d with | .some t=>f.set t v | .none=>f
theorem F6 (d:Option Tmp)(v:FV)(f:Fm)(k:Fm→RR):(p6 d).Bs v f k=k (f.Gc d v):=by
 cases d with
 | none=>rfl
 | some t=>exact lp t v f k
theorem Fm.yg (f:Fm): ∀n t,n≤64→(f.trN n).get t=if t<n then f.val t else f.more.get t
 | 0,t,_=>by simp[Fm.trN]
 | n+1,t,h=>by
  simp only[Fm.trN,Tr.F7];by_cases e:t=n
  ·subst e;simp
  ·rw[z9 e,Fm.yg f n t (by omega)];by_cases h1:t<n
   ·rw[x9 h1,x9 (by omega)]
   ·rw[z9 h1,z9 (by omega)]
theorem Fm.Et (f:Fm)(t:Nat):f.tr.get t=f.val t:=by
 unfold Fm.tr;rw[Fm.yg f 64 t (a9 _)];by_cases h:t<64
 ·rw[x9 h]
 ·rw[z9 h,Fm.Nv f (by omega)]
theorem Ie (t:Tr V)(n:Nat):(PZ t n).J4=t.get n:=FV.Pq _
theorem SD (t:Tr V)(n:Nat): ∀j,j<8→((iB t n).at (i8 j)).J4=t.get (n+j)
 | 0,_=>Ie t n | 1,_=>Ie t (n+1) | 2,_=>Ie t (n+2) | 3,_=>Ie t (n+3) | 4,_=>Ie t (n+4) | 5,_=>Ie t (n+5) | 6,_=>Ie t (n+6) | 7,_=>Ie t (n+7)
 | n+8,h=>absurd h (by omega)
theorem SX (t:Tr V): ∀i,i<8→(Fm.qb2 t).at (i8 i)=iB t (8*i)
 | 0,_=>rfl | 1,_=>rfl | 2,_=>rfl | 3,_=>rfl | 4,_=>rfl | 5,_=>rfl | 6,_=>rfl | 7,_=>rfl
 | n+8,h=>absurd h (by omega)
theorem Fm.MT (t:Tr V)(u:Nat):(Fm.qb2 t).tr.get u=t.get u:=by
 rw[Fm.Et];by_cases h:u<64
 ·rw[Fm.Ry _ h,SX t _ (by omega),SD _ _ _ (by omega)];congr 1;omega
 ·rw[Fm.Nv _ (by omega)];rfl
theorem E8 (n:Nat)(k:Nat→RR):A8 n k=k n:=by cases n<;>rfl
theorem Ga (H:Tr v5)(k:Tr v5→RR):Dc H k=k H:=by cases H<;>rfl
theorem Gy {v:FV}{x:V}(h:v.J4=some x)(k:FV→RR)(s:RR):FV.jJ v k s=k v:=by
 cases v with
 | no=>cases h
 | i n=>exact E8 n (fun m=>k (.i m))
 | u n=>exact E8 n (fun m=>k (.u m))
 | b x=>cases x<;>rfl
 | p b o=>exact(E8 b (fun b=>A8 o (fun o=>k (.p b o)))).trans (E8 o (fun o=>k (.p b o)))
 | a x=>rfl
 | v x=>rfl
theorem Kg (v:FV)(k:FV→RR)(s:RR):(v= .no∧FV.jJ v k s=s)∨(∃x,v.J4=some x∧FV.jJ v k s=k v):=by
 cases v with
 | no=>exact .inl ⟨rfl,rfl⟩
 | i n=>exact .inr ⟨_,rfl,Gy (v:= .i n) rfl k s⟩
 | u n=>exact .inr ⟨_,rfl,Gy (v:= .u n) rfl k s⟩
 | b x=>exact .inr ⟨_,rfl,Gy (v:= .b x) rfl k s⟩
 | p b o=>exact .inr ⟨_,rfl,Gy (v:= .p b o) rfl k s⟩
 | a x=>exact .inr ⟨_,rfl,rfl⟩
 | v x=>exact .inr ⟨_,rfl,rfl⟩
theorem Ar (v:FV)(k:Nat→Nat→RR)(s:RR):(∃b o,v= .p b o∧FV.Ng v k s=k b o)∨FV.Ng v k s=s:=by
 cases v<;>first | exact .inl ⟨_,_,rfl,rfl⟩ | exact .inr rfl
theorem G6 (P:Program)(f:Fm)(x:Operand):((G2 P x).get f).J4=B9 P f.tr x:=by
 cases x with
 | tmp t=>simp only[B9];rw[Fm.Et];rfl
 | const v=>exact FV.Pq (B9 P .nil (.const v))
 | global g=>exact FV.Pq (B9 P .nil (.global g))
 | func g=>exact FV.Pq (B9 P .nil (.func g))
variable{after:Array Edge}{ops:Array Oper}{A:Array Value}{op:BinOp}{c:Call}{η:Env}{fv u:FV}{f:Fm}{a:Int}{k':IntKind}{k:KK}{n nx j5 b i sz m:Nat}{o:Oper}{x y:Operand}{S:Oper→RR}{guard:Option (Nat×Bool)}{dst:Option Tmp}{P:Program}{Q:QF}{s:RR}{H H':Tr v5}{tm G0:Tr V}{t yt type:TypeId}{v:V}{cv:Value}
theorem RA.congr (h:RA η tm A)(e: ∀t,G0.get t=tm.get t):RA η G0 A:=fun t v hv=>h t v (by rw[←e];exact hv)
theorem RA.Gc {A:Act}(h:RA η f.tr A.tmps){d:Option Tmp}{v:FV}(hd: ∀t,d=some t→t<A.tmps.size)(hv: ∀x,v.J4=some x→x.j2 η=some cv):
  RA η (f.Gc d v).tr (A.put d cv).tmps:=by
 cases d with
 | none=>exact h
 | some t=>
  intro u x hx;have ht:=hd t rfl;rw[Fm.Et]at hx;simp only[Fm.Gc,Fm.jd]at hx;by_cases e:u=t
  ·subst e;rw[x9 rfl]at hx;simp[Act.put,ht,hv x hx]
  ·rw[z9 e]at hx;have:=h u x (by rw[Fm.Et];exact hx);simp only[Act.put,qd7]at this⊢;rw[rX (W5 e)];exact this
theorem Wy (f:Fm): ∀l,We f l=n8 f.tr l
 | []=>rfl
 | t::l=>by simp only[We,n8,Fm.Et,Wy f l];cases f.val t<;>rfl
theorem xz {pos:String}{k:IntKind}{b:Int}
  (hx:B9 P tm x=some (.one (.int k a))) (hy:B9 P tm y=some (.one (.int k' b))) (h2:Go.binOp op t (.int k a) (.int k' b)=pure cv) (h1:Zk cv=some v):P2 P ⟨dst,.binOp op t x y yt,type,pos,after,guard⟩ tm=some v:=by
 have rx:mT P tm x= .int k a:=by simp[mT,hx,V.j2,comp,c9,At.j2]
 have ry:mT P tm y= .int k' b:=by simp[mT,hy,V.j2,comp,c9,At.j2]
 have fx:Ts P tm x=true:=by simp[Ts,hx,V.j2,comp,c9,At.j2]
 have fy:Ts P tm y=true:=by simp[Ts,hy,V.j2,comp,c9,At.j2]
 have hg:eqGuard op t x y (.int k a) (.int k' b)=pure ():=by cases op<;>rfl
 have hl:jZ P tm (Op.operands (.binOp op t x y yt)).toList=true:=by simp[Op.operands,jZ,fx,fy]
 have he:execOp (mT P tm) ⟨dst,.binOp op t x y yt,type,pos,after,guard⟩=pure (.value cv):=by
  simp only[execOp,rx,ry,hg,h2];rfl
 unfold P2;simp only[eG,hl,he];exact h1
theorem oP {pos:String}{k:IntKind}{b:Int}
  (hx:B9 P tm x=some (.one (.int k a))) (hy:B9 P tm y=some (.one (.int k' b))) (h2:Go.binOp op t (.int k a) (.int k' b)=pure cv) (h1:Zk cv=some v):Qk P ⟨dst,.binOp op t x y yt,type,pos,after,guard⟩ tm H=some v:=by
 have hp:=xz (dst:=dst) (yt:=yt) (type:=type) (pos:=pos) (after:=after) (guard:=guard) hx hy h2 h1;cases op<;>simp only[Qk]<;>first | exact hp | (unfold kB;simp only[hx,hy,NC];exact hp)
theorem Ou (h:n≤9223372036854775807):IntKind.i64.wrap (Int.ofNat n)=Int.ofNat n:=by
 rw[←KI];have:Nat.blt n 9223372036854775808=true:=by simp[kj];omega
 simp[GP,this]
theorem O9 (n:Nat):IntKind.u64.wrap (Int.ofNat n)=Int.ofNat (n % 18446744073709551616):=by
 unfold IntKind.wrap;simp[IntKind.signed,IntKind.bits]
theorem qb5 (h:n<18446744073709551616):n % 18446744073709551616=n:=Nat.mod_eq_of_lt h
section
variable (t:TypeId)(a b:Nat)
theorem bn (k:IntKind):Go.binOp .add t (.int k (.ofNat a)) (.int k (.ofNat b))=pure (.int k (k.wrap (.ofNat (a+b)))):=by simp[Go.binOp,Op.intArith]
theorem kn (k:IntKind)(h:b≤a):Go.binOp .sub t (.int k (.ofNat a)) (.int k (.ofNat b))=pure (.int k (k.wrap (.ofNat (a - b)))):=by
 have:(Int.ofNat a - Int.ofNat b)=Int.ofNat (a - b):=by simp;omega
 simp only[Go.binOp,Op.intArith,ne_eq,not_true,if_false,this]
theorem bw (k:IntKind):Go.binOp .mul t (.int k (.ofNat a)) (.int k (.ofNat b))=pure (.int k (k.wrap (.ofNat (a*b)))):=by simp[Go.binOp,Op.intArith]
theorem bq (k:IntKind)(h:b≠0):Go.binOp .quo t (.int k (.ofNat a)) (.int k (.ofNat b))=pure (.int k (k.wrap (.ofNat (a / b)))):=by
 have hb: ¬(Int.ofNat b=0):=by simp;omega
 simp only[Go.binOp,Op.intDiv,ne_eq,not_true,if_false,hb];rfl
theorem ko (k:IntKind)(h:b≠0):Go.binOp .rem t (.int k (.ofNat a)) (.int k (.ofNat b))=pure (.int k (.ofNat (a % b))):=by
 have hb: ¬(Int.ofNat b=0):=by simp;omega
 simp only[Go.binOp,Op.intDiv,ne_eq,not_true,if_false,hb];rfl
theorem bu (k:IntKind):Go.binOp .lss t (.int k (.ofNat a)) (.int k (.ofNat b))=pure (.bool (Nat.ble (a+1) b)):=by
 have:decide ((Int.ofNat a)< (Int.ofNat b))=Nat.ble (a+1) b:=by rw[Jr];simp[Nat.ble_eq];omega
 simp only[Go.binOp,Op.intCmp,ne_eq,not_true,if_false,this]
theorem bj (k:IntKind):Go.binOp .leq t (.int k (.ofNat a)) (.int k (.ofNat b))=pure (.bool (Nat.ble a b)):=by
 have:decide ((Int.ofNat a)≤(Int.ofNat b))=Nat.ble a b:=by rw[Jr];simp[Nat.ble_eq]
 simp only[Go.binOp,Op.intCmp,ne_eq,not_true,if_false,this]
theorem bg (k:IntKind):Go.binOp .gtr t (.int k (.ofNat a)) (.int k (.ofNat b))=pure (.bool (Nat.ble (b+1) a)):=by
 have:decide ((Int.ofNat a)>(Int.ofNat b))=Nat.ble (b+1) a:=by rw[Jr];simp[Nat.ble_eq];omega
 simp only[Go.binOp,Op.intCmp,ne_eq,not_true,if_false,this]
theorem bh (k:IntKind):Go.binOp .geq t (.int k (.ofNat a)) (.int k (.ofNat b))=pure (.bool (Nat.ble b a)):=by
 have:decide ((Int.ofNat a)≥(Int.ofNat b))=Nat.ble b a:=by rw[Jr];simp[Nat.ble_eq]
 simp only[Go.binOp,Op.intCmp,ne_eq,not_true,if_false,this]
theorem bt (k:IntKind):Go.binOp .eql t (.int k (.ofNat a)) (.int k (.ofNat b))=pure (.bool (Nat.beq a b)):=by
 have:(Int.ofNat a==Int.ofNat b)=Nat.beq a b:=by rw[Jr];simp[Nat.beq_eq];omega
 simp only[Go.binOp,Op.intCmp,ne_eq,not_true,if_false,this]
theorem bz (k:IntKind):Go.binOp .neq t (.int k (.ofNat a)) (.int k (.ofNat b))=pure (.bool (!Nat.beq a b)):=by
 have:(Int.ofNat a !=Int.ofNat b)= !Nat.beq a b:=by
  have h1:(Int.ofNat a==Int.ofNat b)=Nat.beq a b:=by rw[Jr];simp[Nat.beq_eq];omega
  rw[bne,h1]
 simp only[Go.binOp,Op.intCmp,ne_eq,not_true,if_false,this]
theorem ke (k k':IntKind)(h:b≤64)(hk:k.bits=64):Go.binOp .shl t (.int k (.ofNat a)) (.int k' (.ofNat b))=pure (.int k (k.wrap (.ofNat (a*2^b)))):=by
 have h0: ¬(Int.ofNat b<0):=by simp
 have h1:min (Int.ofNat b).toNat k.bits=b:=by rw[hk];simp;omega
 have h2:Int.ofNat a*2^b=Int.ofNat (a*2^b):=by simp
 simp only[Go.binOp,Op.shift,z9 h0,h1,h2]
theorem kr (k k':IntKind)(h:b≤64)(hk:k.bits=64):Go.binOp .shr t (.int k (.ofNat a)) (.int k' (.ofNat b))=pure (.int k (.ofNat (a / 2^b))):=by
 have h0: ¬(Int.ofNat b<0):=by simp
 have h1:min (Int.ofNat b).toNat k.bits=b:=by rw[hk];simp;omega
 have h2:(Int.ofNat a).fdiv (2^b)=Int.ofNat (a / 2^b):=by
  have e:((2:Int)^b)=Int.ofNat (2^b):=by simp
  rw[e]
  cases a with
  | zero=>simp[Int.fdiv]
  | succ n=>rfl
 simp only[Go.binOp,Op.shift,z9 h0,h1,h2]
theorem Ka:(BitVec.ofInt 64 (Int.ofNat a))=BitVec.ofNat 64 a:=by simp
theorem US:Go.binOp .and t (.int .u64 (.ofNat a)) (.int .u64 (.ofNat b))=pure (.int .u64 (.ofNat (Nat.land (a % 18446744073709551616) (b % 18446744073709551616)))):=by
 have:(BitVec.ofInt 64 (Int.ofNat a)&&&BitVec.ofInt 64 (Int.ofNat b)).toNat=Nat.land (a % 18446744073709551616) (b % 18446744073709551616):=by
  rw[Ka,Ka,BitVec.toNat_and,nk,nk];rfl
 have Z:Nat.land (a % 18446744073709551616) (b % 18446744073709551616)<18446744073709551616:=by
  rw[←this];exact BitVec.isLt _
 simp only[Go.binOp,Op.intBits,ne_eq,not_true,if_false];show(pure (Value.int .u64 (IntKind.u64.wrap (Int.ofNat (BitVec.ofInt 64 (Int.ofNat a)&&&BitVec.ofInt 64 (Int.ofNat b)).toNat))):Sem Value)=_;rw[this,O9,qb5 Z]
theorem qj8:Go.binOp .or t (.int .u64 (.ofNat a)) (.int .u64 (.ofNat b))=pure (.int .u64 (.ofNat (Nat.lor (a % 18446744073709551616) (b % 18446744073709551616)))):=by
 have:(BitVec.ofInt 64 (Int.ofNat a) ||| BitVec.ofInt 64 (Int.ofNat b)).toNat=Nat.lor (a % 18446744073709551616) (b % 18446744073709551616):=by
  rw[Ka,Ka,BitVec.toNat_or,nk,nk];rfl
 have Z:Nat.lor (a % 18446744073709551616) (b % 18446744073709551616)<18446744073709551616:=by
  rw[←this];exact BitVec.isLt _
 simp only[Go.binOp,Op.intBits,ne_eq,not_true,if_false];show(pure (Value.int .u64 (IntKind.u64.wrap (Int.ofNat (BitVec.ofInt 64 (Int.ofNat a) ||| BitVec.ofInt 64 (Int.ofNat b)).toNat))):Sem Value)=_;rw[this,O9,qb5 Z]
theorem UR:Go.binOp .xor t (.int .u64 (.ofNat a)) (.int .u64 (.ofNat b))=pure (.int .u64 (.ofNat (Nat.xor (a % 18446744073709551616) (b % 18446744073709551616)))):=by
 have:(BitVec.ofInt 64 (Int.ofNat a)^^^BitVec.ofInt 64 (Int.ofNat b)).toNat=Nat.xor (a % 18446744073709551616) (b % 18446744073709551616):=by
  rw[Ka,Ka,BitVec.toNat_xor,nk,nk];rfl
 have Z:Nat.xor (a % 18446744073709551616) (b % 18446744073709551616)<18446744073709551616:=by
  rw[←this];exact BitVec.isLt _
 simp only[Go.binOp,Op.intBits,ne_eq,not_true,if_false];show(pure (Value.int .u64 (IntKind.u64.wrap (Int.ofNat (BitVec.ofInt 64 (Int.ofNat a)^^^BitVec.ofInt 64 (Int.ofNat b)).toNat))):Sem Value)=_;rw[this,O9,qb5 Z]
end
theorem Hh (h:(Lo n).J4=some v):n≤9223372036854775807∧v= .one (.int .i64 (.ofNat n)):=by
 unfold Lo at h
 cases hb:Nat.ble n 9223372036854775807 with
 | false=>rw[hb]at h;cases h
 | true=>rw[hb]at h;cases h;exact⟨G9 hb,rfl⟩
theorem UW (op:BinOp)(t:TypeId)(a b:Nat)(h:((Ns op).1 a b).J4=some v): ∃cv,Go.binOp op t (.int .i64 (.ofNat a)) (.int .i64 (.ofNat b))=pure cv∧Zk cv=some v:=by
 cases op
 case add=>obtain⟨h1,rfl⟩:=Hh h;exact⟨_,bn t a b .i64,by rw[Ou (show a+b≤9223372036854775807 from h1)];rfl⟩
 case sub=>
  have h:(qa1 a b).J4=some v:=h;unfold qa1 at h
  cases hb:Nat.ble b a with
  | false=>rw[hb]at h;cases h
  | true=>rw[hb]at h;obtain⟨h1,rfl⟩:=Hh h;exact⟨_,kn t a b .i64 (G9 hb),by rw[Ou (show a - b≤9223372036854775807 from h1)];rfl⟩
 case mul=>obtain⟨h1,rfl⟩:=Hh h;exact⟨_,bw t a b .i64,by rw[Ou (show a*b≤9223372036854775807 from h1)];rfl⟩
 case quo=>
  have h:(qa8 a b).J4=some v:=h;unfold qa8 at h
  cases hb:Nat.beq b 0 with
  | true=>rw[hb]at h;cases h
  | false=>rw[hb]at h;obtain⟨h1,rfl⟩:=Hh h;exact⟨_,bq t a b .i64 (fun e=>by subst e;cases hb),by rw[Ou (show a / b≤9223372036854775807 from h1)];rfl⟩
 case rem=>
  have h:(qa6 a b).J4=some v:=h;unfold qa6 at h
  cases hb:Nat.beq b 0 with
  | true=>rw[hb]at h;cases h
  | false=>rw[hb]at h;cases h;exact⟨_,ko t a b .i64 (fun e=>by subst e;cases hb),rfl⟩
 case lss=>cases h;exact⟨_,bu t a b .i64,rfl⟩
 case leq=>cases h;exact⟨_,bj t a b .i64,rfl⟩
 case gtr=>cases h;exact⟨_,bg t a b .i64,rfl⟩
 case geq=>cases h;exact⟨_,bh t a b .i64,rfl⟩
 case eql=>cases h;exact⟨_,bt t a b .i64,rfl⟩
 case neq=>
  have h:(dg a b).J4=some v:=h;refine⟨_,bz t a b .i64,?_⟩;unfold dg at h;cases hb:Nat.beq a b<;>rw[hb]at h<;>cases h<;>rfl
 all_goals cases h
theorem UT (op:BinOp)(t:TypeId)(a b:Nat)(h:((Ns op).2 a b).J4=some v): ∃cv,Go.binOp op t (.int .u64 (.ofNat a)) (.int .u64 (.ofNat b))=pure cv∧Zk cv=some v:=by
 cases op
 case add=>cases h;exact⟨_,bn t a b .u64,by rw[O9];rfl⟩
 case sub=>
  have h:(qa0 a b).J4=some v:=h;unfold qa0 at h
  cases hb:Nat.ble b a with
  | false=>rw[hb]at h;cases h
  | true=>rw[hb]at h;cases h;exact⟨_,kn t a b .u64 (G9 hb),by rw[O9];rfl⟩
 case mul=>cases h;exact⟨_,bw t a b .u64,by rw[O9];rfl⟩
 case quo=>
  have h:(qa7 a b).J4=some v:=h;unfold qa7 at h
  cases hb:Nat.beq b 0 with
  | true=>rw[hb]at h;cases h
  | false=>rw[hb]at h;cases h;exact⟨_,bq t a b .u64 (fun e=>by subst e;cases hb),by rw[O9];rfl⟩
 case rem=>
  have h:(qa5 a b).J4=some v:=h;unfold qa5 at h
  cases hb:Nat.beq b 0 with
  | true=>rw[hb]at h;cases h
  | false=>rw[hb]at h;cases h;exact⟨_,ko t a b .u64 (fun e=>by subst e;cases hb),rfl⟩
 case and=>cases h;exact⟨_,US t a b,rfl⟩
 case or=>cases h;exact⟨_,qj8 t a b,rfl⟩
 case xor=>cases h;exact⟨_,UR t a b,rfl⟩
 case shl=>
  have h:(dq a b).J4=some v:=h;unfold dq at h
  cases hb:Nat.ble b 64 with
  | false=>rw[hb]at h;cases h
  | true=>rw[hb]at h;cases h;exact⟨_,ke t a b .u64 .u64 (G9 hb) rfl,by rw[O9];rfl⟩
 case shr=>
  have h:(ct a b).J4=some v:=h;unfold ct at h
  cases hb:Nat.ble b 64 with
  | false=>rw[hb]at h;cases h
  | true=>rw[hb]at h;cases h;exact⟨_,kr t a b .u64 .u64 (G9 hb) rfl,rfl⟩
 case lss=>cases h;exact⟨_,bu t a b .u64,rfl⟩
 case leq=>cases h;exact⟨_,bj t a b .u64,rfl⟩
 case gtr=>cases h;exact⟨_,bg t a b .u64,rfl⟩
 case geq=>cases h;exact⟨_,bh t a b .u64,rfl⟩
 case eql=>cases h;exact⟨_,bt t a b .u64,rfl⟩
 case neq=>
  have h:(dg a b).J4=some v:=h;refine⟨_,bz t a b .u64,?_⟩;unfold dg at h;cases hb:Nat.beq a b<;>rw[hb]at h<;>cases h<;>rfl
 all_goals cases h
theorem UU (op:BinOp)(t:TypeId)(a b:Nat)(h:((Ns op).3 a b).J4=some v): ∃cv,Go.binOp op t (.int .u64 (.ofNat a)) (.int .i64 (.ofNat b))=pure cv∧Zk cv=some v:=by
 cases op
 case shl=>
  have h:(dq a b).J4=some v:=h;unfold dq at h
  cases hb:Nat.ble b 64 with
  | false=>rw[hb]at h;cases h
  | true=>rw[hb]at h;cases h;exact⟨_,ke t a b .u64 .i64 (G9 hb) rfl,by rw[O9];rfl⟩
 case shr=>
  have h:(ct a b).J4=some v:=h;unfold ct at h
  cases hb:Nat.ble b 64 with
  | false=>rw[hb]at h;cases h
  | true=>rw[hb]at h;cases h;exact⟨_,kr t a b .u64 .i64 (G9 hb) rfl,rfl⟩
 all_goals cases h
theorem ba {pos:String}(hx:((G2 P x).get f).J4=B9 P tm x)(hy:((G2 P y).get f).J4=B9 P tm y)
  (h:(qd3 ((G2 P x).get f) ((G2 P y).get f) (Ns op)).J4=some v):Qk P ⟨dst,.binOp op t x y yt,type,pos,after,guard⟩ tm H=some v:=by
 generalize (G2 P x).get f=u at h hx;generalize (G2 P y).get f=w at h hy;cases u<;>try(cases h;done)
 ·rename_i a;cases w<;>try(cases h;done)
  rename_i b;obtain⟨cv,h1,h2⟩:=UW op t a b h;exact oP hx.symm hy.symm h1 h2
 ·rename_i a;cases w<;>try(cases h;done)
  ·rename_i b;obtain⟨cv,h1,h2⟩:=UU op t a b h;exact oP hx.symm hy.symm h1 h2
  ·rename_i b;obtain⟨cv,h1,h2⟩:=UT op t a b h;exact oP hx.symm hy.symm h1 h2
def YZ (P:Program)(o:Oper)(tm:Tr V)(H:Tr v5)(nx:Nat)(v:FV)(H':Tr v5)(j5:Nat):Prop:=
 Dm H.get H'.get nx j5∧ ∀(η:Env) (h:Hp) (w:World) (A:Act) (ro:Option Nat) (n:Nat) (K:Act→World→Prop) (Q:Exit→Act→World→Prop),Ek η h w H.get nx j5→RA η tm A.tmps→η.Bn P→
  (∀cv w' o7,(∀x,v.J4=some x→x.j2 o7=some cv)→Y6 η h w H.get H'.get nx j5 o7 w'→K (A.put o.dst cv) w')→o.wpIn (fe ro) n P A w K Q
theorem Ti.toQ (h:Ti P o tm H nx v H' j5)(hv:fv.J4=some v):YZ P o tm H nx fv H' j5:=
 ⟨h.1,fun η hp w A ro n K Q p ra hg hk=>h.2 η hp w A ro n K Q p ra hg (fun cv w' o7 hc hs=>hk cv w' o7 (fun x hx=>by rw[hv]at hx;cases hx;exact hc) hs)⟩
def Kz:List FV→Option (List V)
 | []=>some []
 | v::l=>match v.J4,Kz l with
  | some x,some xs=>some (x::xs)
  | _,_=>none
structure QE (P:Program)(Q:QF)(m:Nat):Prop where
 f:kN P Q.f m
 c: ∀f args H nx v H' j5,Q.c f args H nx= .ok v H' j5→ ∀xs,Kz args=some xs→ ∃x,v.J4=some x∧Lh P f xs H nx x H' j5
def ni (P:Program)(o:Oper)(f:Fm)(H:Tr v5)(nx:Nat)(k:KK)(r:RR):Prop:=
 ∃fv H1 L6,YZ P o f.tr H nx fv H1 L6∧r=k (f.Gc o.dst fv) H1 L6
def Step (P:Program)(o:Oper)(f:Fm)(H:Tr v5)(nx:Nat)(k:KK)(S:Oper→RR)(r:RR):Prop:=
 ni P o f H nx k r∨r=S o∨r= .no
theorem Xj (hv:fv.J4=some v)(h:Qk P o f.tr H=some v):ni P o f H nx k (k (f.Gc o.dst fv) H nx):=
 ⟨fv,H,nx,(Dj (by simp[vm,h])).toQ hv,rfl⟩
theorem Gw (hs:s=S o∨s= .no)(h: ∀v,fv.J4=some v→Qk P o f.tr H=some v):
  Step P o f H nx k S (toQ fv (p6 o.dst) f H nx k s):=by
 unfold toQ;rcases Kg fv (fun v=>(p6 o.dst).Bs v f fun M4=>k M4 H nx) s with⟨_,h2⟩ | ⟨x,h1,h2⟩
 ·exact .inr (by rw[show FV.jJ fv (fun v=>N7.rec (motive:=fun _=>FV→Fm→(Fm→RR)→RR) Rn (fun g=>g) An (p6 o.dst) v f fun M4=>k M4 H nx) s=s from h2];exact hs)
 ·refine .inl ?_;rw[show FV.jJ fv (fun v=>N7.rec (motive:=fun _=>FV→Fm→(Fm→RR)→RR) Rn (fun g=>g) An (p6 o.dst) v f fun M4=>k M4 H nx) s=_ from h2,F6];exact Xj h1 (h x h1)
theorem XZ (ho:o.op= .move x∨o.op= .assign x)(f:Fm)(H:Tr v5)(nx:Nat)(k:KK):ni P o f H nx k ((p6 o.dst).Bs ((G2 P x).get f) f fun M4=>k M4 H nx):=by
 rw[F6];refine⟨_,H,nx,⟨Dm.refl _ _,fun η hp w A ro n K Q p ra hg hk=> ?_⟩,rfl⟩;have hx: ∀y,((G2 P x).get f).J4=some y→y.j2 η=some (A.eval x):=fun y hy=>S5 ra hg (by rw[←G6];exact hy);have hK:=hk (A.eval x) w η hx (Y6.refl p.ext p.rh);refine⟨fun _ _=>trivial,?_⟩;obtain⟨dst,op,type,pos,after,guard⟩:=o;simp only at ho;rw[Oper.semAt_eq _ _ _ (fun c e=>by rcases ho with rfl | rfl<;>cases e)];rcases ho with rfl | rfl<;>exact hK
theorem uK {g:Bool}(ht:Xx P t=some (g,n)){a:Nat}(h:(I2 g n H b a).J4=some v):Gr P H t (.ptr b a)=some v:=by
 unfold I2 at h
 cases ho:H.get b with
 | none=>rw[ho]at h;cases h
 | some x=>
  rw[ho]at h
  have key: ∀(m:Nat) (t':Tr At),(jv g t' a n m).J4=some v→(match g with | true=>(match(bif Nat.ble (a+n) m then rd t' a n else none)with | some l=>some (V.c true l) | none=>none) | false=>(match(bif Nat.ble (a+1) m then rd t' a 1 else none)with | some l=>some (V.c false l) | none=>none))=some v:=by
   intro m t' hc
   cases g with
   | true=>
    have hc:(zL t' a n m).J4=some v:=hc;unfold zL at hc
    cases hb:Nat.ble (Nat.add a n) m with
    | false=>rw[hb]at hc;cases hc
    | true=>
     rw[hb]at hc;have Pm:Nat.ble (a+n) m=true:=hb;simp only[Pm,cond_true]
     cases hr:rd t' a n with
     | none=>rw[hr]at hc;cases hc
     | some l=>rw[hr]at hc;exact hc
   | false=>
    have hc:(cN t' a m).J4=some v:=hc;unfold cN at hc
    cases hb:Nat.ble (Nat.succ a) m with
    | false=>rw[hb]at hc;cases hc
    | true=>
     rw[hb]at hc;have Pm:Nat.ble (a+1) m=true:=hb;simp only[Pm,cond_true,rd]
     cases hr:t'.get a with
     | none=>rw[hr]at hc;cases hc
     | some y=>
      rw[hr]at hc;have hc:(FV.RC y).J4=some v:=hc;rw[FV.tO]at hc;exact hc
  simp only[Gr,ht,row,ho]
  cases x with
  | cells E m t'=>have:=key m t' h;cases g<;>exact this
  | lcells E m s t'=>have:=key m t' h;cases g<;>exact this
  | scells E m t'=>have:=key m t' h;cases g<;>exact this
  | map es c=>cases h
  | loop=>cases h
  | dfr=>cases h
  | mit=>cases h
theorem YN {s:TypeId}{fd off:Nat}(hf:sO P s fd=some off)(b a:Nat):Ej P s (.ptr b a) fd=some (.one (.ptr b (a+off))):=by
 unfold sO at hf;unfold Ej;simp only;split at hf
 ·rename_i fs hu;rw[hu];simp only;split at hf
  ·rename_i fd' hfd;rw[hfd];simp only;split at hf
   ·rename_i i hi;rw[hi];simp only
    cases hz:Nat.beq i.size 0 with
    | true=>rw[hz]at hf;cases hf
    | false=>rw[hz]at hf;cases hf;rfl
   ·cases hf
  ·cases hf
 ·cases hf
theorem eQ {o l:Nat}(h:(sP b o i l sz).J4=some v):Nat.blt i l=true∧v= .one (.ptr b (o+i*sz)):=by
 unfold sP at h
 cases hb:Nat.ble (Nat.succ i) l with
 | false=>rw[hb]at h;cases h
 | true=>rw[hb]at h;cases h;exact⟨hb,rfl⟩
theorem YC {l:Option Nat}(hl:EY P t=some (l,sz))(hx:((G2 P x).get f).J4=B9 P tm x)(hy:((G2 P y).get f).J4=B9 P tm y)(h:(iaF ((G2 P y).get f) l sz ((G2 P x).get f)).J4=some v):
  (match B9 P tm x,B9 P tm y with | some (.c false [a]),some (.c false [b])=>E2 P t a b | _,_=>none)=some v:=by
 generalize (G2 P x).get f=u at h hx;generalize (G2 P y).get f=w at h hy;cases w<;>try(cases h;done)
 rename_i i;simp only[FV.J4]at hy;rw[←hy];unfold EY at hl;split at hl
 ·rename_i e hu;split at hl
  ·rename_i ie hie;cases hl;cases u<;>try(cases h;done)
   rename_i z;simp only[FV.J4]at hx;rw[←hx];cases z<;>try(cases h;done)
   ·obtain⟨h1,rfl⟩:=eQ h;simp only[E2,hu,hie,h1,cond_true]
   ·obtain⟨h1,rfl⟩:=eQ h;simp only[E2,hu,hie,h1,cond_true]
  ·cases hl
 ·rename_i n e hu;split at hl
  ·rename_i ie hie;cases hl;cases u<;>try(cases h;done)
   simp only[FV.J4]at hx;rw[←hx];obtain⟨h1,rfl⟩:=eQ h;simp only[E2,hu,hie,h1,cond_true]
  ·cases hl
 ·cases hl
theorem BH (hv:fv.J4=some v)(hd: ∀c,o.op≠ .defer c)
  (h: ∀(η:Env) (A:Act) (w:World),RA η f.tr A.tmps→η.Bn P→ ∃cv,v.j2 η=some cv∧(execOp A.eval o).run P w= .ok (.value cv) w):ni P o f H nx k (k (f.Gc o.dst fv) H nx):=by
 refine⟨fv,H,nx,Ti.toQ ⟨Dm.refl _ _,fun η hp w A ro n K Q p ra hg hk=> ?_⟩ hv,rfl⟩;obtain⟨cv,h1,h2⟩:=h η A w ra hg;have hK:=hk cv w η h1 (Y6.refl p.ext p.rh);refine⟨fun _ _=>trivial,?_⟩;rw[Oper.semAt_eq _ _ _ hd,h2];exact hK
theorem dP (hs:s=S o∨s= .no)(hd: ∀c,o.op≠ .defer c)
  (h: ∀v,fv.J4=some v→ ∀(η:Env) (A:Act) (w:World),RA η f.tr A.tmps→η.Bn P→ ∃cv,v.j2 η=some cv∧(execOp A.eval o).run P w= .ok (.value cv) w):
  Step P o f H nx k S (toQ fv (p6 o.dst) f H nx k s):=by
 unfold toQ;rcases Kg fv (fun v=>(p6 o.dst).Bs v f fun M4=>k M4 H nx) s with⟨_,h2⟩ | ⟨x,h1,h2⟩
 ·exact .inr (by rw[show FV.jJ fv (fun v=>N7.rec (motive:=fun _=>FV→Fm→(Fm→RR)→RR) Rn (fun g=>g) An (p6 o.dst) v f fun M4=>k M4 H nx) s=s from h2];exact hs)
 ·refine .inl ?_;rw[show FV.jJ fv (fun v=>N7.rec (motive:=fun _=>FV→Fm→(Fm→RR)→RR) Rn (fun g=>g) An (p6 o.dst) v f fun M4=>k M4 H nx) s=_ from h2,F6];exact BH h1 hd (h x h1)
theorem yY {A:Act}(ra:RA η f.tr A.tmps)(hg:η.Bn P){a:At}(h:((G2 P x).get f).J4=some (.one a)):a.j2 η=some (A.eval x):=
 o8 ra hg (by rw[←G6];exact h)
theorem qh5 {pos:String}{ts:List TypeId}(hc:c.callee= .builtin .len)(ha:c.args.toList= [x])(ht:c.argTypes.toList=t::ts)(hs:Ot P t=true)
  (h:(qm3 ((G2 P x).get f)).J4=some v) (η:Env) (A:Act) (w:World) (ra:RA η f.tr A.tmps) (hg:η.Bn P): ∃cv,v.j2 η=some cv∧(execOp A.eval ⟨dst,.call c,type,pos,after,guard⟩).run P w= .ok (.value cv) w:=by
 obtain⟨callee,args,argTypes⟩:=c;simp only at hc ha ht;subst hc;unfold Ot at hs;split at hs
 ·rename_i e hu;have jK:argTypes[0]? =some t:=by rw[←iM,ht];rfl
  have Cu:args.map A.eval=#[A.eval x]:=by apply Ky;simp[ha]
  have hx:=fun a=>yY (P:=P) (x:=x) (a:=a) ra hg;generalize (G2 P x).get f=u at h hx;cases u<;>try(cases h;done)
  rename_i z;have hz:=hx z rfl;rw[Bl];cases z<;>try(cases h;done)
  ·obtain⟨B,_,hB⟩:=Cf hz;cases h;exact⟨_,l6.2 rfl,by simp[builtin,Cu,Builtin.len_,jK,n5 hu,goInt,hB]⟩
  ·obtain⟨B,_,hB⟩:=E1 hz;cases h;exact⟨_,l6.2 rfl,by simp[builtin,Cu,Builtin.len_,jK,n5 hu,goInt,hB]⟩
  ·simp only[At.j2]at hz;cases h;exact⟨_,l6.2 rfl,by simp[builtin,Cu,Builtin.len_,jK,n5 hu,goInt,←Z3 hz]⟩
  ·obtain⟨B,c,_,hB⟩:=Hb hz;cases h;exact⟨_,l6.2 rfl,by simp[builtin,Cu,Builtin.len_,jK,n5 hu,goInt,hB]⟩
 ·cases hs
theorem qt0 {pos:String}
  (h:(ntF ((G2 P x).get f)).J4=some v) (η:Env) (A:Act) (w:World) (ra:RA η f.tr A.tmps) (hg:η.Bn P): ∃cv,v.j2 η=some cv∧(execOp A.eval ⟨dst,.unOp .not t x,type,pos,after,guard⟩).run P w= .ok (.value cv) w:=by
 have hx:=fun a=>yY (P:=P) (x:=x) (a:=a) ra hg;generalize (G2 P x).get f=u at h hx;cases u<;>try(cases h;done)
 rename_i z;have hz:=hx _ rfl;simp only[At.j2]at hz;have hz:=(Z3 hz).symm;refine⟨.bool !z,?_,?_⟩
 ·cases z<;>cases h<;>rfl
 ·simp[execOp,Op.unary,hz]
theorem zI {k:IntKind}(h:(cvN k n).J4=some v):v= .one (.int k (k.wrap (.ofNat n))):=by
 cases k<;>try(cases h;done)
 ·obtain⟨h1,rfl⟩:=Hh h;rw[Ou h1]
 ·cases h;simp[IntKind.wrap,IntKind.signed,IntKind.bits];rfl
 ·cases h;simp[IntKind.wrap,IntKind.signed,IntKind.bits];rfl
 ·cases h;rw[O9];rfl
theorem qv2 {s:TypeId}{k:IntKind}(hk:FO P s t=some k){pos:String}
  (h:(cvF ((G2 P x).get f) k).J4=some v) (η:Env) (A:Act) (w:World) (ra:RA η f.tr A.tmps) (hg:η.Bn P): ∃cv,v.j2 η=some cv∧(execOp A.eval ⟨dst,.convert s t x,type,pos,after,guard⟩).run P w= .ok (.value cv) w:=by
 have hx:=fun a=>yY (P:=P) (x:=x) (a:=a) ra hg
 have Bt: ∀k' n,A.eval x= .int k' n→(execOp A.eval ⟨dst,.convert s t x,type,pos,after,guard⟩).run P w= .ok (.value (.int k (k.wrap n))) w:=by
  intro k' n he;unfold FO at hk;split at hk
  ·rename_i d k2 h1 h2;cases hk;cases d<;>simp[execOp,he,Go.convert,n5 h1,n5 h2,Conv.intToInt]
  ·cases hk
 generalize (G2 P x).get f=u at h hx;cases u<;>try(cases h;done)
 ·rename_i n;obtain rfl:=zI h;have hz:=hx _ rfl;exact⟨_,l6.2 rfl,Bt _ _ (Z3 hz).symm⟩
 ·rename_i n;obtain rfl:=zI h;have hz:=hx _ rfl;exact⟨_,l6.2 rfl,Bt _ _ (Z3 hz).symm⟩
 ·rename_i z;cases z<;>try(cases h;done)
  rename_i k' n
  cases n with
  | negSucc m=>cases h
  | ofNat m=>
   obtain rfl:=zI h;have hz:=hx _ rfl;exact⟨_,l6.2 rfl,Bt _ _ (Z3 hz).symm⟩
theorem YP {neg:Bool}(PJ:(op= .eql∧neg=false)∨(op= .neq∧neg=true)){pos:String}
  (h:(eqF (OQ P t) neg ((G2 P x).get f) ((G2 P y).get f)).J4=some v):Qk P ⟨dst,.binOp op t x y yt,type,pos,after,guard⟩ f.tr H=some v:=by
 have hx:=G6 P f x;have hy:=G6 P f y
 have key: ∀a b r,B9 P f.tr x=some (.one a)→B9 P f.tr y=some (.one b)→iI P H t a b=some r→Qk P ⟨dst,.binOp op t x y yt,type,pos,after,guard⟩ f.tr H=some (.one (.bool (Bool.xor neg r))):=by
  intro a b r h1 h2 h3;rcases PJ with⟨rfl,rfl⟩ | ⟨rfl,rfl⟩<;>simp only[Qk,kB,h1,h2,h3]
 generalize (G2 P x).get f=u at h hx;generalize (G2 P y).get f=w at h hy;unfold eqF at h;unfold OQ at h
 have rV: ∀(z:FV),NZ z≠ .no→ ∃a,z.J4=some (.one a)∧nlA a=NZ z:=by
  intro z hz;cases z<;>first | exact absurd rfl hz | exact⟨_,rfl,rfl⟩
 have VT: ∀a,(nlA a= .ptr→ ∃b o,a= .ptr b o)∧(nlA a= .nilp→a= .nilp)∧(nlA a= .nils→a= .nils)∧(nlA a= .sl→(∃b o n c,a= .sl b o n c)∨(∃b o n c,a= .slx b o n c)∨ ∃i,a= .emp i):=by
  intro a;cases a<;>refine⟨fun e=> ?_,fun e=> ?_,fun e=> ?_,fun e=> ?_⟩<;>first | (cases e;done) | rfl | exact⟨_,_,rfl⟩ | exact .inl ⟨_,_,_,_,rfl⟩ | exact .inr (.inl ⟨_,_,_,_,rfl⟩) | exact .inr (.inr ⟨_,rfl⟩)
 cases hu:P.underlying t with
 | none=>rw[hu]at h;cases h
 | some d=>
  rw[hu]at h;cases d<;>try(cases h;done)
  case pointer e=>
   simp only at h;cases h1:NZ u<;>cases h2:NZ w<;>rw[h1,h2]at h<;>try(cases h;done)
   ·obtain⟨a,ha,hn⟩:=rV u (by rw[h1];simp);obtain⟨b,hb,hm⟩:=rV w (by rw[h2];simp);cases h;obtain rfl:=(VT a).2.1 (hn.trans h1);obtain⟨b',o',rfl⟩:=(VT b).1 (hm.trans h2);exact key _ _ false (hx.symm.trans ha) (hy.symm.trans hb) (by simp[iI,hu])
   ·obtain⟨a,ha,hn⟩:=rV u (by rw[h1];simp);obtain⟨b,hb,hm⟩:=rV w (by rw[h2];simp);cases h;obtain⟨b',o',rfl⟩:=(VT a).1 (hn.trans h1);obtain rfl:=(VT b).2.1 (hm.trans h2);exact key _ _ false (hx.symm.trans ha) (hy.symm.trans hb) (by simp[iI,hu])
  case slice e=>
   simp only at h;cases h1:NZ u<;>cases h2:NZ w<;>rw[h1,h2]at h<;>try(cases h;done)
   ·obtain⟨a,ha,hn⟩:=rV u (by rw[h1];simp);obtain⟨b,hb,hm⟩:=rV w (by rw[h2];simp);cases h;obtain rfl:=(VT a).2.2.1 (hn.trans h1);rcases(VT b).2.2.2 (hm.trans h2)with⟨_,_,_,_,rfl⟩ | ⟨_,_,_,_,rfl⟩ | ⟨_,rfl⟩<;>exact key _ _ false (hx.symm.trans ha) (hy.symm.trans hb) (by simp[iI,hu])
   ·obtain⟨a,ha,hn⟩:=rV u (by rw[h1];simp);obtain⟨b,hb,hm⟩:=rV w (by rw[h2];simp);cases h;obtain rfl:=(VT b).2.2.1 (hm.trans h2);rcases(VT a).2.2.2 (hn.trans h1)with⟨_,_,_,_,rfl⟩ | ⟨_,_,_,_,rfl⟩ | ⟨_,rfl⟩<;>exact key _ _ false (hx.symm.trans ha) (hy.symm.trans hb) (by simp[iI,hu])
theorem XW {c a b:Operand}{pos:String}(hc:((G2 P c).get f).J4=B9 P tm c)(ha:((G2 P a).get f).J4=B9 P tm a)(hb:((G2 P b).get f).J4=B9 P tm b)
  (h:(pkF ((G2 P c).get f) ((G2 P a).get f) ((G2 P b).get f)).J4=some v):Qk P ⟨dst,.pick c a b,type,pos,after,guard⟩ tm H=some v:=by
 generalize (G2 P c).get f=u at h hc;cases u<;>try(cases h;done)
 rename_i t;simp only[FV.J4]at hc;simp only[Qk,←hc];cases t
 ·exact hb.symm.trans h
 ·exact ha.symm.trans h
theorem YO {pos:String}(hx:((G2 P x).get f).J4=B9 P tm x)
  (h:(exF ((G2 P x).get f) i).J4=some v):Qk P ⟨dst,.extract x i,type,pos,after,guard⟩ tm H=some v:=by
 generalize (G2 P x).get f=u at h hx;cases u<;>try(cases h;done)
 rename_i z;simp only[FV.J4]at hx;simp only[Qk,←hx];have h:(FV.VR (Kk z i)).J4=some v:=h;rw[FV.Pq]at h;exact h
theorem vA {l:List At}(h:u.cells=some l): ∃g,u.J4=some (.c g l):=by
 cases u<;>try(cases h;exact⟨_,rfl⟩)
 ·cases h
 ·rename_i x
  cases x with
  | c g m=>cases h;exact⟨g,rfl⟩
  | tup m=>cases h
theorem ph {ti:TypeInfo}(ht:P.info? t=some ti)(h:Wd ti.size H b i u=some H'): ∃x,u.J4=some x∧Ul P H nx t (.ptr b i) x=some (V.undef,H',nx):=by
 unfold Wd at h;split at h
 ·rename_i l hl;obtain⟨g,hg⟩:=vA hl;split at h
  ·rename_i o ho;split at h
   ·rename_i o' h1 h2;cases h;exact⟨_,hg,by simp only[Ul,ht,ho,h1,h2]⟩
   ·cases h
  ·cases h
 ·cases h
theorem So (hv:fv.J4=some v)(h:vm P o f.tr H nx=some (v,H',j5)):ni P o f H nx k (k (f.Gc o.dst fv) H' j5):=
 ⟨fv,H',j5,(Dj h).toQ hv,rfl⟩
theorem sm (hN:Bj P){pos:String}{f:FuncId}{args:List V}
  (hw:cy P c tm=some (.fn f args)) (hc:Lh P f args H nx v H' j5):Ti P ⟨dst,.call c,type,pos,after,guard⟩ tm H nx v H' j5:=by
 obtain⟨xH,d,hc⟩:=hc;refine⟨d,fun η h w A ro n K Q p ra hg hk=>⟨fun _ _=>trivial,?_⟩⟩;have FA:=oC hN hw ra hg (dst:=dst) (type:=type) (pos:=pos) (after:=after) (guard:=guard) w;obtain⟨X8,Yx,Bt⟩:=FA xH;rw[Oper.semAt_eq _ _ _ (fun c e=>by cases e),Bt];refine⟨fun hd=>by simp[fe]at hd,eT ((hc η h w X8 p Yx hg).mono ?_)⟩;rintro e w' ⟨cv,o7,rfl,hv,hs⟩;exact hk cv w' o7 hv hs
theorem MS : ∀(l:List Operand) (k:List FV→RR),cK (rN P l) f k= .no∨ ∃vs xs,Kz vs=some xs∧bU P f.tr l=some xs∧cK (rN P l) f k=k vs:=by
 intro l
 induction l with
 | nil=>intro k;exact .inr ⟨[],[],rfl,rfl,rfl⟩
 | cons x l ih=>
  intro k;have hx:=G6 P f x;show FV.jJ ((G2 P x).get f) (fun v=>cK (rN P l) f fun vs=>k (v::vs)) .no= .no∨ ∃vs xs,Kz vs=some xs∧bU P f.tr (x::l)=some xs∧FV.jJ ((G2 P x).get f) (fun v=>cK (rN P l) f fun vs=>k (v::vs)) .no=k vs;rcases Kg ((G2 P x).get f) (fun v=>cK (rN P l) f fun vs=>k (v::vs)) .no with⟨_,h2⟩ | ⟨y,h1,h2⟩
  ·exact .inl h2
  ·rw[h2];rcases ih (fun vs=>k ((G2 P x).get f::vs))with h3 | ⟨vs,xs,h3,h4,h5⟩
   ·exact .inl h3
   ·refine .inr ⟨(G2 P x).get f::vs,y::xs,by simp[Kz,h1,h3],?_,h5⟩;rw[h1]at hx;simp only[bU,←hx,h4]
theorem lj (hN:Bj P)(hQ:QE P Q m)(o:Oper)(f:Fm)(H:Tr v5)(nx:Nat)(k:KK)(S:Oper→RR):Step P o f H nx k S (bP (cl P o) Q P f H nx k S):=by
 obtain⟨dst,op,type,pos,after,guard⟩:=o;have gen:Step P ⟨dst,op,type,pos,after,guard⟩ f H nx k S (bP (.gen ⟨dst,op,type,pos,after,guard⟩) Q P f H nx k S):= .inr (.inl rfl)
 cases op with
 | move x=>exact .inl (XZ (.inl rfl) f H nx k)
 | assign x=>exact .inl (XZ (.inr rfl) f H nx k)
 | binOp op t x y yt=>
  have hb:Step P ⟨dst,.binOp op t x y yt,type,pos,after,guard⟩ f H nx k S (bP (.bin (p6 dst) (Ns op) (G2 P x) (G2 P y) ⟨dst,.binOp op t x y yt,type,pos,after,guard⟩) Q P f H nx k S):=
   Gw (o:=⟨dst,.binOp op t x y yt,type,pos,after,guard⟩) (.inl rfl) (fun v hv=>ba (G6 P f x) (G6 P f y) hv)
  cases op<;>try exact hb
  ·have he:Step P ⟨dst,.binOp .eql t x y yt,type,pos,after,guard⟩ f H nx k S (bP (.eq (p6 dst) false (OQ P t) (G2 P x) (G2 P y) ⟨dst,.binOp .eql t x y yt,type,pos,after,guard⟩) Q P f H nx k S):=
    Gw (o:=⟨dst,.binOp .eql t x y yt,type,pos,after,guard⟩) (.inl rfl) (fun v hv=>YP (.inl ⟨rfl,rfl⟩) hv)
   simp only[cl];cases h:OQ P t<;>rw[h]at he<;>first | exact he | exact hb
  ·have he:Step P ⟨dst,.binOp .neq t x y yt,type,pos,after,guard⟩ f H nx k S (bP (.eq (p6 dst) true (OQ P t) (G2 P x) (G2 P y) ⟨dst,.binOp .neq t x y yt,type,pos,after,guard⟩) Q P f H nx k S):=
    Gw (o:=⟨dst,.binOp .neq t x y yt,type,pos,after,guard⟩) (.inl rfl) (fun v hv=>YP (.inr ⟨rfl,rfl⟩) hv)
   simp only[cl];cases h:OQ P t<;>rw[h]at he<;>first | exact he | exact hb
 | load t a=>
  simp only[cl]
  cases ht:Xx P t with
  | none=>exact gen
  | some p=>
   obtain⟨g,n⟩:=p;show Step P _ f H nx k S (FV.Ng ((G2 P a).get f) (fun b i=>toQ (I2 g n H b i) (p6 dst) f H nx k .no) .no);rcases Ar ((G2 P a).get f) (fun b i=>toQ (I2 g n H b i) (p6 dst) f H nx k .no) .no with⟨b,i,hp,he⟩ | he
   ·rw[he];refine Gw (o:=⟨dst,.load t a,type,pos,after,guard⟩) (.inr rfl) (fun v hv=> ?_);have ha:=G6 P f a;rw[hp]at ha;simp only[FV.J4]at ha;simp only[Qk,←ha];exact uK ht hv
   ·rw[he];exact .inr (.inr rfl)
 | store t a x=>
  simp only[cl]
  cases ht:P.info? t with
  | none=>exact gen
  | some ti=>
   show Step P _ f H nx k S (FV.Ng ((G2 P a).get f) (fun b i=>EW (Wd ti.size H b i ((G2 P x).get f)) (fun H'=>Dc H' fun H'=>(p6 dst).Bs (.v V.undef) f fun M4=>k M4 H' nx) .no) .no);rcases Ar ((G2 P a).get f) (fun b i=>EW (Wd ti.size H b i ((G2 P x).get f)) (fun H'=>Dc H' fun H'=>(p6 dst).Bs (.v V.undef) f fun M4=>k M4 H' nx) .no) .no with⟨b,i,hp,he⟩ | he
   ·rw[he]
    cases hs:Wd ti.size H b i ((G2 P x).get f)with
    | none=>exact .inr (.inr rfl)
    | some H'=>
     show Step P _ f H nx k S (Dc H' fun H'=>(p6 dst).Bs (.v V.undef) f fun M4=>k M4 H' nx);rw[Ga,F6];refine .inl (So (o:=⟨dst,.store t a x,type,pos,after,guard⟩) (v:=V.undef) rfl ?_);have ha:=G6 P f a;rw[hp]at ha;simp only[FV.J4]at ha;obtain⟨y,h1,h2⟩:=ph (nx:=nx) ht hs;have hx:=G6 P f x;rw[h1]at hx;simp only[vm,Qk,WZ,←ha,←hx,h2]
   ·rw[he];exact .inr (.inr rfl)
 | box t x=>
  show Step P _ f H nx k S (EW ((G2 P x).get f).cells (fun l=>qb4 (mk t l) (p6 dst) f H nx k) .no)
  cases hc:((G2 P x).get f).cells with
  | none=>exact .inr (.inr rfl)
  | some l=>
   show Step P _ f H nx k S (Dc (H.put (some (mk t l)) nx) fun H'=>(p6 dst).Bs (.p nx 0) f fun M4=>k M4 H' (Nat.succ nx));rw[Ga,F6];obtain⟨g,hg⟩:=vA hc;have hx:=G6 P f x;rw[hg]at hx;exact .inl (So (o:=⟨dst,.box t x,type,pos,after,guard⟩) rfl (by simp only[vm,Qk,WZ,←hx,jz]))
 | alloc t=>
  simp only[cl]
  cases hz:Nn P t with
  | none=>exact gen
  | some p=>
   obtain⟨g,z⟩:=p;show Step P _ f H nx k S (Dc (H.put (some (mk t z)) nx) fun H'=>(p6 dst).Bs (.p nx 0) f fun M4=>k M4 H' (Nat.succ nx));rw[Ga,F6];exact .inl (So (o:=⟨dst,.alloc t,type,pos,after,guard⟩) rfl (by simp only[vm,Qk,WZ,aP,hz]))
 | fieldAddr s x fd=>
  simp only[cl]
  cases hf:sO P s fd with
  | none=>exact gen
  | some off=>
   show Step P _ f H nx k S (FV.Ng ((G2 P x).get f) (fun b a=>A8 (Nat.add a off) fun a=>(p6 dst).Bs (.p b a) f fun M4=>k M4 H nx) .no);rcases Ar ((G2 P x).get f) (fun b a=>A8 (Nat.add a off) fun a=>(p6 dst).Bs (.p b a) f fun M4=>k M4 H nx) .no with⟨b,a,hp,he⟩ | he
   ·rw[he,E8,F6];refine .inl (Xj (o:=⟨dst,.fieldAddr s x fd,type,pos,after,guard⟩) rfl ?_);have hx:=G6 P f x;rw[hp]at hx;simp only[FV.J4]at hx;simp only[Qk,←hx];exact YN hf b a
   ·rw[he];exact .inr (.inr rfl)
 | indexAddr t x i=>
  simp only[cl]
  cases hl:EY P t with
  | none=>exact gen
  | some p=>
   obtain⟨l,sz⟩:=p;refine Gw (o:=⟨dst,.indexAddr t x i,type,pos,after,guard⟩) (.inl rfl) (fun v hv=> ?_);simp only[Qk];exact YC hl (G6 P f x) (G6 P f i) hv
 | pick c a b=>exact Gw (o:=⟨dst,.pick c a b,type,pos,after,guard⟩) (.inr rfl) (fun v hv=>XW (G6 P f c) (G6 P f a) (G6 P f b) hv)
 | nilCheck x=>
  show Step P _ f H nx k S (FV.Ng ((G2 P x).get f) (fun b a=>(p6 dst).Bs (.p b a) f fun M4=>k M4 H nx) (S ⟨dst,.nilCheck x,type,pos,after,guard⟩));rcases Ar ((G2 P x).get f) (fun b a=>(p6 dst).Bs (.p b a) f fun M4=>k M4 H nx) (S ⟨dst,.nilCheck x,type,pos,after,guard⟩)with⟨b,a,hp,he⟩ | he
  ·rw[he,F6];refine .inl (Xj (o:=⟨dst,.nilCheck x,type,pos,after,guard⟩) rfl ?_);have hx:=G6 P f x;rw[hp]at hx;simp only[FV.J4]at hx;simp only[Qk,←hx]
  ·rw[he];exact .inr (.inl rfl)
 | extract x i=>exact Gw (o:=⟨dst,.extract x i,type,pos,after,guard⟩) (.inr rfl) (fun v hv=>YO (G6 P f x) hv)
 | unOp op t x=>
  cases op<;>try exact gen
  exact dP (o:=⟨dst,.unOp .not t x,type,pos,after,guard⟩) (.inl rfl) (fun c e=>by cases e) (fun v hv=>qt0 hv)
 | convert s t x=>
  simp only[cl]
  cases hk:FO P s t with
  | none=>exact gen
  | some kd=>exact dP (o:=⟨dst,.convert s t x,type,pos,after,guard⟩) (.inl rfl) (fun c e=>by cases e) (fun v hv=>qv2 hk hv)
 | call c=>
  obtain⟨callee,args,argTypes⟩:=c
  cases callee with
  | invoke r mth=>exact gen
  | builtin b=>
   cases b<;>try exact gen
   simp only[cl];split
   ·rename_i x t ts ha ht
    cases hs:Ot P t with
    | false=>exact gen
    | true=>exact dP (o:=⟨dst,.call ⟨.builtin .len,args,argTypes⟩,type,pos,after,guard⟩) (.inl rfl) (fun c e=>by cases e) (fun v hv=>qh5 rfl ha ht hs hv)
   ·exact gen
  | value g=>
   cases g<;>try exact gen
   rename_i fn;show Step P _ f H nx k S (cK (rN P args.toList) f fun vs=>crK (Q.c fn vs H nx) (p6 dst) f k);rcases MS args.toList (fun vs=>crK (Q.c fn vs H nx) (p6 dst) f k)with he | ⟨vs,xs,h1,h2,he⟩
   ·rw[he];exact .inr (.inr rfl)
   ·rw[he]
    cases hc:Q.c fn vs H nx with
    | no=>exact .inr (.inr rfl)
    | ok v H' j5=>
     show Step P _ f H nx k S (Dc H' fun H=>A8 j5 fun nx=>FV.jJ v (fun v=>(p6 dst).Bs v f fun M4=>k M4 H nx) .no);obtain⟨x,hx,J3⟩:=hQ.c _ _ _ _ _ _ _ hc xs h1;rw[Ga,E8,Gy hx,F6]
     have hw:cy P ⟨.value (.func fn),args,argTypes⟩ f.tr=some (.fn fn xs):=by
      simp[cy,B9,h2,Re,Yd]
     exact .inl ⟨v,H',j5,(sm hN hw J3).toQ hx,rfl⟩
 | _=>exact gen
def JB (ops:Array Oper)(o:Oper)(f:Fm)(b:Bool):Prop:= ∀(η:Env) (A:Array Value),RA η f.tr A→Region.wanted o (yielded ops A)=b
theorem Jt {b:Bool}(h:G7 ops o f.tr=some b):JB ops o f b:=fun _ _ ra=>As h ra
theorem RA.T7 (h:RA η tm A)(l:List Tmp):RA η (n8 tm l) A:=fun t v hv=>by
 rw[Dn]at hv;by_cases e:t∈l
 ·rw[x9 e]at hv;exact h t v hv
 ·rw[z9 e]at hv;cases hv
def GStep (P:Program)(ops:Array Oper)(o:Oper)(f:Fm)(H:Tr v5)(nx:Nat)(k:KK)(r:RR):Prop:=
 (JB ops o f true∧ni P o f H nx k r)∨(JB ops o f false∧r=k (f.Gc o.dst (.v V.undef)) H nx)∨r= .no
theorem Ti.weaken (h:Ti P o tm H nx v H' j5)(Hu: ∀η A,RA η G0 A→RA η tm A):Ti P o G0 H nx v H' j5:=
 ⟨h.1,fun η hp w A ro n K Q p ra hg hk=>h.2 η hp w A ro n K Q p (Hu _ _ ra) hg hk⟩
theorem wu :YT (p6 o.dst) f k (some (v,H,nx))=k (f.Gc o.dst (FV.BZ v)) H nx:=by
 show(Dc H fun H'=>A8 nx fun j5=>FV.jJ (FV.BZ v) (fun x=>(p6 o.dst).Bs x f fun M4=>k M4 H' j5) .no)=_;rw[Ga,E8,Gy (FV.Ia v),F6]
theorem pc (hN:Bj P)(hQ:QE P Q m)(ops:Array Oper)(o:Oper)(f:Fm)(H:Tr v5)(nx:Nat)(k:KK):GStep P ops o f H nx k (Tn Q P ops f H nx k o):=by
 unfold Tn;rw[Wy]
 cases hg:IM Q.f P ops o (n8 f.tr (o.looksAt ops)) H nx with
 | none=>exact .inr (.inr rfl)
 | some r=>
  obtain⟨v,H',j5⟩:=r;rw[wu];unfold IM at hg;split at hg
  ·rename_i Cn;refine .inl ⟨fun η A ra=>As Cn (ra.T7 _),FV.BZ v,H',j5,?_,rfl⟩
   have J3:Ti P o (n8 f.tr (o.looksAt ops)) H nx v H' j5:=by
    cases hc:Oc o.op with
    | true=>rw[hc]at hg;exact dS hN hQ.f.ops hg
    | false=>rw[hc]at hg;exact Dj hg
   exact(J3.weaken (fun η A ra=>ra.T7 _)).toQ (FV.Ia v)
  ·rename_i Cn;cases hg;exact .inr (.inl ⟨fun η A ra=>As Cn (ra.T7 _),rfl⟩)
  ·cases hg
theorem TX (hN:Bj P)(hQ:QE P Q m)(ops:Array Oper)(o:Oper)(f:Fm)(H:Tr v5)(nx:Nat)(k:KK):GStep P ops o f H nx k (bP (gd P ops o) Q P f H nx k (Tn Q P ops f H nx k)):=by
 have gen:=pc hN hQ ops o f H nx k;have step:=lj hN hQ o f H nx k (Tn Q P ops f H nx k);unfold gd;split
 ·rename_i hg;rcases step with h | h | h
  ·exact .inl ⟨Jt (by simp[G7,hg]),h⟩
  ·rw[h];exact gen
  ·exact .inr (.inr h)
 ·rename_i j want hg;split
  ·rename_i oj hj;split
   ·rename_i d hd;show GStep P ops o f H nx k (gdK ((Tc d).get f) want (bP (cl P o) Q P f H nx k (Tn Q P ops f H nx k)) (jW (p6 o.dst) f H nx k));have hu:((Tc d).get f).J4=f.tr.get d:=(Fm.Et f d).symm;have sK:jW (p6 o.dst) f H nx k=k (f.Gc o.dst (.v V.undef)) H nx:=F6 o.dst (.v V.undef) f (fun M4=>k M4 H nx);generalize (Tc d).get f=u at hu
    have Cn: ∀r,(match f.tr.get d with | some (.c false [.bool b])=>some (b==want) | some (.tup _)=>some false | _=>none)=some r→G7 ops o f.tr=some r:=by
     intro r hr;simp only[G7,hg,hj,hd];exact hr
    cases u<;>try exact .inr (.inr rfl)
    ·rename_i x;simp only[FV.J4]at hu;rw[←hu]at Cn;cases x<;>cases want
     ·rcases step with h | h | h
      ·exact .inl ⟨Jt (Cn true rfl),h⟩
      ·show GStep P ops o f H nx k (bP (cl P o) Q P f H nx k (Tn Q P ops f H nx k));rw[h];exact gen
      ·exact .inr (.inr h)
     ·exact .inr (.inl ⟨Jt (Cn false rfl),sK⟩)
     ·exact .inr (.inl ⟨Jt (Cn false rfl),sK⟩)
     ·rcases step with h | h | h
      ·exact .inl ⟨Jt (Cn true rfl),h⟩
      ·show GStep P ops o f H nx k (bP (cl P o) Q P f H nx k (Tn Q P ops f H nx k));rw[h];exact gen
      ·exact .inr (.inr h)
    ·rename_i x;simp only[FV.J4]at hu;rw[←hu]at Cn
     cases x with
     | c g l=>exact .inr (.inr rfl)
     | tup l=>exact .inr (.inl ⟨Jt (Cn false rfl),sK⟩)
   ·exact gen
  ·exact gen
theorem uA (A:Act)(d:Option Tmp)(cv:Value):(A.put d cv).tmps.size=A.tmps.size∧(A.put d cv).defers=A.defers:=by
 cases d<;>simp[Act.put]
theorem SH (hN:Bj P)(hQ:QE P Q m): ∀(l:List Oper) (f:Fm) (H:Tr v5) (nx:Nat) (f':Fm) (H':Tr v5) (j5:Nat),dv (x_ P ops l) Q P ops f H nx= .ok f' H' j5→O1 b l=true→
  Dm H.get H'.get nx j5∧ ∀(η:Env) (h:Hp) (w:World) (A:Act) (ro:Option Nat) (n:Nat) (R:Exit→Act→World→Prop),Ek η h w H.get nx j5→RA η f.tr A.tmps→b≤A.tmps.size→η.Bn P→
   (∀o7 w' A',Y6 η h w H.get H'.get nx j5 o7 w'→RA o7 f'.tr A'.tmps→A'.tmps.size=A.tmps.size→A'.defers=A.defers→R .normal A' w')→wpListIn (fe ro) n P ops R l A w:=by
 intro l
 induction l with
 | nil=>
  intro f H nx f' H' j5 he _;have he:RR.ok f H nx= .ok f' H' j5:=he;cases he;exact⟨Dm.refl _ _,fun η h w A ro n R p ra hb hg hR=>hR η w A (Y6.refl p.ext p.rh) ra rfl rfl⟩
 | cons o l ih=>
  intro f H nx f' H' j5 he Z;have he:bP (gd P ops o) Q P f H nx (dv (x_ P ops l) Q P ops) (Tn Q P ops f H nx (dv (x_ P ops l) Q P ops))= .ok f' H' j5:=he
  have FH:sQ b o.dst=true:=by
   simp only[O1]at Z;split at Z
   ·assumption
   ·cases Z
  have j1:O1 b l=true:=by
   simp only[O1]at Z;split at Z
   ·exact Z
   ·cases Z
  have hdt: ∀t,o.dst=some t→t<b:=fun t ht=>by rw[ht]at FH;exact Ce FH
  have step:=TX hN hQ ops o f H nx (dv (x_ P ops l) Q P ops);rw[he]at step;rcases step with⟨hw,fv,H1,L6,J3,hr⟩ | ⟨hw,hr⟩ | hr
  ·obtain⟨d1,h1⟩:=J3;obtain⟨d2,h2⟩:=ih _ _ _ _ _ _ hr.symm j1;refine⟨d1.trans d2,fun η h w A ro n R p ra hb hg hR=> ?_⟩;unfold wpListIn;rw[hw η A.tmps ra,x9 rfl];refine h1 η h w A ro n _ R (p.less d2.le) ra hg (fun cv w' o7 hv hs=> ?_);obtain⟨bA,xF⟩:=uA A o.dst cv;have Fh:=(ra.mono hs.le).Gc (d:=o.dst) (fun t ht=>W6 (hdt t ht) hb) hv;refine h2 o7 _ w' _ ro n R (p.next d1 hs) Fh (by rw[bA];exact hb) (Ki hg hs.le) (fun NY w2 A2 t2 ZP Pk qZ=> ?_);exact hR NY w2 A2 (Y6.trans d1 d2 hs t2) ZP (Pk.trans bA) (qZ.trans xF)
  ·obtain⟨d2,h2⟩:=ih _ _ _ _ _ _ hr.symm j1;refine⟨d2,fun η h w A ro n R p ra hb hg hR=> ?_⟩;unfold wpListIn;rw[hw η A.tmps ra,z9 (by simp)];refine⟨fun _ _=>trivial,?_⟩;obtain⟨bA,xF⟩:=uA A o.dst Go.undef;have Fh:=ra.Gc (d:=o.dst) (v:= .v V.undef) (cv:=Go.undef) (fun t ht=>W6 (hdt t ht) hb) (fun x hx=>by cases hx;rfl);exact h2 η h w _ ro n R p Fh (by rw[bA];exact hb) hg (fun NY w2 A2 t2 ZP Pk qZ=>hR NY w2 A2 t2 ZP (Pk.trans bA) (qZ.trans xF))
  ·cases hr
end Go.Proofs.YtlhlmcohdkkjpaaGreatDoor.Ev
