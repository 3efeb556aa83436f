/- Layer 17: the comparisons of pairs, loads and caps. -/
import Derived.Test.YtlhlmcohdkkjpaaGreatDoorZB
set_option linter.all false
set_option maxHeartbeats 16000000
set_option maxRecDepth 100000
namespace Go.Proofs.YtlhlmcohdkkjpaaGreatDoor
open Go.RowKit
theorem Xl (a b:Int):Fits (j7 a b):=by unfold j7 Fits;split<;>(try split)<;>omega
theorem dX (w:World)(xs:List Int)(hf: ∀x∈xs,Fits x)(hl:xs.length≤maxLen):e8 (w.alloc (.cells (xs.map I).toArray 3)) (.slice (some ⟨w.heap.size,0,none⟩) xs.length xs.length) xs:=by
 have hb:=j4.new w 3 (xs.map I).toArray
 have e:xs.flatMap Ao=xs.map I:=by
  clear hb hf hl
  induction xs with
   | nil=>rfl
   | cons x t ih=>simp[Ao,ih]
 refine⟨⟨_,_,rfl,a9 _,hl,by rw[e];simp,fun _=>⟨w.heap.size,0,rfl,hb.lt,fun j u hu=> ?_⟩⟩,hf⟩;rw[e]at hu;rw[O3,hb.cell j];simpa using hu
theorem Xq (xa xb xc xd xe ya yb yc yd ye:Int)(w:World):Calls Tryz.prog 123 #[.agg #[.int .i64 xa,.int .i64 xb,.int .i64 xc,.int .i64 xd,.int .i64 xe],.agg #[.int .i64 ya,.int .i64 yb,.int .i64 yc,.int .i64 yd,.int .i64 ye]] w fun r w'=>r= .returned (.int .i64 (Kr [j7 xa ya,j7 xb yb,j7 xc yc,j7 xd yd,j7 xe ye]))∧z6 [] w w':=by
 have b0:j4 ((w.alloc (.cells #[.int .i64 xa,.int .i64 xb,.int .i64 xc,.int .i64 xd,.int .i64 xe] 79)).alloc (.cells #[.int .i64 ya,.int .i64 yb,.int .i64 yc,.int .i64 yd,.int .i64 ye] 79)) w.heap.size 79 #[.int .i64 xa,.int .i64 xb,.int .i64 xc,.int .i64 xd,.int .i64 xe]:=(j4.new _ _ _).alloc _
 have b1:j4 ((w.alloc (.cells #[.int .i64 xa,.int .i64 xb,.int .i64 xc,.int .i64 xd,.int .i64 xe] 79)).alloc (.cells #[.int .i64 ya,.int .i64 yb,.int .i64 yc,.int .i64 yd,.int .i64 ye] 79)) (w.heap.size+1) 79 #[.int .i64 ya,.int .i64 yb,.int .i64 yc,.int .i64 yd,.int .i64 ye]:=by
  have:=j4.new (w.alloc (.cells #[.int .i64 xa,.int .i64 xb,.int .i64 xc,.int .i64 xd,.int .i64 xe] 79)) 79 #[.int .i64 ya,.int .i64 yb,.int .i64 yc,.int .i64 yd,.int .i64 ye];simpa using this
 have o6:z6 [] w ((w.alloc (.cells #[.int .i64 xa,.int .i64 xb,.int .i64 xc,.int .i64 xd,.int .i64 xe] 79)).alloc (.cells #[.int .i64 ya,.int .i64 yb,.int .i64 yc,.int .i64 yd,.int .i64 ye] 79)):=((z8 [] w).alloc _).alloc _;have HC:Hid (∀W',z6 [] ((w.alloc (.cells #[.int .i64 xa,.int .i64 xb,.int .i64 xc,.int .i64 xd,.int .i64 xe] 79)).alloc (.cells #[.int .i64 ya,.int .i64 yb,.int .i64 yc,.int .i64 yd,.int .i64 ye] 79)) W'→W'.cell? ⟨w.heap.size,0,none⟩=some (.int .i64 xa)∧W'.cell? ⟨w.heap.size,1,none⟩=some (.int .i64 xb)∧W'.cell? ⟨w.heap.size,2,none⟩=some (.int .i64 xc)∧W'.cell? ⟨w.heap.size,3,none⟩=some (.int .i64 xd)∧W'.cell? ⟨w.heap.size,4,none⟩=some (.int .i64 xe)∧W'.cell? ⟨w.heap.size+1,0,none⟩=some (.int .i64 ya)∧W'.cell? ⟨w.heap.size+1,1,none⟩=some (.int .i64 yb)∧W'.cell? ⟨w.heap.size+1,2,none⟩=some (.int .i64 yc)∧W'.cell? ⟨w.heap.size+1,3,none⟩=some (.int .i64 yd)∧W'.cell? ⟨w.heap.size+1,4,none⟩=some (.int .i64 ye)):=O (fun W' t=>⟨((b0.z7 t (by simp)).cell 0).trans rfl,((b0.z7 t (by simp)).cell 1).trans rfl,((b0.z7 t (by simp)).cell 2).trans rfl,((b0.z7 t (by simp)).cell 3).trans rfl,((b0.z7 t (by simp)).cell 4).trans rfl,((b1.z7 t (by simp)).cell 0).trans rfl,((b1.z7 t (by simp)).cell 1).trans rfl,((b1.z7 t (by simp)).cell 2).trans rfl,((b1.z7 t (by simp)).cell 3).trans rfl,((b1.z7 t (by simp)).cell 4).trans rfl⟩);have m9:=O o6;have Vw:=O (fun(a b:Int) W=>Ck a b W)
 have mr:Hid (∀W:World,Calls Tryz.prog 165 #[.slice (some ⟨W.heap.size,0,none⟩) 5 5] ((W.alloc (.cells #[.int .i64 (j7 xa ya),.int .i64 (j7 xb yb),.int .i64 (j7 xc yc),.int .i64 (j7 xd yd),.int .i64 (j7 xe ye)] 3)).drew) fun r w'=>r= .returned (.int .i64 (Kr [j7 xa ya,j7 xb yb,j7 xc yc,j7 xd yd,j7 xe ye]))∧z6 [] ((W.alloc (.cells #[.int .i64 (j7 xa ya),.int .i64 (j7 xb yb),.int .i64 (j7 xc yc),.int .i64 (j7 xd yd),.int .i64 (j7 xe ye)] 3)).drew) w'):=O (fun(W:World)=>oG _ [j7 xa ya,j7 xb yb,j7 xc yc,j7 xd yd,j7 xe ye] _ ((dX W [j7 xa ya,j7 xb yb,j7 xc yc,j7 xd yd,j7 xe ye] (fun x hx=>by
  simp at hx
  rcases hx with rfl | rfl | rfl | rfl | rfl<;>exact Xl _ _) (by simp[maxLen])).q8 (z8 [] _).drew))
 have EO:=O (rfl:Kr [j7 xa ya,j7 xb yb,j7 xc yc,j7 xd yd,j7 xe ye]=Kr [j7 xa ya,j7 xb yb,j7 xc yc,j7 xd yd,j7 xe ye]);generalize Cp:Kr [j7 xa ya,j7 xb yb,j7 xc yc,j7 xd yd,j7 xe ye]=n9 at mr⊢;clear b0 b1 o6 Cp EO;go_enter Tryz.func123,Tryz.ntmps123;go_wp2_with fail;generalize ((w.alloc (.cells #[.int .i64 xa,.int .i64 xb,.int .i64 xc,.int .i64 xd,.int .i64 xe] 79)).alloc (.cells #[.int .i64 ya,.int .i64 yb,.int .i64 yc,.int .i64 yd,.int .i64 ye] 79))=w0 at*;have hT:=(z8 [] w0).drew;generalize hca:j7 xa ya=ca at*;generalize hcb:j7 xb yb=cb at*;generalize xI:j7 xc yc=cc at*;generalize hcd:j7 xd yd=cd at*;generalize hce:j7 xe ye=ce at*
 go_region_held3 (fun W'=>W'.cell? ⟨w.heap.size,0,none⟩=some (.int .i64 xa)∧W'.cell? ⟨w.heap.size,1,none⟩=some (.int .i64 xb)∧W'.cell? ⟨w.heap.size,2,none⟩=some (.int .i64 xc)∧W'.cell? ⟨w.heap.size,3,none⟩=some (.int .i64 xd)∧W'.cell? ⟨w.heap.size,4,none⟩=some (.int .i64 xe)∧W'.cell? ⟨w.heap.size+1,0,none⟩=some (.int .i64 ya)∧W'.cell? ⟨w.heap.size+1,1,none⟩=some (.int .i64 yb)∧W'.cell? ⟨w.heap.size+1,2,none⟩=some (.int .i64 yc)∧W'.cell? ⟨w.heap.size+1,3,none⟩=some (.int .i64 yd)∧W'.cell? ⟨w.heap.size+1,4,none⟩=some (.int .i64 ye)) (first | exact HC.o _ hT | exact HC.o _ ((z8 [] w0).alloc _).drew) (first
  | (go_at_call 78;with_reducible refine(Vw.o _ _ _).mono ?_;rintro r w6 ⟨rfl,rfl⟩;(try simp only[hca,hcb,xI,hcd,hce]))
  | (go_at_call 165;with_reducible refine(mr.o _).mono ?_;rintro r w7 ⟨rfl,th⟩;(try dsimp only);replace hT:=((z8 [] w0).alloc _).drew.Y th;clear th))
 all_goals
  go_wp2_with fail;go_ret;exact⟨rfl,(z6.Y m9.o hT)⟩
theorem Xr (xa xb xc xd xe ya yb yc yd ye:Int)(w:World):Calls Tryz.prog 126 #[.agg #[.int .i64 xa,.int .i64 xb,.int .i64 xc,.int .i64 xd,.int .i64 xe],.agg #[.int .i64 ya,.int .i64 yb,.int .i64 yc,.int .i64 yd,.int .i64 ye]] w fun r w'=>r= .returned (.int .i64 (Kr [j7 xa ya,j7 xb yb,j7 xc yc,j7 xd yd,j7 xe ye]))∧z6 [] w w':=by
 have b0:j4 ((w.alloc (.cells #[.int .i64 xa,.int .i64 xb,.int .i64 xc,.int .i64 xd,.int .i64 xe] 81)).alloc (.cells #[.int .i64 ya,.int .i64 yb,.int .i64 yc,.int .i64 yd,.int .i64 ye] 81)) w.heap.size 81 #[.int .i64 xa,.int .i64 xb,.int .i64 xc,.int .i64 xd,.int .i64 xe]:=(j4.new _ _ _).alloc _
 have b1:j4 ((w.alloc (.cells #[.int .i64 xa,.int .i64 xb,.int .i64 xc,.int .i64 xd,.int .i64 xe] 81)).alloc (.cells #[.int .i64 ya,.int .i64 yb,.int .i64 yc,.int .i64 yd,.int .i64 ye] 81)) (w.heap.size+1) 81 #[.int .i64 ya,.int .i64 yb,.int .i64 yc,.int .i64 yd,.int .i64 ye]:=by
  have:=j4.new (w.alloc (.cells #[.int .i64 xa,.int .i64 xb,.int .i64 xc,.int .i64 xd,.int .i64 xe] 81)) 81 #[.int .i64 ya,.int .i64 yb,.int .i64 yc,.int .i64 yd,.int .i64 ye];simpa using this
 have o6:z6 [] w ((w.alloc (.cells #[.int .i64 xa,.int .i64 xb,.int .i64 xc,.int .i64 xd,.int .i64 xe] 81)).alloc (.cells #[.int .i64 ya,.int .i64 yb,.int .i64 yc,.int .i64 yd,.int .i64 ye] 81)):=((z8 [] w).alloc _).alloc _;have HC:Hid (∀W',z6 [] ((w.alloc (.cells #[.int .i64 xa,.int .i64 xb,.int .i64 xc,.int .i64 xd,.int .i64 xe] 81)).alloc (.cells #[.int .i64 ya,.int .i64 yb,.int .i64 yc,.int .i64 yd,.int .i64 ye] 81)) W'→W'.cell? ⟨w.heap.size,0,none⟩=some (.int .i64 xa)∧W'.cell? ⟨w.heap.size,1,none⟩=some (.int .i64 xb)∧W'.cell? ⟨w.heap.size,2,none⟩=some (.int .i64 xc)∧W'.cell? ⟨w.heap.size,3,none⟩=some (.int .i64 xd)∧W'.cell? ⟨w.heap.size,4,none⟩=some (.int .i64 xe)∧W'.cell? ⟨w.heap.size+1,0,none⟩=some (.int .i64 ya)∧W'.cell? ⟨w.heap.size+1,1,none⟩=some (.int .i64 yb)∧W'.cell? ⟨w.heap.size+1,2,none⟩=some (.int .i64 yc)∧W'.cell? ⟨w.heap.size+1,3,none⟩=some (.int .i64 yd)∧W'.cell? ⟨w.heap.size+1,4,none⟩=some (.int .i64 ye)):=O (fun W' t=>⟨((b0.z7 t (by simp)).cell 0).trans rfl,((b0.z7 t (by simp)).cell 1).trans rfl,((b0.z7 t (by simp)).cell 2).trans rfl,((b0.z7 t (by simp)).cell 3).trans rfl,((b0.z7 t (by simp)).cell 4).trans rfl,((b1.z7 t (by simp)).cell 0).trans rfl,((b1.z7 t (by simp)).cell 1).trans rfl,((b1.z7 t (by simp)).cell 2).trans rfl,((b1.z7 t (by simp)).cell 3).trans rfl,((b1.z7 t (by simp)).cell 4).trans rfl⟩);have m9:=O o6;have Vw:=O (fun(a b:Int) W=>Ck a b W)
 have mr:Hid (∀W:World,Calls Tryz.prog 165 #[.slice (some ⟨W.heap.size,0,none⟩) 5 5] ((W.alloc (.cells #[.int .i64 (j7 xa ya),.int .i64 (j7 xb yb),.int .i64 (j7 xc yc),.int .i64 (j7 xd yd),.int .i64 (j7 xe ye)] 3)).drew) fun r w'=>r= .returned (.int .i64 (Kr [j7 xa ya,j7 xb yb,j7 xc yc,j7 xd yd,j7 xe ye]))∧z6 [] ((W.alloc (.cells #[.int .i64 (j7 xa ya),.int .i64 (j7 xb yb),.int .i64 (j7 xc yc),.int .i64 (j7 xd yd),.int .i64 (j7 xe ye)] 3)).drew) w'):=O (fun(W:World)=>oG _ [j7 xa ya,j7 xb yb,j7 xc yc,j7 xd yd,j7 xe ye] _ ((dX W [j7 xa ya,j7 xb yb,j7 xc yc,j7 xd yd,j7 xe ye] (fun x hx=>by
  simp at hx
  rcases hx with rfl | rfl | rfl | rfl | rfl<;>exact Xl _ _) (by simp[maxLen])).q8 (z8 [] _).drew))
 have EO:=O (rfl:Kr [j7 xa ya,j7 xb yb,j7 xc yc,j7 xd yd,j7 xe ye]=Kr [j7 xa ya,j7 xb yb,j7 xc yc,j7 xd yd,j7 xe ye]);generalize Cp:Kr [j7 xa ya,j7 xb yb,j7 xc yc,j7 xd yd,j7 xe ye]=n9 at mr⊢;clear b0 b1 o6 Cp EO;go_enter Tryz.func126,Tryz.ntmps126;go_wp2_with fail;generalize ((w.alloc (.cells #[.int .i64 xa,.int .i64 xb,.int .i64 xc,.int .i64 xd,.int .i64 xe] 81)).alloc (.cells #[.int .i64 ya,.int .i64 yb,.int .i64 yc,.int .i64 yd,.int .i64 ye] 81))=w0 at*;have hT:=(z8 [] w0).drew;generalize hca:j7 xa ya=ca at*;generalize hcb:j7 xb yb=cb at*;generalize xI:j7 xc yc=cc at*;generalize hcd:j7 xd yd=cd at*;generalize hce:j7 xe ye=ce at*
 go_region_held3 (fun W'=>W'.cell? ⟨w.heap.size,0,none⟩=some (.int .i64 xa)∧W'.cell? ⟨w.heap.size,1,none⟩=some (.int .i64 xb)∧W'.cell? ⟨w.heap.size,2,none⟩=some (.int .i64 xc)∧W'.cell? ⟨w.heap.size,3,none⟩=some (.int .i64 xd)∧W'.cell? ⟨w.heap.size,4,none⟩=some (.int .i64 xe)∧W'.cell? ⟨w.heap.size+1,0,none⟩=some (.int .i64 ya)∧W'.cell? ⟨w.heap.size+1,1,none⟩=some (.int .i64 yb)∧W'.cell? ⟨w.heap.size+1,2,none⟩=some (.int .i64 yc)∧W'.cell? ⟨w.heap.size+1,3,none⟩=some (.int .i64 yd)∧W'.cell? ⟨w.heap.size+1,4,none⟩=some (.int .i64 ye)) (first | exact HC.o _ hT | exact HC.o _ ((z8 [] w0).alloc _).drew) (first
  | (go_at_call 78;with_reducible refine(Vw.o _ _ _).mono ?_;rintro r w6 ⟨rfl,rfl⟩;(try simp only[hca,hcb,xI,hcd,hce]))
  | (go_at_call 165;with_reducible refine(mr.o _).mono ?_;rintro r w7 ⟨rfl,th⟩;(try dsimp only);replace hT:=((z8 [] w0).alloc _).drew.Y th;clear th))
 all_goals
  go_wp2_with fail;go_ret;exact⟨rfl,(z6.Y m9.o hT)⟩
theorem Zt (xa xb xc xd ya yb yc yd:Int)(w:World):Calls Tryz.prog 129 #[.agg #[.int .i64 xa,.int .i64 xb,.int .i64 xc,.int .i64 xd],.agg #[.int .i64 ya,.int .i64 yb,.int .i64 yc,.int .i64 yd]] w fun r w'=>r= .returned (.int .i64 (Kr [j7 xa ya,j7 xb yb,j7 xc yc,j7 xd yd]))∧z6 [] w w':=by
 have b0:j4 ((w.alloc (.cells #[.int .i64 xa,.int .i64 xb,.int .i64 xc,.int .i64 xd] 83)).alloc (.cells #[.int .i64 ya,.int .i64 yb,.int .i64 yc,.int .i64 yd] 83)) w.heap.size 83 #[.int .i64 xa,.int .i64 xb,.int .i64 xc,.int .i64 xd]:=(j4.new _ _ _).alloc _
 have b1:j4 ((w.alloc (.cells #[.int .i64 xa,.int .i64 xb,.int .i64 xc,.int .i64 xd] 83)).alloc (.cells #[.int .i64 ya,.int .i64 yb,.int .i64 yc,.int .i64 yd] 83)) (w.heap.size+1) 83 #[.int .i64 ya,.int .i64 yb,.int .i64 yc,.int .i64 yd]:=by
  have:=j4.new (w.alloc (.cells #[.int .i64 xa,.int .i64 xb,.int .i64 xc,.int .i64 xd] 83)) 83 #[.int .i64 ya,.int .i64 yb,.int .i64 yc,.int .i64 yd];simpa using this
 have o6:z6 [] w ((w.alloc (.cells #[.int .i64 xa,.int .i64 xb,.int .i64 xc,.int .i64 xd] 83)).alloc (.cells #[.int .i64 ya,.int .i64 yb,.int .i64 yc,.int .i64 yd] 83)):=((z8 [] w).alloc _).alloc _;have HC:Hid (∀W',z6 [] ((w.alloc (.cells #[.int .i64 xa,.int .i64 xb,.int .i64 xc,.int .i64 xd] 83)).alloc (.cells #[.int .i64 ya,.int .i64 yb,.int .i64 yc,.int .i64 yd] 83)) W'→W'.cell? ⟨w.heap.size,0,none⟩=some (.int .i64 xa)∧W'.cell? ⟨w.heap.size,1,none⟩=some (.int .i64 xb)∧W'.cell? ⟨w.heap.size,2,none⟩=some (.int .i64 xc)∧W'.cell? ⟨w.heap.size,3,none⟩=some (.int .i64 xd)∧W'.cell? ⟨w.heap.size+1,0,none⟩=some (.int .i64 ya)∧W'.cell? ⟨w.heap.size+1,1,none⟩=some (.int .i64 yb)∧W'.cell? ⟨w.heap.size+1,2,none⟩=some (.int .i64 yc)∧W'.cell? ⟨w.heap.size+1,3,none⟩=some (.int .i64 yd)):=O (fun W' t=>⟨((b0.z7 t (by simp)).cell 0).trans rfl,((b0.z7 t (by simp)).cell 1).trans rfl,((b0.z7 t (by simp)).cell 2).trans rfl,((b0.z7 t (by simp)).cell 3).trans rfl,((b1.z7 t (by simp)).cell 0).trans rfl,((b1.z7 t (by simp)).cell 1).trans rfl,((b1.z7 t (by simp)).cell 2).trans rfl,((b1.z7 t (by simp)).cell 3).trans rfl⟩);have m9:=O o6;have Vw:=O (fun(a b:Int) W=>Ck a b W)
 have mr:Hid (∀W:World,Calls Tryz.prog 165 #[.slice (some ⟨W.heap.size,0,none⟩) 4 4] ((W.alloc (.cells #[.int .i64 (j7 xa ya),.int .i64 (j7 xb yb),.int .i64 (j7 xc yc),.int .i64 (j7 xd yd)] 3)).drew) fun r w'=>r= .returned (.int .i64 (Kr [j7 xa ya,j7 xb yb,j7 xc yc,j7 xd yd]))∧z6 [] ((W.alloc (.cells #[.int .i64 (j7 xa ya),.int .i64 (j7 xb yb),.int .i64 (j7 xc yc),.int .i64 (j7 xd yd)] 3)).drew) w'):=O (fun(W:World)=>oG _ [j7 xa ya,j7 xb yb,j7 xc yc,j7 xd yd] _ ((dX W [j7 xa ya,j7 xb yb,j7 xc yc,j7 xd yd] (fun x hx=>by
  simp at hx
  rcases hx with rfl | rfl | rfl | rfl<;>exact Xl _ _) (by simp[maxLen])).q8 (z8 [] _).drew))
 have EO:=O (rfl:Kr [j7 xa ya,j7 xb yb,j7 xc yc,j7 xd yd]=Kr [j7 xa ya,j7 xb yb,j7 xc yc,j7 xd yd]);generalize Cp:Kr [j7 xa ya,j7 xb yb,j7 xc yc,j7 xd yd]=n9 at mr⊢;clear b0 b1 o6 Cp EO;go_enter Tryz.func129,Tryz.ntmps129;go_wp2_with fail;generalize ((w.alloc (.cells #[.int .i64 xa,.int .i64 xb,.int .i64 xc,.int .i64 xd] 83)).alloc (.cells #[.int .i64 ya,.int .i64 yb,.int .i64 yc,.int .i64 yd] 83))=w0 at*;have hT:=(z8 [] w0).drew;generalize hca:j7 xa ya=ca at*;generalize hcb:j7 xb yb=cb at*;generalize xI:j7 xc yc=cc at*;generalize hcd:j7 xd yd=cd at*
 go_region_held3 (fun W'=>W'.cell? ⟨w.heap.size,0,none⟩=some (.int .i64 xa)∧W'.cell? ⟨w.heap.size,1,none⟩=some (.int .i64 xb)∧W'.cell? ⟨w.heap.size,2,none⟩=some (.int .i64 xc)∧W'.cell? ⟨w.heap.size,3,none⟩=some (.int .i64 xd)∧W'.cell? ⟨w.heap.size+1,0,none⟩=some (.int .i64 ya)∧W'.cell? ⟨w.heap.size+1,1,none⟩=some (.int .i64 yb)∧W'.cell? ⟨w.heap.size+1,2,none⟩=some (.int .i64 yc)∧W'.cell? ⟨w.heap.size+1,3,none⟩=some (.int .i64 yd)) (first | exact HC.o _ hT | exact HC.o _ ((z8 [] w0).alloc _).drew) (first
  | (go_at_call 78;with_reducible refine(Vw.o _ _ _).mono ?_;rintro r w6 ⟨rfl,rfl⟩;(try simp only[hca,hcb,xI,hcd]))
  | (go_at_call 165;with_reducible refine(mr.o _).mono ?_;rintro r w7 ⟨rfl,th⟩;(try dsimp only);replace hT:=((z8 [] w0).alloc _).drew.Y th;clear th))
 all_goals
  go_wp2_with fail;go_ret;exact⟨rfl,(z6.Y m9.o hT)⟩
variable{α:Type}{c:α→α→Int}{l:List α}
def FY (c:α→α→Int)(l:List α):Prop:= ∀(j:Nat) x y,l[j]? =some x→l[j+1]? =some y→c x y<0
noncomputable def N8 (c:α→α→Int)(l:List α):Bool:= @decide (FY c l) (Classical.propDecidable _)
theorem D3 :N8 c l=true↔FY c l:=by unfold N8;exact @decide_eq_true_iff _ (Classical.propDecidable _)
theorem Dl (h: ¬FY c l):N8 c l=false:=by
 cases e:N8 c l with
 | false=>rfl
 | true=>exact absurd (D3.1 e) h
def nY (c:α→α→Int)(w:World)(l:List α)(ti:Value)(wr:World):Prop:= ∃k:Nat,1≤k∧(k≤l.length∨k=1)∧ti= .int .i64 k∧z6 [] w wr∧Hid (∀(j:Nat) x y,j+1<k→l[j]? =some x→l[j+1]? =some y→c x y<0)
def U6 (x y:Q5):Int:=Kr [j7 x.a y.a,j7 x.b y.b,j7 x.c y.c,j7 x.d y.d,j7 x.e y.e]
theorem pU (v:Value)(l:List Q5)(w:World)(hv:o5 w v l)(hl:l.length≤100000):
  Calls Tryz.prog 122 #[v,.func (.func 123) #[] #[]] w fun r w'=>r= .returned (.bool (N8 U6 l))∧z6 [] w w':=by
 obtain⟨A,cap,rfl⟩:=hv.form;obtain⟨Ad,Cs⟩:=hv.cap;have HT:=O (fun h=>(D3 (c:=U6) (l:=l)).2 h);have HN:=O (fun h=>(Dl (c:=U6) (l:=l)) h);have hF: ∀args W,(callFunc 123 args).run Tryz.prog W= .ok (.enter 123 args) W:=fun _ _=>by kernel_rfl
 generalize N8 U6 l=n9 at*;go_enter Tryz.func122,Tryz.ntmps122;go_wp2_with fail;go_loopw [5] (fun ti wr=>nY U6 w l ti wr) (fun ti _=>l.length - (intOf ti).toNat)
 case atStart=>exact⟨1,by omega,.inr rfl,rfl,z8 _ _,O (fun j x y h=>by omega)⟩
 case round=>
  obtain⟨k,Ku,V9,rfl,ht,HX⟩:=hrel;by_cases Z:k<l.length
  ·have j1:(k:Int)< (l.length:Int):=by omega
   obtain⟨m,rfl⟩: ∃m,k=m+1:=⟨k - 1,by omega⟩;have Kt:m<l.length:=by omega
   have Q7:(m:Int)+1< (l.length:Int):=by omega
   have Dw:(m:Int)< (l.length:Int):=by omega
   have nE:(0:Int)≤(m:Int)+1:=by omega
   obtain⟨b,off,rfl,hb⟩:=hv.addr Z;obtain⟨ca,cb,cc,cd,ce⟩:=o5.at_ (hv.q8 ht) Z;obtain⟨da,db,dc,dd,de⟩:=o5.at_ (hv.q8 ht) Kt
   have W7:Hid (U6 l[m] l[m+1]<0→ ∀(j:Nat) x y,j+1<m+1+1→l[j]? =some x→l[j+1]? =some y→U6 x y<0):=O (fun h j x y hj hx hy=>by
    by_cases h2:j+1<m+1
    ·exact HX.o j x y h2 hx hy
    ·obtain rfl:j=m:=by omega
     rw[j6 Kt]at hx;rw[j6 Z]at hy;injection hx with hx;injection hy with hy;rw[←hx,←hy]
     exact h)
   have E4:Hid (¬U6 l[m] l[m+1]<0→n9=false):=O (fun h=>HN.o (fun hi=>h (hi m _ _ (j6 Kt) (j6 Z))));have Vw:Hid (∀W,Calls Tryz.prog 123 #[.agg #[.int .i64 l[m].a,.int .i64 l[m].b,.int .i64 l[m].c,.int .i64 l[m].d,.int .i64 l[m].e],.agg #[.int .i64 l[m+1].a,.int .i64 l[m+1].b,.int .i64 l[m+1].c,.int .i64 l[m+1].d,.int .i64 l[m+1].e]] W fun r w'=>r= .returned (.int .i64 (U6 l[m] l[m+1]))∧z6 [] W w'):=O (fun W=>Xq l[m].a l[m].b l[m].c l[m].d l[m].e l[m+1].a l[m+1].b l[m+1].c l[m+1].d l[m+1].e W)
   have HK:Hid (∀W',z6 [] wr W'→W'.cell? ⟨b,off+(m+1)*5,none⟩=some (.int .i64 l[m+1].a)∧W'.cell? ⟨b,off+(m+1)*5+1,none⟩=some (.int .i64 l[m+1].b)∧W'.cell? ⟨b,off+(m+1)*5+1+1,none⟩=some (.int .i64 l[m+1].c)∧W'.cell? ⟨b,off+(m+1)*5+1+1+1,none⟩=some (.int .i64 l[m+1].d)∧W'.cell? ⟨b,off+(m+1)*5+1+1+1+1,none⟩=some (.int .i64 l[m+1].e)∧W'.cell? ⟨b,off+m*5,none⟩=some (.int .i64 l[m].a)∧W'.cell? ⟨b,off+m*5+1,none⟩=some (.int .i64 l[m].b)∧W'.cell? ⟨b,off+m*5+1+1,none⟩=some (.int .i64 l[m].c)∧W'.cell? ⟨b,off+m*5+1+1+1,none⟩=some (.int .i64 l[m].d)∧W'.cell? ⟨b,off+m*5+1+1+1+1,none⟩=some (.int .i64 l[m].e)):=O (fun W' t=>by
    obtain⟨ca,cb,cc,cd,ce⟩:=o5.at_ (hv.q8 (ht.Y t)) Z;obtain⟨da,db,dc,dd,de⟩:=o5.at_ (hv.q8 (ht.Y t)) Kt
    exact⟨ca,cb,cc,cd,ce,da,db,dc,dd,de⟩)
   clear HX hv HN HT;generalize xI:U6 l[m] l[m+1]=cz at*;clear xI;generalize l[m].a=xa at*;generalize l[m+1].a=ya at*;generalize l[m].b=xb at*;generalize l[m+1].b=yb at*;generalize l[m].c=xc at*;generalize l[m+1].c=yc at*;generalize l[m].d=xd at*;generalize l[m+1].d=yd at*;generalize l[m].e=xe at*;generalize l[m+1].e=ye at*;have tj:IntKind.i64.wrap (m:Int)=(m:Int):=IntWalk.i64_in _ (by omega);by_cases Sv:cz<0
   ·have WA: ¬(0:Int)≤cz:=by omega
    have Mv:=O (W7.o Sv);clear W7 E4;go_wp2_with fail;have hQ:=(z8 [] wr)
    go_region_held3 (fun W'=>W'.cell? ⟨b,off+(m+1)*5,none⟩=some (.int .i64 ya)∧W'.cell? ⟨b,off+(m+1)*5+1,none⟩=some (.int .i64 yb)∧W'.cell? ⟨b,off+(m+1)*5+1+1,none⟩=some (.int .i64 yc)∧W'.cell? ⟨b,off+(m+1)*5+1+1+1,none⟩=some (.int .i64 yd)∧W'.cell? ⟨b,off+(m+1)*5+1+1+1+1,none⟩=some (.int .i64 ye)∧W'.cell? ⟨b,off+m*5,none⟩=some (.int .i64 xa)∧W'.cell? ⟨b,off+m*5+1,none⟩=some (.int .i64 xb)∧W'.cell? ⟨b,off+m*5+1+1,none⟩=some (.int .i64 xc)∧W'.cell? ⟨b,off+m*5+1+1+1,none⟩=some (.int .i64 xd)∧W'.cell? ⟨b,off+m*5+1+1+1+1,none⟩=some (.int .i64 xe)) (first | exact HK.o _ hQ | exact HK.o _ hQ.drew) (first
     | (go_at_call 123;with_reducible refine(Vw.o _).mono ?_;rintro r w2 ⟨rfl,V4⟩;(try dsimp only);have Rk:=ht.drew.Y V4;replace hQ:=hQ.drew.Y V4;clear V4))
    go_wp2_with fail;go_roundw
    case rel=>exact⟨m+1+1,by omega,by omega,by go_num,Rk,Mv⟩
    case measure=>simp[intOf];omega
   ·have WA:(0:Int)≤cz:=by omega
    have y5:=O (E4.o Sv);clear W7 E4;go_wp2_with fail;have hQ:=(z8 [] wr)
    go_region_held3 (fun W'=>W'.cell? ⟨b,off+(m+1)*5,none⟩=some (.int .i64 ya)∧W'.cell? ⟨b,off+(m+1)*5+1,none⟩=some (.int .i64 yb)∧W'.cell? ⟨b,off+(m+1)*5+1+1,none⟩=some (.int .i64 yc)∧W'.cell? ⟨b,off+(m+1)*5+1+1+1,none⟩=some (.int .i64 yd)∧W'.cell? ⟨b,off+(m+1)*5+1+1+1+1,none⟩=some (.int .i64 ye)∧W'.cell? ⟨b,off+m*5,none⟩=some (.int .i64 xa)∧W'.cell? ⟨b,off+m*5+1,none⟩=some (.int .i64 xb)∧W'.cell? ⟨b,off+m*5+1+1,none⟩=some (.int .i64 xc)∧W'.cell? ⟨b,off+m*5+1+1+1,none⟩=some (.int .i64 xd)∧W'.cell? ⟨b,off+m*5+1+1+1+1,none⟩=some (.int .i64 xe)) (first | exact HK.o _ hQ | exact HK.o _ hQ.drew) (first
     | (go_at_call 123;with_reducible refine(Vw.o _).mono ?_;rintro r w2 ⟨rfl,V4⟩;(try dsimp only);have Rk:=ht.drew.Y V4;replace hQ:=hQ.drew.Y V4;clear V4))
    go_wp2_with fail;go_ret;exact⟨v9 (by rw[y5.o]),Rk⟩
  ·have j1: ¬(k:Int)< (l.length:Int):=by omega
   have y5:Hid (n9=true):=O (HT.o (fun j x y hx hy=>HX.o j x y (by have:=(U4.1 hy).1;omega) hx hy));clear HX HT HN;go_wp2_with fail;go_ret;exact⟨v9 (by rw[y5.o]),ht⟩
def U7 (x y:Q5):Int:=Kr [j7 x.a y.a,j7 x.b y.b,j7 x.c y.c,j7 x.d y.d,j7 x.e y.e]
theorem pV (v:Value)(l:List Q5)(w:World)(hv:o5 w v l)(hl:l.length≤100000):
  Calls Tryz.prog 125 #[v,.func (.func 126) #[] #[]] w fun r w'=>r= .returned (.bool (N8 U7 l))∧z6 [] w w':=by
 obtain⟨A,cap,rfl⟩:=hv.form;obtain⟨Ad,Cs⟩:=hv.cap;have HT:=O (fun h=>(D3 (c:=U7) (l:=l)).2 h);have HN:=O (fun h=>(Dl (c:=U7) (l:=l)) h);have hF: ∀args W,(callFunc 126 args).run Tryz.prog W= .ok (.enter 126 args) W:=fun _ _=>by kernel_rfl
 generalize N8 U7 l=n9 at*;go_enter Tryz.func125,Tryz.ntmps125;go_wp2_with fail;go_loopw [5] (fun ti wr=>nY U7 w l ti wr) (fun ti _=>l.length - (intOf ti).toNat)
 case atStart=>exact⟨1,by omega,.inr rfl,rfl,z8 _ _,O (fun j x y h=>by omega)⟩
 case round=>
  obtain⟨k,Ku,V9,rfl,ht,HX⟩:=hrel;by_cases Z:k<l.length
  ·have j1:(k:Int)< (l.length:Int):=by omega
   obtain⟨m,rfl⟩: ∃m,k=m+1:=⟨k - 1,by omega⟩;have Kt:m<l.length:=by omega
   have Q7:(m:Int)+1< (l.length:Int):=by omega
   have Dw:(m:Int)< (l.length:Int):=by omega
   have nE:(0:Int)≤(m:Int)+1:=by omega
   obtain⟨b,off,rfl,hb⟩:=hv.addr Z;obtain⟨ca,cb,cc,cd,ce⟩:=o5.at_ (hv.q8 ht) Z;obtain⟨da,db,dc,dd,de⟩:=o5.at_ (hv.q8 ht) Kt
   have W7:Hid (U7 l[m] l[m+1]<0→ ∀(j:Nat) x y,j+1<m+1+1→l[j]? =some x→l[j+1]? =some y→U7 x y<0):=O (fun h j x y hj hx hy=>by
    by_cases h2:j+1<m+1
    ·exact HX.o j x y h2 hx hy
    ·obtain rfl:j=m:=by omega
     rw[j6 Kt]at hx;rw[j6 Z]at hy;injection hx with hx;injection hy with hy;rw[←hx,←hy]
     exact h)
   have E4:Hid (¬U7 l[m] l[m+1]<0→n9=false):=O (fun h=>HN.o (fun hi=>h (hi m _ _ (j6 Kt) (j6 Z))));have Vw:Hid (∀W,Calls Tryz.prog 126 #[.agg #[.int .i64 l[m].a,.int .i64 l[m].b,.int .i64 l[m].c,.int .i64 l[m].d,.int .i64 l[m].e],.agg #[.int .i64 l[m+1].a,.int .i64 l[m+1].b,.int .i64 l[m+1].c,.int .i64 l[m+1].d,.int .i64 l[m+1].e]] W fun r w'=>r= .returned (.int .i64 (U7 l[m] l[m+1]))∧z6 [] W w'):=O (fun W=>Xr l[m].a l[m].b l[m].c l[m].d l[m].e l[m+1].a l[m+1].b l[m+1].c l[m+1].d l[m+1].e W)
   have HK:Hid (∀W',z6 [] wr W'→W'.cell? ⟨b,off+(m+1)*5,none⟩=some (.int .i64 l[m+1].a)∧W'.cell? ⟨b,off+(m+1)*5+1,none⟩=some (.int .i64 l[m+1].b)∧W'.cell? ⟨b,off+(m+1)*5+1+1,none⟩=some (.int .i64 l[m+1].c)∧W'.cell? ⟨b,off+(m+1)*5+1+1+1,none⟩=some (.int .i64 l[m+1].d)∧W'.cell? ⟨b,off+(m+1)*5+1+1+1+1,none⟩=some (.int .i64 l[m+1].e)∧W'.cell? ⟨b,off+m*5,none⟩=some (.int .i64 l[m].a)∧W'.cell? ⟨b,off+m*5+1,none⟩=some (.int .i64 l[m].b)∧W'.cell? ⟨b,off+m*5+1+1,none⟩=some (.int .i64 l[m].c)∧W'.cell? ⟨b,off+m*5+1+1+1,none⟩=some (.int .i64 l[m].d)∧W'.cell? ⟨b,off+m*5+1+1+1+1,none⟩=some (.int .i64 l[m].e)):=O (fun W' t=>by
    obtain⟨ca,cb,cc,cd,ce⟩:=o5.at_ (hv.q8 (ht.Y t)) Z;obtain⟨da,db,dc,dd,de⟩:=o5.at_ (hv.q8 (ht.Y t)) Kt
    exact⟨ca,cb,cc,cd,ce,da,db,dc,dd,de⟩)
   clear HX hv HN HT;generalize xI:U7 l[m] l[m+1]=cz at*;clear xI;generalize l[m].a=xa at*;generalize l[m+1].a=ya at*;generalize l[m].b=xb at*;generalize l[m+1].b=yb at*;generalize l[m].c=xc at*;generalize l[m+1].c=yc at*;generalize l[m].d=xd at*;generalize l[m+1].d=yd at*;generalize l[m].e=xe at*;generalize l[m+1].e=ye at*;have tj:IntKind.i64.wrap (m:Int)=(m:Int):=IntWalk.i64_in _ (by omega);by_cases Sv:cz<0
   ·have WA: ¬(0:Int)≤cz:=by omega
    have Mv:=O (W7.o Sv);clear W7 E4;go_wp2_with fail;have hQ:=(z8 [] wr)
    go_region_held3 (fun W'=>W'.cell? ⟨b,off+(m+1)*5,none⟩=some (.int .i64 ya)∧W'.cell? ⟨b,off+(m+1)*5+1,none⟩=some (.int .i64 yb)∧W'.cell? ⟨b,off+(m+1)*5+1+1,none⟩=some (.int .i64 yc)∧W'.cell? ⟨b,off+(m+1)*5+1+1+1,none⟩=some (.int .i64 yd)∧W'.cell? ⟨b,off+(m+1)*5+1+1+1+1,none⟩=some (.int .i64 ye)∧W'.cell? ⟨b,off+m*5,none⟩=some (.int .i64 xa)∧W'.cell? ⟨b,off+m*5+1,none⟩=some (.int .i64 xb)∧W'.cell? ⟨b,off+m*5+1+1,none⟩=some (.int .i64 xc)∧W'.cell? ⟨b,off+m*5+1+1+1,none⟩=some (.int .i64 xd)∧W'.cell? ⟨b,off+m*5+1+1+1+1,none⟩=some (.int .i64 xe)) (first | exact HK.o _ hQ | exact HK.o _ hQ.drew) (first
     | (go_at_call 126;with_reducible refine(Vw.o _).mono ?_;rintro r w2 ⟨rfl,V4⟩;(try dsimp only);have Rk:=ht.drew.Y V4;replace hQ:=hQ.drew.Y V4;clear V4))
    go_wp2_with fail;go_roundw
    case rel=>exact⟨m+1+1,by omega,by omega,by go_num,Rk,Mv⟩
    case measure=>simp[intOf];omega
   ·have WA:(0:Int)≤cz:=by omega
    have y5:=O (E4.o Sv);clear W7 E4;go_wp2_with fail;have hQ:=(z8 [] wr)
    go_region_held3 (fun W'=>W'.cell? ⟨b,off+(m+1)*5,none⟩=some (.int .i64 ya)∧W'.cell? ⟨b,off+(m+1)*5+1,none⟩=some (.int .i64 yb)∧W'.cell? ⟨b,off+(m+1)*5+1+1,none⟩=some (.int .i64 yc)∧W'.cell? ⟨b,off+(m+1)*5+1+1+1,none⟩=some (.int .i64 yd)∧W'.cell? ⟨b,off+(m+1)*5+1+1+1+1,none⟩=some (.int .i64 ye)∧W'.cell? ⟨b,off+m*5,none⟩=some (.int .i64 xa)∧W'.cell? ⟨b,off+m*5+1,none⟩=some (.int .i64 xb)∧W'.cell? ⟨b,off+m*5+1+1,none⟩=some (.int .i64 xc)∧W'.cell? ⟨b,off+m*5+1+1+1,none⟩=some (.int .i64 xd)∧W'.cell? ⟨b,off+m*5+1+1+1+1,none⟩=some (.int .i64 xe)) (first | exact HK.o _ hQ | exact HK.o _ hQ.drew) (first
     | (go_at_call 126;with_reducible refine(Vw.o _).mono ?_;rintro r w2 ⟨rfl,V4⟩;(try dsimp only);have Rk:=ht.drew.Y V4;replace hQ:=hQ.drew.Y V4;clear V4))
    go_wp2_with fail;go_ret;exact⟨v9 (by rw[y5.o]),Rk⟩
  ·have j1: ¬(k:Int)< (l.length:Int):=by omega
   have y5:Hid (n9=true):=O (HT.o (fun j x y hx hy=>HX.o j x y (by have:=(U4.1 hy).1;omega) hx hy));clear HX HT HN;go_wp2_with fail;go_ret;exact⟨v9 (by rw[y5.o]),ht⟩
def F3 (x y:Q4):Int:=Kr [j7 x.a y.a,j7 x.b y.b,j7 x.c y.c,j7 x.d y.d]
theorem wE (v:Value)(l:List Q4)(w:World)(hv:T9 w v l)(hl:l.length≤100000):
  Calls Tryz.prog 128 #[v,.func (.func 129) #[] #[]] w fun r w'=>r= .returned (.bool (N8 F3 l))∧z6 [] w w':=by
 obtain⟨A,cap,rfl⟩:=hv.form;obtain⟨Ad,Cs⟩:=hv.cap;have HT:=O (fun h=>(D3 (c:=F3) (l:=l)).2 h);have HN:=O (fun h=>(Dl (c:=F3) (l:=l)) h);have hF: ∀args W,(callFunc 129 args).run Tryz.prog W= .ok (.enter 129 args) W:=fun _ _=>by kernel_rfl
 generalize N8 F3 l=n9 at*;go_enter Tryz.func128,Tryz.ntmps128;go_wp2_with fail;go_loopw [5] (fun ti wr=>nY F3 w l ti wr) (fun ti _=>l.length - (intOf ti).toNat)
 case atStart=>exact⟨1,by omega,.inr rfl,rfl,z8 _ _,O (fun j x y h=>by omega)⟩
 case round=>
  obtain⟨k,Ku,V9,rfl,ht,HX⟩:=hrel;by_cases Z:k<l.length
  ·have j1:(k:Int)< (l.length:Int):=by omega
   obtain⟨m,rfl⟩: ∃m,k=m+1:=⟨k - 1,by omega⟩;have Kt:m<l.length:=by omega
   have Q7:(m:Int)+1< (l.length:Int):=by omega
   have Dw:(m:Int)< (l.length:Int):=by omega
   have nE:(0:Int)≤(m:Int)+1:=by omega
   obtain⟨b,off,rfl,hb⟩:=hv.addr Z;obtain⟨ca,cb,cc,cd⟩:=T9.at_ (hv.q8 ht) Z;obtain⟨da,db,dc,dd⟩:=T9.at_ (hv.q8 ht) Kt
   have W7:Hid (F3 l[m] l[m+1]<0→ ∀(j:Nat) x y,j+1<m+1+1→l[j]? =some x→l[j+1]? =some y→F3 x y<0):=O (fun h j x y hj hx hy=>by
    by_cases h2:j+1<m+1
    ·exact HX.o j x y h2 hx hy
    ·obtain rfl:j=m:=by omega
     rw[j6 Kt]at hx;rw[j6 Z]at hy;injection hx with hx;injection hy with hy;rw[←hx,←hy]
     exact h)
   have E4:Hid (¬F3 l[m] l[m+1]<0→n9=false):=O (fun h=>HN.o (fun hi=>h (hi m _ _ (j6 Kt) (j6 Z))));have Vw:Hid (∀W,Calls Tryz.prog 129 #[.agg #[.int .i64 l[m].a,.int .i64 l[m].b,.int .i64 l[m].c,.int .i64 l[m].d],.agg #[.int .i64 l[m+1].a,.int .i64 l[m+1].b,.int .i64 l[m+1].c,.int .i64 l[m+1].d]] W fun r w'=>r= .returned (.int .i64 (F3 l[m] l[m+1]))∧z6 [] W w'):=O (fun W=>Zt l[m].a l[m].b l[m].c l[m].d l[m+1].a l[m+1].b l[m+1].c l[m+1].d W)
   have HK:Hid (∀W',z6 [] wr W'→W'.cell? ⟨b,off+(m+1)*4,none⟩=some (.int .i64 l[m+1].a)∧W'.cell? ⟨b,off+(m+1)*4+1,none⟩=some (.int .i64 l[m+1].b)∧W'.cell? ⟨b,off+(m+1)*4+1+1,none⟩=some (.int .i64 l[m+1].c)∧W'.cell? ⟨b,off+(m+1)*4+1+1+1,none⟩=some (.int .i64 l[m+1].d)∧W'.cell? ⟨b,off+m*4,none⟩=some (.int .i64 l[m].a)∧W'.cell? ⟨b,off+m*4+1,none⟩=some (.int .i64 l[m].b)∧W'.cell? ⟨b,off+m*4+1+1,none⟩=some (.int .i64 l[m].c)∧W'.cell? ⟨b,off+m*4+1+1+1,none⟩=some (.int .i64 l[m].d)):=O (fun W' t=>by
    obtain⟨ca,cb,cc,cd⟩:=T9.at_ (hv.q8 (ht.Y t)) Z;obtain⟨da,db,dc,dd⟩:=T9.at_ (hv.q8 (ht.Y t)) Kt
    exact⟨ca,cb,cc,cd,da,db,dc,dd⟩)
   clear HX hv HN HT;generalize xI:F3 l[m] l[m+1]=cz at*;clear xI;generalize l[m].a=xa at*;generalize l[m+1].a=ya at*;generalize l[m].b=xb at*;generalize l[m+1].b=yb at*;generalize l[m].c=xc at*;generalize l[m+1].c=yc at*;generalize l[m].d=xd at*;generalize l[m+1].d=yd at*;have tj:IntKind.i64.wrap (m:Int)=(m:Int):=IntWalk.i64_in _ (by omega);by_cases Sv:cz<0
   ·have WA: ¬(0:Int)≤cz:=by omega
    have Mv:=O (W7.o Sv);clear W7 E4;go_wp2_with fail;have hQ:=(z8 [] wr)
    go_region_held3 (fun W'=>W'.cell? ⟨b,off+(m+1)*4,none⟩=some (.int .i64 ya)∧W'.cell? ⟨b,off+(m+1)*4+1,none⟩=some (.int .i64 yb)∧W'.cell? ⟨b,off+(m+1)*4+1+1,none⟩=some (.int .i64 yc)∧W'.cell? ⟨b,off+(m+1)*4+1+1+1,none⟩=some (.int .i64 yd)∧W'.cell? ⟨b,off+m*4,none⟩=some (.int .i64 xa)∧W'.cell? ⟨b,off+m*4+1,none⟩=some (.int .i64 xb)∧W'.cell? ⟨b,off+m*4+1+1,none⟩=some (.int .i64 xc)∧W'.cell? ⟨b,off+m*4+1+1+1,none⟩=some (.int .i64 xd)) (first | exact HK.o _ hQ | exact HK.o _ hQ.drew) (first
     | (go_at_call 129;with_reducible refine(Vw.o _).mono ?_;rintro r w2 ⟨rfl,V4⟩;(try dsimp only);have Rk:=ht.drew.Y V4;replace hQ:=hQ.drew.Y V4;clear V4))
    go_wp2_with fail;go_roundw
    case rel=>exact⟨m+1+1,by omega,by omega,by go_num,Rk,Mv⟩
    case measure=>simp[intOf];omega
   ·have WA:(0:Int)≤cz:=by omega
    have y5:=O (E4.o Sv);clear W7 E4;go_wp2_with fail;have hQ:=(z8 [] wr)
    go_region_held3 (fun W'=>W'.cell? ⟨b,off+(m+1)*4,none⟩=some (.int .i64 ya)∧W'.cell? ⟨b,off+(m+1)*4+1,none⟩=some (.int .i64 yb)∧W'.cell? ⟨b,off+(m+1)*4+1+1,none⟩=some (.int .i64 yc)∧W'.cell? ⟨b,off+(m+1)*4+1+1+1,none⟩=some (.int .i64 yd)∧W'.cell? ⟨b,off+m*4,none⟩=some (.int .i64 xa)∧W'.cell? ⟨b,off+m*4+1,none⟩=some (.int .i64 xb)∧W'.cell? ⟨b,off+m*4+1+1,none⟩=some (.int .i64 xc)∧W'.cell? ⟨b,off+m*4+1+1+1,none⟩=some (.int .i64 xd)) (first | exact HK.o _ hQ | exact HK.o _ hQ.drew) (first
     | (go_at_call 129;with_reducible refine(Vw.o _).mono ?_;rintro r w2 ⟨rfl,V4⟩;(try dsimp only);have Rk:=ht.drew.Y V4;replace hQ:=hQ.drew.Y V4;clear V4))
    go_wp2_with fail;go_ret;exact⟨v9 (by rw[y5.o]),Rk⟩
  ·have j1: ¬(k:Int)< (l.length:Int):=by omega
   have y5:Hid (n9=true):=O (HT.o (fun j x y hx hy=>HX.o j x y (by have:=(U4.1 hy).1;omega) hx hy));clear HX HT HN;go_wp2_with fail;go_ret;exact⟨v9 (by rw[y5.o]),ht⟩
def ZJ (w:World)(good:Dx→Bool)(l:List Dx)(n9:Bool)(ti:Value)(wr:World):Prop:= ∃k:Nat,k≤l.length∧ti= .int .i64 k∧z6 [] w wr∧Hid (n9=(l.drop k).all good)
theorem qB (F:FuncId)(good:Dx→Bool)(v:Value)(l:List Dx)(w:World)(hv:C0 w v l)(hF: ∀args W,(callFunc F args).run Tryz.prog W= .ok (.enter F args) W)
  (Nc: ∀W (x:Dx) (c:Value),x∈l→Fits x.st→e8 W c x.ch→Calls Tryz.prog F #[.agg #[.int .i64 x.st,c]] W fun r w'=>r= .returned (.bool (good x))∧z6 [] W w'):
  Calls Tryz.prog 74 #[v,.func (.func F) #[] #[]] w fun r w'=>r= .returned (.bool (l.all good))∧z6 [] w w':=by
 obtain⟨A,cap,rfl,Ad,Cs⟩:=hv.form;have Z7:ZJ w good l (l.all good) (.int .i64 0) w:=⟨0,by omega,rfl,z8 _ _,O rfl⟩;generalize l.all good=n9 at*;have HC:=O Nc;clear Nc;go_enter Tryz.func74,Tryz.ntmps74;go_wp2_with fail;go_loopw [9] (fun ti wr=>ZJ w good l n9 ti wr) (fun ti _=>l.length - (intOf ti).toNat)
 case atStart=>exact Z7
 case round=>
  clear Z7;obtain⟨k,hk,rfl,ht,HX⟩:=hrel;by_cases Z:k<l.length
  ·have j1:(k:Int)< (l.length:Int):=by omega
   obtain⟨b,off,c,rfl,hb,I7,N0⟩:=hv.at_ Z;obtain⟨c0,c1,B8⟩:=N0 wr ht;obtain⟨A2,X2,rfl⟩:=B8.form;have Pm:b<wr.heap.size:=by have:=ht.size;omega
   have N5:Hid (n9=(good l[k]&&(l.drop (k+1)).all good)):=O (HX.o.trans (Eg Z));have Ze:=O (HC.o (wr.alloc (.cells #[.int .i64 l[k].st,.slice A2 l[k].ch.length X2] 75)) l[k] _ (k8 Z) I7 (B8.q8 ((z8 [] wr).alloc _)));have V0:=O (ht.alloc (.cells #[.int .i64 l[k].st,.slice A2 l[k].ch.length X2] 75));clear HX hv N0 B8 I7;generalize hg:good l[k]=gb at*;clear hg;generalize l[k].st=xs at*;generalize l[k].ch.length=cl at*
   cases gb with
   | false=>
    have y5:Hid (n9=false):=N5;clear N5;go_wp2_with fail
    refine Ze.o.mono ?_
    rintro r w2 ⟨rfl,V4⟩;go_wp2_with fail;go_ret;exact⟨v9 (by rw[y5.o]),V0.o.Y V4⟩
   | true=>
    have My:Hid (n9=(l.drop (k+1)).all good):=N5;clear N5;go_wp2_with fail
    refine Ze.o.mono ?_
    rintro r w2 ⟨rfl,V4⟩;go_wp2_with fail;go_roundw
    case rel=>exact⟨k+1,by omega,by go_num,V0.o.Y V4,My⟩
    case measure=>simp[intOf];omega
  ·have j1: ¬(k:Int)< (l.length:Int):=by omega
   have y5:Hid (n9=true):=O (by rw[HX.o,Hz (by omega)];rfl);clear HX;go_wp2_with fail;go_ret;exact⟨v9 (by rw[y5.o]),ht⟩
def Qw (n:Int):Bool:=decide (2≤n∧n≤51)
theorem pX (n:Int)(w:World):Calls Tryz.prog 120 #[.int .i64 n] w fun r w'=>r= .returned (.bool (Qw n))∧w=w':=by
 have HB:=O (N4 n 2 51 w);unfold Qw;generalize decide (2≤n∧n≤51)=q at*;go_enter Tryz.func120,Tryz.ntmps120;go_wp2_with fail;refine HB.o.mono ?_;rintro r w' ⟨rfl,rfl⟩;go_wp2_with fail;go_ret;exact⟨rfl,rfl⟩
noncomputable def K4 (x:Dx):Bool:=K2 x.st&&(x.ch.all Qw&&Zh x.ch)
theorem gE (x:Dx)(c:Value)(w:World)(hn:e8 w c x.ch)(hl:x.ch.length≤100000):Calls Tryz.prog 75 #[.agg #[.int .i64 x.st,c]] w fun r w'=>r= .returned (.bool (K4 x))∧z6 [] w w':=by
 have HS:Hid (K4 x=(K2 x.st&&(x.ch.all Qw&&Zh x.ch))):=O rfl;have HE:=p7 (fun W t=>fS 120 Qw c x.ch W (hn.q8 t) (fun _ _=>by kernel_rfl) (fun W n _=>(pX n W).mono (fun r w' ⟨h1,h2⟩=>⟨h1,by subst h2;exact z8 _ _⟩)));have HI:=p7 (fun W t=>lP c x.ch W (hn.q8 t) hl);have Q9:=O (fun(W:World)=>K7 x.st W);change Hid (∀W,Calls _ _ _ W fun r w'=>r= .returned (.bool (K2 x.st))∧W=w')at Q9;obtain⟨A,cap,rfl⟩:=hn.form;have b0:=j4.new w 75 #[.int .i64 x.st,.slice A x.ch.length cap];have o6:z6 [] w (w.alloc (.cells #[.int .i64 x.st,.slice A x.ch.length cap] 75)):=(z8 [] w).alloc _;have HC:Hid (∀W',z6 [] (w.alloc (.cells #[.int .i64 x.st,.slice A x.ch.length cap] 75)) W'→W'.cell? ⟨w.heap.size,0,none⟩=some (.int .i64 x.st)∧W'.cell? ⟨w.heap.size,1,none⟩=some (.slice A x.ch.length cap)):=O (fun W' t=>⟨((b0.z7 t (by simp)).cell 0).trans rfl,((b0.z7 t (by simp)).cell 1).trans rfl⟩);clear b0;generalize K4 x=n9 at*;generalize K2 x.st=g1 at*;generalize x.ch.all Qw=g2 at*;generalize Zh x.ch=g3 at*;clear hn;generalize x.st=st at*;generalize x.ch.length=cl at*
 cases g1 with
 | false=>
  have y5:Hid (n9=false):=HS;clear HS HE HI;go_enter Tryz.func75,Tryz.ntmps75;go_wp2_with fail;refine(Q9.o _).mono ?_;rintro r w1 ⟨rfl,rfl⟩;go_wp2_with fail;go_ret;exact⟨v9 (by rw[y5.o]),o6⟩
 | true=>
  cases g2 with
  | false=>
   have y5:Hid (n9=false):=HS;clear HS HI;go_enter Tryz.func75,Tryz.ntmps75;go_wp2_with fail;refine(Q9.o _).mono ?_;rintro r w1 ⟨rfl,rfl⟩;go_wp2_with fail;refine(HE.o _ o6).mono ?_;rintro r w2 ⟨rfl,V4⟩;go_wp2_with fail;go_ret;exact⟨v9 (by rw[y5.o]),o6.Y V4⟩
  | true=>
   have y5:Hid (n9=g3):=HS;clear HS;go_enter Tryz.func75,Tryz.ntmps75;go_wp2_with fail;refine(Q9.o _).mono ?_;rintro r w1 ⟨rfl,rfl⟩;go_wp2_with fail;refine(HE.o _ o6).mono ?_;rintro r w2 ⟨rfl,V4⟩;obtain⟨k0,k1⟩:=HC.o _ V4;go_wp2_with fail;refine(HI.o _ (o6.Y V4)).mono ?_;rintro r w3 ⟨rfl,Rk⟩;go_wp2_with fail;go_ret;exact⟨v9 (by rw[y5.o]),(o6.Y V4).Y Rk⟩
theorem jF (x y:Int)(A B:Option Addr)(n m c d:Nat)(w:World):Calls Tryz.prog 77 #[.agg #[.int .i64 x,.slice A n c],.agg #[.int .i64 y,.slice B m d]] w fun r w'=>r= .returned (.int .i64 (j7 x y))∧z6 [] w w':=by
 have o6:z6 [] w ((w.alloc (.cells #[.int .i64 x,.slice A n c] 75)).alloc (.cells #[.int .i64 y,.slice B m d] 75)):=((z8 [] w).alloc _).alloc _;have Vw:=O (fun W=>Ck x y W);generalize j7 x y=z at*;go_enter Tryz.func77,Tryz.ntmps77;go_wp2_with fail;refine(Vw.o _).mono ?_;rintro r w1 ⟨rfl,rfl⟩;go_wp2_with fail;go_ret;exact⟨rfl,o6⟩
def R9 (x y:Dx):Int:=j7 x.st y.st
theorem wD (v:Value)(l:List Dx)(w:World)(hv:C0 w v l)(hl:l.length≤100000):
  Calls Tryz.prog 79 #[v,.func (.func 77) #[] #[]] w fun r w'=>r= .returned (.bool (N8 R9 l))∧z6 [] w w':=by
 obtain⟨A,cap,rfl,Ad,Cs⟩:=hv.form;have HT:=O (fun h=>(D3 (c:=R9) (l:=l)).2 h);have HN:=O (fun h=>(Dl (c:=R9) (l:=l)) h);have hF: ∀args W,(callFunc 77 args).run Tryz.prog W= .ok (.enter 77 args) W:=fun _ _=>by kernel_rfl
 generalize N8 R9 l=n9 at*;go_enter Tryz.func79,Tryz.ntmps79;go_wp2_with fail;go_loopw [5] (fun ti wr=>nY R9 w l ti wr) (fun ti _=>l.length - (intOf ti).toNat)
 case atStart=>exact⟨1,by omega,.inr rfl,rfl,z8 _ _,O (fun j x y h=>by omega)⟩
 case round=>
  obtain⟨k,Ku,V9,rfl,ht,HX⟩:=hrel;by_cases Z:k<l.length
  ·have j1:(k:Int)< (l.length:Int):=by omega
   obtain⟨m,rfl⟩: ∃m,k=m+1:=⟨k - 1,by omega⟩;have Kt:m<l.length:=by omega
   have Q7:(m:Int)+1< (l.length:Int):=by omega
   have Dw:(m:Int)< (l.length:Int):=by omega
   have nE:(0:Int)≤(m:Int)+1:=by omega
   obtain⟨b,off,vc,rfl,hb,I7,N0⟩:=hv.at_ Z;obtain⟨b2,Hn,vd,qM,U3,qu2,bM⟩:=hv.at_ Kt;injection qM with qM;injection qM with qM he3;subst qM he3;obtain⟨c0,c1,B8⟩:=N0 wr ht;obtain⟨d0,d1,DZ⟩:=bM wr ht;obtain⟨A2,X2,rfl⟩:=B8.form;obtain⟨A3,Qp,rfl⟩:=DZ.form
   have W7:Hid (R9 l[m] l[m+1]<0→ ∀(j:Nat) x y,j+1<m+1+1→l[j]? =some x→l[j+1]? =some y→R9 x y<0):=O (fun h j x y hj hx hy=>by
    by_cases h2:j+1<m+1
    ·exact HX.o j x y h2 hx hy
    ·obtain rfl:j=m:=by omega
     rw[j6 Kt]at hx;rw[j6 Z]at hy;injection hx with hx;injection hy with hy;rw[←hx,←hy]
     exact h)
   have E4:Hid (¬R9 l[m] l[m+1]<0→n9=false):=O (fun h=>HN.o (fun hi=>h (hi m _ _ (j6 Kt) (j6 Z))));have Vw:Hid (∀W,Calls Tryz.prog 77 #[.agg #[.int .i64 l[m].st,.slice A3 l[m].ch.length Qp],.agg #[.int .i64 l[m+1].st,.slice A2 l[m+1].ch.length X2]] W fun r w'=>r= .returned (.int .i64 (R9 l[m] l[m+1]))∧z6 [] W w'):=O (fun W=>jF _ _ _ _ _ _ _ _ W)
   have HK:Hid (∀W',z6 [] wr W'→W'.cell? ⟨b,off+(m+1)*2,none⟩=some (.int .i64 l[m+1].st)∧W'.cell? ⟨b,off+(m+1)*2+1,none⟩=some (.slice A2 l[m+1].ch.length X2)∧W'.cell? ⟨b,off+m*2,none⟩=some (.int .i64 l[m].st)∧W'.cell? ⟨b,off+m*2+1,none⟩=some (.slice A3 l[m].ch.length Qp)):=O (fun W' t=>
    ⟨(N0 W' (ht.Y t)).1,(N0 W' (ht.Y t)).2.1,(bM W' (ht.Y t)).1,(bM W' (ht.Y t)).2.1⟩)
   clear N0 bM B8 DZ I7 qu2;clear HX hv HN HT;generalize xI:R9 l[m] l[m+1]=cz at*;clear xI;generalize l[m].st=xs at*;generalize l[m+1].st=ys at*;generalize l[m].ch.length=xl at*;generalize l[m+1].ch.length=yl at*;have tj:IntKind.i64.wrap (m:Int)=(m:Int):=IntWalk.i64_in _ (by omega);by_cases Sv:cz<0
   ·have WA: ¬(0:Int)≤cz:=by omega
    have Mv:=O (W7.o Sv);clear W7 E4;go_wp2_with fail;have hQ:=(z8 [] wr)
    go_region_held3 (fun W'=>W'.cell? ⟨b,off+(m+1)*2,none⟩=some (.int .i64 ys)∧W'.cell? ⟨b,off+(m+1)*2+1,none⟩=some (.slice A2 yl X2)∧W'.cell? ⟨b,off+m*2,none⟩=some (.int .i64 xs)∧W'.cell? ⟨b,off+m*2+1,none⟩=some (.slice A3 xl Qp)) (first | exact HK.o _ hQ | exact HK.o _ hQ.drew) (first
     | (go_at_call 77;with_reducible refine(Vw.o _).mono ?_;rintro r w2 ⟨rfl,V4⟩;(try dsimp only);have Rk:=ht.drew.Y V4;replace hQ:=hQ.drew.Y V4;clear V4))
    go_wp2_with fail;go_roundw
    case rel=>exact⟨m+1+1,by omega,by omega,by go_num,Rk,Mv⟩
    case measure=>simp[intOf];omega
   ·have WA:(0:Int)≤cz:=by omega
    have y5:=O (E4.o Sv);clear W7 E4;go_wp2_with fail;have hQ:=(z8 [] wr)
    go_region_held3 (fun W'=>W'.cell? ⟨b,off+(m+1)*2,none⟩=some (.int .i64 ys)∧W'.cell? ⟨b,off+(m+1)*2+1,none⟩=some (.slice A2 yl X2)∧W'.cell? ⟨b,off+m*2,none⟩=some (.int .i64 xs)∧W'.cell? ⟨b,off+m*2+1,none⟩=some (.slice A3 xl Qp)) (first | exact HK.o _ hQ | exact HK.o _ hQ.drew) (first
     | (go_at_call 77;with_reducible refine(Vw.o _).mono ?_;rintro r w2 ⟨rfl,V4⟩;(try dsimp only);have Rk:=ht.drew.Y V4;replace hQ:=hQ.drew.Y V4;clear V4))
    go_wp2_with fail;go_ret;exact⟨v9 (by rw[y5.o]),Rk⟩
  ·have j1: ¬(k:Int)< (l.length:Int):=by omega
   have y5:Hid (n9=true):=O (HT.o (fun j x y hx hy=>HX.o j x y (by have:=(U4.1 hy).1;omega) hx hy));clear HX HT HN;go_wp2_with fail;go_ret;exact⟨v9 (by rw[y5.o]),ht⟩
structure Rx where
 P:List Q5
 L:List Q5
 C:List Q4
noncomputable def V1 (x:Rx):Bool:=(decide (x.P.length≤4096)&&(x.P.all (fun x=>W8 x.a x.b x.c x.d x.e)&&(N8 U6 x.P&&(decide (x.L.length≤1024)&&(x.L.all (fun x=>W9 x.a x.b x.c x.d x.e)&&(N8 U7 x.L&&(decide (x.C.length≤1024)&&(x.C.all (fun x=>C5 x.a x.b x.c x.d)&&N8 F3 x.C))))))))
theorem gB (x:Rx)(VP VL VC:Value)(w:World)(hP:o5 w VP x.P)(hL:o5 w VL x.L)(hC:T9 w VC x.C)(hlP:x.P.length≤100000)(hlL:x.L.length≤100000)(hlC:x.C.length≤100000):Calls Tryz.prog 76 #[.agg #[VP,VL,VC]] w fun r w'=>r= .returned (.bool (V1 x))∧z6 [] w w':=by
 have HS:Hid (V1 x=(decide (x.P.length≤4096)&&(x.P.all (fun x=>W8 x.a x.b x.c x.d x.e)&&(N8 U6 x.P&&(decide (x.L.length≤1024)&&(x.L.all (fun x=>W9 x.a x.b x.c x.d x.e)&&(N8 U7 x.L&&(decide (x.C.length≤1024)&&(x.C.all (fun x=>C5 x.a x.b x.c x.d)&&N8 F3 x.C))))))))):=O rfl;have DF:=p7 (fun W t=>iY 121 (fun x=>W8 x.a x.b x.c x.d x.e) VP x.P W (hP.q8 t) (fun _ _=>by kernel_rfl) (fun W x _=>zu x.a x.b x.c x.d x.e W));have Y_:=p7 (fun W t=>pU VP x.P W (hP.q8 t) hlP);have XS:=p7 (fun W t=>iZ 124 (fun x=>W9 x.a x.b x.c x.d x.e) VL x.L W (hL.q8 t) (fun _ _=>by kernel_rfl) (fun W x _=>zj x.a x.b x.c x.d x.e W));have HIL:=p7 (fun W t=>pV VL x.L W (hL.q8 t) hlL);have HEC:=p7 (fun W t=>qC 127 (fun x=>C5 x.a x.b x.c x.d) VC x.C W (hC.q8 t) (fun _ _=>by kernel_rfl) (fun W x _=>AF x.a x.b x.c x.d W));have HIC:=p7 (fun W t=>wE VC x.C W (hC.q8 t) hlC);obtain⟨AP,cP,rfl⟩:=hP.form;obtain⟨AL,cL,rfl⟩:=hL.form;obtain⟨AC,cC,rfl⟩:=hC.form;have b0:=j4.new w 27 #[.slice AP x.P.length cP,.slice AL x.L.length cL,.slice AC x.C.length cC];have o6:z6 [] w (w.alloc (.cells #[.slice AP x.P.length cP,.slice AL x.L.length cL,.slice AC x.C.length cC] 27)):=(z8 [] w).alloc _;have HC:Hid (∀W',z6 [] (w.alloc (.cells #[.slice AP x.P.length cP,.slice AL x.L.length cL,.slice AC x.C.length cC] 27)) W'→W'.cell? ⟨w.heap.size,0,none⟩=some (.slice AP x.P.length cP)∧W'.cell? ⟨w.heap.size,1,none⟩=some (.slice AL x.L.length cL)∧W'.cell? ⟨w.heap.size,2,none⟩=some (.slice AC x.C.length cC)):=O (fun W' t=>⟨((b0.z7 t (by simp)).cell 0).trans rfl,((b0.z7 t (by simp)).cell 1).trans rfl,((b0.z7 t (by simp)).cell 2).trans rfl⟩);clear b0 hP hL hC;generalize V1 x=n9 at*;generalize x.P.all (fun x=>W8 x.a x.b x.c x.d x.e)=eP at*;generalize N8 U6 x.P=iP at*;generalize x.L.all (fun x=>W9 x.a x.b x.c x.d x.e)=eL at*;generalize N8 U7 x.L=iL at*;generalize x.C.all (fun x=>C5 x.a x.b x.c x.d)=eC at*;generalize N8 F3 x.C=iC at*;generalize x.P.length=nP at*;generalize x.L.length=nL at*;generalize x.C.length=nC at*;by_cases q0:nP≤4096
 ·have q0z:(nP:Int)≤4096:=by omega
  rw[b_ q0,Z4]at HS
  cases eP with
  | true=>
   rw[Z4]at HS
   cases iP with
   | true=>
    rw[Z4]at HS;by_cases q3:nL≤1024
    ·have q3z:(nL:Int)≤1024:=by omega
     rw[b_ q3,Z4]at HS
     cases eL with
     | true=>
      rw[Z4]at HS
      cases iL with
      | true=>
       rw[Z4]at HS;by_cases q6:nC≤1024
       ·have q6z:(nC:Int)≤1024:=by omega
        rw[b_ q6,Z4]at HS
        cases eC with
        | true=>
         rw[Z4]at HS;have y5:=HS;clear HS;go_enter Tryz.func76,Tryz.ntmps76;go_wp2_with fail;refine(DF.o _ (o6)).mono ?_;rintro r w1 ⟨rfl,t1⟩;obtain⟨ZV,ZU,ZT⟩:=HC.o _ (t1);go_wp2_with fail;refine(Y_.o _ ((o6).Y t1)).mono ?_;rintro r w2 ⟨rfl,t2⟩;obtain⟨k2a,k2b,k2c⟩:=HC.o _ ((t1).Y t2);go_wp2_with fail;refine(XS.o _ (((o6).Y t1).Y t2)).mono ?_;rintro r w4 ⟨rfl,t4⟩;obtain⟨k4a,k4b,k4c⟩:=HC.o _ (((t1).Y t2).Y t4);go_wp2_with fail;refine(HIL.o _ ((((o6).Y t1).Y t2).Y t4)).mono ?_;rintro r w5 ⟨rfl,t5⟩;obtain⟨k5a,k5b,k5c⟩:=HC.o _ ((((t1).Y t2).Y t4).Y t5);go_wp2_with fail;refine(HEC.o _ (((((o6).Y t1).Y t2).Y t4).Y t5)).mono ?_;rintro r w7 ⟨rfl,t7⟩;obtain⟨k7a,k7b,k7c⟩:=HC.o _ (((((t1).Y t2).Y t4).Y t5).Y t7);go_wp2_with fail;refine(HIC.o _ ((((((o6).Y t1).Y t2).Y t4).Y t5).Y t7)).mono ?_;rintro r w8 ⟨rfl,t8⟩;obtain⟨k8a,k8b,k8c⟩:=HC.o _ ((((((t1).Y t2).Y t4).Y t5).Y t7).Y t8);go_wp2_with fail;go_ret;exact⟨v9 (by rw[y5.o]),((((((o6).Y t1).Y t2).Y t4).Y t5).Y t7).Y t8⟩
        | false=>
         rw[B6]at HS;have y5:=HS;clear HS;go_enter Tryz.func76,Tryz.ntmps76;go_wp2_with fail;refine(DF.o _ (o6)).mono ?_;rintro r w1 ⟨rfl,t1⟩;obtain⟨ZV,ZU,ZT⟩:=HC.o _ (t1);go_wp2_with fail;refine(Y_.o _ ((o6).Y t1)).mono ?_;rintro r w2 ⟨rfl,t2⟩;obtain⟨k2a,k2b,k2c⟩:=HC.o _ ((t1).Y t2);go_wp2_with fail;refine(XS.o _ (((o6).Y t1).Y t2)).mono ?_;rintro r w4 ⟨rfl,t4⟩;obtain⟨k4a,k4b,k4c⟩:=HC.o _ (((t1).Y t2).Y t4);go_wp2_with fail;refine(HIL.o _ ((((o6).Y t1).Y t2).Y t4)).mono ?_;rintro r w5 ⟨rfl,t5⟩;obtain⟨k5a,k5b,k5c⟩:=HC.o _ ((((t1).Y t2).Y t4).Y t5);go_wp2_with fail;refine(HEC.o _ (((((o6).Y t1).Y t2).Y t4).Y t5)).mono ?_;rintro r w7 ⟨rfl,t7⟩;obtain⟨k7a,k7b,k7c⟩:=HC.o _ (((((t1).Y t2).Y t4).Y t5).Y t7);go_wp2_with fail;go_ret;exact⟨v9 (by rw[y5.o]),(((((o6).Y t1).Y t2).Y t4).Y t5).Y t7⟩
       ·have q6z: ¬(nC:Int)≤1024:=by omega
        rw[v8 q6,B6]at HS;have y5:=HS;clear HS;go_enter Tryz.func76,Tryz.ntmps76;go_wp2_with fail;refine(DF.o _ (o6)).mono ?_;rintro r w1 ⟨rfl,t1⟩;obtain⟨ZV,ZU,ZT⟩:=HC.o _ (t1);go_wp2_with fail;refine(Y_.o _ ((o6).Y t1)).mono ?_;rintro r w2 ⟨rfl,t2⟩;obtain⟨k2a,k2b,k2c⟩:=HC.o _ ((t1).Y t2);go_wp2_with fail;refine(XS.o _ (((o6).Y t1).Y t2)).mono ?_;rintro r w4 ⟨rfl,t4⟩;obtain⟨k4a,k4b,k4c⟩:=HC.o _ (((t1).Y t2).Y t4);go_wp2_with fail;refine(HIL.o _ ((((o6).Y t1).Y t2).Y t4)).mono ?_;rintro r w5 ⟨rfl,t5⟩;obtain⟨k5a,k5b,k5c⟩:=HC.o _ ((((t1).Y t2).Y t4).Y t5);go_wp2_with fail;go_ret;exact⟨v9 (by rw[y5.o]),((((o6).Y t1).Y t2).Y t4).Y t5⟩
      | false=>
       rw[B6]at HS;have y5:=HS;clear HS;go_enter Tryz.func76,Tryz.ntmps76;go_wp2_with fail;refine(DF.o _ (o6)).mono ?_;rintro r w1 ⟨rfl,t1⟩;obtain⟨ZV,ZU,ZT⟩:=HC.o _ (t1);go_wp2_with fail;refine(Y_.o _ ((o6).Y t1)).mono ?_;rintro r w2 ⟨rfl,t2⟩;obtain⟨k2a,k2b,k2c⟩:=HC.o _ ((t1).Y t2);go_wp2_with fail;refine(XS.o _ (((o6).Y t1).Y t2)).mono ?_;rintro r w4 ⟨rfl,t4⟩;obtain⟨k4a,k4b,k4c⟩:=HC.o _ (((t1).Y t2).Y t4);go_wp2_with fail;refine(HIL.o _ ((((o6).Y t1).Y t2).Y t4)).mono ?_;rintro r w5 ⟨rfl,t5⟩;obtain⟨k5a,k5b,k5c⟩:=HC.o _ ((((t1).Y t2).Y t4).Y t5);go_wp2_with fail;go_ret;exact⟨v9 (by rw[y5.o]),((((o6).Y t1).Y t2).Y t4).Y t5⟩
     | false=>
      rw[B6]at HS;have y5:=HS;clear HS;go_enter Tryz.func76,Tryz.ntmps76;go_wp2_with fail;refine(DF.o _ (o6)).mono ?_;rintro r w1 ⟨rfl,t1⟩;obtain⟨ZV,ZU,ZT⟩:=HC.o _ (t1);go_wp2_with fail;refine(Y_.o _ ((o6).Y t1)).mono ?_;rintro r w2 ⟨rfl,t2⟩;obtain⟨k2a,k2b,k2c⟩:=HC.o _ ((t1).Y t2);go_wp2_with fail;refine(XS.o _ (((o6).Y t1).Y t2)).mono ?_;rintro r w4 ⟨rfl,t4⟩;obtain⟨k4a,k4b,k4c⟩:=HC.o _ (((t1).Y t2).Y t4);go_wp2_with fail;go_ret;exact⟨v9 (by rw[y5.o]),(((o6).Y t1).Y t2).Y t4⟩
    ·have q3z: ¬(nL:Int)≤1024:=by omega
     rw[v8 q3,B6]at HS;have y5:=HS;clear HS;go_enter Tryz.func76,Tryz.ntmps76;go_wp2_with fail;refine(DF.o _ (o6)).mono ?_;rintro r w1 ⟨rfl,t1⟩;obtain⟨ZV,ZU,ZT⟩:=HC.o _ (t1);go_wp2_with fail;refine(Y_.o _ ((o6).Y t1)).mono ?_;rintro r w2 ⟨rfl,t2⟩;obtain⟨k2a,k2b,k2c⟩:=HC.o _ ((t1).Y t2);go_wp2_with fail;go_ret;exact⟨v9 (by rw[y5.o]),((o6).Y t1).Y t2⟩
   | false=>
    rw[B6]at HS;have y5:=HS;clear HS;go_enter Tryz.func76,Tryz.ntmps76;go_wp2_with fail;refine(DF.o _ (o6)).mono ?_;rintro r w1 ⟨rfl,t1⟩;obtain⟨ZV,ZU,ZT⟩:=HC.o _ (t1);go_wp2_with fail;refine(Y_.o _ ((o6).Y t1)).mono ?_;rintro r w2 ⟨rfl,t2⟩;obtain⟨k2a,k2b,k2c⟩:=HC.o _ ((t1).Y t2);go_wp2_with fail;go_ret;exact⟨v9 (by rw[y5.o]),((o6).Y t1).Y t2⟩
  | false=>
   rw[B6]at HS;have y5:=HS;clear HS;go_enter Tryz.func76,Tryz.ntmps76;go_wp2_with fail;refine(DF.o _ (o6)).mono ?_;rintro r w1 ⟨rfl,t1⟩;obtain⟨ZV,ZU,ZT⟩:=HC.o _ (t1);go_wp2_with fail;go_ret;exact⟨v9 (by rw[y5.o]),(o6).Y t1⟩
 ·have q0z: ¬(nP:Int)≤4096:=by omega
  rw[v8 q0,B6]at HS;have y5:=HS;clear HS;go_enter Tryz.func76,Tryz.ntmps76;go_wp2_with fail;go_ret;exact⟨v9 (by rw[y5.o]),o6⟩
end Go.Proofs.YtlhlmcohdkkjpaaGreatDoor
