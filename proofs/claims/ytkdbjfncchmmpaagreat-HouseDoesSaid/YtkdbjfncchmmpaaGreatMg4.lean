/- The functions of the part 'vm' as lists of steps. -/
import Derived.Test.YtkdbjfncchmmpaaGreatMg3
import Derived.Recover
set_option linter.unusedSimpArgs false
set_option linter.unusedVariables false
set_option maxHeartbeats 4000000
set_option maxRecDepth 1000000
open List renaming replicate→al,getElem?_eq_getElem→fr,getElem?_eq_some_iff→fQ,length_append→ff,length_singleton→gM,length_map→fa,length_nil→gf,getD→dz,length_cons→hk,getElem_mem→iX,all_eq_true→jq,getElem?_append_right→mx,mem_range→j1,getElem?_cons_zero→mY,append_assoc→k',range→i7,nil_append→lQ,getElem?_append_left→o4,cons_append→m3,getElem?_cons_succ→pS,append_nil→n3,mem_cons→n0,length_take→pN,mem_map→o8,all_cons→pO,mem_of_getElem?→tc,drop_length→sw,drop_eq_getElem_cons→va
open Nat renaming reduceAdd→aq,reduceSub→ar,reduceLeDiff→bW,le_refl→b4,lt_of_lt_of_le→fq,le_trans→e7,zero_add→hH,reduceLT→tG
open Go.IntKind renaming i64→j,wrap→kK
open Option renaming some→o,none→ad,bind_eq_some_iff→dK,map_eq_some_iff→dN,bind_some→c2,map_some→hF,getD_some→rf
open Go.Proofs.Tryz renaming prog→ap
open Bool renaming false→T,true→O,and_eq_true→hx,and_true→pZ
open Int renaming reduceEq→cC,natCast_zero→k6
open Go renaming TypeId→a6,Oper→bh,Program→cT,Value→b1,FuncId→c',World→dy,IntKind→gx,undef→gq,Frame→gI,lone→e3,Code→fK
open Array renaming getD_eq_getD_getElem?→iL
open Option.some renaming injEq→hZ,inj→kx
open Prod.mk renaming injEq→kh
open SizeOf renaming sizeOf→kL
open Go.Frame renaming enter→j0
open Go.Region renaming binds→kR
open Go.RowKit.Below renaming refl→mv
namespace Go.Proofs.YtkdbjfncchmmpaaGreat
open Go
variable{K:List Item}{x:av}{fn:Func}{args V ga t r:List E}{R:ag}{rs:List n5}{dq:Nat->Nat->Prop}{es:List (List E)}{G:a0}{cj:Nat}
def Xs:List be:=[EM,.ops [.i .l (.call (.c (.fn 76 [] [])) []),.i .l (.call (.c (.fn 77 [] [])) []),.i .l (.build [.e2,.e2,.bool T,.aA,.int j 0,.int j 0,.aA,.bool T,.aA,.int j 0,.int j 0,.aA,.bool T,.aA,.int j 0,.int j 0,.aA,.bool T,.aA,.int j 0,.int j 0,.aA] [(0,1),(1,1),(2,20)] [(0,(.l 1)),(1,(.l 0))]),.i .l (.box 22 (.l 0)),Cr],.ret]
theorem amw:cq ap W 39 0 1 [0] Xs [(.v 0)] T:=by refine⟨_,_,Tryz.func39,rfl,rfl,?_,?_,?_,?_,?_⟩<;>kernel_rfl
def Pg:List be:=[.ops [Ph],.cond (.v 2) [.ops [cW,.i .l (.D6 127 (.l 0)),Jf]] []]
theorem Xt:cq ap W 89 2 3 [0,1,4] Pg [] O:=by refine⟨_,_,Tryz.func89,rfl,rfl,?_,?_,?_,?_,?_⟩<;>kernel_rfl
def Xu:List be:=[.ops [.i (.v 1) (.a4 (.c .e2))],.ops [bd,cu,gU,aM,bd,cu,gU,aM,Jg,mh,.i .l (.fG (o 126) ad (.l 6) (.l 0)),oK],.ret]
theorem amx:cq ap W 88 1 2 [0,2] Xu [(.v 1)] T:=by refine⟨_,_,Tryz.func88,rfl,rfl,?_,?_,?_,?_,?_⟩<;>kernel_rfl
def Xv:List be:=[.ops [E9],.ops [bd,Pj,jv],.ops [gT,cu,v4,aM,qQ,mh,jk],.ops [gT,cu,v4,aM,cR,uX,jd,v5,uY],.ops [gT,gT,cu,v4,aM,cR,.i .l (.B6 T (o 35) (.l 1) ad (o (.l 0))),Cm,v4,l1],.ops [rE,E'],.ret]
theorem amy:cq ap W 90 1 5 [0,2,3,4,5] Xv [(.cell O 3 1)] T:=by refine⟨_,_,Tryz.func90,rfl,rfl,?_,?_,?_,?_,?_⟩<;>kernel_rfl
def Xw:List be:=[.ops [E9],.ops [bd,y5,E'],.ret]
theorem amz:cq ap W 115 1 2 [0,2] Xw [(.cell O 3 1)] O:=by refine⟨_,_,Tryz.func115,rfl,rfl,?_,?_,?_,?_,?_⟩<;>kernel_rfl
def Pk:List be:=[.ops [Jh,Ji],.ops [rF,aM,cW,Fa,Jj],.ops [rG,CB],.ret]
theorem Xx:cq ap W 91 2 4 [0,1,2,4] Pk [(.cell O 3 3)] O:=by refine⟨_,_,Tryz.func91,rfl,rfl,?_,?_,?_,?_,?_⟩<;>kernel_rfl
def Pl:List be:=[.ops [Ax,Fb],.ops [CC,Pm,uZ,.i .l (.call (.c (.fn 89 [] [])) [.l 0,.c (.int j 3)])],.ops [CC,Ay],.ret]
theorem Xy:cq ap W 116 1 3 [0,1,2] Pl [(.cell O 3 2)] O:=by refine⟨_,_,Tryz.func116,rfl,rfl,?_,?_,?_,?_,?_⟩<;>kernel_rfl
def xy:List be:=[p8,.ops [Jk],.ops [.i (.v 5) (.a4 (.v 0))],.block 0 [.ops [.i .l (.bin (.int j) .eql (.v 5) (.c (.int j 1))),jC],.cond (.v 6) [Xz,.ret] [.ops [.i .l (.bin (.int j) .eql (.v 5) (.c (.int j 2))),mI],.cond (.v 7) [XA,.ret] [.ops [.i .l (.bin (.int j) .eql (.v 5) (.c (.int j 3))),kA],.cond (.v 8) [XB,.ret] [.ops [.i .l (.bin (.int j) .eql (.v 5) (.c (.int j 4))),u0],.cond (.v 9) [.ops [cW,gT,Jl,jl]] [.ops [.i .l (.bin (.int j) .eql (.v 5) (.c (.int j 5))),u1],.cond (.v 10) [.ops [cW,gT,XC,jl]] []]]]]],.ops [.i (.v 11) (.a4 (.v 4))],.cond (.v 11) [Jm,.ret] [],p8,.ret]
theorem y6:cq ap W 42 3 12 [0,1,2,6,7,8,9,14,19,24,29,34] xy [(.v 3)] O:=by refine⟨_,_,Tryz.func42,rfl,rfl,?_,?_,?_,?_,?_⟩<;>kernel_rfl
def Eq:List be:=[.ops [Az,tr,V8],.ops [nG,aM,jC],.ops [bd,cu,dB,aM,cu,dB,aM,k5,XD,gT,.i .l (.call (.c (.fn 144 [] [])) [.l 1,.l 0]),si,.i .l (.call (.c (.fn 89 [] [])) [.l 0,.c (.int j 9)])],.ops [bd,cu,dB,aM,cu,dB,aM,k5,.i .l (.call (.c (.fn 162 [] [])) [.l 1,.l 0]),cl,fx,fy,.i (.v 7) EN,.i .n (.store 6 (.v 7) (.l 1)),cl],.ops [k5,.i .l (.load O 6 (.v 7)),Ah,V9],.ret]
theorem XE:cq ap W 147 3 8 [0,1,2,4,6,7,8,9] Eq [(.v 4),(.cell O 6 5)] O:=by refine⟨_,_,Tryz.func147,rfl,rfl,?_,?_,?_,?_,?_⟩<;>kernel_rfl
def Fc:List be:=[Fe,.ops [bd,rG,FS,.i .l (.call (.c (.fn 147 [] [])) [.l 2,.l 0,.c (.int j 1)]),cl,fx,fy,Oz,Pn,IN],.ops [.i .l (.c0 4 (.v 4)),aM,tp,Jj],.ops [bd,cu,dB,aM,cu,gU,aM,bd,Jn,aM,cR,.i .l (.call (.c (.fn 88 [] [])) [.l 3]),.bZ [⟨ad,T,1,.l 9,(.l 8)⟩,⟨ad,T,1,.l 6,(.l 5)⟩,⟨ad,T,1,.l 3,(.l 2)⟩],cu,dB,aM,.i .l (.call (.c (.fn 148 [] [])) [.l 8,.l 0,.l 5,.l 4]),cl,fx,fy,Ai,cl],.ops [bd,hK,Po,.i .l (.call (.c (.fn 114 [] [])) [.l 2,.l 0])]]
theorem Jo:cq ap W 129 2 6 [0,1,3,4,5,6] Fc [] T:=by refine⟨_,_,Tryz.func129,rfl,rfl,?_,?_,?_,?_,?_⟩<;>kernel_rfl
def CD:List be:=[XF,.ops [sn,FS],.ops [rE,Jp],.ops [bd,sn,.i .l (.call (.c (.fn 147 [] [])) [.l 1,.l 0,.c (.int j 2)]),cl,fx,fy,Pp,Ai,XG],.ops [Jq,aM,tp,Jj],.ops [bd,cu,dB,aM,cu,gU,aM,bd,.i .l (.c0 3 (.v 6)),aM,hK,od,aM,.i .l (.call (.c (.fn 88 [] [])) [.l 5]),.bZ [⟨ad,T,1,.l 11,(.l 10)⟩,⟨ad,T,1,.l 8,(.l 7)⟩,⟨ad,T,1,.l 5,(.l 4)⟩,⟨ad,T,1,.l 2,(.l 1)⟩],cu,dB,aM,.i .l (.call (.c (.fn 149 [] [])) [.l 10,.l 0,.l 7,.l 6,.l 4])],.ops [bd,rE,Ff]]
theorem Fg:cq ap W 130 3 7 [0,1,2,4,5,6,7] CD [] T:=by refine⟨_,_,Tryz.func130,rfl,rfl,?_,?_,?_,?_,?_⟩<;>kernel_rfl
def Pq:List be:=[.ops [.i (.v 4) (.box 3 (.v 1)),v6],.ops [bd,cu,dB,aM,cu,dB,aM,od,aM,gT,cR,.i .l (.call (.c (.fn 84 [] [])) [.l 4,.l 2,.l 1,.l 0]),cl,fx,fy,Jr,mI],.ops [j7,uZ,j7,Js],.ops [k5,ID,p9],.ret]
theorem XH:cq ap W 131 4 8 [0,1,2,3,5,8,9,10] Pq [(.cell O 3 5)] T:=by refine⟨_,_,Tryz.func131,rfl,rfl,?_,?_,?_,?_,?_⟩<;>kernel_rfl
def Fh:List be:=[Fe,.ops [rG,FS],.ops [bd,cu,dB,aM,cu,dB,aM,XI,cl,fx,fy,Pn,jl],.ops [fb,uZ,fb,Js],.ops [bd,rG,cR,.i .l (.call (.c (.fn 131 [] [])) [.l 2,.l 1,.c (.int j 15),.l 0]),v6,p9],.ops [bd,so,cR,XJ,Pi,Jt,Pr]]
theorem Ju:cq ap W 132 2 6 [0,1,3,4,5,6] Fh [] T:=by refine⟨_,_,Tryz.func132,rfl,rfl,?_,?_,?_,?_,?_⟩<;>kernel_rfl
def Ps:List be:=[.ops [.i (.v 2) (.box 10 (.v 1))],XK,.ops [bd,bd,cu,gU,aM,.i .l (.load O 10 (.v 2)),XL,.bZ [⟨ad,T,1,.l 3,(.l 2)⟩],.i .l (.app O 126 (.l 2) (.l 0)),Pt,gU,l1]]
theorem XM:cq ap W 133 2 3 [0,1,3] Ps [] T:=by refine⟨_,_,Tryz.func133,rfl,rfl,?_,?_,?_,?_,?_⟩<;>kernel_rfl
def xz:List be:=[XF,.ops [bd,sn,FS,.i .l (.call (.c (.fn 147 [] [])) [.l 2,.l 0,.c (.int j 8)]),cl,fx,fy,Pp,Ai,XG],.ops [Jq,aM,oL,Jj],.ops [bd,cu,dB,aM,Jq,aM,vZ,kn,CE,.i .l (.load O 5 (.l 0)),.i (.v 7) (.alloc [.bool T,.aA,.int j 0,.int j 0,.aA]),.bZ [⟨ad,T,1,.l 7,(.l 6)⟩,⟨ad,T,1,.l 5,(.l 4)⟩,⟨ad,O,5,.l 1,(.l 0)⟩],.i .n (.store 5 (.v 7) (.l 0))],.ops [.i .l (.c0 0 (.v 7)),aM,si,cl,.g (.l 0) T .l (.c0 5 (.v 6)),k4,.g (.l 2) T .l (.c0 1 (.v 7)),CF,.g (.l 4) T .l (.len T (o 174) (.l 0)),.g (.l 5) T .l (.bin (.int j) .geq (.l 3) (.l 0)),.i .l XN,.i .l (.call (.c (.fn 89 [] [])) [.l 0,.c (.int j 8)])],XK,.ops [bd,cu,dB,aM,cu,dB,aM,hK,.i .l (.call (.c (.fn 150 [] [])) [.l 1,.l 0]),kA],.ops [bd,cu,dB,aM,cu,dB,aM,rE,p7,.i .l (.call (.c (.fn 113 [] [])) [.l 2,.l 1,.l 0]),cl,fx,fy,Fi,.bZ [⟨ad,T,1,.l 10,(.l 9)⟩,⟨ad,T,1,.l 7,(.l 6)⟩,⟨ad,O,3,.v 4,(.l 5)⟩],XO,u1],.ops [sp,uZ,sp,Js],.ops [bd,Jq,aM,.i .l (.c0 5 (.v 6)),aM,Fj,p7,.i .l (.build [.int j 0,.int j 0,.int j 0,.int j 0,.int j 0,.aA,.aA,.aA,.bool T,.aA] [(0,1),(1,1),(2,1),(3,3),(6,1),(7,1),(8,1),(9,1)] [(0,(.l 4)),(1,(.l 2)),(3,(.l 1)),(6,(.c (.bool O))),(7,(.l 0))]),.i .l (.call (.c (.fn 133 [] [])) [.l 7,.l 0])]]
theorem y7:cq ap W 134 3 11 [0,1,2,4,5,6,7,8,9,10,11] xz [] T:=by refine⟨_,_,Tryz.func134,rfl,rfl,?_,?_,?_,?_,?_⟩<;>kernel_rfl
def Pu:List be:=[.ops [bd,po,.i .l (.call (.c (.fn 91 [] [])) [.l 0,.c (.int j 2)]),Fb,Ay],.ops [bd,tq,aM,cW,uX,jd,Pr]]
theorem XP:cq ap W 117 2 3 [0,1,4] Pu [] T:=by refine⟨_,_,Tryz.func117,rfl,rfl,?_,?_,?_,?_,?_⟩<;>kernel_rfl
def m9:List be:=[Fe,Pv,.ops [rF,XQ],.block 0 [.ops [XR,xA],.cond (.v 11) [.ops [bd,kN,Ff]] [.ops [XS,y8],.cond (.v 12) [.ops [bd,tq,aM,Po,.i .l (.call (.c (.fn 114 [] [])) [.l 3,.l 0])]] [.ops [XT,AA],.cond (.v 13) [.ops [bd,cR,cu,Fk,jd,XU]] [.ops [XV,Fl],.cond (.v 14) [.ops [bd,cR,cu,u2,aM,cR,cu,u2,aM,qQ,mh,nD,aM,XW,.i .l (.fG (o 35) ad (.l 9) (.l 0)),jd,.i .l (.call (.c (.fn 114 [] [])) [.l 15,.l 0])]] [.ops [XX,CG],.cond (.v 15) [XY,.ops [so,Jp],.ops [rE,Jp],.ops [bd,nD,aM,Ot,aM,od,aM,.i .l (.call (.c (.fn 42 [] [])) [.l 4,.l 2,.l 0]),Po,XZ]] [.ops [.i .l (.bin (.int j) .eql (.v 10) (.c (.int j 8))),AB],.cond (.v 16) [.ops [bd,po,bd,po,EB,Fm,.i .n (.store 3 (.v 6) (.l 2)),u3],.ops [bd,Pw,sg,.i .l (.lr T 35 [.int j 0,.int j 0,.aA] 3 2 [(0,(.l 1)),(1,(.l 0))]),Jt,X0,Pr]] [.ops [.i .l (.bin (.int j) .eql (.v 10) (.c (.int j 9))),tz],.cond (.v 17) [.ops [bd,.i .l (.call (.c (.fn 117 [] [])) [.l 0,.c (.int j 0)])]] [.ops [.i .l (.bin (.int j) .eql (.v 10) (.c (.int j 10))),Fo],.cond (.v 18) [.ops [bd,.i .l (.call (.c (.fn 117 [] [])) [.l 0,.c (.int j 1)])]] [.ops [.i .l (.bin (.int j) .eql (.v 10) (.c (.int j 11))),Fp],.cond (.v 19) [.ops [bd,po,X1,X2],.ops [bd,cR,cu,dB,aM,.i .l (.load O 3 (.v 8)),Jv,.bZ [⟨ad,T,1,.l 3,(.l 2)⟩],.i .l (.build [.int j 0,.int j 0,.aA] [(0,1),(1,1),(2,1)] [(0,(.c (.int j 3))),(1,(.l 2)),(2,(.l 0))]),X0,XZ]] [.ops [.i .l (.bin (.int j) .eql (.v 10) (.c (.int j 12))),Jw],.cond (.v 20) [.ops [bd,po,.i .l (.call (.c (.fn 91 [] [])) [.l 0,.c (.int j 3)]),Fi,Jx],.ops [.i .l (.c0 1 (.v 9)),aM,cR,cu,dB,aM,.i .l X3,.i .l (.call (.c (.fn 89 [] [])) [.l 0,.c (.int j 10)])],.ops [bd,.i .l (.c0 2 (.v 9)),aM,lj,jd,XU]] [.ops [bd,rG,.i .l (.call (.c (.fn 118 [] [])) [.l 1,.l 0])]]]]]]]]]]]]]
theorem nH:cq ap W 93 2 21 [0,1,3,4,5,6,7,8,9,10,14,18,23,30,38,57,77,90,94,98,112] m9 [] T:=by refine⟨_,_,Tryz.func93,rfl,rfl,?_,?_,?_,?_,?_⟩<;>kernel_rfl
def oN:List be:=[Fe,Pv,.ops [rF,.i (.v 11) oc],.block 0 [.ops [.i .l (.bin (.int j) .eql (.v 11) (.c (.int j 13))),y8],.cond (.v 12) [.ops [bd,bd,po,.i .l (.call (.c (.fn 129 [] [])) [.l 2,.l 0])]] [.ops [.i .l (.bin (.int j) .eql (.v 11) (.c (.int j 14))),AA],.cond (.v 13) [XY,.ops [bd,so,rE,.i .l (.call (.c (.fn 130 [] [])) [.l 2,.l 1,.l 0])]] [.ops [.i .l (.bin (.int j) .eql (.v 11) (.c (.int j 15))),Fl],.cond (.v 14) [.ops [bd,bd,bd,nD,aM,.i .l (.call (.c (.fn 90 [] [])) [.l 2]),.bZ [⟨ad,T,1,.l 2,(.l 1)⟩],FS,.bZ [⟨ad,T,1,.l 3,(.l 2)⟩],.i .l (.call (.c (.fn 131 [] [])) [.l 5,.l 0,.l 2,.c (.int j (-1))]),.i .l (.call (.c (.fn 114 [] [])) [.l 7,.l 0])]] [.ops [.i .l (.bin (.int j) .eql (.v 11) (.c (.int j 16))),CG],.cond (.v 15) [.ops [bd,bd,po,.i .l (.call (.c (.fn 132 [] [])) [.l 2,.l 0])]] [.ops [.i .l (.bin (.int j) .eql (.v 11) (.c (.int j 17))),AB],.cond (.v 16) [.ops [bd,cu,dB,aM,cu,dB,aM,bd,po,.bZ [⟨ad,T,1,.l 6,(.l 5)⟩,⟨ad,T,1,.l 3,(.l 2)⟩],.i .l (.call (.c (.fn 91 [] [])) [.l 0,.c (.int j 5)]),.bZ [⟨ad,T,1,.l 7,(.l 6)⟩,⟨ad,T,1,.l 4,(.l 3)⟩],.i .l (.D7 T 1 1 (.l 0)),.i .l (.call (.c (.fn 62 [] [])) [.l 4,.l 0])],.ops [bd,kN,Ff]] [.ops [.i .l (.bin (.int j) .eql (.v 11) (.c (.int j 18))),tz],.cond (.v 17) [.ops [bd,po,EB,EC],.ops [bd,cR,cu,dB,aM,nD,aM,sg,.i .l (.build [.int j 0,.int j 0,.int j 0,.int j 0,.int j 0,.aA,.aA,.aA,.bool T,.aA] [(0,1),(1,1),(2,1),(3,3),(6,1),(7,1),(8,1),(9,1)] [(0,(.l 3)),(1,(.l 1)),(3,(.l 0))]),.i .l (.call (.c (.fn 133 [] [])) [.l 8,.l 0])]] [.ops [.i .l (.bin (.int j) .eql (.v 11) (.c (.int j 19))),Fo],.cond (.v 18) [.ops [bd,po,bd,po,Fm,X1,.i .n (.store 3 (.v 7) (.l 2)),X2],.ops [bd,.i .l (.load O 3 (.v 8)),Pw,.i .l (.call (.c (.fn 134 [] [])) [.l 2,.l 1,.l 0])]] [.ops [.i .l (.bin (.int j) .eql (.v 11) (.c (.int j 20))),Fp],.cond (.v 19) [.ops [bd,cu,dB,aM,cR,cu,dB,aM,y9,kn,CE,u0],.ops [tA,cu,kn,jd,X4,.i .n (.store 3 (.v 10) (.l 0))],.ops [tA,bd,po,vZ,kn,.i .n (.store 3 (.l 0) (.l 2))],.ops [bd,.i .l (.load O 3 (.v 10)),Ff]] [.ops [.i .l (.bin (.int j) .eql (.v 11) (.c (.int j 21))),Jw],.cond (.v 20) [.ops [bd,bd,cu,dB,aM,cR,cu,dB,aM,y9,kn,CE,kn,jd,.i .l (.call (.c (.fn 114 [] [])) [.l 13,.l 0])]] []]]]]]]]]]]
theorem pq:cq ap W 118 2 21 [0,1,3,4,5,6,7,8,9,10,11,15,16,22,32,43,49,66,80,90,115] oN [] T:=by refine⟨_,_,Tryz.func118,rfl,rfl,?_,?_,?_,?_,?_⟩<;>kernel_rfl
def CH:List be:=[.ops [E9,xB],.ops [bd,po,Ji,CB],.ops [bd,Pj,cu,.i .l (.load O 10 (.l 0)),.i (.v 4) (.alloc [.int j 0,.int j 0,.int j 0,.int j 0,.int j 0,.aA,.aA,.aA,.bool T,.aA]),.i .n (.store 10 (.v 4) (.l 0))],.ops [.i .l (.c0 8 (.v 4)),Fq],.cond (.v 7) [.ops [bd,cu,dB,aM,cu,dB,aM,sn,.i .l (.c0 9 (.v 4)),aM,.i .l (.call (.c (.fn 113 [] [])) [.l 3,.l 2,.l 0]),cl,fx,fy,v6,.bZ [⟨ad,T,1,.l 11,(.l 10)⟩,⟨ad,T,1,.l 8,(.l 7)⟩,⟨ad,O,3,.v 3,(.l 6)⟩,⟨ad,T,1,.l 5,(.l 4)⟩],rH,jC],.ops [k5,uZ,k5,Js],.ops [so,CB]] [],.ops [bd,bd,cu,gU,aM,bd,cu,gU,aM,Jg,mh,.i .l (.B6 T (o 126) (.l 6) ad (o (.l 0))),.i .l (.j2 (.l 11)),gU,l1],.ops [bd,cu,gU,aM,Jg,.i (.v 8) Fs],.cond (.v 8) [.ops [sn,E',Jc],.ret] [],.ops [bd,sn,Ff],.ops [sn,E',xB],.ret]
theorem Ft:cq ap W 92 1 9 [0,2,3,4,5,6,7,15,54] CH [(.cell O 3 1),(.v 2)] T:=by refine⟨_,_,Tryz.func92,rfl,rfl,?_,?_,?_,?_,?_⟩<;>kernel_rfl
def rI:List be:=[.ops [E9,xB],Pv,.ops [bd,cu,dB,aM,cR,cu,dB,aM,y9,kn,CE,gU,aM,cR,cu,gU,aM,.i .l (.fG (o 174) ad (.l 4) (.l 0)),aM,cR,cu,kn,aM,.i .l (.fG (o 184) ad (.l 4) (.l 0)),jd,.i (.v 4) (.alloc [.int j 0,.int j 0,.int j 0]),.bZ [⟨ad,T,1,.l 22,(.l 21)⟩,⟨ad,T,1,.l 18,(.l 17)⟩,⟨ad,T,1,.l 13,(.l 12)⟩,⟨ad,T,1,.l 9,(.l 8)⟩,⟨ad,T,1,.l 7,(.l 6)⟩,⟨ad,T,1,.l 3,(.l 2)⟩,⟨ad,O,3,.l 1,(.l 0)⟩],uY],.ops [cR,cu,kn,aM,ry,y9,kn,l1],.ops [sq,Fu],.block 0 [.ops [.i .l (.bin (.int j) .eql (.v 6) (.c (.int j 100))),mI],.cond (.v 7) [.ops [bd,cu,kn,aM,Fv,.i .l (.call (.c (.fn 89 [] [])) [.l 0,.c (.int j 12)])],X5] [.ops [.i .l (.bin (.int j) .eql (.v 6) (.c (.int j 101))),kA],.cond (.v 8) [.ops [bd,po,v6,p9],.ops [cR,cu,u2,aM,so,X6,Ob,.bZ [⟨ad,T,1,.l 4,(.l 3)⟩,⟨ad,O,3,.v 5,(.l 2)⟩],.i .l (.app O 35 (.l 3) (.l 0)),.i .l (.fG (o 35) ad (.l 0) (.l 2)),.i .l (.j2 (.l 8)),u2,.i .n (.store 3 (.l 2) (.l 6)),X7,.bZ [⟨ad,O,3,.l 2,(.l 6)⟩]]] [.ops [.i .l (.bin (.int j) .eql (.v 6) (.c (.int j 102))),u0],.cond (.v 9) [.ops [cR,cR,cu,u2,aM,cR,cu,u2,aM,qQ,mh,.i .l (.B6 T (o 35) (.l 6) ad (o (.l 0))),.i .l (.j2 (.l 11)),u2,l1]] [.ops [.i .l (.bin (.int j) .eql (.v 6) (.c (.int j 103))),u1],.cond (.v 10) [.ops [bd,po,Jp,.i .l (.D7 T 1 1 (.l 0)),Ov],.cond (.v 11) [X8] []] [.ops [.i .l (.bin (.int j) .eql (.v 6) (.c (.int j 104))),y8],.cond (.v 12) [X8] [.ops [.i .l (.bin (.int j) .eql (.v 6) (.c (.int j 105))),AA],.cond (.v 13) [.ops [bd,.i .l (.call (.c (.fn 92 [] [])) [.l 0]),fx,fy,X9,jv],.ret] [.ops [bd,rE,.i .l (.call (.c (.fn 93 [] [])) [.l 1,.l 0])]]]]]]]],.ops [kN,E',xB],.ret]
theorem sr:cq ap W 50 1 14 [0,2,3,4,5,6,42,46,61,76,92,98,104,111] rI [(.cell O 3 1),(.v 2)] T:=by refine⟨_,_,Tryz.func50,rfl,rfl,?_,?_,?_,?_,?_⟩<;>kernel_rfl
def X':List be:=[EM,.ops [.i .l (.build [.int j 0,.int j 0,.int j 0,.int j 0,.int j 0,.int j 0,.int j 0,.int j 0,.int j 0,.int j 0,.int j 0,.int j 0,.aA] [(0,12),(12,1)] []),.i .l (.box 13 (.l 0)),Cr],.ret]
theorem amA:cq ap W 77 0 1 [0] X' [(.v 0)] T:=by refine⟨_,_,Tryz.func77,rfl,rfl,?_,?_,?_,?_,?_⟩<;>kernel_rfl
def Ya:List be:=[.ops [tr,Jy],.ops [gT,Ol,Cq],.cond (.v 6) [.ops [tr,Jy],.ret] [],.ops [bd,bd,cu,Fw,aM,cW,gT,cR,.i .l (.build [.int j 0,.int j 0,.int j 0,.int j 0] [(0,1),(1,1),(2,1),(3,1)] [(0,(.l 2)),(1,(.l 1)),(2,(.c (.int j 1))),(3,(.l 0))]),Jz,Yb,IE,Fw,l1],.ops [bd,gT,tB,dB,.i .l (.fG ad (o (12,1)) (.l 0) (.l 2)),aM,jl,Yc],.ret]
theorem amB:cq ap W 148 4 7 [0,1,2,3,8,9,12] Ya [(.v 4),(.v 5)] T:=by refine⟨_,_,Tryz.func148,rfl,rfl,?_,?_,?_,?_,?_⟩<;>kernel_rfl
def Yd:List be:=[.ops [Jy],.ops [gT,Ol,Cq],.cond (.v 6) [.ops [Jy],.ret] [],.ops [bd,bd,cu,Fw,aM,cW,gT,cR,.i .l (.build [.int j 0,.int j 0,.int j 0,.int j 0] [(0,1),(1,1),(2,1),(3,1)] [(0,(.l 2)),(1,(.l 1)),(2,(.c (.int j 2))),(3,(.l 0))]),Jz,Yb,IE,Fw,l1],.ops [bd,gT,fb,vZ,dB,.i .l (.fG ad (o (12,1)) (.l 0) (.l 3)),X7],.ops [Yc],.ret]
theorem amC:cq ap W 149 5 7 [0,1,2,3,4,10,13] Yd [(.v 5)] T:=by refine⟨_,_,Tryz.func149,rfl,rfl,?_,?_,?_,?_,?_⟩<;>kernel_rfl
def Px:List be:=[yO,.ops [bd,cu,Fw,aM,.i .l (.call (.c (.fn 52 [] [])) [.l 0]),oK],.ret]
theorem Ye:cq ap W 17 1 2 [0,2] Px [(.v 1)] O:=by refine⟨_,_,Tryz.func17,rfl,rfl,?_,?_,?_,?_,?_⟩<;>kernel_rfl
def Py:List be:=[yO,OB,.cond (.v 2) [yO,.ret] [],.ops [.i .l (.lr T 137 [.int j 0,.int j 0,.int j 0,.int j 0] 4 0 []),bd,.i .l (.app T 137 (.l 1) (.l 0)),oK],.ret]
theorem Yf:cq ap W 52 1 3 [0,2,4] Py [(.v 1)] O:=by refine⟨_,_,Tryz.func52,rfl,rfl,?_,?_,?_,?_,?_⟩<;>kernel_rfl
def ii:List be:=[.ops [cR,bd,Pz,IU],.cond (.v 5) [] [.exit 0],.block 1 [.ops [bd,cR,Yg,aM,cW,cR,Yg,aM,.i (.v 6) X3],.cond (.v 6) [mg,.ret] []],yQ]
def Yh:List be:=[mg,.ops [bd,Pz,cW,Pz,IV],.cond (.v 4) [mg,.ret] [],p8,.block 0 [.loop ii],yR,.ret]
theorem amD:cq ap W 20 2 7 [0,1,4,5,10,14,25] Yh [(.v 2)] O:=by refine⟨_,_,Tryz.func20,rfl,rfl,?_,?_,?_,?_,?_⟩<;>kernel_rfl
def Yi:List be:=[p8,.ops [.i (.v 4) (.a4 (.v 0))],.block 0 [.ops [.i .l (.bin (.int j) .eql (.v 4) (.c (.int j 1))),jT],.cond (.v 5) [Xz,.ret] [.ops [.i .l (.bin (.int j) .eql (.v 4) (.c (.int j 2))),jC],.cond (.v 6) [XA,.ret] [.ops [.i .l (.bin (.int j) .eql (.v 4) (.c (.int j 3))),mI],.cond (.v 7) [XB,.ret] [.ops [JA,kA],.cond (.v 8) [.ops [cW,gT,.i (.v 9) JB],.cond (.v 9) [Jm,.ret] []] [.ops [.i .l (.bin (.int j) .eql (.v 4) (.c (.int j 5))),u1],.cond (.v 10) [.ops [cW,gT,.i (.v 11) (.bin (.int j) .eql (.l 1) (.l 0))],.cond (.v 11) [Jm,.ret] []] []]]]]],p8,.ret]
theorem amE:cq ap W 136 3 12 [0,1,2,6,7,8,13,18,23,27,28,32] Yi [(.v 3)] O:=by refine⟨_,_,Tryz.func136,rfl,rfl,?_,?_,?_,?_,?_⟩<;>kernel_rfl
def Yj:List be:=[EM,.ops [Wk,IQ,.i .l (.H3 2 [.int j 0] (.c (.int j 12)) (.c (.int j 12))),.i .l (.build [.e2,.aA,.aA,.e2,.e2,.e2,.e2,.int j 0,.int j 0,.aA,.int j 0,.int j 0,.aA,.int j 0,.int j 0,.aA,.int j 0,.int j 0,.aA,.aA,.aA,.aA,.aA] [(0,1),(1,1),(2,1),(3,4),(7,12),(19,4)] [(0,(.l 1)),(1,(.l 0))]),.i .l (.box 23 (.l 0)),Cr],.ret]
theorem amF:cq ap W 25 0 1 [0] Yj [(.v 0)] T:=by refine⟨_,_,Tryz.func25,rfl,rfl,?_,?_,?_,?_,?_⟩<;>kernel_rfl
def Fx:List be:=[Yk,.ops [cW,oL,cl,xv,Fy,Yl],.cond (.v 7) [JC,.ret] [],.ops [CI,.i .l (.call (.c (.fn 82 [] [])) [.l 0]),.i (.v 5) JD,.i .n (.store 2 (.v 5) (.l 0))],.ops [PA,aM,JE],.cond (.v 8) [.ops [PA,aM,jl],.ret] [],.ops [CI,.i .l (.call (.c (.fn 83 [] [])) [.l 0]),.i (.v 6) (.alloc [.aA]),.i .n (.store 1 (.v 6) (.l 0))],.ops [bd,cW,tB,Fk,uP,.i .n (.store 1 (.l 0) (.v 6))],.ops [bd,cW,kN,vZ,u2,.i .l (.fG ad (o (4,3)) (.l 0) (.l 3)),Ym],ts,.ret]
theorem JF:cq ap W 44 3 9 [0,1,2,5,6,7,8,14,19] Fx [(.v 4)] T:=by refine⟨_,_,Tryz.func44,rfl,rfl,?_,?_,?_,?_,?_⟩<;>kernel_rfl
def Yn:List be:=[Fe]
def JG:List ay:=[bd,bd,rG,(.i .l (.lr O 35 [(.int j 0),(.int j 0),.aA] 3 1 [(0,(.l 0))])),(.i .l (.call (.c (.fn 88 [] [])) [(.l 3)])),(.bZ [⟨ad,O,3,(.v 2),(.l 2)⟩]),(.i .l (.call (.c (.fn 88 [] [])) [(.l 3)])),(.bZ [⟨ad,O,3,(.v 2),(.l 3)⟩]),cu,v4,aM,(.i .l (.app O 35 (.l 0) (.l 5))),(.i .l (.j2 (.l 5))),v4,l1]
def JH:List ay:=[bd,bd,rG,(.i .l (.call (.c (.fn 88 [] [])) [(.l 2)])),(.bZ [⟨ad,O,3,(.v 2),(.l 1)⟩]),(.i .l (.lr O 35 [(.int j 0),(.int j 0),.aA] 3 1 [(0,(.l 1))])),(.i .l (.call (.c (.fn 88 [] [])) [(.l 3)])),(.bZ [⟨ad,O,3,(.v 2),(.l 3)⟩]),cu,v4,aM,(.i .l (.app O 35 (.l 0) (.l 4))),Cm,v4,l1]
def JI:List ay:=[bd,bd,rG,(.i .l (.call (.c (.fn 88 [] [])) [(.l 2)])),(.bZ [⟨ad,O,3,(.v 2),(.l 1)⟩]),(.i .l (.call (.c (.fn 88 [] [])) [(.l 2)])),(.bZ [⟨ad,O,3,(.v 2),(.l 2)⟩]),cu,v4,aM,(.i .l (.lr O 35 [(.int j 0),(.int j 0),.aA] 3 1 [(0,(.l 5))])),(.bZ [⟨ad,T,1,(.l 2),(.l 1)⟩]),(.i .l (.app O 35 (.l 1) (.l 0))),Cm,v4,l1]
def ep:fK->fK
 |.seq a _=>a
 |c=>c
def gK:fK->fK
 |.seq _ b=>b
 |c=>c
def mj:fK->Array bh
 |.region _ ops _=>ops
 |_=> #[]
section
variable{P:cT}{W:h8}{f:c'}{n aL:Nat}{bb:List Nat}{h F:ag}{t V ga:List E}
theorem lk{a:Nat}(c4:tj a n (W.aL f) aL bb=O):bb.Nodup/\∀D s,bb[D]? =o s->(D<aL↔s<W.aL f):=by
 unfold tj at c4;simp only[hx,decide_eq_true_eq,jq,j1,beq_iff_eq,bne_iff_ne,ne_eq]at c4;obtain⟨⟨aR,a5⟩,bp⟩:=c4;have get:∀D s,bb[D]? =o s->D<bb.length/\bb.getD D 0=s:=λD s aa=>⟨(fQ.1 aa).1,by simp[dz,aa]⟩;refine⟨?_,λD s aa=>?_⟩
 ·rw[List.nodup_iff_pairwise_ne,List.pairwise_iff_getElem];intro i D af aa ho e;have:=(bp D aa).2 i ho;apply this;simp[dz,af,aa,e]
 ·obtain⟨da,ch⟩:=get D s aa;have:=(bp D da).1.1.2;rw[ch]at this;exact decide_eq_decide.1 this
theorem v7(dg:l' P W){c:fK}{l:List be}{x:kw}(pr:bb.Nodup/\∀D s,bb[D]? =o s->(D<aL↔s<W.aL f))(js:g5 P (W.a' f) (W.cz f) n bb c []=o l)(AD:iz (W.cz f) (W.e9 f) c=O)(ao:bB (aQ P W) aL [.bP l,.halt K] V [] h=o (x,ga,F))(cx:g6 n bb [] t V []):∃dF,(∀(m:eh) (w:dy) (a:Act) (b:gI) (cs:List gI),cc P m h w->dY P m h t a.tmps->a.defers=b.defers->eS P (W.e9 f) m h w b cs (e3 (b.at a (.code c::K)) cs w) (x,dF,F))/\g6 n bb [] dF ga []:=by obtain⟨dF,e,uE⟩:=(Ic (n:=n) (f:=f) pr.1 pr.2 _ _ _ _ _ ao).1 [.code c,.halt K] t (.bP [c] l [.halt K] [.halt K] (by simp[mD,js]) (.halt K [] [])) cx;refine⟨dF,λm w a b cs hw a3 a7=>?_,uE⟩;exact(HY dg f _ t h _ e).cG (.code c::K) (.code c _ _ AD (.halt K [])) b cs m w a hw a3 a7
theorem JJ{g:c'}{c:fK}(bl:P.funcs[g]? =o fn)(ab:fn.body=o c)(bA:List b1)(eI:CallKind):(j0 P g bA.toArray eI).at {tmps:=(bA++al (fn.ntmps - bA.length) gq).toArray,defers:=[]} [.code c]=j0 P g bA.toArray eI:=by simp[j0,Frame.at,bl,ab]
theorem JK{m:eh}{k:Nat}{bA:List b1}(U:dT P m h args bA):dY P m h (args++al (k - args.length) .az) (bA++al (k - bA.length) gq).toArray:=by
 have am:=U.1;have R:dT P m h (args++al (k - args.length) .az) (bA++al (k - bA.length) gq):=by rw[am];exact dT.append U ⟨by simp,λD aa dv=>by simp only[List.getElem_replicate];exact .az _⟩
 refine⟨by simpa using R.1,λi af=>?_⟩;have il:i<(bA++al (k - bA.length) gq).length:=by rw[R.1];exact af
 have:=R.2 i af il;simp only[iL,List.getElem?_toArray,fr il,rf];exact this
theorem Yo{m:eh}{cw:Array b1}(a3:dY P m h t cw){i:Nat}(af:i<t.length):bX P m h (t.getD i .az) (cw.getD i gq):=by have:=a3.2 i af;simpa[dz,af]using this
end
open Go Go.RowKit
section
variable{P:cT}{W:h8}{f:c'}{n aL:Nat}{bb:List Nat}{h F:ag}{t V ga:List E}{all:Array bh}{pl:List (Nat×List Nat)}{dq:Nat->Nat->Prop}
theorem Yp(dg:l' P W){bN:List ay}{x:kw}(pp:ta all pl (λ_=>T) dq)(m0:ye (W.e9 f) all=O)(pr:bb.Nodup/\∀D s,bb[D]? =o s->(D<aL↔s<W.aL f))(js:nx P (W.a' f) n bb all [] (jf O all pl)=o bN)(ao:bB (aQ P W) aL [.ops bN,.halt K] V [] h=o (x,ga,F))(cx:g6 n bb [] t V []):∃dF,(∀(m:eh) (w:dy) (a:Act) (b:gI) (cs:List gI) (L:List Nat),lq all dq (md all) L->cc P m h w->dY P m h t a.tmps->a.defers=b.defers->eS P (W.e9 f) m h w b cs (e3 (b.at a (.inRegion all L::K)) cs w) (x,dF,F))/\g6 n bb [] dF ga []:=by
 obtain⟨dF,e,uE⟩:=(Ic (n:=n) (f:=f) pr.1 pr.2 _ _ _ _ _ ao).2.1 O all (jf O all pl) bN [.halt K] [] t [.halt K] rfl js (.halt K [] []) cx;refine⟨dF,λm w a b cs L c5 hw a3 a7=>?_,uE⟩;obtain⟨ax,t2,R,aH,he⟩:=HY dg f _ t h _ e;refine Ng dg pp m0 aH (λdV=>?_) (λv dV=>?_) c5 hw a3 a7
 ·subst dV;exact λcL cY aR bM bL de=>he K (.halt K []) b cs cL cY aR bM bL de
 ·subst dV;exact he
theorem Yq(dg:l' P W)(vJ:∀D,D<all.size->∀e∈(fh all D).after,kR .any e=O->e.on<D){id:Nat}{b:gI}{a:Act}{cs:List gI}{w:dy}:∃L ba,lq all (λ_ _=>False) (md all) L/\Steps P (e3 (b.at a (.code (.region id all O)::K)) cs w) (e3 (b.at a (.inRegion all L::K)) cs ba)/\(∀(m:eh) (h:ag),cc P m h w->cc P m h ba)/\∀base,Below base w ba:=by refine⟨_,_,?_,.one step_region_draw,λm h hw=>hw.drew,λbase=>(mv _ _).drew⟩;simp only[Region.schedule,dg.mixed,Bool.true_or,if_true,Region.linearise];exact HJ vJ _ _ _ (by simp) (by simp[List.countP_replicate])
end
open Go Go.RowKit
section
variable{P:cT}{W:h8}{f:c'}{n aL:Nat}{bb:List Nat}{h:ag}
def nI(P:cT)(W:h8)(f:c')(n:Nat)(bb:List Nat)(args:List E)(h:ag)(x:kw)(V:List E)(R:ag):Prop:=∀(m:eh) (w:dy) (bA:List b1),cc P m h w->dT P m h args bA->∀cs:List gI,∃(fc:gI) (t2:List E),fc.fn=f/\fc.kind= .normal/\fc.defers=[]/\g6 n bb [] t2 V []/\eS P (W.e9 f) m h w fc cs (e3 (j0 P f bA.toArray .normal) cs w) (x,t2,R)
theorem nI.start{c:fK}(bl:P.funcs[f]? =o fn)(ab:fn.body=o c)(aE:fn.ntmps=n)(cx:g6 n bb [] (args++al (n - args.length) .az) (args++al (bb.length - args.length) .az) []):nI P W f n bb args h (.halt [.code c]) (args++al (bb.length - args.length) .az) h:=by
 intro m w bA hw fl cs;have he:=JJ bl ab bA .normal;have a3:=JK (P:=P) (h:=h) (k:=n) fl;rw[aE]at he;refine⟨j0 P f bA.toArray .normal,_,by simp[j0],by simp[j0],by simp[j0],cx,m,w,Ext.refl _ _,hw,mv _ _,{tmps:=_,defers:=[]},a3,?_,?_⟩
 ·simp[j0]
 ·conv=>lhs;rw[<-he]
  exact .refl _ _
theorem nI.next(dg:l' P W){c A B:fK}{l:List be}{ah:ag}{x:kw}(p:nI P W f n bb args h (.halt [.code c]) V R)(an:c= .seq A B)(pr:bb.Nodup/\∀D s,bb[D]? =o s->(D<aL↔s<W.aL f))(js:g5 P (W.a' f) (W.cz f) n bb A []=o l)(AD:iz (W.cz f) (W.e9 f) A=O)(ao:bB (aQ P W) aL [.bP l,.halt [.code B]] V [] R=o (x,ga,ah)):nI P W f n bb args h x ga ah:=by
 intro m w bA hw fl cs;obtain⟨fc,t2,cg,dw,fW,cx,cL,cY,b3,dH,f',aR,hI,ha,jw⟩:=p m w bA hw fl cs;obtain⟨t3,aH,AE⟩:=v7 dg pr js AD ao cx;have mc:=aH cL cY aR fc cs dH hI ha;have gG:Steps P (e3 (j0 P f bA.toArray .normal) cs w) (e3 (fc.at aR [.code A,.code B]) cs cY):=by
  refine jw.trans ?_
  conv=>lhs;rw[an]
  exact .one step_seq
 exact⟨fc,t3,cg,dw,fW,AE,eS.steps gG (eS.after b3 f' mc)⟩
theorem PB{h:ag}{v:E}(kH:pX P bb fn.results.toList=o rs)(cx:g6 n bb [] t V [])(U:(iF V h rs).map iV=o v):qr fn t h P=o v:=by unfold qr;rw[Cb (h:=h) cx kH];exact U
theorem nI.ret{fn:Func}{rs:List n5}{args V:List E}{R:ag}{v:E}(p:nI P W f n bb args h .ret V R)(bl:P.funcs[f]? =o fn)(kH:pX P bb fn.results.toList=o rs)(U:(iF V R rs).map iV=o v):AC P f args h (.inl v,R):=by intro m w bA hw fl cs;obtain⟨fc,t2,cg,dw,fW,cx,a9,ba,b3,dH,f',eP,todo,hI,ha,jw⟩:=p m w bA hw fl cs;rw[fW]at ha;obtain⟨u,c4,hh⟩:=yq dH hI (PB (h:=R) kH cx U);exact⟨.returned u,ba,_,⟨a9,b3,dH,f',u,rfl,hh⟩,jw,cg,rfl,ha,dw,_,by simp[Frame.at,cg,bl],c4⟩
theorem amG{i:Nat}{v:E}(cx:g6 n bb [] t V [])(af:i ∉ bb):g6 n bb [] (fj t (o i) v) V []:=by refine⟨by simpa[fj]using cx.len,cx.bF,cx.vM,λD s aa=>?_,λD s aa=>by simp at aa⟩;obtain⟨J,R⟩:=cx.v D s aa;refine⟨J,?_⟩;rw[<-R];have di:i≠s:=λe=>af (by rw[e];exact tc aa);simp[fj,dz,di]
def u4(a:Act)(hC:List Nat):List b1:=hC.map λi=>a.tmps.getD i gq
theorem amH{m:eh}{a:Act}{hC tC:List Nat}(cx:g6 n bb [] t V [])(a3:dY P m R t a.tmps)(an:hC=tC.map λD=>bb.getD D 0)(aa:∀D∈tC,D<bb.length):dT P m R (tC.map λD=>V.getD D .az) (u4 a hC):=by
 subst an;refine⟨by simp[u4],λi J R=>?_⟩;simp only[fa]at J;have bf:=aa _ (iX J);have aC:bb[tC[i]]? =o (bb.getD tC[i] 0):=by simp[dz,bf]
 obtain⟨bM,bL⟩:=cx.v _ _ aC;have:=Yo a3 (i:=bb.getD tC[i] 0) (by rw[cx.len];exact bM);rw[bL]at this;simpa[u4]using this
theorem dT.amI{m a9:eh}{h F:ag}{l:List E}{us:List b1}(v:dT P m h l us)(x:Ext m h a9 F):dT P a9 F l us:=⟨v.1,λD J R=>(v.2 D J R).ext x⟩
theorem Yr{P:cT}{t dF:List E}{h:ag}:∀{l:List ResultVar},(∀r∈l,∃i ty,r= .cell i ty/\t.getD i .az=dF.getD i .az)->qq P t h l=qq P dF h l
 |[],_=>rfl
 |r::l,am=>by obtain⟨i,ty,rfl,e⟩:=am r (List.mem_cons_self ..);have aZ:qq P t h l=qq P dF h l:=Yr λq aW=>am q (List.mem_cons_of_mem _ aW);simp only[qq,e,aZ]
def CJ(fD:c')(us:List b1):b1:=.func (.func fD) #[] us.toArray
def tD(fD:c')(us:List b1):Deferred:={target:=.fn (.func fD) us.toArray,args:= #[]}
inductive PC(P:cT)(fD:c')(JL:List E)(ah aD:ag):kw->Prop
 |ret (mB:∀(m:eh) (w:dy) (hj:List b1),cc P m ah w->dT P m ah JL hj->CallsD P fD hj.toArray .returning w λe oi ba=>(∃v,e= .returned v)/\oi= .returning/\∃a9,Ext m ah a9 aD/\cc P a9 aD ba/\Below m.base w ba):PC P fD JL ah aD .ret
 |panic (v:E) (mB:∀(m:eh) (w:dy) (hj:List b1) (u:b1),cc P m ah w->dT P m ah JL hj->bX P m ah v u->CallsD P fD hj.toArray (.panicking [{v:=u,recovered:=T}]) w λe oi ba=>(∃v,e= .returned v)/\oi= .panicking [{v:=u,recovered:=O}]/\∃a9,Ext m ah a9 aD/\cc P a9 aD ba/\Below m.base w ba):PC P fD JL ah aD (.panic v)
theorem Ys(dg:l' P W){ah aD:ag}{m' na:fK}{fD:c'}{k:Nat}{hC tC:List Nat}{l:List be}{x:kw}{r:E}(p:nI P W f n bb args h (.halt [.code m']) V R)(bl:P.funcs[f]? =o fn)(JM:∃ps,P.funcs[(fD:Nat)]? =o ps/\(ps.body.isNone=T/\(ps.name== "runtime.NumGoroutine")=T))(Z:k ∉ bb)(an:hC=tC.map λD=>bb.getD D 0)(aa:∀D∈tC,D<bb.length)(lay:∀(fc:gI) (a:Act) (cs:List gI) (w:dy),a.tmps.size=n->Steps P (e3 (fc.at a [.code m']) cs w) (e3 (fc.at {a.put (o k) (CJ fD (u4 a hC))with defers:=tD fD (u4 a hC)::a.defers} [.code na]) cs w))(pr:bb.Nodup/\∀D s,bb[D]? =o s->(D<aL↔s<W.aL f))(js:g5 P (W.a' f) (W.cz f) n bb na []=o l)(AD:iz (W.cz f) (W.e9 f) na=O)(ao:bB (aQ P W) aL [.bP l,.halt []] V [] R=o (x,ga,ah))(m0:∀r∈fn.results.toList,∃i ty,r= .cell i ty/\W.e9 f i=O)(he:PC P fD (tC.map λD=>V.getD D .az) ah aD x)(kH:pX P bb fn.results.toList=o rs)(U:(iF ga aD rs).map iV=o r):AC P f args h (.inl r,aD):=by
 intro m w bA hw fl cs;obtain⟨fc,t2,cg,dw,fW,cx,c3,gC,b3,dH,f',a5,hI,ha,jw⟩:=p m w bA hw fl cs;rw[fW]at ha;have eJ:a5.tmps.size=n:=by rw[hI.1,cx.len]
 have lay:=lay fc a5 cs gC eJ;have Fz:=amH cx hI an aa;generalize u4 a5 hC=us at lay Fz;rw[ha]at lay;have FA:=hI.put (bX.az (CJ fD us)) (o k);have AE:=amG (i:=k) (v:=.az) cx Z;obtain⟨t5,aH,y'⟩:=v7 dg pr js AD ao AE;obtain⟨hY,ht,fs,jy,kI,nu⟩:=aH c3 gC {a5.put (o k) (CJ fD us)with defers:=[tD fD us]} {fc with defers:=[tD fD us]} cs dH FA rfl;have Yt:=dT.amI Fz fs;have cJ:qr fn t5 aD P=o r:=PB kH y' U;have Yu:(invoke (.fn (.func fD) us.toArray) #[]).run P ht= .ok (.enter fD us.toArray) ht:=by
  obtain⟨ps,da,ch,eF⟩:=JM;have amJ:¬ps.name= "runtime.NumGoroutine":=by simpa using eF
  have amK:¬ps.body=ad:=by cases ab:ps.body with|none=>rw[ab]at ch;cases ch|some c=>simp
  simp[go_sem,callFunc,da,amK,amJ]
 have Yv:∀{dP:eh} {ba:dy},Below hY.base ht ba->Below m.base w ba:=by intro dP ba hl;have bM:c3.base=m.base:=b3.base;have bL:hY.base=c3.base:=fs.base;rw[bL,bM]at hl;rw[bM]at kI;exact(f'.trans kI).trans hl
 cases he with
 |ret mB=>
   obtain⟨et,todo,eD,fR,hl⟩:=nu;have tE:Leaves P fn et.tmps (λe ba=>∃a9,Ext m h a9 aD/\cc P a9 aD ba/\Below m.base w ba/\∃u,e= .returned u/\bX P a9 aD r u) [tD fD us] .returning ht:=by refine leaves_cons (f:=fD) (args:=us.toArray) (by simp) Yu ?_;refine(mB hY ht us jy Yt).mono ?_;rintro e oi ba ⟨⟨v,rfl⟩,rfl,dP,fm,lp,ll⟩;obtain⟨u,c4,hh⟩:=yq lp (eD.ext fm) cJ;exact⟨u,c4,dP,(b3.trans fs).trans fm,lp,Yv (dP:=dP) ll,u,rfl,hh⟩
   obtain⟨e,gH,AF,hi,aC,oF,am⟩:=leaves_steps [tD fD us] .returning ht {(({fc with defers:=[tD fD us]}:gI).at et todo)with mode:=.returning} cs rfl fR rfl (by simp[Frame.at,cg,bl]) (by simpa[Frame.at]using dw) tE;exact⟨e,gH,AF,hi,Comes.of_steps (jw.trans (lay.trans hl)) aC,oF.trans cg,am⟩
 |panic v mB=>
   obtain⟨et,todo,u,⟨uo,ss,eD⟩,fR,lS,hl⟩:=nu;have amL:qr fn uo aD P=o r:=by rw[<-cJ];unfold qr;rw[Yr λq aW=>by obtain⟨i,ty,e,af⟩:=m0 q aW;exact⟨i,ty,e,eD i af⟩]
   have tE:Leaves P fn et.tmps (λe ba=>∃a9,Ext m h a9 aD/\cc P a9 aD ba/\Below m.base w ba/\∃u,e= .returned u/\bX P a9 aD r u) [tD fD us] (.panicking [{v:=u,recovered:=T}]) ht:=by refine leaves_cons (f:=fD) (args:=us.toArray) (by simp) Yu ?_;refine(mB hY ht us u jy Yt lS).mono ?_;rintro e oi ba ⟨⟨v,rfl⟩,rfl,dP,fm,lp,ll⟩;obtain⟨jR,c4,hh⟩:=yq lp (ss.ext fm) amL;exact⟨jR,c4,dP,(b3.trans fs).trans fm,lp,Yv (dP:=dP) ll,jR,rfl,hh⟩
   obtain⟨e,gH,AF,hi,aC,oF,am⟩:=leaves_steps [tD fD us] (.panicking [{v:=u,recovered:=T}]) ht {(({fc with defers:=[tD fD us]}:gI).at et todo)with mode:=.panicking [{v:=u,recovered:=T}]} cs rfl fR rfl (by simp[Frame.at,cg,bl]) (by simpa[Frame.at]using dw) tE;exact⟨e,gH,AF,hi,Comes.of_steps (jw.trans (lay.trans hl)) aC,oF.trans cg,am⟩
theorem amM(c:gI)(h:c.mode= .returning)(cs:List gI):recoverD (c::cs)=ad:=by simp[recoverD,h]
theorem amN{v:b1}(c:gI)(h:c.mode= .panicking [{v:=v,recovered:=T}])(cs:List gI):recoverD (c::cs)=o (v,{c with mode:=.panicking [{v:=v,recovered:=O}]}::cs):=by simp[recoverD,h]
def Yw(P:cT)(c:fK)(n bg aV:Nat):Prop:=∀(cw:Array b1) (v:b1) (cs g3:List gI) (w:dy),cw.size=n->(recoverD cs=o (v,g3)\/(recoverD cs=ad/\v= .nilIface/\g3=cs))->c.wpS P (λe eP amO ba=>e= .normal/\amO=g3/\ba=w/\eP=(({tmps:=cw,defers:=[]}:Act).put (o bg) v).put (o aV) v) {tmps:=cw,defers:=[]} cs w
theorem Yx{ps:Func}{v8:fK}{bg aV:Nat}(dg:l' P W){l:List be}{hC:List E}{F:ag}{e:E}(bl:P.funcs[f]? =o ps)(ab:ps.body=o v8)(amP:v8= .seq (ep v8) (gK v8))(aE:ps.ntmps=n)(lb:∀(a:Array b1) (w:dy),∃v,(results ps a).run P w= .ok v w)(PD:Yw P (ep v8) n bg aV)(pr:bb.Nodup/\∀D s,bb[D]? =o s->(D<aL↔s<W.aL f))(js:g5 P (W.a' f) (W.cz f) n bb (gK v8) []=o l)(AD:iz (W.cz f) (W.e9 f) (gK v8)=O)(ao:bB (aQ P W) aL [.bP l,.halt []] V [] h=o (.halt [],ga,F))(cx:g6 n bb [] (fj (fj (hC++al (n - hC.length) .az) (o bg) e) (o aV) e) V []){m:eh}{w:dy}{hj:List b1}{v:b1}(hw:cc P m h w)(fl:dT P m h hC hj)(kV:hC.length<=n)(FB:bX P m h e v){u:FrameMode}(gB:FrameMode)(mV:∀c:gI,c.mode=u->∀cs,(recoverD (c::cs)=o (v,{c with mode:=gB}::cs))\/(recoverD (c::cs)=ad/\v= .nilIface/\gB=u)):CallsD P f hj.toArray u w λe oi ba=>(∃v,e= .returned v)/\oi=gB/\∃a9,Ext m h a9 F/\cc P a9 F ba/\Below m.base w ba:=by
 intro c cs bQ;have he:=JJ bl ab hj .deferred;have a3:=JK (P:=P) (h:=h) (k:=n) fl;generalize PE:j0 P f hj.toArray .deferred=b at he;have s3:b.kind= .deferred:=by rw[<-PE];simp[j0]
 have FC:b.fn=f:=by rw[<-PE];simp[j0]
 have PF:b.roundOf=ad:=by rw[<-PE];simp[j0]
 rw[aE]at he;generalize aX:(hj++al (n - hj.length) gq).toArray=cw at he a3;have J:Steps P (e3 b (c::cs) w) (e3 (b.at {tmps:=cw,defers:=[]} [.code (ep v8),.code (gK v8)]) (c::cs) w):=by
  rw[<-he]
  conv=>lhs;rw[amP]
  exact .one step_seq
 have eJ:cw.size=n:=by rw[a3.1];simp only[ff,List.length_replicate];omega
 have o1:recoverD (c::cs)=o (v,{c with mode:=gB}::cs)\/(recoverD (c::cs)=ad/\v= .nilIface/\({c with mode:=gB}:gI)::cs=c::cs):=by
  rcases mV c bQ cs with J|⟨J,R,ah⟩
  ·exact .inl J
  ·have aD:({c with mode:=gB}:gI)=c:=by rw[ah,<-bQ]
   exact .inr ⟨J,R,by rw[aD]⟩
 obtain⟨au,aR,Ny,cY,⟨rfl,rfl,rfl,rfl⟩,AG⟩:=PD cw v _ _ w eJ o1 b [.code (gK v8)] s3 PF;have CK:=(a3.put (a:={tmps:=cw,defers:=[]}) FB (o bg)).put FB (o aV);obtain⟨dF,aH,v9⟩:=v7 dg pr js AD ao cx;obtain⟨a9,ba,b3,dH,f',eP,hI,ha,jw⟩:=aH m cY _ {b with defers:=[]} ({c with mode:=gB}::cs) hw CK rfl;have oD:Steps P (e3 b (c::cs) cY) (e3 {b.at eP []with mode:=.returning} ({c with mode:=gB}::cs) ba):=J.trans (AG.trans (jw.trans (.one step_end)));obtain⟨iq,n4⟩:=lb eP.tmps ba;refine⟨.returned iq,gB,ba,_,⟨⟨_,rfl⟩,rfl,a9,b3,dH,f'⟩,oD,s3,rfl,ha,ps,?_,n4⟩;show P.funcs[b.fn]? =_;rw[FC];exact bl
end
open Go Go.RowKit
section
variable{P:cT}{W:h8}{f:c'}{n aL:Nat}{bb:List Nat}{h F R ah:ag}{V ga:List E}{args:List E}{all:Array bh}
theorem nI.draw(dg:l' P W){id:Nat}{c:fK}(an:c= .region id all O)(p:nI P W f n bb args h (.halt [.code c]) V R)(vJ:((i7 all.size).all λD=>(all.getD D default).after.all λe=> !kR .any e||decide (e.on<D))=O)(pr:bb.Nodup/\∀D s,bb[D]? =o s->(D<aL↔s<W.aL f))(m0:ye (W.e9 f) all=O)(J:∀L,lq all (λ_ _=>False) (md all) L->∃(dq:Nat->Nat->Prop) (pl:List (Nat×List Nat)) (bN:List ay),lq all dq (md all) L/\ta all pl (λ_=>T) dq/\nx P (W.a' f) n bb all [] (jf O all pl)=o bN/\bB (aQ P W) aL [.ops bN,.halt []] V [] R=o (.halt [],ga,ah)):nI P W f n bb args h .ret ga ah:=by intro m w bA hw fl cs;obtain⟨fc,t2,cg,dw,fW,cx,cL,cY,b3,dH,f',aR,hI,ha,jw⟩:=p m w bA hw fl cs;subst an;obtain⟨L,gC,bM,bL,de,fv⟩:=Yq (P:=P) (all:=all) (id:=id) (b:=fc) (a:=aR) (K:=[]) (cs:=cs) (w:=cY) dg (λD aa e he ab=>by rw[jq]at vJ;have:=vJ D (j1.2 aa);rw[Array.all_eq_true']at this;have:=this e he;simpa[ab]using this);obtain⟨dq,pl,bN,au,ax,bc,bY⟩:=J L bM;obtain⟨dF,aH,uE⟩:=Yp (K:=[]) dg ax m0 pr bc bY cx;obtain⟨hY,ht,fs,jy,kI,bp,nu,mc,su⟩:=aH cL gC aR fc cs L au (de _ _ dH) hI ha;refine⟨fc,dF,cg,dw,fW,uE,eS.steps jw (eS.after b3 f' (eS.steps bL (eS.after (Ext.refl _ _) (fv _) ?_)))⟩;exact⟨hY,ht,fs,jy,kI,bp,[],nu,mc,su.trans (.one step_end)⟩
theorem PG{x y z:Nat}(J:dq x y)(aN:((fh all z).after.toList.any λe=>kR .any e&&e.on==y)=O):∀{li:Array Bool} {L:List Nat},lq all dq li L->li.size=all.size->(li.getD y T=O->li.getD x T=O)->lq all (z2 dq x z) li L:=by
 rw[List.any_eq_true]at aN;obtain⟨e,au,ax⟩:=aN;simp only[hx,beq_iff_eq]at ax;intro li L aF;induction aF with
 |nil li h=>exact λ_ _=>.nil _ h
 |cons li i L da ch eF kk _ aZ=>
   intro aC af;have h':i<li.size:=by omega
   refine .cons _ _ _ da ch eF (λD aa=>aa.elim (kk D) λaa=>?_) (aZ (by simpa using aC) λbE=>?_)
   ·rw[aa.1];refine af ?_;have:=eF e (by rw[aa.2];simpa using au) ax.1;rwa [ax.2]at this
   ·rw[kX h']at bE ⊢;split
    ·rfl
    ·split at bE
     ·rename_i bo;exact kk x (by rw[<-bo];exact J)
     ·exact af bE
theorem amQ{x y z:Nat}(J:dq x y)(R:dq z x)(aN:∃e∈(fh all z).after,kR .any e=O/\e.on=y)(aw:x<all.size):∀{li:Array Bool} {L:List Nat},lq all dq li L->li.size=all.size->li.getD x T=T->li.getD y T=T->li.getD z T=T->False:=by
 intro li L aF;induction aF with
 |nil li h=>intro aC a _ _;rw[h x aw]at a;cases a
 |cons li i L da ch eF kk _ aZ=>
   intro aC a b c;have fm:x≠i:=λe=>by have:=kk z (by rw[<-e];exact R);rw[c]at this;cases this
   have lp:y≠i:=λe=>by have:=kk x (by rw[<-e];exact J);rw[a]at this;cases this
   have ll:z≠i:=λe=>by obtain⟨dG,au,ax,bc⟩:=aN;have:=eF dG (by rw[<-e];exact au) ax;rw[bc,b]at this;cases this
   have af:i<li.size:=by omega
   exact aZ (by simpa using aC) (by rw[kX af,if_neg fm];exact a) (by rw[kX af,if_neg lp];exact b) (by rw[kX af,if_neg ll];exact c)
end
abbrev oO:c':=114
abbrev JN:c':=88
noncomputable def xC:fK:=Tryz.f114.body.getD .skip
theorem Yy:(ap).funcs[oO]? =o Tryz.f114:=Tryz.func114
theorem amR:Tryz.f114.body=o xC:=rfl
theorem amS:Tryz.f114.ntmps=16:=rfl
theorem amT:xC= .seq (ep xC) (gK xC):=rfl
theorem amU:pX ap [0,1,3] Tryz.f114.results.toList=o []:=by kernel_rfl
abbrev AH:List Nat:=[0,1,3]
theorem Yz:tj 2 16 (W.aL oO) 3 AH=O:=by kernel_rfl
theorem amV:g5 ap (W.a' oO) (W.cz oO) 16 AH (ep xC) []=o Yn:=by kernel_rfl
theorem amW:iz (W.cz oO) (W.e9 oO) (ep xC)=O:=by kernel_rfl
noncomputable abbrev kB:Array bh:=mj (gK xC)
theorem amX:gK xC= .region 1 kB O:=rfl
theorem amY:((i7 kB.size).all λD=>(kB.getD D default).after.all λe=> !kR .any e||decide (e.on<D))=O:=by kernel_rfl
theorem amZ:ye (W.e9 oO) kB=O:=by kernel_rfl
def PH:List (Nat×List Nat):=[(0,[]),(2,[]),(7,[]),(8,[]),(1,[7]),(3,[7]),(4,[]),(5,[]),(6,[]),(9,[]),(10,[]),(11,[]),(12,[])]
def PI:List (Nat×List Nat):=[(0,[]),(2,[]),(7,[]),(1,[7]),(8,[]),(3,[7]),(4,[]),(5,[]),(6,[]),(9,[]),(10,[]),(11,[]),(12,[])]
def PJ:List (Nat×List Nat):=[(0,[]),(2,[]),(7,[]),(1,[7]),(3,[7]),(4,[]),(5,[]),(6,[]),(8,[6]),(9,[]),(10,[]),(11,[]),(12,[])]
theorem am0:wR [(8,1),(8,3),(8,4),(8,5),(8,6)] kB PH=O:=by kernel_rfl
theorem am1:wR [(1,8),(8,3),(8,4),(8,5),(8,6)] kB PI=O:=by kernel_rfl
theorem am2:wR [(1,8),(3,8)] kB PJ=O:=by kernel_rfl
theorem am3:nx ap (W.a' oO) 16 AH kB [] (jf O kB PH)=o JG:=by kernel_rfl
theorem am4:nx ap (W.a' oO) 16 AH kB [] (jf O kB PI)=o JH:=by kernel_rfl
theorem am5:nx ap (W.a' oO) 16 AH kB [] (jf O kB PJ)=o JI:=by kernel_rfl
theorem JO:kB.size=13:=by kernel_rfl
theorem am6:((fh kB 4).after.toList.any λe=>kR .any e&&e.on==3)=O:=by kernel_rfl
theorem am7:((fh kB 5).after.toList.any λe=>kR .any e&&e.on==4)=O:=by kernel_rfl
theorem am8:((fh kB 6).after.toList.any λe=>kR .any e&&e.on==5)=O:=by kernel_rfl
theorem YA(J:dq 8 3){L:List Nat}(aF:lq kB dq (md kB) L):lq kB (z2 (z2 (z2 dq 8 4) 8 5) 8 6) (md kB) L:=by
 have eJ:(md kB).size=kB.size:=by simp
 have n:∀D,(md kB).getD D T=O->(md kB).getD 8 T=O:=λD aa=>by rw[pW]at aa;cases aa
 exact PG (.inr ⟨rfl,rfl⟩) am8 (PG (.inr ⟨rfl,rfl⟩) am7 (PG J am6 aF eJ (n _)) eJ (n _)) eJ (n _)
theorem am9:((fh kB 3).after.toList.any λe=>kR .any e&&e.on==1)=O:=by kernel_rfl
theorem am'(x y:E):g6 16 AH [] ([x,y]++al (16 - [x,y].length) .az) ([x,y]++al (AH.length - [x,y].length) .az) []:=by
 refine⟨by simp,rfl,rfl,λD s aa=>?_,λD s aa=>by simp at aa⟩
 match D,aa with
 |0,aa|1,aa|2,aa=>obtain rfl:=kx aa;exact⟨by decide,rfl⟩
 |D+3,aa=>simp at aa
theorem JP{h:ag}{bw bk k:Nat}{FD xD:E}(hm:h.cell bw=o [[FD,.bn bk 0 (k+1) fH,xD]])(Z:k<=1000):aQ ap W JN [.ptr bw 0 0] h=o (.inl (.ptr bk k 0),h):=by have w:kK j (((k+1:Nat):Int) - 1)=(k:Int):=Ar (by omega) (by omega) (by omega);have bV:∀q:gx,dO (o fH) ad (.bn bk 0 (k+1) fH) (.int q (k:Int))=o (.ptr bk (0+k) 0):=λq=>vO rfl (by omega);refine a2 amx rfl ?_;unfold Xu;simp only[ak,aq,ar,al,hm,w,bV]
theorem ana{h ah:ag}{bw bk k:Nat}{FD xD s ew:E}{rows:List (List E)}{row:List E}(Z:k<=1000)(ao:r.length=3/\r.all E.one=O)(axm:bw<h.n)(oF:bk<h.n)(hm:h.cell bw=o [[FD,.bn bk 0 (k+1) fH,xD]])(bl:h.cell bk=o rows)(lo:rows[k]? =o row)(aC:row[6]? =o s)(anb:row.length=10)(aX:eU O bG s (.bn (h.n+1) 0 1 bG) ((h.push [r]).push [r])=o (ew,ah))(anc:ah.cell bk=o rows)(J:ew.one=O)(mS:ew.cells=[ew]):aQ ap W oO [.ptr bw 0 0,.agg r] h=o (.inl (.bU []),ah.set bk (o (rows.set k (row.set 6 ew)))):=by
 have DR:k<rows.length:=(fQ.1 lo).1;have bS:dh row 6 [ew]=row.set 6 ew:=by
  match row,anb with
  |[a,b,c,d,e,f,g,i,D,l],_=>rfl
 have U:N3 [.ptr bw 0 0,.agg r] h=o (ah.set bk (o (rows.set k (row.set 6 ew)))):=by simp only[N3,hm,c2,bl,Nat.add_sub_cancel,lo,aC,aX,hF]
 have ia:AC ap oO [.ptr bw 0 0,.agg r] h (.inl (.bU []),ah.set bk (o (rows.set k (row.set 6 ew)))):=by
  have d':=nI.start (W:=W) (h:=h) Yy amR amS (am' (.ptr bw 0 0) (.agg r));have dA:=d'.next (aL:=3) (x:=.halt [.code (gK xC)]) (ga:=[.ptr bw 0 0,.agg r,.ptr h.n 0 0]) (ah:=h.push [r]) dg amT (lk Yz) amV amW (by unfold Yn;have ab:= @Eh (aQ (ap) W) 3;simp only[ak,aq,ar,al,ao.1,ao.2]);have YB:(h.push [r]).cell bw=o [[FD,.bn bk 0 (k+1) fH,xD]]:=(tk (by omega)).trans hm;have ane:((h.push [r]).push [r]).cell bw=o [[FD,.bn bk 0 (k+1) fH,xD]]:=(tk (by rw[ey];omega)).trans YB;have tF:(h.push [r]).cell bk=o rows:=(tk (by omega)).trans bl;have PK:((h.push [r]).push [r]).cell bk=o rows:=(tk (by rw[ey];omega)).trans tF;have t1:=JP YB Z;have t2:=JP ane Z;have axn:b5 6 (.ptr bk k 0)=o (.ptr bk k 6):=rfl;have CL:∀{x:ag} {n:Nat},x.cell bk=o rows->cS T n x (.ptr bk k 6)=o s:=λ{x n} aw=>by rw[fL,aw,c2,lo,c2,gi];exact aC
  have st:eQ 1 ah (.ptr bk k 6) ew=o (ah.set bk (o (rows.set k (row.set 6 ew)))):=by rw[lc (es:=rows) (e:=row) anc lo (by rw[mS];simpa using J) (by rw[mS];rfl) (by omega),mS,bS]
  have run:∀bN,bN=JG\/bN=JH\/bN=JI->bB (aQ ap W) 3 [.ops bN,.halt []] [.ptr bw 0 0,.agg r,.ptr h.n 0 0] [] (h.push [r])=o (.halt [],[.ptr bw 0 0,.agg r,.ptr h.n 0 0],ah.set bk (o (rows.set k (row.set 6 ew)))):=by
   have kC:(h.push [r]).cell h.n=o [r]:=iG;have bM:((h.push [r]).push [r]).cell h.n=o [r]:=(tk (by rw[ey];omega)).trans iG;intro bN nw;rcases nw with rfl|rfl|rfl
   ·unfold JG;simp only[ak,al,bJ,t2,ao.1,ao.2,aX,kC,bM,CL PK,st]
   ·unfold JH;simp only[ak,al,bJ,t1,t2,ao.1,ao.2,aX,kC,bM,CL PK,st]
   ·unfold JI;simp only[ak,al,bJ,t1,ao.1,ao.2,aX,kC,CL tF,CL PK,st]
  refine(nI.draw (aL:=3) (ga:=[.ptr bw 0 0,.agg r,.ptr h.n 0 0]) dg amX dA amY (lk Yz) amZ λL c5=>?_).ret Yy amU rfl;have anf:∃e∈(fh kB 3).after,kR .any e=O/\e.on=1:=by have:=am9;rw[List.any_eq_true]at this;obtain⟨e,au,ax⟩:=this;simp only[hx,beq_iff_eq]at ax;exact⟨e,by simpa using au,ax.1,ax.2⟩
  have eJ:(md kB).size=kB.size:=by simp
  rcases DZ (x:=8) (y:=1) (by decide) (by rw[JO];decide) c5 eJ (pW _) (pW _)with bt|bt
  ·rcases DZ (x:=8) (y:=3) (by decide) (by rw[JO];decide) bt eJ (pW _) (pW _)with bq|bq
   ·exact⟨_,PH,JG,(YA (.inr ⟨rfl,rfl⟩) bq).mono (λi D aa=>by simp only[n0,kh,List.not_mem_nil,or_false]at aa;rcases aa with aa|aa|aa|aa|aa;exact .inl (.inl (.inl (.inl (.inr aa))));exact .inl (.inl (.inl (.inr aa)));exact .inl (.inl (.inr aa));exact .inl (.inr aa);exact .inr aa),z3 am0,am3,run _ (.inl rfl)⟩
   ·exact(amQ (x:=8) (y:=1) (z:=3) (.inl (.inr ⟨rfl,rfl⟩)) (.inr ⟨rfl,rfl⟩) anf (by rw[JO];decide) bq eJ (pW _) (pW _) (pW _)).elim
  ·rcases DZ (x:=8) (y:=3) (by decide) (by rw[JO];decide) bt eJ (pW _) (pW _)with bq|bq
   ·exact⟨_,PI,JH,(YA (.inr ⟨rfl,rfl⟩) bq).mono (λi D aa=>by simp only[n0,kh,List.not_mem_nil,or_false]at aa;rcases aa with aa|aa|aa|aa|aa;exact .inl (.inl (.inl (.inl (.inr aa))));exact .inl (.inl (.inl (.inr aa)));exact .inl (.inl (.inr aa));exact .inl (.inr aa);exact .inr aa),z3 am1,am4,run _ (.inr (.inl rfl))⟩
   ·exact⟨_,PJ,JI,bq.mono (λi D aa=>by simp only[n0,kh,List.not_mem_nil,or_false]at aa;rcases aa with aa|aa;exact .inl (.inr aa);exact .inr aa),z3 am2,am5,run _ (.inr (.inr rfl))⟩
 have aw:W.ext oO=o Iy:=by show rv oO=_;unfold rv;rw[if_neg (by decide),if_pos rfl]
 unfold aQ;rw[aw];simp only[Iy,U];rw[if_pos ia]
def YC(P:cT)(W:h8)(g:c')(a aL:Nat)(bb:List Nat)(bP:List be)(rs:List n5):Prop:=∃fn c,P.funcs[g]? =o fn/\fn.body=o c/\W.use g=O/\g5 P (W.a' g) (W.cz g) fn.ntmps bb c []=o bP/\tj a fn.ntmps (W.aL g) aL bb=O/\pX P bb fn.results.toList=o rs
section
variable{P:cT}{W:h8}{aL:Nat}{bb:List Nat}{h:ag}
theorem ang(dg:l' P W){g:c'}{a:Nat}{bP:List be}{q:(E⊕E)×ag}(bl:YC P W g a aL bb bP rs)(aX:args.length=a)(ao:lT T rs h (bB (aQ P W) aL [.bP bP] (args++al (bb.length - args.length) .az) [] h)=o q):AC P g args h q:=by
 obtain⟨fn,c,J,R,bo,b9,c4,hh⟩:=bl;unfold tj at c4;simp only[hx,decide_eq_true_eq,jq,j1,beq_iff_eq,bne_iff_ne,ne_eq]at c4;obtain⟨⟨aR,a5⟩,bp⟩:=c4;have get:∀D s,bb[D]? =o s->D<bb.length/\bb.getD D 0=s:=λD s aa=>⟨(fQ.1 aa).1,by simp[dz,aa]⟩;have th:bb.Nodup:=by rw[List.nodup_iff_pairwise_ne,List.pairwise_iff_getElem];intro i D af aa ho e;have:=(bp D aa).2 i ho;apply this;simp[dz,af,aa,e]
 have kV:∀D s,bb[D]? =o s->(D<aL↔s<W.aL g):=by intro D s aa;obtain⟨da,ch⟩:=get D s aa;have:=(bp D da).1.1.2;rw[ch]at this;exact decide_eq_decide.1 this
 have cx:g6 fn.ntmps bb [] (args++al (fn.ntmps - args.length) .az) (args++al (bb.length - args.length) .az) []:=by
  refine⟨by simp;omega,by simp;omega,rfl,λD s aa=>?_,λD s aa=>by simp at aa⟩;obtain⟨da,ch⟩:=get D s aa;obtain⟨⟨⟨cg,_⟩,dw⟩,_⟩:=bp D da;rw[ch]at cg dw;refine⟨cg,?_⟩;by_cases an:D<a\/s<a
  ·rw[if_pos an]at dw;have:s=D:=by simpa using dw
   subst this;have bf:s<args.length:=by omega
   simp[dz,o4 bf]
  ·have aP:¬D<args.length:=by omega
   have bu:¬s<args.length:=by omega
   simp only[dz,mx (Nat.not_lt.1 aP),mx (Nat.not_lt.1 bu),List.getElem?_replicate];split<;>split<;>rfl
 generalize lN:bB (aQ P W) aL [.bP bP] (args++al (bb.length - args.length) .az) [] h=x at ao;cases x with
 |none=>cases ao
 |some r=>
   have hm:=(Ic (n:=fn.ntmps) (f:=g) th kV _ _ _ _ _ lN).1 [.code c] _ (.bP [c] bP [] [] (by simp[mD,b9]) .nil) cx;obtain⟨dF,au,ax⟩:=hm;have a8:=Nj dg J R bo (HY dg _ _ _ _ _ au).cG;obtain⟨x,ga,F⟩:=r;cases x with
   |panic v=>have ao:nl T h (.inr v,F)=o q:=ao;rw[yf]at ao;injection ao with ao;subst ao;exact a8 _ rfl
   |halt K=>cases ao
   |ret=>
     rw[z']at ao;cases U:(iF ga F rs).map iV with
     |none=>rw[U]at ao;cases ao
     |some v=>rw[U,zK,yf]at ao;injection ao with ao;subst ao;refine a8 _ ?_;have:=Cb (h:=F) ax hh;simp only[BF,qr,this,U,hF]
end
mutual
def v':Nat->ag->E->Option (E×ag)
 |0,_,_=>ad
 |N+1,h,.bn b I n e=>if I=0 then(h.cell b).bind λrows=>if n<=rows.length/\n≠0 then(u5 N (h.set b ad) (rows.take n)).map λq=>(.b0 ad e q.1,q.2)else ad else ad
 |N+1,h,.agg cs=>(u6 N h cs).map λq=>(.agg q.1,q.2)
 |N+1,h,.bU cs=>(u6 N h cs).map λq=>(.bU q.1,q.2)
 |_+1,h,v=>o (v,h)
def u6:Nat->ag->List E->Option (List E×ag)
 |0,_,_=>ad
 |_+1,h,[]=>o ([],h)
 |N+1,h,v::l=>(v' N h v).bind λq=>(u6 N q.2 l).map λr=>(q.1::r.1,r.2)
def u5:Nat->ag->List (List E)->Option (List (List E)×ag)
 |0,_,_=>ad
 |_+1,h,[]=>o ([],h)
 |N+1,h,v::l=>(u6 N h v).bind λq=>(u5 N q.2 l).map λr=>(q.1::r.1,r.2)
end
section
variable{P:cT}{m:eh}{h:ag}{w:dy}
theorem cc.still(hw:cc P m h w){b:Nat}{cs:Array b1}(ab:h.cell b=o es)(an:kS w (m.cm b) (m.hg b) cs):∃a9,Ext m h a9 (h.set b ad)/\cc P a9 (h.set b ad) w/\(∀I v,cs[I]? =o v->a9.eo (m.cm b) I=o v)/\a9.cm=m.cm/\a9.hg=m.hg:=by
 have aw:Ext m h {m with eo:=λg I=>if g=m.cm b then cs[I]? else m.eo g I} (h.set b ad):=by
  refine⟨rfl,b4 _,b4 _,λ_ _=>⟨rfl,rfl,rfl⟩,λg I v af=>?_,λ_ _=>⟨rfl,b4 _,λ_=>⟨rfl,rfl⟩⟩,λ_ _ h=>h⟩;show(if g=m.cm b then cs[I]? else m.eo g I)=o v;by_cases e:g=m.cm b
  ·rw[e,hw.sep b es ab I]at af;cases af
  ·rw[if_neg e];exact af
 refine⟨_,aw,?_,λI v U=>by simp[U],rfl,rfl⟩;have up:∀q x,(h.set b ad).cell q=o x->q≠b/\h.cell q=o x:=by
  intro q x aW;by_cases e:q=b
  ·subst e;simp[ag.set]at aW
  ·exact⟨e,by simpa[ag.set,e]using aW⟩
 refine⟨hw.size,λq x aW=>hw.lt q x (up q x aW).2,λq x aW=>?_,λq ek x kc aW nq=>hw.inj q ek x kc (up q x aW).2 (up ek kc nq).2,λg I v af=>?_,λq x aW I=>?_,hw.qu,λk Z I aF=>?_,λk Z q x aW=>hw.nT k Z q x (up q x aW).2,hw.pL,hw.cG,λg x aa=>?_⟩
 ·obtain⟨iJ,aP,bu,cd,dU,gg⟩:=hw.live q x (up q x aW).2;refine⟨iJ,aP,bu,cd,dU,λi af D aa=>?_⟩;obtain⟨v,dL,cn⟩:=gg i af D aa;exact⟨v,dL,cn.ext aw⟩
 ·have af:(if g=m.cm b then cs[I]? else m.eo g I)=o v:=af;by_cases e:g=m.cm b
  ·rw[if_pos e]at af;rw[e,an.cell];exact af
  ·rw[if_neg e]at af;exact hw.eo g I v af
 ·obtain⟨di,aW⟩:=up q x aW;show(if m.cm q=m.cm b then cs[I]? else m.eo (m.cm q) I)=ad;rw[if_neg λe=>di (hw.inj q b x es aW ab e)];exact hw.sep q x aW I
 ·show(if m.iB k=m.cm b then cs[I]? else m.eo (m.iB k) I)=ad;rw[if_neg λe=>hw.nT k Z b es ab e.symm];exact hw.o2 k Z I aF
 ·obtain⟨aR,a5,bp,cA,et⟩:=hw.gd g x aa;refine⟨aR,a5,λq y aW=>bp q y (up q y aW).2,cA,λI=>?_⟩;show(if g=m.cm b then cs[I]? else m.eo g I)=ad;rw[if_neg λe=>bp b es ab e.symm];exact et I
theorem YD:∀N:Nat,(∀(m:eh) (h:ag) (w:dy) (v:E) (u:b1) (bs:E) (R:ag),cc P m h w->bX P m h v u->v' N h v=o (bs,R)->∃c3,Ext m h c3 R/\cc P c3 R w/\bX P c3 R bs u)/\(∀(m:eh) (h:ag) (w:dy) (l:List E) (ae:Nat->b1) (q:List E) (R:ag),cc P m h w->(∀D (aa:D<l.length),bX P m h l[D] (ae D))->u6 N h l=o (q,R)->∃c3,Ext m h c3 R/\cc P c3 R w/\q.length=l.length/\∀D (aa:D<q.length),bX P c3 R q[D] (ae D))/\(∀(m:eh) (h:ag) (w:dy) (l:List (List E)) (ae:Nat->Nat->b1) (q:List (List E)) (R:ag),cc P m h w->(∀i (af:i<l.length) D (aa:D<l[i].length),bX P m h l[i][D] (ae i D))->u5 N h l=o (q,R)->∃c3,Ext m h c3 R/\cc P c3 R w/\q.length=l.length/\(∀i (af:i<q.length) (eR:i<l.length),q[i].length=l[i].length)/\∀i (af:i<q.length) D (aa:D<q[i].length),bX P c3 R q[i][D] (ae i D)):=by
 intro N;induction N with
 |zero=>exact⟨λ_ _ _ _ _ _ _ _ _ e=>by simp[v']at e,λ_ _ _ _ _ _ _ _ _ e=>by simp[u6]at e,λ_ _ _ _ _ _ _ _ _ e=>by simp[u5]at e⟩
 |succ N aZ=>
   obtain⟨anh,JQ,YE⟩:=aZ;refine⟨?_,?_,?_⟩
   ·intro m h w v u bs R hw U e;have same:v' (N+1) h v=o (v,h)->∃c3,Ext m h c3 R/\cc P c3 R w/\bX P c3 R bs u:=by intro ax;rw[ax]at e;simp only[hZ,kh]at e;obtain⟨rfl,rfl⟩:=e;exact⟨m,Ext.refl _ _,hw,U⟩
    cases U with
    |bn b I n t cap ab he jQ aE kd=>
      simp only[v']at e;split at e
      ·rename_i aF;subst aF;obtain⟨rows,Cc,e⟩:=dK.1 e;split at e
       ·rename_i zU;obtain⟨⟨q,ah⟩,aW,e⟩:=dN.1 e;simp only[kh]at e;obtain⟨rfl,rfl⟩:=e;obtain⟨cs,aP,bu,cd,dU,gg⟩:=hw.live b rows Cc;obtain⟨cL,b3,cY,i1,cg,t1⟩:=hw.still Cc aP;have am:(rows.take n).length=n:=by rw[pN];omega
        obtain⟨c3,dH,gC,cX,bR,cn⟩:=YE cL (h.set b ad) w (rows.take n) (λi D=>cs.getD (i*P.cellsOf (m.hg b)+D) gq) q ah cY (λi af D aa=>by
         rw[am]at af;have eR:i<rows.length:=by omega
         simp only[List.getElem_take]at aa ⊢;obtain⟨v,cE,c6⟩:=gg i eR D aa;have:cs.getD (i*P.cellsOf (m.hg b)+D) gq=v:=by simp[iL,cE]
         rw[this];exact c6.ext b3) aW
        refine⟨c3,b3.trans dH,gC,?_⟩;have z0:q.length=n:=by rw[cX,am]
        have lo:∀i (af:i<q.length),q[i].length=P.cellsOf t:=by intro i af;rw[bR i af (by omega),List.getElem_take,<-he];exact cd _ (iX _)
        have key:=bX.b0 (P:=P) (m:=c3) (h:=ah) ad t q (m.cm b) 0 cap (λi D=>cs.getD (i*P.cellsOf (m.hg b)+D) gq) (λr ao=>by
         obtain⟨i,af,rfl⟩:=List.getElem_of_mem ao;exact lo i af) (λi af D aa=>by
         have eR:i<rows.length:=by omega
         have dv:D<rows[i].length:=by rw[cd _ (iX _),he];exact aa
         obtain⟨v,cE,c6⟩:=gg i eR D dv;have au:cs.getD (i*P.cellsOf (m.hg b)+D) gq=v:=by simp[iL,cE]
         show c3.eo (m.cm b) (0+(i*P.cellsOf t+D))=o (cs.getD (i*P.cellsOf (m.hg b)+D) gq);rw[au,hH,<-he];exact dH.eo _ _ _ (i1 _ _ cE)) cn (by omega) (λk Z=>by cases Z)
        rw[z0]at key;simpa using key
       ·cases e
      ·cases e
    |agg l b2 J ah=>
      simp only[v']at e;obtain⟨⟨q,aD⟩,aW,e⟩:=dN.1 e;simp only[kh]at e;obtain⟨rfl,rfl⟩:=e;obtain⟨c3,dH,gC,cX,cn⟩:=JQ m h w l (λD=>b2.getD D gq) q aD hw (λD aa=>by
       have dv:D<b2.length:=by omega
       have:=ah D aa dv;simpa[dz,dv]using this) aW
      exact⟨c3,dH,gC,.agg q b2 (by omega) λD aa dv=>by have:=cn D aa;simpa[dz,dv]using this⟩
    |bU l b2 J ah=>
      simp only[v']at e;obtain⟨⟨q,aD⟩,aW,e⟩:=dN.1 e;simp only[kh]at e;obtain⟨rfl,rfl⟩:=e;obtain⟨c3,dH,gC,cX,cn⟩:=JQ m h w l (λD=>b2.getD D gq) q aD hw (λD aa=>by
       have dv:D<b2.length:=by omega
       have:=ah D aa dv;simpa[dz,dv]using this) aW
      exact⟨c3,dH,gC,.bU q b2 (by omega) λD aa dv=>by have:=cn D aa;simpa[dz,dv]using this⟩
    |_=>exact same rfl
   ·intro m h w l ae q R hw U e;cases l with
    |nil=>simp only[u6,hZ,kh]at e;obtain⟨rfl,rfl⟩:=e;exact⟨m,Ext.refl _ _,hw,rfl,λD aa=>by simp at aa⟩
    |cons v l=>
      simp only[u6]at e;obtain⟨⟨dL,ah⟩,au,e⟩:=dK.1 e;obtain⟨⟨bL,aD⟩,ax,e⟩:=dN.1 e;simp only[kh]at e;obtain⟨rfl,rfl⟩:=e;obtain⟨cL,b3,cY,bH⟩:=anh m h w v (ae 0) dL ah hw (U 0 (by simp)) au;obtain⟨c3,dH,gC,cX,bR⟩:=JQ cL ah w l (λD=>ae (D+1)) bL aD cY (λD aa=>(U (D+1) (by simpa using aa)).ext b3) ax;refine⟨c3,b3.trans dH,gC,by simp[cX],λD aa=>?_⟩;cases D with
      |zero=>exact bH.ext dH
      |succ D=>exact bR D (by simpa using aa)
   ·intro m h w l ae q R hw U e;cases l with
    |nil=>simp only[u5,hZ,kh]at e;obtain⟨rfl,rfl⟩:=e;exact⟨m,Ext.refl _ _,hw,rfl,λi af=>by simp at af,λi af=>by simp at af⟩
    |cons v l=>
      simp only[u5]at e;obtain⟨⟨dL,ah⟩,au,e⟩:=dK.1 e;obtain⟨⟨bL,aD⟩,ax,e⟩:=dN.1 e;simp only[kh]at e;obtain⟨rfl,rfl⟩:=e;obtain⟨cL,b3,cY,cE,bH⟩:=JQ m h w v (ae 0) dL ah hw (U 0 (by simp)) au;obtain⟨c3,dH,gC,cX,c6,bR⟩:=YE cL ah w l (λi=>ae (i+1)) bL aD cY (λi af D aa=>(U (i+1) (by simpa using af) D aa).ext b3) ax;refine⟨c3,b3.trans dH,gC,by simp[cX],λi af eR=>?_,λi af D aa=>?_⟩
      ·cases i with
       |zero=>exact cE
       |succ i=>exact c6 i (by simpa using af) (by simpa using eR)
      ·cases i with
       |zero=>exact(bH D aa).ext dH
       |succ i=>exact bR i (by simpa using af) D aa
end
def JR:List be:=[.ops [.i (.v 5) JS,.i (.v 6) (.box 1 (.v 4)),Fm,.i (.v 8) PL,.i (.v 9) PL]]
def za:List be:=[.block 0 [.ops [PM,oL,cl,.g (.l 0) T .l (.load T 1 (.v 6)),YF,xE,cl,xv,FE,xE,cl,xv,Fy,xE,Fl],.cond (.v 14) [.ops [kN,u3,PN,.i .n (.store 1 (.v 9) (.c (.int j 1)))],.ret] [.ops [bd,cW,tB,kn,CE,dB,aM,si,cl,u7,FE,xE,cl,u7,IX,YG,YH,.g (.l 4) T .l (.c0 2 (.l 0)),.g (.l 5) T .l (.fG ad (o (4,5)) (.l 0) (.l 2)),YI,YJ,.g (.l 8) T .l (.len T (o 174) (.l 0)),.g (.l 9) T .l (.bin (.int j) .geq (.l 8) (.l 0)),.i .l (.pick (.l 10) (.c (.bool O)) (.l 0)),CG],.cond (.v 15) [.ops [kN,u3,PN,.i .n (.store 1 (.v 9) (.c (.int j 8)))],.ret] []]]]
def JT:List be:=[.ops [so,Pm,u1],.ops [sp,PO],.cond (.v 16) [.ops [kN,sp,xF,PN,.i .n (.store 1 (.v 9) (.l 0))],.ret] []]
def JU:List be:=[.ops [bd,PM,.i .l (.build [.e2,.aA,.int j 0] [(0,1),(1,1),(2,1)] [(0,(.l 1)),(2,(.l 0))]),.i .l (.box 3 (.l 0)),.i (.v 11) (.alloc [.e2]),.i .n (.store 1 (.v 11) (.l 0))]]
def JV:List be:=[.ops [PQ,cW,gT,so,PR,.bZ [⟨ad,T,1,.v 11,(.l 4)⟩],.i .l (.build [.int j 0,.int j 0,.int j 0,.int j 0,.int j 0,.aA,.aA,.aA,.bool T,.aA] [(0,1),(1,1),(2,1),(3,3),(6,1),(7,1),(8,1),(9,1)] [(0,(.l 3)),(1,(.l 2)),(3,(.l 0))]),XL,.bZ [⟨ad,T,1,.v 11,(.l 6)⟩],Cm,gU,l1]]
def CM:List be:=[.block 2 [.ops [PQ,.i .l (.call (.c (.fn 50 [] [])) [.l 0]),cl,fx,fy,PS,PT,AA],.ops [.i (.v 17) (.a4 (.v 13))],.cond (.v 17) [.ops [.i .l (.load O 3 (.v 12)),PM,PQ,cu,kn,aM,JW,.i .l (.call (.c (.fn 48 [] [])) [.l 6]),.bZ [⟨ad,T,1,.v 6,(.l 6)⟩,⟨ad,T,1,.v 11,(.l 5)⟩,⟨ad,T,1,.l 3,(.l 2)⟩],u3,.bZ [⟨ad,T,1,.v 6,(.l 6)⟩,⟨ad,T,1,.v 11,(.l 5)⟩,⟨ad,T,1,.l 3,(.l 2)⟩],.i .n (.store 1 (.v 8) (.l 1)),.i .n (.store 1 (.v 9) (.c (.int j 0)))],.ret] []]]
def FF:List be:=[.block 1 [.loop CM]]
def PU:List be:=[.ops [hK,.i (.v 8) (.yy .iface ad O .neq (.l 0) (.c .ig))],.cond (.v 8) [.ops [hK,.i .l (.D8 127 O (.l 0)),cl,fx,fy,Jr,mI],.ops [j7,.i (.v 9) u9],.cond (.v 9) [.ops [hK,Jf]] [],.ops [kN,.i .l (.load T 1 (.v 0)),.i .l (.load T 1 (.v 1)),cu,kn,aM,JW,k5,.i .n (.store 3 (.v 2) (.l 7)),.i .n (.store 1 (.v 3) (.l 1)),.i .n (.store 1 (.v 4) (.l 0))]] []]
def mt:List be:=[.ops [fb,tq,aM,qQ,FG,cl,ED,YK,YL],.cond (.v 5) [] [.exit 0],.block 1 [.ops [tq,aM,fb,uX,jd,cW,.i .l (.call (.c (.fn 86 [] [])) [.l 1,.l 0]),oK]],AI]
def YM:List be:=[.ops [Jh,qM],.ops [cW,mh,oK],ts,.block 0 [.loop mt],.ops [cW,jk],.ret]
theorem ani:cq ap W 86 2 6 [0,1,2,4,5,16] YM [(.v 3)] O:=by refine⟨_,_,Tryz.func86,rfl,rfl,?_,?_,?_,?_,?_⟩<;>kernel_rfl
def PV:List be:=[JX,.ops [CC,.i .l (.call (.c (.fn 86 [] [])) [.l 0,.c (.int j 40)]),.i (.v 3) JY],.cond (.v 3) [.ops [YN],.ret] [],.ops [CC,YO,jv],.ret]
theorem YP:cq ap W 47 1 4 [0,1,2,5] PV [(.v 2)] O:=by refine⟨_,_,Tryz.func47,rfl,rfl,?_,?_,?_,?_,?_⟩<;>kernel_rfl
def FH:List be:=[.ops [YQ],.cond (.v 12) [] [.exit 1],.block 2 [.ops [.i .l (.fG (o 35) ad (.v 9) (.v 11)),jd,v5,uY],.ops [rE,YO,jT],.ops [hK,.i (.v 13) mJ],.cond (.v 13) [.ops [hK,jv],.ret] []],.ops [YR,xA]]
def YS:List be:=[JX,.ops [ml,aM,oL,cl,AJ,k4,JZ,.i (.v 6) Wu],.cond (.v 6) [.ops [YT],.ret] [],.ops [.i .l (.lr T 3 [.int j 0] 1 6 [(0,(.c (.int j 0))),(1,(.c (.int j 0))),(2,(.c (.int j 2))),(3,(.c (.int j 1))),(4,(.c (.int j 0))),(5,(.c (.int j 0)))]),ml,aM,.i .l (.fG (o 3) ad (.l 2) (.l 0)),aM,jk],.block 0 [.ops [u',aM,qQ,cR,Fa,cl,PW,.g (.l 1) T .l J0,.g (.l 2) T .l nE,FI,oM,PX,.g (.l 6) T .l Cu,.i .l OI,cl,AJ,k4,.g (.l 2) T .l Fs,PY,FI,oM,PX,PZ,.i .l P0,mI],.cond (.v 7) [.ops [P1],.ret] [.ops [ml,aM,.i .l (.bin (.int j) .geq (.l 0) (.c (.int j 3))),cl,FI,oM,I2,AK,kA],.cond (.v 8) [.ops [YU],.ret] []]],.ops [u',YV,.i (.v 10) (.len T (o 35) (.v 9)),P2],.block 1 [.loop FH],sh,.ret]
theorem anj:cq ap W 87 1 14 [0,1,2,3,5,6,14,20,45,55,56,57,58,64] YS [(.v 2)] O:=by refine⟨_,_,Tryz.func87,rfl,rfl,?_,?_,?_,?_,?_⟩<;>kernel_rfl
def J1:List be:=[.ops [We],.cond (.v 8) [] [.exit 0],.block 1 [.ops [.i .l (.fG (o 35) ad (.v 5) (.v 7)),jd,v5,uY],.ops [CN,aM,rE,PR,.bZ [⟨ad,T,1,.l 3,(.l 2)⟩],Jv,.bZ [⟨ad,T,1,.l 4,(.l 3)⟩],.i .l (.app T 35 (.l 3) (.l 0)),CN,xt]],.ops [Wg,mI]]
def YW:List be:=[.ops [Ax,Fb],.ops [ml,aM,J2,aM,P3,Ji,CB],.ops [u',.i (.v 5) oc,.i (.v 6) (.len T (o 35) (.v 5)),v0],.block 0 [.loop J1],.ops [sn,Ay],.ret]
theorem ank:cq ap W 48 1 9 [0,1,2,3,5,12,13,14,15] YW [(.cell O 3 2)] O:=by refine⟨_,_,Tryz.func48,rfl,rfl,?_,?_,?_,?_,?_⟩<;>kernel_rfl
def J3:List be:=[.ops [Oq],.cond (.v 9) [] [.exit 0],.block 1 [.ops [.i .l (.fG (o 35) ad (.v 6) (.v 8)),jd,v5,uY],.ops [cR,rE,.i .l YX,YY,jk]],Ow]
def YZ:List be:=[.ops [Ax,FJ],EI,.ops [ml,aM,Y0],.cond (.v 5) [.ops [cR,J2,aM,EL,Wf,jk]] [],.ops [u',Fu,.i (.v 7) (.len T (o 35) (.v 6)),qN],.block 0 [.loop J3],yN,.ret]
theorem anl:cq ap W 143 1 10 [0,1,2,3,5,8,15,16,17,18] YZ [(.v 2)] O:=by refine⟨_,_,Tryz.func143,rfl,rfl,?_,?_,?_,?_,?_⟩<;>kernel_rfl
def Y1:List be:=[.ops [Ax,xB],.ops [ml,aM,AL,cl,.g (.l 0) T .l (.c0 2 (.v 1)),k4,.g (.l 2) T .l (.call (.c (.fn 157 [] [])) [.l 0,.c (.fn 142 [] [])]),AM,jv],.ret]
theorem anm:cq ap W 142 1 3 [0,1,2] Y1 [(.v 2)] O:=by refine⟨_,_,Tryz.func142,rfl,rfl,?_,?_,?_,?_,?_⟩<;>kernel_rfl
def Y2:List be:=[mg,.ops [bd,cW,.i .l (.call (.c (.fn 166 [] [])) [.l 1,.l 0]),tp,jv],.ret]
theorem ann:cq ap W 157 2 3 [0,1,4] Y2 [(.v 2)] O:=by refine⟨_,_,Tryz.func157,rfl,rfl,?_,?_,?_,?_,?_⟩<;>kernel_rfl
def J4:List be:=[.ops [Y3],.cond (.v 6) [] [.exit 0],.block 1 [.ops [hK,jk],.ops [cW,bd,cR,uX,jd,Y4],.cond (.v 7) [yN,.ret] []],.ops [Y5,jT]]
def Y6:List be:=[sh,.ops [bd,.i (.v 4) Oa,p6],.block 0 [.loop J4],.ops [P4],.ret]
theorem ano:cq ap W 166 2 8 [0,1,4,5,7,8,9,16] Y6 [(.v 2)] O:=by refine⟨_,_,Tryz.func166,rfl,rfl,?_,?_,?_,?_,?_⟩<;>kernel_rfl
def Y7:List be:=[.ops [Jh,Az,Jk],.ops [rF,aM,qR,aM,Y8,cl,P5,oM,Y9,Cn,Y',Co,cl,Za,oM,Zb,Cn,.g (.l 4) O .l (.call (.c (.fn 30 [] [])) [.l 2,.l 0]),Co,jl],.ret]
theorem anp:cq ap W 19 2 5 [0,1,2,3,4] Y7 [(.v 4)] O:=by refine⟨_,_,Tryz.func19,rfl,rfl,?_,?_,?_,?_,?_⟩<;>kernel_rfl
def AN:List be:=[.ops [cR,bd,qQ,IU],.cond (.v 5) [] [.exit 0],.block 1 [.ops [bd,cR,uX,jd,cW,cR,uX,jd,.i .l (.call (.c (.fn 19 [] [])) [.l 4,.l 0]),Cq],.cond (.v 6) [mg,.ret] []],yQ]
def FK:List be:=[mg,.ops [bd,qQ,cW,qQ,IV],.cond (.v 4) [mg,.ret] [],p8,.block 0 [.loop AN],yR,.ret]
theorem J5:cq ap W 30 2 7 [0,1,4,5,10,14,26] FK [(.v 2)] O:=by refine⟨_,_,Tryz.func30,rfl,rfl,?_,?_,?_,?_,?_⟩<;>kernel_rfl
def J6:List be:=[.ops [hK,tq,aM,qQ,FG,cl,P6,J7,P7,Zc],.cond (.v 6) [] [.exit 0],.block 1 [.ops [fb,tq,aM,hK,uX,jd,cW,fb,P8,.i .l (.call (.c (.fn 46 [] [])) [.l 3,.l 0]),Zd,jl]],EO]
def Ze:List be:=[.ops [Jh,qM],JC,yS,.block 0 [.loop J6],FL,.ret]
theorem anq:cq ap W 46 2 7 [0,1,2,4,5,6,16] Ze [(.v 3)] O:=by refine⟨_,_,Tryz.func46,rfl,rfl,?_,?_,?_,?_,?_⟩<;>kernel_rfl
def FM:List be:=[.ops [fb,cR,.i (.v 13) JB],.cond (.v 13) [] [.exit 1],.block 2 [.ops [u',aM,fb,uX,jd,Zf,jT],.ops [hK,.i (.v 14) mJ],.cond (.v 14) [.ops [hK,jv],.ret] []],AI]
def Zg:List be:=[JX,p8,.ops [ml,Fu],.block 0 [.ops [.i .l (.bin (.int j) .eql (.v 6) (.c (.int j 2))),mI],.cond (.v 7) [.ops [.i (.v 3) FN]] [.ops [.i .l (.bin (.int j) .eql (.v 6) (.c (.int j 3))),kA],.cond (.v 8) [Jm] [.ops [.i .l (.bin (.int j) .eql (.v 6) (.c (.int j 0))),u0],.cond (.v 9) [] [.ops [.i .l (.bin (.int j) .eql (.v 6) (.c (.int j 1))),u0],.cond (.v 9) [] [.ops [.i .l (.bin (.int j) .eql (.v 6) (.c (.int j 4))),u0],.cond (.v 9) [] [.ops [Zh,u0]]]],.cond (.v 9) [] [.ops [YT],.ret]]]],.ops [u',aM,qQ,cR,.i (.v 10) Zi],.cond (.v 10) [.ops [P1],.ret] [],.ops [ml,aM,Fv,cl,AJ,k4,.g (.l 2) T .l J0,AM,cl,FI,oM,PX,.i (.v 11) Cu],.cond (.v 11) [.ops [P1],.ret] [],.ops [ml,aM,.i .l Zj,cl,AJ,k4,.g (.l 2) T .l J8,AM,cl,AJ,k4,.g (.l 2) T .l (.bin (.int j) .eql (.l 0) (.c (.int j 5))),AM,cl,FI,oM,I2,.i (.v 12) Cu],.cond (.v 12) [.ops [YU],.ret] [],ts,.block 1 [.loop FM],sh,.ret]
theorem anr:cq ap W 94 1 15 [0,1,2,3,4,5,7,8,10,12,21,34,52,55,65] Zg [(.v 2)] O:=by refine⟨_,_,Tryz.func94,rfl,rfl,?_,?_,?_,?_,?_⟩<;>kernel_rfl
def P9:List be:=[JX,.ops [CC,.i .l (.call (.c (.fn 46 [] [])) [.l 0,.c (.int j 40)]),.i (.v 3) (.bin (.int j) .gtr (.l 0) (.c (.int j 40)))],.cond (.v 3) [.ops [YN],.ret] [],.ops [CC,Zf,jv],.ret]
theorem Zk:cq ap W 53 1 4 [0,1,2,5] P9 [(.v 2)] O:=by refine⟨_,_,Tryz.func53,rfl,rfl,?_,?_,?_,?_,?_⟩<;>kernel_rfl
def J9:List be:=[.ops [fb,u',aM,qQ,.i (.v 6) FO],.cond (.v 6) [] [.exit 0],.block 1 [.ops [cR,u',aM,fb,uX,jd,Zl,.i .l (.app T 3 (.l 6) (.l 0)),jk]],AI]
def Zm:List be:=[.ops [Ax,FJ],EI,.ops [ml,aM,Y0],.cond (.v 5) [.ops [J2,aM,EL,jk]] [],ts,.block 0 [.loop J9],yN,.ret]
theorem ans:cq ap W 165 1 7 [0,1,2,3,4,7,15] Zm [(.v 2)] O:=by refine⟨_,_,Tryz.func165,rfl,rfl,?_,?_,?_,?_,?_⟩<;>kernel_rfl
def J':List be:=[.ops [cR,u',aM,qQ,.i (.v 4) FO],.cond (.v 4) [] [.exit 0],.block 1 [.ops [u',aM,cR,uX,jd,.i (.v 5) Zn],.cond (.v 5) [yR,.ret] []],yQ]
def Zo:List be:=[.ops [Ax,xB],p8,.block 0 [.loop J'],.ops [ml,aM,AL,jv],.ret]
theorem ant:cq ap W 164 1 6 [0,1,2,3,8,16] Zo [(.v 2)] O:=by refine⟨_,_,Tryz.func164,rfl,rfl,?_,?_,?_,?_,?_⟩<;>kernel_rfl
theorem Zp{y:av}{i:Nat}(h:x.l[i]? =o y):jj (x.l.take (i+1))=jj (x.l.take i)+y.size/\jj (x.l.take (i+1))<=jj x.l:=by
 have e:=Aq h;constructor
 ·rw[e,Io,akR]
 ·have:=Io (x.l.take (i+1)) (x.l.drop (i+1));rw[List.take_append_drop]at this;omega
theorem Ka(l:List av)(i:Nat):jj (l.take i)<=jj l:=by have:=Io (l.take i) (l.drop i);rw[List.take_append_drop]at this;omega
theorem Zq(l:List av){i:Nat}(af:i<l.length):i<=jj (l.take i):=by have:=NN (l.take i);rw[pN]at this;omega
theorem nb{l:List av}{i:Nat}{y:av}(h:l[i]? =o y):y∈l:=tc h
theorem qS{l:List av}{i:Nat}(h:i<l.length):∃y,l[i]? =o y:=⟨_,fr h⟩
section
variable{h:ag}
def sv(left:Int)(n:Nat):Int:=if(n:Int)<=left then left - n else -1
theorem anu:∀(N:Nat) (x:av),kL x<=N->∀(r:List E) (h:ag) (left:Int),bT x r->0<=left->left<=100000->aQ ap W 86 [.agg r,.int j left] h=o (.inl (.int j (sv left x.size)),h):=by
 intro N;induction N with
 |zero=>intro x aw;have:=x.mf;omega
 |succ N aZ=>
   intro x aw r h left he aj J;obtain⟨v,es,rfl,ei,U,aE,eV⟩:=he.facts;have aC:=x.size_eq;have cY:=eL (n:=left - 1) (by omega) (by omega);refine l0 ani rfl λQ cy=>?_;unfold YM;simp only[ak,aq,ar,al,U,cY];refine oe (λi V F=>∃b7 cur,V=[.agg [.int j x.kind,.int j x.n,v],.int j cur,.ptr h.n 0 0,.int j 0,.int j (i:Nat),b7]/\F=h.push [[.int j x.kind,.int j x.n,v]]/\cur=sv left (1+jj (x.l.take i))) x.l.length ⟨_,_,rfl,rfl,?_⟩ ?_ ?_
   ·simp only[sv,List.take_zero,jj];split<;>omega
   ·rintro i V F af ⟨b7,cur,rfl,rfl,an⟩ next
    have bf:(i:Int)<(es.length:Int):=by rw[aE];omega
    by_cases aH:0<=cur
    ·obtain⟨y,bE⟩:=qS af;obtain⟨q,i1,d1,b3⟩:=eV i y bE;obtain⟨eD,fR⟩:=Zp bE;have h':=Zq x.l af;have kV:cur<=100000/\(i:Int)<100000:=by
      rw[an,sv]at aH ⊢;split at aH
      ·rename_i bC;rw[if_pos bC];omega
      ·omega
     have hw:=eL (n:=(i:Int)+1) (by omega) (by omega);have au:=aZ y (by have:=av.mF (nb bE);omega) q (h.push [[.int j x.kind,.int j x.n,v]]) cur b3 aH (by omega);rw[cV mt.eq_1];simp only[ak,aq,ar,al,cb,ei.len,ei.fits,bf,aH,i1,d1,au,hw];refine next _ _ ⟨_,_,rfl,rfl,?_⟩
     rw[eD,an];rw[an]at aH;simp only[sv]at aH ⊢
     repeat' split<;>omega
    ·rw[cV mt.eq_1];simp only[ak,aq,ar,al,cb,ei.len,ei.fits,bf,aH];refine cy _ _ _ rfl (by repeat (first|exact aB.refl _|refine aB.trans ?_ (aB.push _ _)|refine aB.trans ?_ (aB.fresh _ _))) ?_;have e:cur=sv left x.size:=by
      rw[an,sv]at aH;rw[an,sv,sv,aC];have:=Ka x.l i;split at aH
      ·omega
      ·rename_i bC;rw[if_neg bC,if_neg (by omega)]
     rw[<-e];rfl
   ·rintro V F ⟨b7,cur,rfl,rfl,an⟩;have bf:¬((x.l.length:Int)<(es.length:Int)):=by rw[aE];omega
    rw[List.take_length,<-aC]at an;rw[cV mt.eq_1];simp only[ak,aq,ar,al,cb,ei.len,ei.fits,bf];exact cy _ _ _ rfl (by repeat (first|exact aB.refl _|refine aB.trans ?_ (aB.push _ _)|refine aB.trans ?_ (aB.fresh _ _))) (by rw[<-an];rfl)
theorem anv:∀(N:Nat) (x:av),kL x<=N->∀(r:List E) (h:ag) (cZ:Int),bT x r->0<=cZ->cZ<=100000->aQ ap W 46 [.agg r,.int j cZ] h=o (.inl (.int j (min (x.size:Int) (cZ+1))),h):=by
 intro N;induction N with
 |zero=>intro x aw;have:=x.mf;omega
 |succ N aZ=>
   intro x aw r h cZ he aj J;obtain⟨v,es,rfl,ei,U,aE,eV⟩:=he.facts;have aC:=x.size_eq;refine l0 anq rfl λQ cy=>?_;unfold Ze;simp only[ak,aq,ar,al,U];refine oe (λi V F=>∃dd cur,V=[.agg [.int j x.kind,.int j x.n,v],.int j cZ,.ptr h.n 0 0,.int j 0,.int j cur,.int j (i:Nat),dd]/\F=h.push [[.int j x.kind,.int j x.n,v]]/\cur=min ((1+jj (x.l.take i):Nat):Int) (cZ+1)) x.l.length ⟨_,_,rfl,rfl,?_⟩ ?_ ?_
   ·simp only[List.take_zero,jj];omega
   ·rintro i V F af ⟨dd,cur,rfl,rfl,an⟩ next
    have bf:(i:Int)<(es.length:Int):=by rw[aE];omega
    by_cases aH:cur<=cZ
    ·obtain⟨y,bE⟩:=qS af;obtain⟨q,i1,d1,b3⟩:=eV i y bE;obtain⟨eD,fR⟩:=Zp bE;have h':=Zq x.l af;have hw:=eL (n:=(i:Int)+1) (by omega) (by omega);have gA:=eL (n:=cZ - cur) (by omega) (by omega);have au:=aZ y (by have:=av.mF (nb bE);omega) q (h.push [[.int j x.kind,.int j x.n,v]]) (cZ - cur) b3 (by omega) (by omega);have xx:=eL (n:=cur+min (y.size:Int) (cZ - cur+1)) (by omega) (by omega);rw[cV J6.eq_1];simp only[ak,aq,ar,al,cb,ei.len,ei.fits,bf,aH,i1,d1,gA,au,xx,hw];refine next _ _ ⟨_,_,rfl,rfl,?_⟩
     rw[eD];omega
    ·rw[cV J6.eq_1];simp only[ak,aq,ar,al,cb,ei.len,ei.fits,bf,aH];refine cy _ _ _ rfl (by repeat (first|exact aB.refl _|refine aB.trans ?_ (aB.push _ _)|refine aB.trans ?_ (aB.fresh _ _))) ?_;have e:cur=min (x.size:Int) (cZ+1):=by have:=Ka x.l i;omega
     rw[<-e];rfl
   ·rintro V F ⟨dd,cur,rfl,rfl,an⟩;have bf:¬((x.l.length:Int)<(es.length:Int)):=by rw[aE];omega
    rw[List.take_length,<-aC]at an;rw[cV J6.eq_1];simp only[ak,aq,ar,al,cb,ei.len,ei.fits,bf];exact cy _ _ _ rfl (by repeat (first|exact aB.refl _|refine aB.trans ?_ (aB.push _ _)|refine aB.trans ?_ (aB.fresh _ _))) (by rw[<-an];rfl)
theorem Zr{kind n:Int}{len:Nat}(h:jb kind n len=0):len=lg kind/\(kind=0\/kind=1\/kind=2\/kind=3\/kind=4\/kind=5):=by
 unfold jb at h;split at h
 ·cases h
 ·split at h
  ·cases h
  ·exact⟨by omega,by omega⟩
theorem Zs(kind:Int):lg kind<=2:=by unfold lg;split;omega;split<;>omega
theorem Zt{l:List av}{i:Nat}{y:av}(h:l[i]? =o y):nz (l.drop i)=if y.fault≠0 then y.fault else nz (l.drop (i+1)):=by obtain⟨af,rfl⟩:=fQ.1 h;rw[va af,Er]
theorem anw:∀(N:Nat) (x:av),kL x<=N->∀(r:List E) (h:ag),bT x r->aQ ap W 94 [.agg r] h=o (.inl (.int j x.fault),h):=by
 intro N;induction N with
 |zero=>intro x aw;have:=x.mf;omega
 |succ N aZ=>
   intro x aw r h he;obtain⟨v,es,rfl,ei,U,aE,eV⟩:=he.facts;have P':=x.Cg;rw[P'];have loop:jb x.kind x.n x.l.length=0->∀(Q:ls->Prop) (dd eB fi gJ fz hs hS j8 mK:E),(∀V F,(iF V F [.v 2]).map iV=o (.int j (nz x.l))->aB h F->Q (o (.ret,V,F)))->Q (bB (aQ ap W) 15 (.e' FM::.bP []::.cm 1::[.bP [.ops [yK],.ret]]) [.agg [.int j x.kind,.int j x.n,v],.ptr h.n 0 0,.int j 0,.int j (lg x.kind:Nat),.int j 0,.az,dd,eB,fi,gJ,fz,hs,hS,j8,mK] [] (h.push [[.int j x.kind,.int j x.n,v]])):=by
    intro a7 Q dd eB fi gJ fz hs hS j8 mK cy;obtain⟨hlen, -⟩:=Zr a7;have anx:=Zs x.kind;refine oe (λi V F=>∃b7 j8 mK,V=[.agg [.int j x.kind,.int j x.n,v],.ptr h.n 0 0,.int j 0,.int j (lg x.kind:Nat),.int j (i:Nat),b7,dd,eB,fi,gJ,fz,hs,hS,j8,mK]/\F=h.push [[.int j x.kind,.int j x.n,v]]/\nz (x.l.drop i)=nz x.l) x.l.length ⟨_,_,_,rfl,rfl,rfl⟩ ?_ ?_
    ·rintro i V F af ⟨b7,j8,mK,rfl,rfl,an⟩ next
     have bf:(i:Int)<(lg x.kind:Int):=by omega
     obtain⟨y,bE⟩:=qS af;obtain⟨q,i1,d1,b3⟩:=eV i y bE;have hw:=eL (n:=(i:Int)+1) (by omega) (by omega);have au:=aZ y (by have:=av.mF (nb bE);omega) q (h.push [[.int j x.kind,.int j x.n,v]]) b3;rw[Zt bE]at an;by_cases bl:y.fault=0
     ·rw[if_neg (by simp[bl])]at an;rw[bl]at au;rw[cV FM.eq_1];simp only[ak,aq,ar,al,cb,bf,i1,d1,au,hw];exact next _ _ ⟨_,_,_,rfl,rfl,an⟩
     ·rw[if_pos bl]at an;rw[cV FM.eq_1];simp only[ak,aq,ar,al,cb,bf,i1,d1,au,bl];exact cy _ _ (by rw[<-an];rfl) (by repeat (first|exact aB.refl _|refine aB.trans ?_ (aB.push _ _)|refine aB.trans ?_ (aB.fresh _ _)))
    ·rintro V F ⟨b7,j8,mK,rfl,rfl,an⟩;have bf:¬((x.l.length:Int)<(lg x.kind:Int)):=by omega
     rw[sw]at an;rw[cV FM.eq_1];simp only[ak,aq,ar,al,cb,bf];exact cy _ _ (by rw[<-an];rfl) (by repeat (first|exact aB.refl _|refine aB.trans ?_ (aB.push _ _)|refine aB.trans ?_ (aB.fresh _ _)))
   refine l0 anr rfl λQ cy=>?_;unfold Zg;by_cases Z:x.kind=0\/x.kind=1\/x.kind=2\/x.kind=3\/x.kind=4\/x.kind=5
   ·by_cases am:(x.l.length:Nat)=lg x.kind
    ·have h1:(es.length:Int)=(lg x.kind:Int):=by rw[aE,am]
     by_cases aN:x.n=0
     ·have bC:jb x.kind x.n x.l.length=0:=by unfold jb;rw[if_neg (by omega),if_neg (by omega),if_neg (by omega),if_neg (by omega)]
      have L:=loop bC;rw[bC]at cy;rcases Z with Z|Z|Z|Z|Z|Z
      all_goals
       rw[Z]at h1 L;simp only[lg,cC,if_false,if_true,Int.cast_ofNat_Int,aN]at h1 L;simp only[ak,aq,ar,al,U,Z,aN,cC,Int.reduceLT,ei.len,ei.fits,h1];exact L _ _ _ _ _ _ _ _ _ _ λV F e g=>cy _ _ _ e g rfl
     ·have CO:jb x.kind x.n x.l.length=if x.kind=0\/x.kind=2 then 5 else if 3<=x.kind/\x.n<0 then 1 else 0:=by unfold jb;rw[if_neg (by omega),if_neg (by omega)];simp only[aN,not_false_eq_true,ne_eq,and_true]
      by_cases AO:x.n<0
      ·rcases Z with Z|Z|Z|Z|Z|Z
       all_goals
        have bC:=CO;simp only[Z,AO,cC,Int.reduceLE,or_true,and_true,or_false,or_self,if_true,if_false]at bC;rw[<-Z]at bC;have L:=loop;rw[bC]at L cy;rw[Z]at h1 L;simp only[lg,cC,if_false,if_true,Int.cast_ofNat_Int]at h1 L;simp only[ak,aq,ar,al,U,Z,aN,AO,cC,ei.len,ei.fits,h1]
        first
         |exact cy _ _ _ rfl (by repeat (first|exact aB.refl _|refine aB.trans ?_ (aB.push _ _)|refine aB.trans ?_ (aB.fresh _ _))) rfl
         |exact L trivial _ _ _ _ _ _ _ _ _ _ λV F e g=>cy _ _ _ e g rfl
      ·rcases Z with Z|Z|Z|Z|Z|Z
       all_goals
        have bC:=CO;simp only[Z,AO,cC,Int.reduceLE,or_true,and_false,or_false,or_self,if_true,if_false]at bC;rw[<-Z]at bC;have L:=loop;rw[bC]at L cy;rw[Z]at h1 L;simp only[lg,cC,if_false,if_true,Int.cast_ofNat_Int]at h1 L;simp only[ak,aq,ar,al,U,Z,aN,AO,cC,ei.len,ei.fits,h1]
        first
         |exact cy _ _ _ rfl (by repeat (first|exact aB.refl _|refine aB.trans ?_ (aB.push _ _)|refine aB.trans ?_ (aB.fresh _ _))) rfl
         |exact L trivial _ _ _ _ _ _ _ _ _ _ λV F e g=>cy _ _ _ e g rfl
    ·have bC:jb x.kind x.n x.l.length=5:=by unfold jb;rw[if_neg (by omega),if_pos am]
     have h1:¬(es.length:Int)=(lg x.kind:Int):=by rw[aE];omega
     rw[bC]at cy;rcases Z with Z|Z|Z|Z|Z|Z
     all_goals
      rw[Z]at h1;simp only[lg,cC,if_false,if_true,Int.cast_ofNat_Int]at h1;simp only[ak,aq,ar,al,U,Z,cC,ei.len,ei.fits,h1];exact cy _ _ _ rfl (by repeat (first|exact aB.refl _|refine aB.trans ?_ (aB.push _ _)|refine aB.trans ?_ (aB.fresh _ _))) rfl
   ·have bC:jb x.kind x.n x.l.length=2:=by unfold jb;rw[if_pos (by omega)]
    obtain⟨hy,cE,c6,eb,dx,gW⟩:¬x.kind=0/\¬x.kind=1/\¬x.kind=2/\¬x.kind=3/\¬x.kind=4/\¬x.kind=5:=by omega
    rw[bC]at cy;simp only[ak,aq,ar,al,U,hy,cE,c6,eb,dx,gW];exact cy _ _ _ rfl (by repeat (first|exact aB.refl _|refine aB.trans ?_ (aB.push _ _)|refine aB.trans ?_ (aB.fresh _ _))) rfl
end
def Qa:List be:=[mg,.ops [bd,cW,WN,cW,XC,jv],.ret]
theorem Zu:cq ap W 144 2 3 [0,1,4] Qa [(.v 2)] O:=by refine⟨_,_,Tryz.func144,rfl,rfl,?_,?_,?_,?_,?_⟩<;>kernel_rfl
def Qb:List be:=[.ops [Ph],.cond (.v 2) [.ops [cW,.i .l (.D6 210 (.l 0)),Jf]] []]
theorem Zv:cq ap W 161 2 3 [0,1,4] Qb [] O:=by refine⟨_,_,Tryz.func161,rfl,rfl,?_,?_,?_,?_,?_⟩<;>kernel_rfl
def Kb:List be:=[.ops [Oq],.cond (.v 9) [] [.exit 0],.block 1 [.ops [.i .l (.fG (o 3) ad (.v 6) (.v 8)),aM,jk],.ops [bd,cu,dB,aM,cW,cR,.i .l (.call (.c (.fn 84 [] [])) [.l 2,.l 1,.c (.int j 15),.l 0]),cl,fx,fy,Ah,jT],.ops [hK,uZ,hK,.i .l (.call (.c (.fn 161 [] [])) [.l 1,.l 0])],.ops [fb,oK]],Ow]
def Zw:List be:=[sh,.ops [bd,cu,gU,Fu,.i (.v 7) (.len T (o 3) (.v 6)),qN],.block 0 [.loop Kb],.ops [cW,jv],.ret]
theorem WF:cq ap W 146 2 10 [0,1,4,6,7,8,12,13,14,15] Zw [(.v 2)] T:=by refine⟨_,_,Tryz.func146,rfl,rfl,?_,?_,?_,?_,?_⟩<;>kernel_rfl
def FP:List be:=[Kc,.cond (.v 10) [] [.exit 0],.block 1 [.ops [.i .l (.fG (o 35) ad (.v 7) (.v 9)),jd,v6,p9],.ops [.i .l FQ,aM,bd,so,Zx,.bZ [⟨ad,T,1,.l 4,(.l 3)⟩],Jv,.bZ [⟨ad,T,1,.l 5,(.l 4)⟩],.i .l (.app T 35 (.l 4) (.l 0)),.i .l FQ,xt]],Kd]
def Zy:List be:=[.ops [Ke,Ji],.ops [rF,aM,nD,aM,P3,v5,uY],.ops [rF,aM,.i (.v 6) J8],.cond (.v 6) [.ops [bd,nD,aM,.i .l (.call (.c (.fn 146 [] [])) [.l 2,.l 0]),od,xt]] [],.ops [tq,Fq,.i (.v 8) (.len T (o 35) (.v 7)),CP],.block 0 [.loop FP],.ops [rE,CB],.ret]
theorem anz:cq ap W 128 2 11 [0,1,3,4,5,7,15,22,23,24,25] Zy [(.cell O 3 3)] T:=by refine⟨_,_,Tryz.func128,rfl,rfl,?_,?_,?_,?_,?_⟩<;>kernel_rfl
def Kf:List be:=[.ops [.i (.v 11) (.bin (.int j) .lss (.v 10) (.v 9))],.cond (.v 11) [] [.exit 0],.block 1 [.ops [.i .l (.fG (o 3) ad (.v 8) (.v 10)),aM,jT],.ops [bd,hK,XD,.i .l (.call (.c (.fn 144 [] [])) [.l 0,.c (.int j 4)]),.i (.v 12) u9],.cond (.v 12) [Kg,.ret] []],.ops [.i .l (.bin (.int j) .add (.v 10) (.c (.int j 1))),u1]]
def Kh:List be:=[.ops [Ke,qM],.ops [rG,Pm,jl],.ops [fb,Zz],.cond (.v 6) [FL,.ret] [],.ops [rG,.i (.v 7) (.call (.c (.fn 142 [] [])) [.l 0])],.cond (.v 7) [Kg,.ret] [],.ops [rG,.i (.v 8) YX,.i (.v 9) (.len T (o 3) (.v 8)),.i (.v 10) (.a4 (.c (.int j 0)))],.block 0 [.loop Kf],p8,.ret]
theorem Qc:cq ap W 126 2 13 [0,1,3,4,5,7,11,14,16,17,18,19,26] Kh [(.v 3)] O:=by refine⟨_,_,Tryz.func126,rfl,rfl,?_,?_,?_,?_,?_⟩<;>kernel_rfl
def Ki:List be:=[.ops [k5,hK,Ct,.i (.v 9) Kj],.cond (.v 9) [] [.exit 0],.block 1 [.ops [bd,hK,k5,I0,aM,.i .l (.call (.c (.fn 152 [] [])) [.l 4,.l 0]),.i .l (.call (.c (.fn 151 [] [])) [.l 0,.c (.int j 2)]),.i (.v 10) u9],.cond (.v 10) [Kg,.ret] []],.ops [k5,ry,jC]]
def Kk:List be:=[.ops [Ke,qM],.ops [rG,Qd,jl],.ops [fb,N6],.cond (.v 7) [FL,.ret] [],.ops [rG,.i (.v 8) Zn],.cond (.v 8) [Kg,.ret] [],.ops [rG,Zl,jT],.ops [rx],.block 0 [.loop Ki],p8,.ret]
theorem Qe:cq ap W 155 2 11 [0,1,3,4,5,6,7,11,14,20,30] Kk [(.v 3)] O:=by refine⟨_,_,Tryz.func155,rfl,rfl,?_,?_,?_,?_,?_⟩<;>kernel_rfl
def FR:List be:=[.ops [wa,CN,aM,qQ,.i (.v 17) FO],.cond (.v 17) [] [.exit 2],.block 3 [.ops [bd,CN,aM,wa,uX,jd,gT,.i .l (.call (.c (.fn 156 [] [])) [.l 6,.l 1,.l 0]),cl,fx,fy,PS,PT,AA],.ops [AP,ZA],.cond (.v 18) [.ops [kN,AP,FT,jT],.ret] [],.ops [.i .l (.c0 2 (.v 6)),aM,.i .l (.load O 3 (.v 12)),Jv,ZB,.i .l (.c0 2 (.v 6)),xt]],.ops [wa,ry,xA]]
def Kl:List be:=[.ops [p7,gT,Ct,.i (.v 15) Kj],.cond (.v 15) [] [.exit 0],.block 1 [.ops [bd,j7,gT,p7,I0,aM,.i .l (.call (.c (.fn 85 [] [])) [.l 5,.l 4,.c (.int j 15),.l 0]),cl,fx,fy,.i (.v 9) vb,u1],.ops [sp,PO],.cond (.v 16) [.ops [kN,sp,FT,jT],.ret] [],.ops [tA,mI]],.ops [p7,ry,kA]]
def ZC:List be:=[.ops [Az,v5,p6],.ops [qR,aM,nG,aM,P3,EB,EC],.ops [qR,aM,.i (.v 14) J8],.cond (.v 14) [.ops [nG,aM,mI],.ops [qN],.block 0 [.loop Kl],.ops [j7,.i .l (.c0 1 (.v 6)),xt]] [],.ops [P2],.block 2 [.loop FR],.ops [sg,uY,p6],.ret]
theorem anA:cq ap W 156 3 19 [0,1,2,4,6,7,8,9,10,11,12,13,14,15,23,29,43,53,68] ZC [(.cell O 3 4),(.v 5)] T:=by refine⟨_,_,Tryz.func156,rfl,rfl,?_,?_,?_,?_,?_⟩<;>kernel_rfl
def ZD:List be:=[.ops [Az,v5,p6],.ops [bd,sn,.i .l (.call (.c (.fn 155 [] [])) [.l 1,.l 0]),jC],.ops [k5,N6],.cond (.v 7) [.ops [kN,k5,FT,jT],.ret] [],.ops [bd,sn,gT,.i .l (.call (.c (.fn 156 [] [])) [.l 2,.l 1,.l 0]),fx,fy,FT,jT],.ret]
theorem LT:cq ap W 140 3 8 [0,1,2,4,6,7,8,13] ZD [(.cell O 3 4),(.v 5)] T:=by refine⟨_,_,Tryz.func140,rfl,rfl,?_,?_,?_,?_,?_⟩<;>kernel_rfl
open Go.RowKit
theorem a0.anB(cH:G.dE):∀(f:Nat) (i:Int),i.toNat<f->G.has i=O->∃pre t,G.path i=pre++[t]/\t.parent= -1/\∃k:Nat,G.nodes[k]? =o t:=by
 intro f;induction f with
 |zero=>intro i af;omega
 |succ f aZ=>
   intro i af bC;have ok:=cH.get bC;have m1:G.nodes[i.toNat]? =o (G.nodes.getD i.toNat gN):=by
    simp[a0.has]at bC;have:i.toNat<G.nodes.length:=by omega
    simp[dz,this]
   rw[a0.Ve cH bC];by_cases aH:G.has (G.nodes.getD i.toNat gN).parent=O
   ·have rt:0<=(G.nodes.getD i.toNat gN).parent:=by simp only[a0.has,decide_eq_true_eq]at aH;exact aH.1
    have pb:=ok.dA;obtain⟨pre,t,J,R,ah⟩:=aZ (G.nodes.getD i.toNat gN).parent (by omega) aH;exact⟨_::pre,t,by rw[J];rfl,R,ah⟩
   ·refine⟨[],_,by rw[a0.Ac (by simpa using aH)];rfl,?_,_,m1⟩;have aj:=ok.d';have J:=ok.dA;have il:i.toNat<G.nodes.length:=(fQ.1 m1).1;simp only[a0.has,decide_eq_true_eq,not_and]at aH;rcases Int.lt_or_le (G.nodes.getD i.toNat gN).parent 0 with h|h
    ·omega
    ·have:=aH h;omega
theorem a0.Qf(cH:G.dE){i:Int}(bC:G.has i=O):(G.target i).2=O/\(G.target i).1.parent= -1/\((G.target i).1.bI= -1/\0<=(G.target i).1.cell/\(G.target i).1.cell<12/\(G.target i).1.func=0\/0<=(G.target i).1.bI/\(G.target i).1.bI<4/\0<=(G.target i).1.func/\(G.target i).1.func<6/\(G.target i).1.cell=0):=by
 obtain⟨pre,t,J,R,k,Z⟩:=a0.anB cH (i.toNat+1) i (by omega) bC;have a3:G.target i=(t,O):=by unfold a0.target;rw[J];simp[List.getLastD_eq_getLast?]
 rw[a3];exact⟨rfl,R,(cH.node k t Z).t R⟩
theorem a0.anC(cH:G.dE):∀(f:Nat) (i:Int),∀n∈G.lU f i,qI n.dn=O/\(n.gate= -1\/0<=n.gate/\n.gate<G.shut.length):=by
 intro f;induction f with
 |zero=>intro i n aE;simp[a0.lU]at aE
 |succ f aZ=>
   intro i n aE;unfold a0.lU at aE;split at aE
   ·rename_i Z;rcases n0.1 aE with rfl|aE
    ·exact⟨(cH.get Z).r,(cH.get Z).g⟩
    ·exact aZ _ n aE
   ·simp at aE
theorem ZE(cH:G.dE)(i:Int):∃x:BitVec 64,G.dn i=x.toInt:=by
 unfold a0.dn;split
 ·exact⟨0#64,rfl⟩
 ·exact⟨_,WJ _ (λn aE=>(a0.anC cH _ i n aE).1) 15#64⟩
theorem anD{aT:List Int}(h:(fO aT x G).2.2≠0):(fO aT x G).2.1=cv:=by
 rw[Is]at h ⊢;split
 ·rfl
 ·rename_i J;rw[if_neg J]at h;split
  ·rfl
  ·rename_i R;rw[if_neg R]at h;exact absurd rfl h
theorem anE{aT:List Int}(h:(fC aT G x).2.2≠0):(fC aT G x).2.1=cv:=by
 unfold fC at h ⊢;split
 ·rfl
 ·rename_i J;rw[if_neg J]at h;exact anD h
theorem anF(x:av):(id x).kind=x.kind:=rfl
theorem anG(x:av):(id x).l=x.l.map id:=by simp
section
variable{h:ag}
theorem anH(i:Option Nat):∀(k:Int),(k=0\/k=1\/k=2\/k=3\/k=4\/k=5)->dO (o 3) ad (.b0 i 3 [[.int j 0],[.int j 0],[.int j 2],[.int j 1],[.int j 0],[.int j 0]]) (.int j k)=o (.ip [.int j (lg k:Nat)] 0):=by rintro k (rfl|rfl|rfl|rfl|rfl|rfl)<;>rfl
theorem anI:∀(N:Nat) (x:av),kL x<=N->∀(r:List E) (h:ag),bT x r->aQ ap W 87 [.agg r] h=o (.inl (.int j x.fault),h):=by
 intro N;induction N with
 |zero=>intro x aw;have:=x.mf;omega
 |succ N aZ=>
   intro x aw r h he;obtain⟨v,es,rfl,ei,U,aE,eV⟩:=he.facts;have P':=x.Cg;rw[P'];have loop:jb x.kind x.n x.l.length=0->∀(Q:ls->Prop) (hB dd eB fi:E),(∀V F,(iF V F [.v 2]).map iV=o (.int j (nz x.l))->aB h F->Q (o (.ret,V,F)))->Q (bB (aQ ap W) 14 (.e' FH::.bP []::.cm 1::[.bP [.ops [yK],.ret]]) [.agg [.int j x.kind,.int j x.n,v],.ptr h.n 0 0,.int j 0,hB,.az,.az,dd,eB,fi,v,.int j es.length,.int j 0,.az,.az] [] ((h.push [[.int j x.kind,.int j x.n,v]]).fresh 6)):=by
    intro a7 Q hB dd eB fi cy;obtain⟨hlen, -⟩:=Zr a7;have anx:=Zs x.kind;refine oe (λi V F=>∃du b7 hS j8,V=[.agg [.int j x.kind,.int j x.n,v],.ptr h.n 0 0,.int j 0,hB,du,b7,dd,eB,fi,v,.int j es.length,.int j (i:Nat),hS,j8]/\aB h F/\nz (x.l.drop i)=nz x.l) x.l.length ⟨_,_,_,_,rfl,(by repeat (first|exact aB.refl _|refine aB.trans ?_ (aB.push _ _)|refine aB.trans ?_ (aB.fresh _ _))),rfl⟩ ?_ ?_
    ·rintro i V F af ⟨du,b7,hS,j8,rfl,g,an⟩ next
     have bf:(i:Int)<(es.length:Int):=by rw[aE];omega
     obtain⟨y,bE⟩:=qS af;obtain⟨q,i1,d1,b3⟩:=eV i y bE;obtain⟨bt,bq⟩:=b3.one;have hw:=eL (n:=(i:Int)+1) (by omega) (by omega);have au:=aZ y (by have:=av.mF (nb bE);omega) q (F.push [q]) b3;rw[Zt bE]at an;by_cases bl:y.fault=0
     ·rw[if_neg (by simp[bl])]at an;rw[bl]at au;rw[cV FH.eq_1];simp only[ak,aq,ar,al,cb,bf,i1,d1,bt,bq,au,hw];exact next _ _ ⟨_,_,_,_,rfl,g.trans (by repeat (first|exact aB.refl _|refine aB.trans ?_ (aB.push _ _)|refine aB.trans ?_ (aB.fresh _ _))),an⟩
     ·rw[if_pos bl]at an;rw[cV FH.eq_1];simp only[ak,aq,ar,al,cb,bf,i1,d1,bt,bq,au,bl];exact cy _ _ (by rw[<-an];rfl) (g.trans (by repeat (first|exact aB.refl _|refine aB.trans ?_ (aB.push _ _)|refine aB.trans ?_ (aB.fresh _ _))))
    ·rintro V F ⟨du,b7,hS,j8,rfl,g,an⟩;have bf:¬((x.l.length:Int)<(es.length:Int)):=by rw[aE];omega
     rw[sw]at an;rw[cV FH.eq_1];simp only[ak,aq,ar,al,cb,bf];exact cy _ _ (by rw[<-an];rfl) g
   refine l0 anj rfl λQ cy=>?_;unfold YS;by_cases Z:x.kind=0\/x.kind=1\/x.kind=2\/x.kind=3\/x.kind=4\/x.kind=5
   ·have AQ:=λi=>anH i x.kind Z;have hy:¬x.kind<0:=by omega
    have gW:¬5<x.kind:=by omega
    by_cases am:(x.l.length:Nat)=lg x.kind
    ·have h1:(es.length:Int)=(lg x.kind:Int):=by rw[aE,am]
     have CO:jb x.kind x.n x.l.length=if(x.kind=0\/x.kind=2)/\x.n≠0 then 5 else if 3<=x.kind/\x.n<0 then 1 else 0:=by unfold jb;rw[if_neg (by omega),if_neg (by omega)]
     have L:=loop;rw[CO]at L cy;rw[h1]at L;by_cases aN:x.n=0
     ·rcases Z with Z|Z|Z|Z|Z|Z
      all_goals
       rw[Z]at h1 L cy AQ;simp only[lg,cC,if_false,if_true,Int.cast_ofNat_Int,aN,not_true,ne_eq,and_false,Int.lt_irrefl]at h1 L cy AQ;simp only[ak,aq,ar,al,tG,U,Z,aN,cC,Int.reduceLT,Int.reduceLE,ei.len,ei.fits,h1,AQ,Int.lt_irrefl];exact L trivial _ _ _ _ _ λV F e g=>cy _ _ _ e g rfl
     ·by_cases AO:x.n<0
      all_goals
       rcases Z with Z|Z|Z|Z|Z|Z
       all_goals
        rw[Z]at h1 L cy AQ;simp only[lg,cC,Int.reduceLE,if_false,if_true,Int.cast_ofNat_Int,aN,AO,not_true,not_false_eq_true,ne_eq,and_false,and_true,or_true,or_false,or_self]at h1 L cy AQ;simp only[ak,aq,ar,al,tG,U,Z,aN,AO,cC,Int.reduceLT,Int.reduceLE,ei.len,ei.fits,h1,AQ]
        first
         |exact cy _ _ _ rfl (by repeat (first|exact aB.refl _|refine aB.trans ?_ (aB.push _ _)|refine aB.trans ?_ (aB.fresh _ _))) rfl
         |exact L trivial _ _ _ _ _ λV F e g=>cy _ _ _ e g rfl
    ·have bC:jb x.kind x.n x.l.length=5:=by unfold jb;rw[if_neg (by omega),if_pos am]
     have h1:¬(es.length:Int)=(lg x.kind:Int):=by rw[aE];omega
     rw[bC]at cy;simp only[ak,aq,ar,al,tG,U,hy,gW,ei.len,ei.fits,AQ,h1];exact cy _ _ _ rfl (by repeat (first|exact aB.refl _|refine aB.trans ?_ (aB.push _ _)|refine aB.trans ?_ (aB.fresh _ _))) rfl
   ·have bC:jb x.kind x.n x.l.length=2:=by unfold jb;rw[if_pos (by omega)]
    rw[bC]at cy;by_cases hy:x.kind<0
    ·simp only[ak,aq,ar,al,tG,U,hy];exact cy _ _ _ rfl (by repeat (first|exact aB.refl _|refine aB.trans ?_ (aB.push _ _)|refine aB.trans ?_ (aB.fresh _ _))) rfl
    ·have gW:5<x.kind:=by omega
     simp only[ak,aq,ar,al,tG,U,hy,gW];exact cy _ _ _ rfl (by repeat (first|exact aB.refl _|refine aB.trans ?_ (aB.push _ _)|refine aB.trans ?_ (aB.fresh _ _))) rfl
theorem Km(he:bT x r):aQ ap W 47 [.agg r] h=o (.inl (.int j x.code),h):=by
 obtain⟨bt,bq⟩:=he.one;have au:=λh=>anu _ x (b4 _) r h 40 he (by omega) (by omega);have ax:=λh=>anI _ x (b4 _) r h he;by_cases aC:40<x.size
 ·have bc:sv 40 x.size= -1:=by rw[sv,if_neg (by omega)]
  have bY:x.code=3:=by rw[av.code,if_pos aC]
  rw[bY];simp only[bc]at au;refine l0 YP rfl λQ cy=>?_;unfold PV;simp only[ak,aq,ar,al,bt,bq,gX bq,au,Int.reduceLT];exact cy _ _ _ rfl (by repeat (first|exact aB.refl _|refine aB.trans ?_ (aB.push _ _)|refine aB.trans ?_ (aB.fresh _ _))) rfl
 ·have bc:¬sv 40 x.size<0:=by rw[sv,if_pos (by omega)];omega
  have bY:x.code=x.fault:=by rw[av.code,if_neg aC]
  rw[bY];refine l0 YP rfl λQ cy=>?_;unfold PV;simp only[ak,aq,ar,al,bt,bq,gX bq,au,bc,ax];exact cy _ _ _ rfl (by repeat (first|exact aB.refl _|refine aB.trans ?_ (aB.push _ _)|refine aB.trans ?_ (aB.fresh _ _))) rfl
theorem Kn(he:bT x r):aQ ap W 53 [.agg r] h=o (.inl (.int j x.code),h):=by
 obtain⟨bt,bq⟩:=he.one;have au:=λh=>anv _ x (b4 _) r h 40 he (by omega) (by omega);have ax:=λh=>anw _ x (b4 _) r h he;by_cases aC:40<x.size
 ·have bc:40<min (x.size:Int) (40+1):=by omega
  have bY:x.code=3:=by rw[av.code,if_pos aC]
  rw[bY];refine l0 Zk rfl λQ cy=>?_;unfold P9;simp only[ak,aq,ar,al,bt,bq,gX bq,au,bc];exact cy _ _ _ rfl (by repeat (first|exact aB.refl _|refine aB.trans ?_ (aB.push _ _)|refine aB.trans ?_ (aB.fresh _ _))) rfl
 ·have bc:¬40<min (x.size:Int) (40+1):=by omega
  have bY:x.code=x.fault:=by rw[av.code,if_neg aC]
  rw[bY];refine l0 Zk rfl λQ cy=>?_;unfold P9;simp only[ak,aq,ar,al,bt,bq,gX bq,au,bc,ax];exact cy _ _ _ rfl (by repeat (first|exact aB.refl _|refine aB.trans ?_ (aB.push _ _)|refine aB.trans ?_ (aB.fresh _ _))) rfl
theorem ZF{l b2:List av}{i:Nat}{y:av}(J:l[i]? =o x)(R:b2[i]? =o y):n7 (l.drop i) (b2.drop i)=(rr x y&&n7 (l.drop (i+1)) (b2.drop (i+1))):=by obtain⟨cE,rfl⟩:=fQ.1 J;obtain⟨c6,rfl⟩:=fQ.1 R;rw[va cE,va c6];rfl
theorem anJ(l b2:List av)(v w:E)(U:∀h,oh h v l)(hw:∀h,oh h w b2)(am:l.length<=100000)(an:∀x∈l,∀(y:av) (q ek:List E) (h:ag),bT x q->bT y ek->aQ ap W 19 [.agg q,.agg ek] h=o (.inl (.bool (rr x y)),h)):aQ ap W 30 [v,w] h=o (.inl (.bool (n7 l b2)),h):=by
 have p':=(U h).len;have mm:=(U h).fits;have qT:=(hw h).len;have wf:=(hw h).fits;cases a7:decide ((l.length:Int)=(b2.length:Int))
 ·rw[U' a7];refine l0 J5 rfl λQ cy=>?_;unfold FK;simp only[ak,aq,ar,al,p',mm,qT,wf,a7];exact cy _ _ _ rfl (by repeat (first|exact aB.refl _|refine aB.trans ?_ (aB.push _ _)|refine aB.trans ?_ (aB.fresh _ _))) rfl
 ·have oj:l.length=b2.length:=by have:=of_decide_eq_true a7;omega
  refine l0 J5 rfl λQ cy=>?_;unfold FK;simp only[ak,aq,ar,al,p',mm,qT,wf,a7];refine oe (λi V F=>∃du b7 dd,V=[v,w,.bool T,.int j (i:Nat),du,b7,dd]/\aB h F/\n7 (l.drop i) (b2.drop i)=n7 l b2) l.length ⟨_,_,_,rfl,aB.refl _,rfl⟩ ?_ ?_
  ·rintro i V F af ⟨du,b7,dd,rfl,g,aC⟩ next
   have bf:(i:Int)<(l.length:Int):=by omega
   have Qg:=eL (n:=(i:Int)+1) (by omega) (by omega);obtain⟨x,aw⟩:=qS af;obtain⟨y,bE⟩:=qS (l:=b2) (i:=i) (by omega);obtain⟨a,q,i1,gt,b3⟩:=(U F).bV i x aw;obtain⟨b,ek,gm,fA,fs⟩:=(hw F).bV i y bE;have au:=an x (nb aw) y q ek F b3 fs;rw[ZF aw bE]at aC;cases ab:rr x y
   ·rw[ab]at au aC;rw[Bool.false_and]at aC;rw[cV AN.eq_1];simp only[ak,aq,ar,al,cb,p',mm,bf,i1,gt _ (aB.refl F),gm,fA _ (aB.refl F),au];exact cy _ _ _ rfl g (by rw[<-aC];rfl)
   ·rw[ab]at au aC;rw[Bool.true_and]at aC;rw[cV AN.eq_1];simp only[ak,aq,ar,al,cb,p',mm,bf,i1,gt _ (aB.refl F),gm,fA _ (aB.refl F),au,Qg];exact next _ _ ⟨_,_,_,rfl,g,aC⟩
  ·rintro V F ⟨du,b7,dd,rfl,g,aC⟩;have bf:¬((l.length:Int)<(l.length:Int)):=by omega
   rw[sw,oj,sw]at aC;rw[cV AN.eq_1];simp only[ak,aq,ar,al,cb,p',mm,bf];exact cy _ _ _ rfl g (by rw[<-aC];rfl)
theorem Ko:∀(N:Nat) (x:av),kL x<=N->x.size<=100000->∀(y:av) (q ek:List E) (h:ag),bT x q->bT y ek->aQ ap W 19 [.agg q,.agg ek] h=o (.inl (.bool (rr x y)),h):=by
 intro N;induction N with
 |zero=>intro x aw;have:=x.mf;omega
 |succ N aZ=>
   intro x aw eJ y q ek h aW nq;obtain⟨v,es,rfl,aC,am⟩:=aW.row;obtain⟨w,gk,rfl,w7,h1⟩:=nq.row;have a4:∀h,oh h v x.l:=λh=>oh.of aC am;have ZG:∀h,oh h w y.l:=λh=>oh.of w7 h1;have hlen:=x.p0;have au:=λh=>anJ (h:=h) x.l y.l v w a4 ZG (by omega) (λz aN y q ek h=>aZ z (by have:=av.mF aN;omega) (by have:=av.ph aN;omega) y q ek h);have bt:=(a4 h).one;have bq:=(ZG h).one;rw[akT];refine l0 anp rfl λQ cy=>?_;unfold Y7;cases Z:decide (x.kind=y.kind)
   ·simp only[ak,aq,ar,al,bt,bq,Z];exact cy _ _ _ rfl (by repeat (first|exact aB.refl _|refine aB.trans ?_ (aB.push _ _)|refine aB.trans ?_ (aB.fresh _ _))) (by rw[Z];rfl)
   ·cases aE:decide (x.n=y.n)
    ·simp only[ak,aq,ar,al,bt,bq,Z,aE];exact cy _ _ _ rfl (by repeat (first|exact aB.refl _|refine aB.trans ?_ (aB.push _ _)|refine aB.trans ?_ (aB.fresh _ _))) (by rw[Z,aE];rfl)
    ·simp only[ak,aq,ar,al,bt,bq,Z,aE,au];exact cy _ _ _ rfl (by repeat (first|exact aB.refl _|refine aB.trans ?_ (aB.push _ _)|refine aB.trans ?_ (aB.fresh _ _))) (by rw[Z,aE];rfl)
def Kp(V:List E):E:=V.getD 2 .az
theorem anK:∀(N:Nat) (x:av),kL x<=N->x.size<=100000->∀(r:List E) (h:ag),bT x r->aQ ap W 165 [.agg r] h=o (.inl (i2 3 (gl x.hC)),h):=by
 intro N;induction N with
 |zero=>intro x aw;have:=x.mf;omega
 |succ N aZ=>
   intro x aw eJ r h he;obtain⟨v,es,rfl,ei,U,aE,eV⟩:=he.facts;have hlen:=x.p0;have aC:=x.size_eq;have rest:∀(Q:ls->Prop) (aj:ag) (AR:E) (cp:List Int) (b7 dd:E),Acc h aj 3 AR (gl cp)->aB h aj->h.n<aj.n->aj.cell h.n=o [[.int j x.kind,.int j x.n,v]]->cp.length<=1->(∀V F,(iF V F [.v 2]).map iV=o (Kp V)->aB h F->c7 (Kp V)=o (i2 3 (gl (cp++m4 x.l)))->Q (o (.ret,V,F)))->Q (bB (aQ ap W) 7 (.e' J9::.bP []::.cm 0::[.bP [.ops [cR,jv],.ret]]) [.agg [.int j x.kind,.int j x.n,v],.ptr h.n 0 0,.aA,AR,.int j 0,b7,dd] [] aj):=by
    intro Q aj AR cp b7 dd Qh rn AS hy yg cy;refine oe (λi V F=>∃acc jm,V=[.agg [.int j x.kind,.int j x.n,v],.ptr h.n 0 0,.aA,acc,.int j (i:Nat),b7,jm]/\aB h F/\h.n<F.n/\F.cell h.n=o [[.int j x.kind,.int j x.n,v]]/\Acc h F 3 acc (gl (cp++m4 (x.l.take i)))) x.l.length ⟨_,_,rfl,rn,AS,hy,by simpa[m4]using Qh⟩ ?_ ?_
    ·rintro i V F af ⟨acc,jm,rfl,g,hm,aP,aX⟩ next
     have bf:(i:Int)<(es.length:Int):=by rw[aE];omega
     obtain⟨y,bE⟩:=qS af;obtain⟨q,i1,d1,b3⟩:=eV i y bE;obtain⟨bt,bq⟩:=b3.one;have hw:=eL (n:=(i:Int)+1) (by omega) (by omega);have au:=aZ y (by have:=av.mF (nb bE);omega) (by have:=av.ph (nb bE);omega) q F b3;have pt:=Iq (x.l.take i);have sx:=Ka x.l i;have gQ:=y.Es;have ZH:=av.ph (nb bE);obtain⟨ko,R,ax,aR,a5,bp,cA⟩:=I9 (h:=F) aX g (OY 3 (gl y.hC)) (OZ _) (by simp only[fa,ff];omega) (by simp only[fa];omega);have Qi:Acc h R 3 ko (gl (cp++m4 (x.l.take (i+1)))):=by rw[Aq bE,NQ,<-k'];simpa[m4]using aR
     rw[cV J9.eq_1];simp only[ak,aq,ar,al,cb,aP,ei.len,ei.fits,bf,i1,d1,au,ax,hw];exact next _ _ ⟨_,_,rfl,a5,by rw[cA];exact hm,by rw[bp];exact aP,Qi⟩
    ·rintro V F ⟨acc,jm,rfl,g,hm,aP,aX⟩;have bf:¬((x.l.length:Int)<(es.length:Int)):=by rw[aE];omega
     rw[List.take_length]at aX;have qU:=Ce aX (λr ao=>by obtain⟨n,_,rfl⟩:=o8.1 ao;rfl);rw[cV J9.eq_1];simp only[ak,aq,ar,al,cb,aP,ei.len,ei.fits,bf];exact cy _ _ rfl g qU
   rw[x.Va];refine l0 ans rfl λQ cy=>?_;unfold Zm;by_cases aD:x.kind=4
   ·rw[aD]at rest;have L:=rest;have aR:Acc h ((h.push [[.int j 4,.int j x.n,v]]).fresh 1) 3 (.b0 (o h.ids) 3 [[.int j x.n]]) (gl [x.n]):=.inr ⟨h.ids,by simp,b4 _,by simp[ag.fresh,ag.push],by simp[ag.fresh,ag.push],rfl⟩;have a5:aB h ((h.push [[.int j 4,.int j x.n,v]]).fresh 1):=(by repeat (first|exact aB.refl _|refine aB.trans ?_ (aB.push _ _)|refine aB.trans ?_ (aB.fresh _ _)));have bp:((h.push [[.int j 4,.int j x.n,v]]).fresh 1).cell=(h.push [[.int j 4,.int j x.n,v]]).cell:=rfl;have cA:((h.push [[.int j 4,.int j x.n,v]]).fresh 1).n=(h.push [[.int j 4,.int j x.n,v]]).n:=rfl;have au:True:=trivial;simp only[ak,aq,ar,al,U,aD];refine L _ _ _ [x.n] _ _ aR a5 (by rw[cA];simp only[ey];omega) (by rw[bp];exact iG) (by simp) λV F e g w=>cy _ _ _ e g ?_;rw[w];simp[aD]
   ·simp only[ak,aq,ar,al,U,aD];refine rest _ _ _ [] _ _ (uF _ _ _) (by repeat (first|exact aB.refl _|refine aB.trans ?_ (aB.push _ _)|refine aB.trans ?_ (aB.fresh _ _))) (by simp only[ey];omega) iG (by simp) λV F e g w=>cy _ _ _ e g ?_;rw[w];simp[aD]
theorem anL:∀(N:Nat) (x:av),kL x<=N->x.size<=100000->∀(r:List E) (h:ag),bT x r->aQ ap W 143 [.agg r] h=o (.inl (i2 3 (gl x.hC)),h):=by
 intro N;induction N with
 |zero=>intro x aw;have:=x.mf;omega
 |succ N aZ=>
   intro x aw eJ r h he;obtain⟨v,es,rfl,ei,U,aE,eV⟩:=he.facts;have hlen:=x.p0;have aC:=x.size_eq;have rest:∀(Q:ls->Prop) (aj:ag) (AR:E) (cp:List Int) (b7:E),Acc h aj 3 AR (gl cp)->aB h aj->h.n<aj.n->aj.cell h.n=o [[.int j x.kind,.int j x.n,v]]->cp.length<=1->(∀V F,(iF V F [.v 2]).map iV=o (Kp V)->aB h F->c7 (Kp V)=o (i2 3 (gl (cp++m4 x.l)))->Q (o (.ret,V,F)))->Q (bB (aQ ap W) 10 (.e' J3::.bP []::.cm 0::[.bP [.ops [cR,jv],.ret]]) [.agg [.int j x.kind,.int j x.n,v],.ptr h.n 0 0,.aA,AR,.az,b7,v,.int j es.length,.int j 0,.az] [] aj):=by
    intro Q aj AR cp b7 Qh rn AS hy yg cy;refine oe (λi V F=>∃acc gH wb,V=[.agg [.int j x.kind,.int j x.n,v],.ptr h.n 0 0,.aA,acc,gH,b7,v,.int j es.length,.int j (i:Nat),wb]/\aB h F/\h.n<F.n/\F.cell h.n=o [[.int j x.kind,.int j x.n,v]]/\Acc h F 3 acc (gl (cp++m4 (x.l.take i)))) x.l.length ⟨_,_,_,rfl,rn,AS,hy,by simpa[m4]using Qh⟩ ?_ ?_
    ·rintro i V F af ⟨acc,gH,wb,rfl,g,hm,aP,aX⟩ next
     have bf:(i:Int)<(es.length:Int):=by rw[aE];omega
     obtain⟨y,bE⟩:=qS af;obtain⟨q,i1,d1,b3⟩:=eV i y bE;obtain⟨bt,bq⟩:=b3.one;have hw:=eL (n:=(i:Int)+1) (by omega) (by omega);have au:=aZ y (by have:=av.mF (nb bE);omega) (by have:=av.ph (nb bE);omega) q (F.push [q]) b3;have pt:=Iq (x.l.take i);have sx:=Ka x.l i;have gQ:=y.Es;have ZH:=av.ph (nb bE);obtain⟨ko,R,ax,aR,a5,bp,cA⟩:=I9 (h:=(F.push [q])) (show Acc h (F.push [q]) _ acc _ from aX) (g.trans (aB.push _ _)) (OY 3 (gl y.hC)) (OZ _) (by simp only[fa,ff];omega) (by simp only[fa];omega);have Qi:Acc h R 3 ko (gl (cp++m4 (x.l.take (i+1)))):=by rw[Aq bE,NQ,<-k'];simpa[m4]using aR
     rw[cV J3.eq_1];simp only[ak,aq,ar,al,cb,bf,i1,d1,bt,bq,au,ax,hw];exact next _ _ ⟨_,_,_,rfl,a5,by rw[cA];(show _<F.n+1;omega),by rw[bp];(exact(ir hm).trans aP),Qi⟩
    ·rintro V F ⟨acc,gH,wb,rfl,g,hm,aP,aX⟩;have bf:¬((x.l.length:Int)<(es.length:Int)):=by rw[aE];omega
     rw[List.take_length]at aX;have qU:=Ce aX (λr ao=>by obtain⟨n,_,rfl⟩:=o8.1 ao;rfl);rw[cV J3.eq_1];simp only[ak,aq,ar,al,cb,bf];exact cy _ _ rfl g qU
   rw[x.Va];refine l0 anl rfl λQ cy=>?_;unfold YZ;by_cases aD:x.kind=4
   ·rw[aD]at rest;have L:=rest;obtain⟨axo,J,au,aR,a5,bp,cA⟩:=mp (aj:=h) (h:=h.push [[.int j 4,.int j x.n,v]]) (uF h _ 3) (by repeat (first|exact aB.refl _|refine aB.trans ?_ (aB.push _ _)|refine aB.trans ?_ (aB.fresh _ _))) (row:=[.int j x.n]) rfl (by simp);simp only[i4]at au;simp only[ak,aq,ar,al,U,aD,ei.len,ei.fits,au,bp];refine L _ _ _ [x.n] _ aR a5 (by rw[cA];simp only[ey];omega) (by rw[bp];exact iG) (by simp) λV F e g w=>cy _ _ _ e g ?_;rw[w];simp[aD]
   ·simp only[ak,aq,ar,al,U,aD,ei.len,ei.fits];refine rest _ _ _ [] _ (uF _ _ _) (by repeat (first|exact aB.refl _|refine aB.trans ?_ (aB.push _ _)|refine aB.trans ?_ (aB.fresh _ _))) (by simp only[ey];omega) iG (by simp) λV F e g w=>cy _ _ _ e g ?_;rw[w];simp[aD]
theorem anM{l:List av}{i:Nat}{y:av}(h:l[i]? =o y):vS (l.drop i)=(y.gate||vS (l.drop (i+1))):=by obtain⟨af,rfl⟩:=fQ.1 h;rw[va af];rfl
theorem anN:∀(N:Nat) (x:av),kL x<=N->x.size<=100000->∀(r:List E) (h:ag),bT x r->aQ ap W 164 [.agg r] h=o (.inl (.bool x.gate),h):=by
 intro N;induction N with
 |zero=>intro x aw;have:=x.mf;omega
 |succ N aZ=>
   intro x aw eJ r h he;obtain⟨v,es,rfl,ei,U,aE,eV⟩:=he.facts;have hlen:=x.p0;rw[x.Vb];refine l0 ant rfl λQ cy=>?_;unfold Zo;simp only[ak,aq,ar,al,U];refine oe (λi V F=>∃du b7,V=[.agg [.int j x.kind,.int j x.n,v],.ptr h.n 0 0,.bool T,.int j (i:Nat),du,b7]/\F=h.push [[.int j x.kind,.int j x.n,v]]/\vS (x.l.drop i)=vS x.l) x.l.length ⟨_,_,rfl,rfl,rfl⟩ ?_ ?_
   ·rintro i V F af ⟨du,b7,rfl,rfl,an⟩ next
    have bf:(i:Int)<(es.length:Int):=by rw[aE];omega
    obtain⟨y,bE⟩:=qS af;obtain⟨q,i1,d1,b3⟩:=eV i y bE;have hw:=eL (n:=(i:Int)+1) (by omega) (by omega);have au:=aZ y (by have:=av.mF (nb bE);omega) (by have:=av.ph (nb bE);omega) q (h.push [[.int j x.kind,.int j x.n,v]]) b3;rw[anM bE]at an;cases ab:y.gate
    ·rw[ab]at au an;rw[Bool.false_or]at an;rw[cV J'.eq_1];simp only[ak,aq,ar,al,cb,ei.len,ei.fits,bf,i1,d1,au,hw];exact next _ _ ⟨_,_,rfl,rfl,an⟩
    ·rw[ab]at au an;rw[Bool.true_or]at an;rw[cV J'.eq_1];simp only[ak,aq,ar,al,cb,ei.len,ei.fits,bf,i1,d1,au];exact cy _ _ _ rfl (by repeat (first|exact aB.refl _|refine aB.trans ?_ (aB.push _ _)|refine aB.trans ?_ (aB.fresh _ _))) (by rw[<-an,Bool.or_true];rfl)
   ·rintro V F ⟨du,b7,rfl,rfl,an⟩;have bf:¬((x.l.length:Int)<(es.length:Int)):=by rw[aE];omega
    rw[sw]at an;rw[cV J'.eq_1];simp only[ak,aq,ar,al,cb,ei.len,ei.fits,bf];exact cy _ _ _ rfl (by repeat (first|exact aB.refl _|refine aB.trans ?_ (aB.push _ _)|refine aB.trans ?_ (aB.fresh _ _))) (by rw[<-an];show _=o (E.bool (decide _||T));rw[Bool.or_false];rfl)
theorem anO(v:E)(l:List av)(U:∀h,oh h v l)(am:l.length<=100000)(g:c')(p:av->Bool)(bl:∀y∈l,∀q h,bT y q->aQ ap W g [.agg q] h=o (.inl (.bool (p y)),h)):∃n:Int,aQ ap W 166 [v,.fn g [] []] h=o (.inl (.int j n),h)/\decide (0<=n)=l.any p:=by
 suffices key:∃bs,aQ ap W 166 [v,.fn g [] []] h=o (.inl bs,h)/\∃n:Int,bs= .int j n/\decide (0<=n)=l.any p by obtain⟨_,e,n,rfl,R⟩:=key;exact⟨n,e,R⟩
 have p':=(U h).len;have mm:=(U h).fits;refine OW ano rfl λQ cy=>?_;unfold Y6;simp only[ak,aq,ar,al,p',mm];refine oe (λi V F=>∃cn hB dd eB,V=[v,.fn g [] [],cn,hB,.int j l.length,.int j (i:Nat),dd,eB]/\aB h F/\(l.drop i).any p=l.any p) l.length ⟨_,_,_,_,rfl,aB.refl _,rfl⟩ ?_ ?_
 ·rintro i V F af ⟨cn,hB,dd,eB,rfl,g,an⟩ next
  have bf:(i:Int)<(l.length:Int):=by omega
  obtain⟨y,bE⟩:=qS af;obtain⟨a,q,i1,gt,b3⟩:=(U F).bV i y bE;have hw:=eL (n:=(i:Int)+1) (by omega) (by omega);have au:=bl y (nb bE) q F b3;have a7:(l.drop i).any p=(p y||(l.drop (i+1)).any p):=by obtain⟨eR,rfl⟩:=fQ.1 bE;rw[va eR,List.any_cons]
  rw[a7]at an;cases ab:p y
  ·rw[ab]at au an;rw[Bool.false_or]at an;rw[cV J4.eq_1];simp only[ak,aq,ar,al,cb,bJ,n3,bf,i1,gt _ (aB.refl F),au,hw];exact next _ _ ⟨_,_,_,_,rfl,g,an⟩
  ·rw[ab]at au an;rw[Bool.true_or]at an;rw[cV J4.eq_1];simp only[ak,aq,ar,al,cb,bJ,n3,bf,i1,gt _ (aB.refl F),au];exact cy _ _ _ _ rfl g rfl ⟨i,rfl,by rw[<-an];simp⟩
 ·rintro V F ⟨cn,hB,dd,eB,rfl,g,an⟩;have bf:¬((l.length:Int)<(l.length:Int)):=by omega
  rw[sw]at an;rw[cV J4.eq_1];simp only[ak,aq,ar,al,cb,bf];exact cy _ _ _ _ rfl g rfl ⟨-1,rfl,by rw[<-an];rfl⟩
theorem anP:∀(N:Nat) (x:av),kL x<=N->x.size<=100000->∀(r:List E) (h:ag),bT x r->aQ ap W 142 [.agg r] h=o (.inl (.bool x.gate),h):=by
 intro N;induction N with
 |zero=>intro x aw;have:=x.mf;omega
 |succ N aZ=>
   intro x aw eJ r h he;obtain⟨v,es,rfl,aC,am⟩:=he.row;have a4:∀h,oh h v x.l:=λh=>oh.of aC am;have hlen:=x.p0;have bt:=(a4 h).one;have au:∀h,aQ ap W 157 [v,.fn 142 [] []] h=o (.inl (.bool (vS x.l)),h):=by intro h;obtain⟨n,dV,ax⟩:=anO (h:=h) v x.l a4 (by omega) 142 av.gate (λy bE q h aW=>aZ y (by have:=av.mF bE;omega) (by have:=av.ph bE;omega) q h aW);rw[Vc,<-ax];refine l0 ann rfl λQ cy=>?_;unfold Y2;simp only[ak,aq,ar,al,dV];exact cy _ _ _ rfl (by repeat (first|exact aB.refl _|refine aB.trans ?_ (aB.push _ _)|refine aB.trans ?_ (aB.fresh _ _))) rfl
   rw[x.Vb];refine l0 anm rfl λQ cy=>?_;unfold Y1;cases Z:decide (x.kind=5)
   ·simp only[ak,aq,ar,al,bt,Z,au];exact cy _ _ _ rfl (by repeat (first|exact aB.refl _|refine aB.trans ?_ (aB.push _ _)|refine aB.trans ?_ (aB.fresh _ _))) (by rw[Z];rfl)
   ·simp only[ak,aq,ar,al,bt,Z];exact cy _ _ _ rfl (by repeat (first|exact aB.refl _|refine aB.trans ?_ (aB.push _ _)|refine aB.trans ?_ (aB.fresh _ _))) (by rw[Z];rfl)
end
theorem Qj{e:a6}{b n m:Nat}(hm:m<=n):wP (.bn b 0 n e) ad (o (.int j (m:Int)))=o (.bn b 0 m e):=by simp[wP,zH,BD,hX,wO,hm]
abbrev aU:List E:=[.int j 0,.int j 0,.aA]
section
variable{h F aj:ag}{ae ai aJ aG:Nat->Prop}{L:List b6}{bw aO bk:Nat}{left:Int}{below:List iO}{top:iO}
theorem oP(f:iO)(a:List E)(s n g:E)(aX:a.length=3):(g7 f a s n g)[6]? =o s/\(g7 f a s n g).length=10/\(g7 f a s n g)[7]? =o n/\(g7 f a s n g)[9]? =o g/\(g7 f a s n g)[8]? =o (.bool f.asked)/\(g7 f a s n g)[0]? =o (.int j f.bI)/\(g7 f a s n g)[1]? =o (.int j f.f)/\(g7 f a s n g)[2]? =o (.int j (f.bO:Int)):=by
 match a,aX with
 |[x,y,z],_=>exact⟨rfl,rfl,rfl,rfl,rfl,rfl,rfl,rfl⟩
theorem Kq{f:iO}{a:List E}{s n g:E}(aX:a.length=3/\a.all E.one=O)(aC:s.one=O)(aE:n.one=O)(a8:g.one=O):(g7 f a s n g).all E.one=O:=by simp only[g7,List.all_append,aX.2,aC,aE,a8,pO,List.all_nil,pZ];rfl
theorem ZI(f:iO)(a:List E)(s n g ew:E)(st:List av)(aX:a.length=3):(g7 f a s n g).set 6 ew=g7 {f with stack:=st} a ew n g:=by
 match a,aX with
 |[x,y,z],_=>rfl
theorem FU{α:Type}{A B:List α}{x:α}{k:Nat}(Z:A.length=k):(A++x::B)[k]? =o x:=WZ A B x Z.symm
theorem ZJ{α:Type}{A B:List α}{x y:α}{k:Nat}(Z:A.length=k):(A++x::B).set k y=A++y::B:=OX A B x y Z.symm
theorem anQ(gG:aK aj aJ aG h L)(i:Nat)(af:L[i]? =o (jc bw aO bk left below top)){v:av}(U:bT v r)(ab:below.length<=1000)(bS:top.stack.length<=1000000):∃F,aQ ap W oO [.ptr bw 0 0,.agg r] h=o (.inl (.bU []),F)/\aK aj aJ aG F (L.set i (jc bw aO bk left below {top with stack:=top.stack++[v]})):=by refine gG.call (cF:=λF=>aQ ap W oO [.ptr bw 0 0,.agg r] h=o (.inl (.bU []),F)) i af λae ai x=>?_;obtain⟨rs,ex,a,dm,aL,g,gP,aX,a8,s⟩:=Au x;have aV:=(s.hb (aB.push h [r])).hb (aB.push (h.push [r]) [r]);have aN:((h.push [r]).push [r]).cell (h.n+1)=o [r]:=iG;obtain⟨ah,bc,br⟩:=aV.app 2 rfl aN U bS;have kC:=s.cell 0 rfl;have bM:=s.cell 1 rfl;have de:=(br.cell 1 rfl).1;have i5:=oP top a dm aL g aX.cD.1;have run:=ana (ew:=.bn ((h.push [r]).push [r]).n 0 (top.stack.length+1) bG) ab U.cD kC.2 bM.2 kC.1 bM.1 (FU gP) i5.1 i5.2.1 bc de rfl rfl;rw[ZI _ _ _ _ _ _ (top.stack++[v]) aX.cD.1,ZJ gP]at run;have bz:=br.set 1 rfl [rs++g7 {top with stack:=top.stack++[v]} a (.bn ((h.push [r]).push [r]).n 0 (top.stack.length+1) bG) aL g::ex].flatten;exact⟨_,run,CA (top:={top with stack:=top.stack++[v]}) aX a8 (by simpa using bz)⟩
theorem Kr{rs ex:List (List E)}{row Qk:List E}{k D:Nat}{v:E}(an:R.cell bk=o (rs++row::ex))(Z:rs.length=k)(J:v.one=O)(U:v.cells=[v])(aa:D<row.length)(ao:row.set D v=Qk):eQ 1 R (.ptr bk k D) v=o (R.set bk (o (rs++Qk::ex))):=by
 rw[lc an (FU Z) (by rw[U];simpa using J) (by rw[U];rfl) (by omega),ZJ Z,U];have:dh row D [v]=Qk:=by
  rw[<-ao];unfold dh;refine List.ext_getElem? λi=>?_;have:=xc row [v] D i (by simp only[gM];omega);unfold dh at this;rw[this];by_cases e:i=D
  ·subst e;simp[aa]
  ·rw[if_neg (by simp only[gM];omega),List.getElem?_set_ne (by omega)]
 rw[this]
theorem FV{rs ex:List (List E)}{row:List E}{k D n:Nat}{v:E}(an:R.cell bk=o (rs++row::ex))(Z:rs.length=k)(ao:row[D]? =o v):cS T n R (.ptr bk k D)=o v:=by rw[fL,an,c2,FU Z,c2,gi,ao]
theorem anR(gG:aK aj aJ aG h L)(i:Nat)(af:L[i]? =o (jc bw aO bk left below top)){st:List av}{v:av}(bS:top.stack=st++[v])(ab:below.length<=1000)(am:st.length<=1000000):∃F,(∃r,aQ ap W 90 [.ptr bw 0 0] h=o (.inl (.agg r),F)/\bT v r)/\aK aj aJ aG F (L.set i (jc bw aO bk left below {top with stack:=st})):=by
 refine gG.call (cF:=λF=>∃r,aQ ap W 90 [.ptr bw 0 0] h=o (.inl (.agg r),F)/\bT v r) i af λae ai x=>?_;obtain⟨rs,ex,a,dm,aL,g,gP,aX,a8,s⟩:=Au x;have bg:=s.push [aU];obtain⟨ez,eA,b3⟩:=bg.get 3 rfl;rw[bS]at b3;have hlen:(st++[v]).length=st.length+1:=by simp
 obtain⟨b,ZK⟩:=EQ b3 (by simp);rw[hlen]at ZK;subst ZK;have rd:=Aw b3;obtain⟨p,r,dA,ft,iM⟩:=rd.2.2.2.2 j st.length v (by simp);have i5:=oP top a (.bn b 0 (st.length+1) bG) aL g aX.cD.1;have w:kK j (((st.length+1:Nat):Int) - 1)=(st.length:Int):=Ar (by omega) (by omega) (by omega);have sx:=Qj (e:=bG) (b:=b) (n:=st.length+1) (m:=st.length) (by omega);have dM:=JP (bg.cell 1 rfl).1 ab;have cK:=λn=>FV (n:=n) (bg.cell 2 rfl).1 gP i5.1;have aV:=bg.push [aU];have br:=bg.push [r];have jS:=λn=>FV (n:=n) (br.cell 3 rfl).1 gP i5.1;have ZL:=Kr (v:=.bn b 0 st.length bG) (br.cell 3 rfl).1 gP rfl rfl (by rw[i5.2.1];decide) (ZI _ _ _ _ _ _ st aX.cD.1);have bz:=br.set 3 rfl (rs++g7 {top with stack:=st} a (.bn b 0 st.length bG) aL g::ex);have aP:=(aV.cell 0 rfl).1;have dU:=(bz.cell 0 rfl).1;have gg:=(bz.cell 1 rfl).1;have b8:=bz.set 1 rfl [r];have ic:=(b8.cell 1 rfl).1;have uu:b5 6 (.ptr bk below.length 0)=o (.ptr bk below.length 6):=rfl;have cM:aK h ae ai _ (E8 bw aO bk left below {top with stack:=st} rs ex a (.bn b 0 st.length bG) aL g):=b8.drop.drop.Xr 2 rfl λ_ _ _ x=>by rw[bS]at x;exact Xq x
 refine⟨_,⟨r,?_,iM⟩,CA (top:={top with stack:=st}) aX a8 cM⟩;simp only[ey]at aP dU gg ic ZL jS;refine a2 amy rfl ?_;unfold Xv;simp only[ak,aq,ar,al,bJ,dM,cK,dA,ft,w,sx,iM.cD.1,iM.cD.2,aP,jS,ZL,dU,gg,uu]
end
def ZM:List be:=[ts,.ops [bd,bd,cu,dB,aM,cW,gT,cR,.i .l (.build [.int j 0,.int j 0,.int j 0] [(0,1),(1,1),(2,1)] [(0,(.l 2)),(1,(.l 1)),(2,(.l 0))]),.i .l (.lr O 184 [.int j 0,.int j 0,.int j 0] 3 1 [(0,(.l 0))]),.i .l (.app O 184 (.l 5) (.l 0)),IE,dB,l1],.ops [bd,cu,dB,aM,ZN,mh,jl],.ret]
theorem anS:cq ap W 80 4 5 [0,1,2,3,8] ZM [(.v 4)] T:=by refine⟨_,_,Tryz.func80,rfl,rfl,?_,?_,?_,?_,?_⟩<;>kernel_rfl
def ZO:List be:=[.ops [bd,cu,dB,aM,cW,bd,cu,dB,aM,ZN,.i .l (.fG (o 184) ad (.l 6) (.l 5)),gU,l1]]
theorem anT:cq ap W 107 2 2 [0,1] ZO [] T:=by refine⟨_,_,Tryz.func107,rfl,rfl,?_,?_,?_,?_,?_⟩<;>kernel_rfl
def Ql:List be:=[Kc,.cond (.v 10) [] [.exit 1],.block 2 [.ops [Qm,lC,.i (.v 5) Qn,.i .n (.store 4 (.v 5) (.l 0))],.ops [bd,.i .l (.load O 4 (.v 5)),ZP]],Kd]
def Ks:List be:=[.ops [.i (.v 2) (.box 4 (.v 1))],.ops [bd,.i .l (.call (.c (.fn 80 [] [])) [.l 0,.c (.int j 100),.c (.int j 0),.c (.int j 0)])],.ops [rF,Fu],.block 0 [.ops [Zh,xA],.cond (.v 11) [ZQ,.ops [bd,.i .l (.call (.c (.fn 80 [] [])) [.l 0,.c (.int j 101),.c (.int j 0),.c (.int j 0)])],ZR,.ops [bd,.i .l (.call (.c (.fn 80 [] [])) [.l 0,.c (.int j 102),.c (.int j 0),.c (.int j 0)])]] [.ops [.i .l (.bin (.int j) .eql (.v 6) (.c (.int j 7))),y8],.cond (.v 12) [ZQ,.ops [bd,.i .l (.call (.c (.fn 80 [] [])) [.l 0,.c (.int j 103),.c (.int j 0),.c (.int j 0)]),jk],ZR,.ops [bd,.i .l (.call (.c (.fn 80 [] [])) [.l 0,.c (.int j 104),.c (.int j 0),.c (.int j 0)]),jl],.ops [bd,cR,ZS],.ops [bd,qa,aM,ZT,lC,Qo],.ops [bd,fb,ZS]] [.ops [qa,Fq,Qp,CP],.block 1 [.loop Ql],.ops [bd,rF,aM,nD,aM,tq,aM,.i .l (.call (.c (.fn 80 [] [])) [.l 6,.l 4,.l 2,.l 0])]]]]]
theorem Qq:cq ap W 79 2 13 [0,1,3,4,5,7,11,13,14,15,16,31,49] Ks [] T:=by refine⟨_,_,Tryz.func79,rfl,rfl,?_,?_,?_,?_,?_⟩<;>kernel_rfl
def Qr:List be:=[.ops [YQ],.cond (.v 12) [] [.exit 0],.block 1 [.ops [.i .l (.fG (o 109) ad (.v 9) (.v 11)),lC,ZU,ZV],.ops [.i .l (.build [.aA] [(0,1)] []),.i .l (.box 1 (.l 0)),mI],.ops [j7,Qs,ZP],.ops [j7,.i .l (.call (.c (.fn 80 [] [])) [.l 0,.c (.int j 105),.c (.int j 0),.c (.int j 0)])],.ops [hK,j7,cu,dB,aM,.i .l (.lr T 174 [.aA] 1 1 [(0,(.l 0))]),.i .l (.app T 174 (.l 5) (.l 0)),jT]],.ops [YR,xA]]
def Kt:List be:=[.ops [FW,FJ,.i (.v 3) JD],.ops [Qt,.i .l (.call (.c (.fn 78 [] [])) [.l 0]),.i (.v 4) JD,.i .n (.store 2 (.v 4) (.l 0))],.ops [sq,aM,JE],.cond (.v 8) [.ops [.i .l (.load O 2 (.v 4)),FJ,ZW],.ret] [],.ops [.i (.v 5) (.a4 (.c .aA))],.ops [ml,YV,.i (.v 10) (.len T (o 109) (.v 9)),P2],.block 0 [.loop Qr],.ops [hK,FX,.i (.v 2) vb,ZW],.ret]
def ZX:List be:=[.ops [Af],.ops [bd,FY,cl,WG,.g (.l 1) T .l (.bin (.int j) .gtr (.l 0) (.c (.int j 21))),.i (.v 2) IW],.cond (.v 2) [.ops [ZY],.ret] [],.ops [.i .l (.build [.int j 0,.int j 0,.int j 0,.int j 0,.int j 0,.int j 0,.int j 0,.int j 0,.int j 0,.int j 0,.int j 0,.int j 0,.int j 0,.int j 0,.int j 0,.int j 0,.int j 0,.int j 0,.int j 0,.int j 0,.int j 0,.int j 0] [(0,1),(1,1),(2,1),(3,1),(4,1),(5,1),(6,1),(7,1),(8,1),(9,1),(10,1),(11,1),(12,1),(13,1),(14,1),(15,1),(16,1),(17,1),(18,1),(19,1),(20,1),(21,1)] [(0,(.c (.int j 0))),(1,(.c (.int j 0))),(2,(.c (.int j 0))),(3,(.c (.int j 0))),(4,(.c (.int j 0))),(5,(.c (.int j 2))),(6,(.c (.int j 2))),(7,(.c (.int j 3))),(8,(.c (.int j 2))),(9,(.c (.int j 1))),(10,(.c (.int j 1))),(11,(.c (.int j 1))),(12,(.c (.int j 1))),(13,(.c (.int j 1))),(14,(.c (.int j 2))),(15,(.c (.int j 1))),(16,(.c (.int j 1))),(17,(.c (.int j 1))),(18,(.c (.int j 1))),(19,(.c (.int j 2))),(20,(.c (.int j 1))),(21,(.c (.int j 0)))]),bd,.i .l (.bV T (o (22,(1,T))) (.l 1) (.l 0)),oK],.ret]
theorem anU:cq ap W 123 1 3 [0,2,8] ZX [(.v 1)] O:=by refine⟨_,_,Tryz.func123,rfl,rfl,?_,?_,?_,?_,?_⟩<;>kernel_rfl
def Ku:List be:=[.ops [cW,cl,xu,Oh,Oi,Cn,.g (.l 4) O .l Fs,.i (.v 3) Ou],.cond (.v 3) [.ops [bd,gT,tB,gU,l1]] []]
theorem Qu:cq ap W 103 3 4 [0,1,2,13] Ku [] T:=by refine⟨_,_,Tryz.func103,rfl,rfl,?_,?_,?_,?_,?_⟩<;>kernel_rfl
def ZZ:List be:=[.ops [Qv,.i (.v 3) (.box 1 (.v 1)),Jk],.ops [.i .l (.load T 1 (.v 3)),tp,cl,.g (.l 0) O .l (.c0 3 (.v 2)),oM,.g (.l 2) O .l (.H0 122 [] [.v 3]),.g (.l 3) O .l (.call (.c (.fn 121 [] [])) [.l 1,.l 0]),II,Co,jl],.ret]
theorem anV:cq ap W 104 2 5 [0,1,2,3,4] ZZ [(.v 4)] O:=by refine⟨_,_,Tryz.func104,rfl,rfl,?_,?_,?_,?_,?_⟩<;>kernel_rfl
def Z0:List be:=[.ops [Qv,EK],.ops [.i .l (.load O 4 (.v 2)),.i .l (.load T 1 (.v 1)),mh,.i .l (.call (.c (.fn 104 [] [])) [.l 2,.l 0]),si,jk],.ret]
theorem anW:cq ap W 122 2 4 [0,1,2,3] Z0 [(.v 3)] O:=by refine⟨_,_,Tryz.func122,rfl,rfl,?_,?_,?_,?_,?_⟩<;>kernel_rfl
def Z1:List be:=[mg,.ops [bd,cW,.i .l (.call (.c (.fn 141 [] [])) [.l 1,.l 0]),tp,jv],.ret]
theorem anX:cq ap W 121 2 3 [0,1,4] Z1 [(.v 2)] O:=by refine⟨_,_,Tryz.func121,rfl,rfl,?_,?_,?_,?_,?_⟩<;>kernel_rfl
def FZ:List be:=[.ops [Y3],.cond (.v 6) [] [.exit 0],.block 1 [.ops [hK,jk],.ops [cW,bd,cR,vc,lC,Y4],.cond (.v 7) [yN,.ret] []],.ops [Y5,jT]]
def Z2:List be:=[sh,.ops [bd,.i (.v 4) CQ,p6],.block 0 [.loop FZ],.ops [P4],.ret]
theorem anY:cq ap W 141 2 8 [0,1,4,5,7,8,9,16] Z2 [(.v 2)] O:=by refine⟨_,_,Tryz.func141,rfl,rfl,?_,?_,?_,?_,?_⟩<;>kernel_rfl
def Kv:List be:=[.ops [fb,qa,aM,pu,FG,cl,ED,YK,YL],.cond (.v 5) [] [.exit 0],.block 1 [.ops [qa,aM,fb,vc,lC,cW,.i .l (.call (.c (.fn 105 [] [])) [.l 1,.l 0]),oK]],AI]
def Z3:List be:=[Qw,.ops [cW,mh,oK],ts,.block 0 [.loop Kv],.ops [cW,jk],.ret]
theorem anZ:cq ap W 105 2 6 [0,1,2,4,5,16] Z3 [(.v 3)] O:=by refine⟨_,_,Tryz.func105,rfl,rfl,?_,?_,?_,?_,?_⟩<;>kernel_rfl
def Z4:List be:=[Z5,.ops [bd,CN,aM,uZ,cl,.g (.l 0) O .l (.c0 0 (.v 3)),oM,Kw,AK,.i .l (.call (.c (.fn 103 [] [])) [.l 8,.l 0,.c (.int j 5)])],.ops [qR,.i (.v 4) oc],.block 0 [.ops [JA,jT],.cond (.v 5) [.ops [bd,nG,aM,oL,cl,xG,k4,.g (.l 2) T .l (.a4 (.v 2)),.g (.l 3) T .l (.bin (.int j) .geq (.l 1) (.l 0)),.i .l Al,.i .l (.call (.c (.fn 103 [] [])) [.l 9,.l 0,.c (.int j 1)])]] [.ops [.i .l (.bin (.int j) .eql (.v 4) (.c (.int j 6))),jC],.cond (.v 6) [.ops [bd,nG,aM,FY,cl,xG,k4,JZ,AM,.i .l (.call (.c (.fn 103 [] [])) [.l 8,.l 0,.c (.int j 1)])]] [.ops [.i .l (.bin (.int j) .eql (.v 4) (.c (.int j 15))),mI],.cond (.v 7) [.ops [bd,nG,aM,IH,si,.i .l (.call (.c (.fn 103 [] [])) [.l 4,.l 0,.c (.int j 1)])]] [.ops [.i .l (.bin (.int j) .eql (.v 4) (.c (.int j 18))),kA],.cond (.v 8) [.ops [bd,nG,aM,oL,cl,xG,k4,CR,Kx,Ky,Kz,AT,.g (.l 7) T .l CQ,.g (.l 8) T .l (.bin (.int j) .geq (.l 6) (.l 0)),.i .l (.pick (.l 9) (.c (.bool O)) (.l 0)),.i .l (.call (.c (.fn 103 [] [])) [.l 14,.l 0,.c (.int j 1)])]] [.ops [bd,nG,aM,uZ,.i .l (.call (.c (.fn 103 [] [])) [.l 3,.l 0,.c (.int j 5)])]]]]]]]
theorem an0:cq ap W 124 3 9 [0,1,2,4,17,23,36,48,56] Z4 [] T:=by refine⟨_,_,Tryz.func124,rfl,rfl,?_,?_,?_,?_,?_⟩<;>kernel_rfl
def CS:List be:=[Kc,.cond (.v 10) [] [.exit 0],.block 1 [.ops [tA,Qm,lC,ZU,.i (.v 5) (.a4 (.l 2)),ZV],.ops [bd,cu,gU,aM,.i (.v 11) mJ],.cond (.v 11) [.ret] [],.ops [qR,aM,AL,cl,.g (.l 0) O .l (.a4 (.v 5)),Z6,.i (.v 12) KA],.cond (.v 12) [.ops [bd,Qs,gT,ry,.i .l (.call (.c (.fn 106 [] [])) [.l 3,.l 2,.l 0])]] [.ops [bd,Qs,gT,.i .l (.call (.c (.fn 106 [] [])) [.l 2,.l 1,.l 0])]]],Kd]
def Z7:List be:=[Z5,.ops [qR,aM,.i .l (.call (.c (.fn 123 [] [])) [.l 0]),jl],.ops [bd,fb,oL,.i .l (.call (.c (.fn 103 [] [])) [.l 2,.l 0,.c (.int j 2)])],.ops [bd,KB,aM,pu,fb,Fa,.i .l (.call (.c (.fn 103 [] [])) [.l 5,.l 0,.c (.int j 5)])],.ops [bd,.i .l (.load O 4 (.v 3)),gT,.i .l (.call (.c (.fn 124 [] [])) [.l 2,.l 1,.l 0])],.ops [bd,qR,aM,AL,cl,Qx,Qy,IS,.i .l (.call (.c (.fn 103 [] [])) [.l 7,.l 0,.c (.int j 3)])],.ops [KB,Fq,Qp,CP],.block 0 [.loop CS]]
theorem an1:cq ap W 106 3 13 [0,1,2,4,6,7,8,37,38,39,40,48,55] Z7 [] T:=by refine⟨_,_,Tryz.func106,rfl,rfl,?_,?_,?_,?_,?_⟩<;>kernel_rfl
def KC:List be:=[Kc,.cond (.v 10) [] [.exit 0],.block 1 [.ops [tA,Qm,lC,Z8,.i (.v 3) (.a4 (.l 2)),Z9],.ops [Qt,.i .l (.build [.aA,.int j 0] [(0,1),(1,1)] [(0,(.l 0))]),IQ,jT],.ops [hK,F0,.i .l (.call (.c (.fn 104 [] [])) [.l 0,.c (.int j 30)]),si,.i .l (.call (.c (.fn 103 [] [])) [.l 3,.l 0,.c (.int j 4)])],.ops [hK,hK,cu,gU,aM,Fv,cl,.g (.l 0) O .l (.load O 4 (.v 4)),.g (.l 1) O .l (.call (.c (.fn 105 [] [])) [.l 0,.c (.int j 120)]),I2,AK,.i .l (.call (.c (.fn 103 [] [])) [.l 10,.l 0,.c (.int j 3)])],.ops [hK,cu,gU,aM,Ov],.cond (.v 11) [.ops [hK,F0,.i .l (.call (.c (.fn 106 [] [])) [.l 1,.l 0,.c (.int j 0)])]] [],.ops [hK,cu,gU,aM,.i (.v 12) mJ],.cond (.v 12) [.ops [hK,cu,gU,aM,cR,Z',vd],.ret] []],Kd]
def aaa:List be:=[.ops [FW,Qz],.ops [ml,aM,pu,Fv,cl,AJ,k4,aab,aac,aad],.cond (.v 6) [.ops [.i .l (.build [.int j 0,.int j 0] [(0,1),(1,1)] [(0,(.c (.int j 3))),(1,(.c (.int j (-1))))]),vd],.ret] [],.ops [ml,Fq,Qp,CP],.block 0 [.loop KC],.ops [FX,vd],.ret]
theorem an2:cq ap W 78 1 13 [0,1,2,3,4,5,15,18,19,20,21,49,57] aaa [(.cell O 2 2)] O:=by refine⟨_,_,Tryz.func78,rfl,rfl,?_,?_,?_,?_,?_⟩<;>kernel_rfl
def aae:List be:=[.ops [Qz],.ops [bd,cW,Z',vd],.ret]
theorem an3:cq ap W 108 2 3 [0,1,4] aae [(.cell O 2 2)] O:=by refine⟨_,_,Tryz.func108,rfl,rfl,?_,?_,?_,?_,?_⟩<;>kernel_rfl
def aaf:List be:=[.ops [Af],.ops [Ph],.block 0 [.ops [.i .l (.bin (.int j) .eql (.v 2) (.c (.int j 1))),jk],.cond (.v 3) [] [.ops [.i .l (.bin (.int j) .eql (.v 2) (.c (.int j 2))),jk],.cond (.v 3) [] [.ops [.i .l (.bin (.int j) .eql (.v 2) (.c (.int j 3))),jk],.cond (.v 3) [] [.ops [.i .l (.bin (.int j) .eql (.v 2) (.c (.int j 4))),jk],.cond (.v 3) [] [.ops [.i .l (.bin (.int j) .eql (.v 2) (.c (.int j 21))),jk]]]]],.cond (.v 3) [.ops [Af],.ret] [.ops [.i .l (.bin (.int j) .eql (.v 2) (.c (.int j 9))),jl],.cond (.v 4) [] [.ops [.i .l (.bin (.int j) .eql (.v 2) (.c (.int j 10))),jl],.cond (.v 4) [] [.ops [.i .l (.bin (.int j) .eql (.v 2) (.c (.int j 11))),jl],.cond (.v 4) [] [.ops [.i .l (.bin (.int j) .eql (.v 2) (.c (.int j 12))),jl],.cond (.v 4) [] [.ops [.i .l (.bin (.int j) .eql (.v 2) (.c (.int j 13))),jl],.cond (.v 4) [] [.ops [.i .l (.bin (.int j) .eql (.v 2) (.c (.int j 15))),jl],.cond (.v 4) [] [.ops [.i .l (.bin (.int j) .eql (.v 2) (.c (.int j 16))),jl],.cond (.v 4) [] [.ops [.i .l (.bin (.int j) .eql (.v 2) (.c (.int j 17))),jl],.cond (.v 4) [] [.ops [.i .l (.bin (.int j) .eql (.v 2) (.c (.int j 18))),jl],.cond (.v 4) [] [.ops [.i .l (.bin (.int j) .eql (.v 2) (.c (.int j 20))),jl]]]]]]]]]],.cond (.v 4) [.ops [.i (.v 1) F1],.ret] [.ops [.i .l (.bin (.int j) .eql (.v 2) (.c (.int j 5))),jT],.cond (.v 5) [] [.ops [.i .l (.bin (.int j) .eql (.v 2) (.c (.int j 6))),jT],.cond (.v 5) [] [.ops [.i .l (.bin (.int j) .eql (.v 2) (.c (.int j 8))),jT],.cond (.v 5) [] [.ops [.i .l (.bin (.int j) .eql (.v 2) (.c (.int j 14))),jT],.cond (.v 5) [] [.ops [.i .l (.bin (.int j) .eql (.v 2) (.c (.int j 19))),jT]]]]],.cond (.v 5) [.ops [.i (.v 1) FN],.ret] [.ops [.i .l (.bin (.int j) .eql (.v 2) (.c (.int j 7))),jC],.cond (.v 6) [.ops [.i (.v 1) (.a4 (.c (.int j 3)))],.ret] []]]]],.ops [ZY],.ret]
theorem an4:cq ap W 125 1 7 [0,2,3,4,10,21,27] aaf [(.v 1)] O:=by refine⟨_,_,Tryz.func125,rfl,rfl,?_,?_,?_,?_,?_⟩<;>kernel_rfl
def KD:List be:=[.ops [hK,qa,aM,pu,FG,cl,P6,J7,P7,.i (.v 7) Cu],.cond (.v 7) [] [.exit 0],.block 1 [.ops [On],.ops [cW,.i (.v 8) OL],.cond (.v 8) [.ops [qa,aM,hK,vc,lC,cW,mh,.i .l (.call (.c (.fn 109 [] [])) [.l 2,.l 0]),.i .l (.bin (.int j) .add (.c (.int j 1)) (.l 0)),jC]] [],.ops [k5,fb,.i (.v 9) CT],.cond (.v 9) [.ops [k5,jl]] []],EO]
def aag:List be:=[Qw,ts,yS,.block 0 [.loop KD],FL,.ret]
theorem an5:cq ap W 109 2 10 [0,1,2,4,5,6,7,17,21,33] aag [(.v 3)] O:=by refine⟨_,_,Tryz.func109,rfl,rfl,?_,?_,?_,?_,?_⟩<;>kernel_rfl
def KE:List be:=[.ops [hK,qa,aM,pu,FG,cl,P6,J7,P7,Zc],.cond (.v 6) [] [.exit 0],.block 1 [.ops [fb,qa,aM,hK,vc,lC,cW,fb,P8,.i .l (.call (.c (.fn 81 [] [])) [.l 3,.l 0]),Zd,jl]],EO]
def aah:List be:=[Qw,JC,yS,.block 0 [.loop KE],FL,.ret]
theorem an6:cq ap W 81 2 7 [0,1,2,4,5,6,16] aah [(.v 3)] O:=by refine⟨_,_,Tryz.func81,rfl,rfl,?_,?_,?_,?_,?_⟩<;>kernel_rfl
def zb:List be:=[.ops [tA,k5,.i (.v 22) JB],.cond (.v 22) [] [.exit 1],.block 2 [.ops [gT,u1],.ops [sq,aM,AL,cl,.g (.l 0) O .l (.a4 (.v 9)),Z6,.i (.v 23) KA],.cond (.v 23) [.ops [sp,ry,u1]] [],.ops [CI,Jn,aM,tA,vc,lC,sp,.i .l (.call (.c (.fn 110 [] [])) [.l 6,.l 1,.l 0]),xA],.ops [wa,.i (.v 24) mJ],.cond (.v 24) [.ops [wa,jT],.ret] []],.ops [tA,ry,u0]]
def aai:List be:=[.ops [.i (.v 3) (.box 1 (.v 0)),.i (.v 4) (.box 4 (.v 1)),p6],.ops [sq,aM,.i .l (.call (.c (.fn 125 [] [])) [.l 0]),jC],.ops [k5,.i (.v 12) JY],.cond (.v 12) [.ops [.i (.v 5) FN],.ret] [],.ops [Jn,aM,pu,k5,Fa,cl,.g (.l 0) T .l FQ,k4,.g (.l 2) T .l mJ,PY,QA,oM,Kw,PZ,.i (.v 13) P0],.cond (.v 13) [.ops [F2],.ret] [],.ops [v0,qN],.ops [sq,.i (.v 14) oc],.block 0 [.ops [.i .l (.bin (.int j) .eql (.v 14) (.c (.int j 4))),AB],.cond (.v 16) [.ops [gT,mh,kA]] [.ops [.i .l (.bin (.int j) .eql (.v 14) (.c (.int j 6))),tz],.cond (.v 17) [.ops [.i (.v 7) F1,.i (.v 8) (.a4 (.c (.int j 5)))]] [.ops [.i .l (.bin (.int j) .eql (.v 14) (.c (.int j 15))),Fo],.cond (.v 18) [.ops [.i (.v 8) (.a4 (.c (.int j 15)))]] [.ops [.i .l (.bin (.int j) .eql (.v 14) (.c (.int j 18))),Fp],.cond (.v 19) [.ops [qR,aM,pu,mh,kA]] [.ops [od,aM,KF],.cond (.v 15) [.ops [F2],.ret] []]]]]],.ops [od,aM,j7,Jl,cl,.g (.l 0) T .l (.c0 1 (.v 4)),k4,.g (.l 2) T .l (.a4 (.v 8)),.g (.l 3) T .l CT,.i (.v 20) Al],.cond (.v 20) [.ops [EG],.ret] [],.ops [sq,aM,AL,cl,Qx,Qy,.i (.v 21) KA],.cond (.v 21) [.ops [.i (.v 5) (.a4 (.c (.int j 3)))],.ret] [],.ops [CP],.block 1 [.loop zb],yS,.ret]
theorem an7:cq ap W 110 3 25 [0,1,2,3,4,6,7,8,9,10,11,12,17,32,34,37,38,42,44,46,61,68,71,81,93] aai [(.v 5)] O:=by refine⟨_,_,Tryz.func110,rfl,rfl,?_,?_,?_,?_,?_⟩<;>kernel_rfl
def KG:List be:=[.ops [cR,ml,aM,pu,.i (.v 7) FO],.cond (.v 7) [] [.exit 0],.block 1 [.ops [ml,aM,cR,vc,lC,Z8,Z9],.ops [F0,.i .l (.call (.c (.fn 109 [] [])) [.l 0,.c (.int j 30)]),.i (.v 8) (.bin (.int j) .gtr (.l 0) (.c (.int j 30)))],.cond (.v 8) [.ops [cR,.i .l (.call (.c (.fn 108 [] [])) [.c (.int j 4),.l 0]),vd],.ret] [],.ops [F0,.i .l (.call (.c (.fn 81 [] [])) [.l 0,.c (.int j 120)]),.i (.v 9) (.bin (.int j) .gtr (.l 0) (.c (.int j 120)))],.cond (.v 9) [.ops [cR,.i .l (.call (.c (.fn 108 [] [])) [.c (.int j 3),.l 0]),vd],.ret] [],.ops [Qt,F0,.i .l (.call (.c (.fn 110 [] [])) [.l 1,.l 0,.c (.int j 0)]),jT],.ops [hK,.i (.v 10) mJ],.cond (.v 10) [.ops [hK,cR,.i .l (.call (.c (.fn 108 [] [])) [.l 1,.l 0]),vd],.ret] []],yQ]
def aaj:List be:=[.ops [FW,Qz],.ops [ml,aM,pu,FY,cl,AJ,k4,aab,aac,aad],.cond (.v 6) [.ops [.i .l (.call (.c (.fn 108 [] [])) [.c (.int j 3),.c (.int j (-1))]),vd],.ret] [],p8,.block 0 [.loop KG],.ops [FX,vd],.ret]
theorem an8:cq ap W 82 1 11 [0,1,2,3,4,5,15,21,31,36,43] aaj [(.cell O 2 2)] O:=by refine⟨_,_,Tryz.func82,rfl,rfl,?_,?_,?_,?_,?_⟩<;>kernel_rfl
def KH:List be:=[.ops [cR,ml,aM,pu,QB],.cond (.v 5) [] [.exit 0],.block 1 [.ops [ml,aM,cR,vc,lC,.i .l (.call (.c (.fn 81 [] [])) [.l 0,.c (.int j 600)]),.i (.v 6) (.bin (.int j) .gtr (.l 0) (.c (.int j 600)))],.cond (.v 6) [yR,.ret] []],yQ]
def aak:List be:=[.ops [FW,xB],.ops [ml,aM,pu,.i (.v 4) (.bin (.int j) .gtr (.l 0) (.c (.int j 20)))],.cond (.v 4) [yR,.ret] [],p8,.block 0 [.loop KH],mg,.ret]
theorem an9:cq ap W 43 1 7 [0,1,2,3,7,12,21] aak [(.v 2)] O:=by refine⟨_,_,Tryz.func43,rfl,rfl,?_,?_,?_,?_,?_⟩<;>kernel_rfl
def KI:List be:=[.ops [fb,.i .l (.c0 3 (.v 1)),aM,pu,QB],.cond (.v 5) [] [.exit 0],.block 1 [.ops [KB,aM,.i .l (.c0 3 (.v 1)),aM,fb,vc,lC,aal,.bZ [⟨ad,T,1,.l 7,(.l 6)⟩],KJ,.bZ [⟨ad,T,1,.l 8,(.l 7)⟩],aam,KB,xt]],AI]
def aan:List be:=[.ops [.i (.v 1) (.box 4 (.v 0)),.i (.v 2) Qn],.ops [ml,aM,J2,aM,u',aM,.i .l (.build [.int j 0,.int j 0,.int j 0,.aA] [(0,1),(1,1),(2,1),(3,1)] [(0,(.l 4)),(1,(.l 2)),(2,(.l 0))]),.i (.v 3) Qn,.i .n (.store 4 (.v 3) (.l 0))],ts,.block 0 [.loop KI],.ops [.i .l (.load O 4 (.v 3)),.i .n (.store 4 (.v 2) (.l 0))],.ret]
theorem an':cq ap W 111 1 6 [0,1,2,3,4,16] aan [(.cell O 4 2)] O:=by refine⟨_,_,Tryz.func111,rfl,rfl,?_,?_,?_,?_,?_⟩<;>kernel_rfl
def KK:List be:=[.ops [fb,ml,aM,pu,QB],.cond (.v 5) [] [.exit 0],.block 1 [.ops [qR,aM,ml,aM,fb,vc,lC,aal,.bZ [⟨ad,T,1,.l 7,(.l 6)⟩],KJ,.bZ [⟨ad,T,1,.l 8,(.l 7)⟩],aam,qR,xt]],AI]
def aao:List be:=[.ops [FW,.i (.v 2) (.alloc [.aA])],.ops [.i (.v 3) (.alloc [.aA])],ts,.block 0 [.loop KK],.ops [CI,.i .n (.store 1 (.v 2) (.l 0))],.ret]
theorem aoa:cq ap W 83 1 6 [0,1,2,3,4,9] aao [(.cell O 1 2)] O:=by refine⟨_,_,Tryz.func83,rfl,rfl,?_,?_,?_,?_,?_⟩<;>kernel_rfl
theorem gE.len:∀{l:List bx} {es:List (List E)},gE l es->es.length=l.length
 |[],es,h=>by simp only[gE]at h;subst h;rfl
 |x::l,es,h=>by simp only[gE]at h;obtain⟨r,rs,rfl,_,R⟩:=h;simp[gE.len R]
theorem gE.get:∀{l:List bx} {es:List (List E)} {i:Nat} {x:bx},gE l es->l[i]? =o x->∃r,es[i]? =o r/\gR x r
 |[],es,i,x,h,aw=>by simp at aw
 |y::l,es,i,x,h,aw=>by
   simp only[gE]at h;obtain⟨r,rs,rfl,J,R⟩:=h;cases i with
   |zero=>
     obtain rfl:y=x:=by simpa using aw
     exact⟨r,rfl,J⟩
   |succ i=>simpa using gE.get R (by simpa using aw)
theorem gE.append{l:List bx}{x:bx}(h:gE l es)(aw:gR x r):gE (l++[x]) (es++[r]):=by
 induction l generalizing es with
 |nil=>simp only[gE]at h;subst h;simp[gE,aw]
 |cons y l aZ=>simp only[gE]at h;obtain⟨q,rs,rfl,J,R⟩:=h;exact⟨q,rs++[r],rfl,J,aZ R⟩
theorem gR.row{x:bx}(h:gR x r):∃v es,r=[.int j x.op,.int j x.k,.int j x.n,v]/\fo fp v es/\gE x.l es:=by
 cases x with
 |mk op k n l=>simp only[gR]at h;exact h
theorem gR.one{x:bx}{r:List E}(h:gR x r):r.all E.one=O/\r.length=4:=by obtain⟨v,es,rfl,U,_⟩:=h.row;rcases U with⟨_,rfl⟩|⟨id,rfl⟩<;>exact⟨rfl,rfl⟩
theorem gR.facts{x:bx}(h:gR x r):∃v es,r=[.int j x.op,.int j x.k,.int j x.n,v]/\hn fp v es/\v.one=O/\es.length=x.l.length/\∀(i:Nat) (y:bx),x.l[i]? =o y->∃q,dO (o fp) ad v (.int j (i:Int))=o (.ip q 0)/\gO O 4 q 0=o (.agg q)/\gR y q:=by
 obtain⟨v,es,rfl,U,am⟩:=h.row;refine⟨v,es,rfl,U.ed,?_,am.len,λi y bE=>?_⟩
 ·rcases U with⟨_,rfl⟩|⟨id,rfl⟩<;>rfl
 ·obtain⟨q,J,R⟩:=am.get bE;exact⟨q,U.ed.bV j i q J,gX R.one.2,R⟩
mutual
theorem aap:∀{x:bx} {r:List E},gR x r->∃bj,o0 r=o bj/\gR x bj
 |.mk op k n l,r,h=>by
   simp only[gR]at h;obtain⟨v,es,rfl,U,am⟩:=h;obtain⟨gk,J,R⟩:=QC am;rcases U with⟨rfl,rfl⟩|⟨id,rfl⟩
   ·exact⟨_,rfl,by simp only[gR];exact⟨_,[],rfl,.inl ⟨rfl,rfl⟩,am⟩⟩
   ·refine⟨[.int j op,.int j k,.int j n,.b0 ad fp gk],?_,?_⟩
    ·simp only[o0,c7,J,hF]
    ·simp only[gR];exact⟨_,gk,rfl,.inr ⟨_,rfl⟩,R⟩
theorem QC:∀{l:List bx} {es:List (List E)},gE l es->∃gk,qs es=o gk/\gE l gk
 |[],es,h=>by simp only[gE]at h;subst h;exact⟨[],rfl,rfl⟩
 |x::l,es,h=>by simp only[gE]at h;obtain⟨r,rs,rfl,J,R⟩:=h;obtain⟨bj,bM,bL⟩:=aap J;obtain⟨sb,de,fv⟩:=QC R;exact⟨bj::sb,by simp only[qs,bM,de],by simp only[gE];exact⟨bj,sb,rfl,bL,fv⟩⟩
end
theorem aob:E5 ap fp=o [3,3,2,78]:=by kernel_rfl
theorem aaq:(ap).underlying 3=o (.int j):=by kernel_rfl
theorem aoc:(ap).underlying 2=o (.int j):=by kernel_rfl
theorem aar:(ap).underlying 78=o (.slice fp):=by kernel_rfl
theorem aod:∀(n:Nat) (r:List E),m8 ap n fp r->∃x,gR x r:=by
 intro n;induction n using Nat.strongRecOn with
 |ind n aZ=>
   intro r h;obtain⟨m,rfl,parts,rfl,am,bl⟩:=Pe aob h;obtain⟨d',ja,_,hR⟩:=bl 0 _ rfl;obtain⟨dA,aR,_,cg⟩:=bl 1 _ rfl;obtain⟨ft,a5,_,dw⟩:=bl 2 _ rfl;obtain⟨iM,bp,_,fW⟩:=bl 3 _ rfl;obtain⟨op,rfl,_⟩:=uW aaq hR;obtain⟨k,rfl,_⟩:=uW aaq cg;obtain⟨z,rfl,_⟩:=uW aoc dw;obtain⟨a9,v,es,rfl,rfl,U,_,ao⟩:=Pd aar fW;obtain⟨cp,aP,bu,cd,rfl⟩:=ams am;simp only[mY,pS,hZ]at ja aR a5 bp;subst ja aR a5 bp;have key:∀es:List (List E),(∀r∈es,∃x,gR x r)->∃l,gE l es:=by
    intro es;induction es with
    |nil=>intro _;exact⟨[],rfl⟩
    |cons r es oy=>intro bC;obtain⟨x,aw⟩:=bC r (by simp);obtain⟨l,am⟩:=oy λq aW=>bC q (by simp[aW]);exact⟨x::l,by simp only[gE];exact⟨r,es,rfl,aw,am⟩⟩
   obtain⟨l,am⟩:=key es λr hG=>aZ a9 (by omega) r (ao r hG).2;exact⟨.mk op k z l,by simp only[gR];exact⟨v,es,rfl,U.Cy,am⟩⟩
def aas(l:List bx)(r:List E):Prop:=∃v es,r=[v]/\fo fp v es/\gE l es
theorem aoe:E5 ap 80=o [78]:=by kernel_rfl
theorem aof{n:Nat}(h:m8 ap n 80 r):∃l,aas l r:=by
 obtain⟨m,rfl,parts,rfl,am,bl⟩:=Pe aoe h;obtain⟨d',ja,_,hR⟩:=bl 0 _ rfl;obtain⟨a9,v,es,rfl,rfl,U,_,ao⟩:=Pd aar hR;obtain⟨cp,rfl⟩:=amp am;simp only[mY,hZ]at ja;subst ja;have key:∀es:List (List E),(∀r∈es,∃x,gR x r)->∃l,gE l es:=by
  intro es;induction es with
  |nil=>intro _;exact⟨[],rfl⟩
  |cons r es oy=>intro bC;obtain⟨x,aw⟩:=bC r (by simp);obtain⟨l,am⟩:=oy λq aW=>bC q (by simp[aW]);exact⟨x::l,by simp only[gE];exact⟨r,es,rfl,aw,am⟩⟩
 obtain⟨l,am⟩:=key es λr hG=>aod a9 r (ao r hG).2;exact⟨l,v,es,rfl,U.Cy,am⟩
section
variable{h:ag}
theorem aat{op:Int}(J:¬op<1)(R:¬21<op):op=1\/op=2\/op=3\/op=4\/op=5\/op=6\/op=7\/op=8\/op=9\/op=10\/op=11\/op=12\/op=13\/op=14\/op=15\/op=16\/op=17\/op=18\/op=19\/op=20\/op=21:=by omega
theorem aog(op:Int):aQ ap W 123 [.int j op] h=o (.inl (.int j (fM op)),h):=by
 refine a2 anU rfl ?_;unfold ZX;by_cases J:op<1
 ·have:fM op= -1:=by unfold fM;split<;>omega
  simp only[ak,aq,ar,al,bW,J,this,dI (aB.refl h) (rfl:c7 (.int j (-1))=_)]
 ·by_cases R:21<op
  ·have:fM op= -1:=by unfold fM;split<;>omega
   simp only[ak,aq,ar,al,bW,J,R,this,dI (aB.refl h) (rfl:c7 (.int j (-1))=_)]
  ·have eV:D9 T (o (22,(1,T))) (.agg [(.int j 0),(.int j 0),(.int j 0),(.int j 0),(.int j 0),(.int j 2),(.int j 2),(.int j 3),(.int j 2),(.int j 1),(.int j 1),(.int j 1),(.int j 1),(.int j 1),(.int j 2),(.int j 1),(.int j 1),(.int j 1),(.int j 1),(.int j 2),(.int j 1),(.int j 0)]) (.int j op)=o (.int j (fM op)):=by rcases aat J R with rfl|rfl|rfl|rfl|rfl|rfl|rfl|rfl|rfl|rfl|rfl|rfl|rfl|rfl|rfl|rfl|rfl|rfl|rfl|rfl|rfl<;>rfl
   simp only[ak,aq,ar,al,bW,J,R,eV]
end
section
variable{h:ag}
theorem aoh(x:bx)(v:E)(es:List (List E))(am:hn fp v es)(aE:es.length=x.l.length)(U:v.one=O)(cZ:Int)(aj:0<=cZ)(hm:cZ<=100000)(eV:∀(i:Nat) (y:bx),x.l[i]? =o y->∃q,dO (o fp) ad v (.int j (i:Int))=o (.ip q 0)/\gO O 4 q 0=o (.agg q)/\gR y q)(an:∀y∈x.l,∀(q:List E) (h:ag) (m:Int),gR y q->0<=m->m<=100000->aQ ap W 81 [.agg q,.int j m] h=o (.inl (.int j (min (y.size:Int) (m+1))),h))(iq hB:E)(K:List i'):∀(l pre:List bx) (dd:E),x.l=pre++l->∃fI jm,bB (aQ ap W) 7 (.e' KE::.bP []::.cm 0::K) [iq,.int j cZ,.ptr h.n 0 0,hB,.int j (min (1+(fw pre:Int)) (cZ+1)),.int j pre.length,dd] [] (h.push [[.int j x.op,.int j x.k,.int j x.n,v]])=bB (aQ ap W) 7 K [iq,.int j cZ,.ptr h.n 0 0,hB,.int j (min (x.size:Int) (cZ+1)),fI,jm] [] (h.push [[.int j x.op,.int j x.k,.int j x.n,v]]):=by
 intro l;induction l with
 |nil=>
   intro pre dd e;have dG:x.l=pre:=by simpa using e
   have bf:¬((pre.length:Int)<(es.length:Int)):=by rw[aE,dG];omega
   refine⟨.int j pre.length,.bool T,?_⟩;rw[cV KE.eq_1];have es:(1+(fw pre:Int))=(x.size:Int):=by rw[x.size_eq,dG];omega
   simp only[ak,aq,ar,al,cb,am.len,am.fits,bf,es]
 |cons y l aZ=>
   intro pre dd e;have bf:(pre.length:Int)<(es.length:Int):=by rw[aE,e];simp;omega
   obtain⟨q,i1,gt,iu⟩:=eV pre.length y (by rw[e];simp);have eJ:(x.size:Int)=1+(fw pre:Int)+(y.size:Int)+(fw l:Int):=by rw[x.size_eq,e,Eo];simp[fw];omega
   have aoi:=y.size_pos;have hlen:=x.p0;rw[cV KE.eq_1];by_cases hle:min (1+(fw pre:Int)) (cZ+1)<=cZ
   ·have pv:min (1+(fw pre:Int)) (cZ+1)=1+(fw pre:Int):=by omega
    rw[pv]at hle;have jZ:(pre.length:Int)<=fw pre:=by
     have:∀l:List bx,l.length<=fw l:=by
      intro l;induction l with
      |nil=>simp
      |cons y l aZ=>have:=y.size_pos;simp only[fw,hk];omega
     have:=this pre;omega
    have gA:=eL (n:=cZ - (1+(fw pre:Int))) (by omega) (by omega);have xx:=eL (n:=(1+(fw pre:Int))+min (y.size:Int) (cZ - (1+(fw pre:Int))+1)) (by omega) (by omega);have uT:=eL (n:=(pre.length:Int)+1) (by omega) (by omega);have gQ:=an y (by rw[e];simp) q (h.push [[.int j x.op,.int j x.k,.int j x.n,v]]) (cZ - (1+(fw pre:Int))) iu (by omega) (by omega);obtain⟨fI,jm,bH⟩:=aZ (pre++[y]) (.bool O) (by simp[e]);have ax:((pre++[y]).length:Int)=(pre.length:Int)+1:=by simp
    have bc:min (1+(fw (pre++[y]):Int)) (cZ+1)=(1+(fw pre:Int))+min (y.size:Int) (cZ - (1+(fw pre:Int))+1):=by rw[Eo,U7];omega
    rw[ax,bc]at bH;refine⟨fI,jm,?_⟩;simp only[ak,aq,ar,al,cb,am.len,am.fits,bf,pv,hle,i1,gt,gA,gQ,xx,uT];exact bH
   ·have pv:min (1+(fw pre:Int)) (cZ+1)=cZ+1:=by omega
    have F3:min (x.size:Int) (cZ+1)=cZ+1:=by omega
    have fY:¬(cZ+1<=cZ):=by omega
    refine⟨.int j pre.length,.bool T,?_⟩;simp only[ak,aq,ar,al,cb,am.len,am.fits,bf,pv,F3,fY]
theorem aau:∀(N:Nat) (x:bx),kL x<=N->∀(r:List E) (h:ag) (cZ:Int),gR x r->0<=cZ->cZ<=100000->aQ ap W 81 [.agg r,.int j cZ] h=o (.inl (.int j (min (x.size:Int) (cZ+1))),h):=by
 intro N;induction N with
 |zero=>intro x aw;have:=x.mf;omega
 |succ N aZ=>
   intro x aw r h cZ he aj hm;obtain⟨v,es,rfl,am,U,aE,eV⟩:=he.facts;obtain⟨fI,jm,bH⟩:=aoh (h:=h) x v es am aE U cZ aj hm eV (λy bE q h m aW=>aZ y (by have:=bx.mF bE;omega) q h m aW) (.agg [.int j x.op,.int j x.k,.int j x.n,v]) (.int j 0) [.bP [.ops [fb,jk],.ret]] x.l [] .az rfl;have em:min (1+(fw []:Int)) (cZ+1)=1:=by simp only[fw];omega
   rw[em]at bH;simp only[gf,k6]at bH;refine a2 an6 rfl ?_;unfold aah;simp only[ak,aq,ar,al,U,bH,dI (aB.push h _) (rfl:c7 (.int j (min (x.size:Int) (cZ+1)))=_)]
theorem aoj(x:bx)(v:E)(es:List (List E))(am:hn fp v es)(aE:es.length=x.l.length)(U:v.one=O)(cZ:Int)(aj:0<=cZ)(hm:cZ<=100000)(bl:x.l.length<=100000)(eV:∀(i:Nat) (y:bx),x.l[i]? =o y->∃q,dO (o fp) ad v (.int j (i:Int))=o (.ip q 0)/\gO O 4 q 0=o (.agg q)/\gR y q)(an:∀y∈x.l,∀(q:List E) (h:ag) (m:Int),gR y q->0<=m->m<=100000->aQ ap W 109 [.agg q,.int j m] h=o (.inl (.int j (min (y.depth:Int) (m+1))),h))(iq hB:E)(K:List i'):∀(l pre:List bx) (dd eB fi gJ:E),x.l=pre++l->∃fI jm l2 oQ wb,bB (aQ ap W) 10 (.e' KD::.bP []::.cm 0::K) [iq,.int j cZ,.ptr h.n 0 0,hB,.int j (min (ji pre:Int) (cZ+1)),.int j pre.length,dd,eB,fi,gJ] [] (h.push [[.int j x.op,.int j x.k,.int j x.n,v]])=bB (aQ ap W) 10 K [iq,.int j cZ,.ptr h.n 0 0,hB,.int j (min (x.depth:Int) (cZ+1)),fI,jm,l2,oQ,wb] [] (h.push [[.int j x.op,.int j x.k,.int j x.n,v]]):=by
 intro l;induction l with
 |nil=>
   intro pre dd eB fi gJ e;have dG:x.l=pre:=by simpa using e
   have bf:¬((pre.length:Int)<(es.length:Int)):=by rw[aE,dG];omega
   refine⟨.int j pre.length,dd,.bool T,fi,gJ,?_⟩;rw[cV KD.eq_1];have es:ji pre=x.depth:=by rw[x.NI,dG]
   simp only[ak,aq,ar,al,cb,am.len,am.fits,bf,es]
 |cons y l aZ=>
   intro pre dd eB fi gJ e;have bf:(pre.length:Int)<(es.length:Int):=by rw[aE,e];simp;omega
   obtain⟨q,i1,gt,iu⟩:=eV pre.length y (by rw[e];simp);have axp:x.depth=max (ji pre) (max (1+y.depth) (ji l)):=by rw[x.NI,e,NJ];simp[ji]
   have jZ:pre.length<=100000:=by rw[e]at bl;simp at bl;omega
   have uT:=eL (n:=(pre.length:Int)+1) (by omega) (by omega);rw[cV KD.eq_1];by_cases hle:min (ji pre:Int) (cZ+1)<=cZ
   ·have pv:min (ji pre:Int) (cZ+1)=(ji pre:Int):=by omega
    rw[pv]at hle;obtain⟨fI,jm,l2,oQ,wb,bH⟩:=aZ (pre++[y]) (.int j (1+min (y.depth:Int) cZ)) (.bool O) (.bool (decide (0<cZ))) (.bool (decide ((ji pre:Int)<1+min (y.depth:Int) cZ))) (by simp[e]);have ax:((pre++[y]).length:Int)=(pre.length:Int)+1:=by simp
    have bc:min (ji (pre++[y]):Int) (cZ+1)=max (ji pre:Int) (1+min (y.depth:Int) cZ):=by rw[NJ,akO];omega
    rw[ax,bc]at bH;have xx:=eL (n:=1+min (y.depth:Int) cZ) (by omega) (by omega);refine⟨fI,jm,l2,oQ,wb,?_⟩;by_cases aH:0<cZ
    ·have gA:=eL (n:=cZ - 1) (by omega) (by omega);have gQ:=an y (by rw[e];simp) q (h.push [[.int j x.op,.int j x.k,.int j x.n,v]]) (cZ - 1) iu (by omega) (by omega);rw[show cZ - 1+1=cZ by omega]at gQ;by_cases ab:(ji pre:Int)<1+min (y.depth:Int) cZ
     ·have bY:max (ji pre:Int) (1+min (y.depth:Int) cZ)=1+min (y.depth:Int) cZ:=by omega
      simp only[aH,ab,bY,decide_true]at bH;simp only[ak,aq,ar,al,cb,am.len,am.fits,bf,pv,hle,aH,i1,gt,gA,gQ,xx,ab,uT];exact bH
     ·have bY:max (ji pre:Int) (1+min (y.depth:Int) cZ)=(ji pre:Int):=by omega
      simp only[aH,ab,bY,decide_true,decide_false]at bH;simp only[ak,aq,ar,al,cb,am.len,am.fits,bf,pv,hle,aH,i1,gt,gA,gQ,xx,ab,uT];exact bH
    ·have aN:min (y.depth:Int) cZ=0:=by omega
     rw[aN]at bH;simp only[Int.add_zero]at bH;by_cases ab:(ji pre:Int)<1
     ·have bY:max (ji pre:Int) 1=1:=by omega
      simp only[aH,ab,bY,decide_true,decide_false]at bH;simp only[ak,aq,ar,al,cb,am.len,am.fits,bf,pv,hle,aH,ab,uT];exact bH
     ·have bY:max (ji pre:Int) 1=(ji pre:Int):=by omega
      simp only[aH,ab,bY,decide_false]at bH;simp only[ak,aq,ar,al,cb,am.len,am.fits,bf,pv,hle,aH,ab,uT];exact bH
   ·have pv:min (ji pre:Int) (cZ+1)=cZ+1:=by omega
    have F3:min (x.depth:Int) (cZ+1)=cZ+1:=by omega
    have fY:¬(cZ+1<=cZ):=by omega
    refine⟨.int j pre.length,dd,.bool T,fi,gJ,?_⟩;simp only[ak,aq,ar,al,cb,am.len,am.fits,bf,pv,F3,fY]
theorem bx.ph{x y:bx}(h:y∈x.l):y.size<x.size:=by
 have:∀l:List bx,y∈l->y.size<=fw l:=by
  intro l;induction l with
  |nil=>intro hm;simp at hm
  |cons z l aZ=>
    intro hm;simp only[fw];rcases n0.1 hm with rfl|hm
    ·omega
    ·have:=aZ hm;omega
 have:=this x.l h;rw[x.size_eq];omega
theorem aok:∀(N:Nat) (x:bx),kL x<=N->x.size<=100000->∀(r:List E) (h:ag) (cZ:Int),gR x r->0<=cZ->cZ<=100000->aQ ap W 109 [.agg r,.int j cZ] h=o (.inl (.int j (min (x.depth:Int) (cZ+1))),h):=by
 intro N;induction N with
 |zero=>intro x aw;have:=x.mf;omega
 |succ N aZ=>
   intro x aw eJ r h cZ he aj hm;obtain⟨v,es,rfl,am,U,aE,eV⟩:=he.facts;have hlen:=x.p0;obtain⟨fI,jm,l2,oQ,wb,bH⟩:=aoj (h:=h) x v es am aE U cZ aj hm (by omega) eV (λy bE q h m aW=>aZ y (by have:=bx.mF bE;omega) (by have:=bx.ph bE;omega) q h m aW) (.agg [.int j x.op,.int j x.k,.int j x.n,v]) (.int j 0) [.bP [.ops [fb,jk],.ret]] x.l [] .az .az .az .az rfl;have em:min (ji []:Int) (cZ+1)=0:=by simp only[ji];omega
   rw[em]at bH;simp only[gf,k6]at bH;refine a2 an5 rfl ?_;unfold aag;simp only[ak,aq,ar,al,U,bH,dI (aB.push h _) (rfl:c7 (.int j (min (x.depth:Int) (cZ+1)))=_)]
theorem aol(x:bx)(v:E)(es:List (List E))(am:hn fp v es)(aE:es.length=x.l.length)(U:v.one=O)(c:Int)(aj:0<=c)(hm:c<=100000)(eV:∀(i:Nat) (y:bx),x.l[i]? =o y->∃q,dO (o fp) ad v (.int j (i:Int))=o (.ip q 0)/\gO O 4 q 0=o (.agg q)/\gR y q)(an:∀y∈x.l,∀(q:List E) (h:ag) (m:Int),gR y q->0<=m->m<=100000->aQ ap W 105 [.agg q,.int j m] h=o (.inl (.int j (max (m - y.size) (-1))),h))(iq hB:E)(K:List i'):∀(l pre:List bx) (b7:E),x.l=pre++l->∃gH fI,bB (aQ ap W) 6 (.e' Kv::.bP []::.cm 0::K) [iq,.int j (max (c - 1 - fw pre) (-1)),.ptr h.n 0 0,hB,.int j pre.length,b7] [] (h.push [[.int j x.op,.int j x.k,.int j x.n,v]])=bB (aQ ap W) 6 K [iq,.int j (max (c - x.size) (-1)),.ptr h.n 0 0,hB,gH,fI] [] (h.push [[.int j x.op,.int j x.k,.int j x.n,v]]):=by
 intro l;induction l with
 |nil=>
   intro pre b7 e;have dG:x.l=pre:=by simpa using e
   have bf:¬((pre.length:Int)<(es.length:Int)):=by rw[aE,dG];omega
   refine⟨.int j pre.length,.bool T,?_⟩;rw[cV Kv.eq_1];have es:c - 1 - (fw pre:Int)=c - x.size:=by rw[x.size_eq,dG];omega
   simp only[ak,aq,ar,al,cb,am.len,am.fits,bf,es]
 |cons y l aZ=>
   intro pre b7 e;have bf:(pre.length:Int)<(es.length:Int):=by rw[aE,e];simp;omega
   obtain⟨q,i1,gt,iu⟩:=eV pre.length y (by rw[e];simp);have eJ:(x.size:Int)=1+(fw pre:Int)+(y.size:Int)+(fw l:Int):=by rw[x.size_eq,e,Eo];simp[fw];omega
   have aoi:=y.size_pos;rw[cV Kv.eq_1];by_cases hle:0<=max (c - 1 - (fw pre:Int)) (-1)
   ·have pv:max (c - 1 - (fw pre:Int)) (-1)=c - 1 - (fw pre:Int):=by omega
    rw[pv]at hle;have jZ:(pre.length:Int)<=fw pre:=by
     have:∀l:List bx,l.length<=fw l:=by
      intro l;induction l with
      |nil=>simp
      |cons y l aZ=>have:=y.size_pos;simp only[fw,hk];omega
     have:=this pre;omega
    have uT:=eL (n:=(pre.length:Int)+1) (by omega) (by omega);have gQ:=an y (by rw[e];simp) q (h.push [[.int j x.op,.int j x.k,.int j x.n,v]]) (c - 1 - (fw pre:Int)) iu (by omega) (by omega);obtain⟨gH,fI,bH⟩:=aZ (pre++[y]) (.bool O) (by simp[e]);have ax:((pre++[y]).length:Int)=(pre.length:Int)+1:=by simp
    have bc:max (c - 1 - (fw (pre++[y]):Int)) (-1)=max (c - 1 - (fw pre:Int) - (y.size:Int)) (-1):=by rw[Eo,U7];omega
    rw[ax,bc]at bH;refine⟨gH,fI,?_⟩;simp only[ak,aq,ar,al,cb,am.len,am.fits,bf,pv,hle,i1,gt,gQ,uT];exact bH
   ·have pv:max (c - 1 - (fw pre:Int)) (-1)= -1:=by omega
    have F3:max (c - (x.size:Int)) (-1)= -1:=by omega
    have fY:¬((0:Int)<= -1):=by omega
    refine⟨.int j pre.length,.bool T,?_⟩;simp only[ak,aq,ar,al,cb,am.len,am.fits,bf,pv,F3,fY]
theorem aom:∀(N:Nat) (x:bx),kL x<=N->∀(r:List E) (h:ag) (c:Int),gR x r->0<=c->c<=100000->aQ ap W 105 [.agg r,.int j c] h=o (.inl (.int j (max (c - x.size) (-1))),h):=by
 intro N;induction N with
 |zero=>intro x aw;have:=x.mf;omega
 |succ N aZ=>
   intro x aw r h c he aj hm;obtain⟨v,es,rfl,am,U,aE,eV⟩:=he.facts;obtain⟨gH,fI,bH⟩:=aol (h:=h) x v es am aE U c aj hm eV (λy bE q h m aW=>aZ y (by have:=bx.mF bE;omega) q h m aW) (.agg [.int j x.op,.int j x.k,.int j x.n,v]) (.int j 0) [.bP [.ops [cW,jk],.ret]] x.l [] .az rfl;have em:max (c - 1 - (fw []:Int)) (-1)=c - 1:=by simp only[fw];omega
   rw[em]at bH;simp only[gf,k6]at bH;have hw:=eL (n:=c - 1) (by omega) (by omega);refine a2 anZ rfl ?_;unfold Z3;simp only[ak,aq,ar,al,U,hw,bH,dI (aB.push h _) (rfl:c7 (.int j (max (c - x.size) (-1)))=_)]
end
structure iP(h:ag)(v:E)(l:List bx):Prop where
 len:hX v=o l.length
 fits:∀s,j3 s (o fp) v=O
 one:v.one=O
 bV:∀(i:Nat) (y:bx),l[i]? =o y->∃a q,dO (o fp) ad v (.int j (i:Int))=o a/\(∀F,aB h F->cS O 4 F a=o (.agg q))/\gR y q
theorem iP.of{h:ag}{v:E}{l:List bx}(U:fo fp v es)(am:gE l es):iP h v l:=by
 refine⟨?_,U.ed.fits,?_,λi y bE=>?_⟩
 ·rw[<-am.len];exact U.ed.len
 ·rcases U with⟨_,rfl⟩|⟨id,rfl⟩<;>rfl
 ·obtain⟨q,J,R⟩:=am.get bE;exact⟨.ip q 0,q,U.ed.bV j i q J,λF _=>gX R.one.2,R⟩
section
variable{h:ag}
theorem aon(op:Int):aQ ap W 125 [.int j op] h=o (.inl (.int j (fM op)),h):=by
 refine a2 an4 rfl ?_;unfold aaf;by_cases J:op<1
 ·have aE:∀k:Int,1<=k->decide (op=k)=T:=λk Z=>by rw[decide_eq_false_iff_not];omega
  have:fM op= -1:=by unfold fM;split<;>omega
  simp only[ak,aq,ar,al,this,aE 1 (by omega),aE 2 (by omega),aE 3 (by omega),aE 4 (by omega),aE 5 (by omega),aE 6 (by omega),aE 7 (by omega),aE 8 (by omega),aE 9 (by omega),aE 10 (by omega),aE 11 (by omega),aE 12 (by omega),aE 13 (by omega),aE 14 (by omega),aE 15 (by omega),aE 16 (by omega),aE 17 (by omega),aE 18 (by omega),aE 19 (by omega),aE 20 (by omega),aE 21 (by omega)]
 ·by_cases R:21<op
  ·have aE:∀k:Int,k<=21->decide (op=k)=T:=λk Z=>by rw[decide_eq_false_iff_not];omega
   have:fM op= -1:=by unfold fM;split<;>omega
   simp only[ak,aq,ar,al,this,aE 1 (by omega),aE 2 (by omega),aE 3 (by omega),aE 4 (by omega),aE 5 (by omega),aE 6 (by omega),aE 7 (by omega),aE 8 (by omega),aE 9 (by omega),aE 10 (by omega),aE 11 (by omega),aE 12 (by omega),aE 13 (by omega),aE 14 (by omega),aE 15 (by omega),aE 16 (by omega),aE 17 (by omega),aE 18 (by omega),aE 19 (by omega),aE 20 (by omega),aE 21 (by omega)]
  ·rcases aat J R with rfl|rfl|rfl|rfl|rfl|rfl|rfl|rfl|rfl|rfl|rfl|rfl|rfl|rfl|rfl|rfl|rfl|rfl|rfl|rfl|rfl<;> (simp only[ak,aq,ar,al,cC];rfl)
theorem F4(c a:Int):aQ ap W 108 [.int j c,.int j a] h=o (.inl (.agg [.int j c,.int j a]),h):=by refine a2 an3 rfl ?_;unfold aae;simp only[ak,aq,ar,al,bW,dI (aB.push h _) (rfl:c7 (.agg [.int j c,.int j a])=_)]
theorem aoo(v:E)(L:List bx)(U:iP h v L)(c5:L.length<=20)(iq du:E):∀(l pre:List bx) (b7 dd:E),L=pre++l->lT O [.v 2] h (bB (aQ ap W) 7 [.e' KH,.bP [],.cm 0,.bP [.ops [xB],.ret]] [iq,.ptr h.n 0 0,.bool T,.int j pre.length,du,b7,dd] [] (h.push [[v]]))=o (.inl (.bool (l.any λx=>decide (600<x.size))),h):=by
 intro l;induction l with
 |nil=>
   intro pre b7 dd e;have dG:L=pre:=by simpa using e
   have bf:¬((pre.length:Int)<(L.length:Int)):=by rw[dG];omega
   rw[cV KH.eq_1];simp only[ak,aq,ar,al,cb,U.len,U.fits,bf,List.any_nil,dI (aB.push h _) (rfl:c7 (.bool T)=_)]
 |cons y l aZ=>
   intro pre b7 dd e;have bf:(pre.length:Int)<(L.length:Int):=by rw[e];simp;omega
   obtain⟨a,q,i1,gt,iu⟩:=U.bV pre.length y (by rw[e];simp);have jG:=gt _ (aB.push h [[v]]);have gQ:=aau _ y (b4 _) q (h.push [[v]]) 600 iu (by omega) (by omega);have hw:=eL (n:=(pre.length:Int)+1) (by rw[e]at c5;simp at c5;omega) (by rw[e]at c5;simp at c5;omega);rw[cV KH.eq_1];by_cases ab:600<y.size
   ·have nU:(600:Int)<min (y.size:Int) (600+1):=by omega
    simp only[ak,aq,ar,al,cb,U.len,U.fits,bf,i1,jG,gQ,nU,List.any_cons,ab,dI (aB.push h _) (rfl:c7 (.bool O)=_)]
   ·have nU:¬(600:Int)<min (y.size:Int) (600+1):=by omega
    have bH:=aZ (pre++[y]) (.bool O) (.bool T) (by simp[e]);have ax:((pre++[y]).length:Int)=(pre.length:Int)+1:=by simp
    rw[ax]at bH;simp only[ak,aq,ar,al,cb,U.len,U.fits,bf,i1,jG,gQ,nU,List.any_cons,ab,hw];exact bH
theorem aop(v:E)(L:List bx)(U:iP h v L):aQ ap W 43 [.agg [v]] h=o (.inl (.bool (rq L)),h):=by
 refine a2 an9 rfl ?_;unfold aak;have J:=U.one;by_cases ab:20<L.length
 ·have nU:(20:Int)<(L.length:Int):=by omega
  simp only[ak,aq,ar,al,J,U.len,U.fits,nU,rq,ab,dI (aB.push h _) (rfl:c7 (.bool O)=_)]
 ·have nU:¬(20:Int)<(L.length:Int):=by omega
  have bH:=aoo v L U (by omega) (.agg [v]) (.bool T) L [] .az .az rfl;simp only[gf,k6]at bH;simp only[ak,aq,ar,al,J,U.len,U.fits,nU,rq,ab];exact bH
end
section
variable{h:ag}
theorem aoq(v:E)(L:List bx)(U:iP h v L)(c5:L.length<=100000)(g:c')(a c:List E)(p:bx->Bool)(bl:∀y∈L,∀q,gR y q->aQ ap W g (a++[.agg q]++c) h=o (.inl (.bool (p y)),h)):∀(l pre:List bx) (cn hB dd eB:E),L=pre++l->∃n:Int,lT O [.v 2] h (bB (aQ ap W) 8 [.e' FZ,.bP [],.cm 0,.bP [.ops [P4],.ret]] [v,.fn g a c,cn,hB,.int j L.length,.int j pre.length,dd,eB] [] h)=o (.inl (.int j n),h)/\decide (0<=n)=l.any p:=by
 intro l;induction l with
 |nil=>
   intro pre cn hB dd eB e;have dG:L=pre:=by simpa using e
   have bf:¬((pre.length:Int)<(L.length:Int)):=by rw[dG];omega
   refine⟨-1,?_,rfl⟩;rw[cV FZ.eq_1];simp only[ak,aq,ar,al,cb,bf]
 |cons y l aZ=>
   intro pre cn hB dd eB e;have bf:(pre.length:Int)<(L.length:Int):=by rw[e];simp;omega
   obtain⟨pJ,q,i1,gt,iu⟩:=U.bV pre.length y (by rw[e];simp);have jG:=gt _ (aB.refl h);have gQ:=bl y (by rw[e];simp) q iu;simp only[k',m3,lQ]at gQ;have hw:=eL (n:=(pre.length:Int)+1) (by rw[e]at c5;simp at c5;omega) (by rw[e]at c5;simp at c5;omega);cases ab:p y
   ·obtain⟨n,bH,bR⟩:=aZ (pre++[y]) cn (.int j pre.length) (.bool O) (.bool T) (by simp[e]);have ax:((pre++[y]).length:Int)=(pre.length:Int)+1:=by simp
    rw[ax]at bH;refine⟨n,?_,by rw[bR];simp[ab]⟩;rw[ab]at gQ;rw[cV FZ.eq_1];simp only[ak,aq,ar,al,cb,bJ,k',bf,i1,jG,gQ,hw];exact bH
   ·refine⟨pre.length,?_,?_⟩
    ·rw[ab]at gQ;rw[cV FZ.eq_1];simp only[ak,aq,ar,al,cb,bJ,k',bf,i1,jG,gQ]
    ·simp[ab]
theorem aor(v:E)(L:List bx)(U:iP h v L)(c5:L.length<=100000)(g:c')(a c:List E)(p:bx->Bool)(bl:∀y∈L,∀q,gR y q->aQ ap W g (a++[.agg q]++c) h=o (.inl (.bool (p y)),h)):aQ ap W 121 [v,.fn g a c] h=o (.inl (.bool (L.any p)),h):=by
 obtain⟨n,bH,bR⟩:=aoq v L U c5 g a c p bl L [] (.int j 0) .az .az .az rfl;simp only[gf,k6]at bH;have gD:aQ ap W 141 [v,.fn g a c] h=o (.inl (.int j n),h):=by refine a2 anY rfl ?_;unfold Z2;simp only[ak,aq,ar,al,U.len,U.fits];exact bH
 refine a2 anX rfl ?_;unfold Z1;simp only[ak,aq,ar,al,gD,bR]
theorem aos:∀(N:Nat) (x:bx),kL x<=N->x.size<=100000->∀(r:List E) (h:ag) (left:Int),gR x r-> -1<=left->left<=100000->aQ ap W 104 [.agg r,.int j left] h=o (.inl (.bool (decide ((x.depth:Int)<=left))),h):=by
 intro N;induction N with
 |zero=>intro x aw;have:=x.mf;omega
 |succ N aZ=>
   intro x aw eJ r h left he aj hm;obtain⟨v,es,e,U,am⟩:=he.row;have a4:∀F,iP F v x.l:=λF=>iP.of U am;have nV:=(a4 h).one;subst e;refine a2 anV rfl ?_;unfold ZZ;by_cases aH:0<=left
   ·have hlen:=x.p0;have bZ:=aor (h:=(h.push [[.int j x.op,.int j x.k,.int j x.n,v]]).push [[.int j left]]) v x.l (a4 _) (by omega) 122 [] [.ptr (h.n+1) 0 0] (λy=> !decide ((y.depth:Int)<=left - 1)) (λy bE q aW=>by have hw:=eL (n:=left - 1) (by omega) (by omega);have aot:=aZ y (by have:=bx.mF bE;omega) (by have:=bx.ph bE;omega) q (((h.push [[.int j x.op,.int j x.k,.int j x.n,v]]).push [[.int j left]]).push [q]) (left - 1) aW (by omega) (by omega);obtain⟨bM,bL⟩:=aW.one;refine a2 anW rfl ?_;unfold Z0;simp only[ak,aq,ar,al,bM,bL,hw,aot,dI (aB.push _ _) (rfl:c7 (.bool (!decide ((y.depth:Int)<=left - 1)))=_)]);simp only[ak,aq,ar,al,nV,aH,bZ,akP x aH,dI ((aB.push h _).trans (aB.push _ _)) (rfl:c7 (.bool (decide ((x.depth:Int)<=left)))=_)]
   ·have a7:decide ((x.depth:Int)<=left)=T:=by rw[decide_eq_false_iff_not];omega
    rw[a7];simp only[ak,aq,ar,al,nV,aH,dI ((aB.push h _).trans (aB.push _ _)) (rfl:c7 (.bool T)=_)]
end
section
variable{h:ag}
end
section
variable{h:ag}
theorem aou(L:List bx)(v:E)(m:∀h,iP h v L)(c5:L.length<=100000)(op k n:Int)(bl:∀y∈L,∀q F,gR y q->∃ek,aQ ap W 111 [.agg q] F=o (.inl (.agg ek),F)/\gR y ek)(iq:E)(K:List i'):∀(l pre:List bx) (F:ag) (acc:E) (rows:List (List E)) (b7:E),L=pre++l->aB h F->h.n+1+1<F.n->F.cell h.n=o [[.int j op,.int j k,.int j n,v]]->F.cell (h.n+1)=o [[.int j 0,.int j 0,.int j 0,.aA]]->F.cell (h.n+1+1)=o [[.int j op,.int j k,.int j n,acc]]->Acc h F fp acc rows->gE pre rows->∃gF l3 sy gH fI,bB (aQ ap W) 6 (.e' KI::.bP []::.cm 0::K) [iq,.ptr h.n 0 0,.ptr (h.n+1) 0 0,.ptr (h.n+1+1) 0 0,.int j pre.length,b7] [] F=bB (aQ ap W) 6 K [iq,.ptr h.n 0 0,.ptr (h.n+1) 0 0,.ptr (h.n+1+1) 0 0,gH,fI] [] gF/\aB h gF/\gF.cell (h.n+1)=o [[.int j 0,.int j 0,.int j 0,.aA]]/\gF.cell (h.n+1+1)=o [[.int j op,.int j k,.int j n,l3]]/\Acc h gF fp l3 sy/\gE L sy:=by
 intro l;induction l with
 |nil=>
   intro pre F acc rows b7 e g aE aP bu cd aX ao;have dG:L=pre:=by simpa using e
   have bf:¬((pre.length:Int)<(L.length:Int)):=by rw[dG];omega
   refine⟨F,acc,rows,.int j pre.length,.bool T,?_,g,bu,cd,aX,by rw[dG];exact ao⟩;rw[cV KI.eq_1];simp only[ak,aq,ar,al,cb,aP,(m h).len,(m h).fits,bf]
 |cons y l aZ=>
   intro pre F acc rows b7 e g aE aP bu cd aX ao;have bf:(pre.length:Int)<(L.length:Int):=by rw[e];simp;omega
   have jZ:pre.length<=100000:=by rw[e]at c5;simp at c5;omega
   obtain⟨a,q,i1,gt,iu⟩:=(m F).bV pre.length y (by rw[e];simp);have jG:=gt _ (aB.refl F);obtain⟨ek,gQ,nq⟩:=bl y (by rw[e];simp) q F iu;obtain⟨bt,bq⟩:=nq.one;have hw:=eL (n:=(pre.length:Int)+1) (by omega) (by omega);have gP:rows.length<=1000000:=by rw[ao.len];omega
   obtain⟨ko,R,au,aR,a5,bp,cA⟩:=mp aX g (row:=ek) bt gP;have cg:(R.set (h.n+1+1) (o [[.int j op,.int j k,.int j n,ko]])).cell h.n=o [[.int j op,.int j k,.int j n,v]]:=by rw[eu (by omega),bp];exact aP
   have dw:(R.set (h.n+1+1) (o [[.int j op,.int j k,.int j n,ko]])).cell (h.n+1)=o [[.int j 0,.int j 0,.int j 0,.aA]]:=by rw[eu (by omega),bp];exact bu
   obtain⟨gF,l3,sy,gH,fI,bH,bR⟩:=aZ (pre++[y]) (R.set (h.n+1+1) (o [[.int j op,.int j k,.int j n,ko]])) ko (rows++[ek]) (.bool O) (by simp[e]) (a5.set (by omega)) (by show _<R.n;rw[cA];exact aE) cg dw k1 aR (ao.append nq);have bc:((pre++[y]).length:Int)=(pre.length:Int)+1:=by simp
   rw[bc]at bH;refine⟨gF,l3,sy,gH,fI,?_,bR⟩;have oR:ko.one=O:=by rcases aR with⟨_,rfl⟩|⟨id,_,_,_,_,rfl⟩<;>rfl
   have ve:ko.cells=[ko]:=by rcases aR with⟨_,rfl⟩|⟨id,_,_,_,_,rfl⟩<;>rfl
   rw[cV KI.eq_1];simp only[ak,aq,ar,al,cb,aP,cd,(m h).len,(m h).fits,bf,i1,jG,gQ,bt,bq,au,bp,oR,ve,hw];exact bH
theorem GE:∀(N:Nat) (x:bx),kL x<=N->x.size<=100000->∀(r:List E) (h:ag),gR x r->∃bj,aQ ap W 111 [.agg r] h=o (.inl (.agg bj),h)/\gR x bj:=by
 intro N;induction N with
 |zero=>intro x aw;have:=x.mf;omega
 |succ N aZ=>
   intro x aw eJ r h he;obtain⟨v,es,e,U,am⟩:=he.row;have m:∀h,iP h v x.l:=λh=>iP.of U am;have bt:=(m h).one;have cK:=(m h).len;have f1:=(m h).fits;have hlen:=x.p0;subst e;obtain⟨gF,l3,sy,gH,fI,bH,g,bu,cd,aX,ao⟩:=aou (h:=h) x.l v m (by omega) x.op x.k x.n (λy bE q F aW=>aZ y (by have:=bx.mF bE;omega) (by have:=bx.ph bE;omega) q F aW) (.agg [.int j x.op,.int j x.k,.int j x.n,v]) [.bP [.ops [(.i .l (.load O 4 (.v 3))),(.i .n (.store 4 (.v 2) (.l 0)))],.ret]] x.l [] (((h.push [[.int j x.op,.int j x.k,.int j x.n,v]]).push [[.int j 0,.int j 0,.int j 0,.aA]]).push [[.int j x.op,.int j x.k,.int j x.n,.aA]]) .aA [] .az rfl (((aB.push h _).trans (aB.push _ _)).trans (aB.push _ _)) (by simp only[ey];omega) tl vQ vP (uF _ _ _) rfl;simp only[gf,k6]at bH;have ur:gR x [.int j x.op,.int j x.k,.int j x.n,l3]:=by
    rw[x.eta];simp only[gR];refine⟨l3,sy,rfl,?_,ao⟩;rcases aX with⟨bM,bL⟩|⟨id,_,_,_,_,bL⟩
    ·exact .inl ⟨bM,bL⟩
    ·exact .inr ⟨_,bL⟩
   obtain⟨bj,hw,hG⟩:=aap ur;have oR:=ur.one.1;simp only[pO,List.all_nil,pZ]at oR;have QD:l3.one=O:=oR;have qU:c7 (.agg [.int j x.op,.int j x.k,.int j x.n,l3])=o (.agg bj):=by simp only[c7,hw,hF]
   refine⟨bj,?_,hG⟩;refine a2 an' rfl ?_;unfold aan;simp only[ak,aq,ar,al,bW,bt,bH,bu,cd,QD,dI (g.set (show h.n<=h.n+1 by omega)) qU]
theorem aov(L:List bx)(v:E)(m:∀h,iP h v L)(c5:L.length<=100000)(bl:∀y∈L,∀q F,gR y q->∃ek,aQ ap W 111 [.agg q] F=o (.inl (.agg ek),F)/\gR y ek)(iq:E)(K:List i'):∀(l pre:List bx) (F:ag) (acc:E) (rows:List (List E)) (b7:E),L=pre++l->aB h F->h.n+1+1<F.n->F.cell h.n=o [[v]]->F.cell (h.n+1)=o [[.aA]]->F.cell (h.n+1+1)=o [[acc]]->Acc h F fp acc rows->gE pre rows->∃gF l3 sy gH fI,bB (aQ ap W) 6 (.e' KK::.bP []::.cm 0::K) [iq,.ptr h.n 0 0,.ptr (h.n+1) 0 0,.ptr (h.n+1+1) 0 0,.int j pre.length,b7] [] F=bB (aQ ap W) 6 K [iq,.ptr h.n 0 0,.ptr (h.n+1) 0 0,.ptr (h.n+1+1) 0 0,gH,fI] [] gF/\aB h gF/\gF.cell (h.n+1)=o [[.aA]]/\gF.cell (h.n+1+1)=o [[l3]]/\Acc h gF fp l3 sy/\gE L sy:=by
 intro l;induction l with
 |nil=>
   intro pre F acc rows b7 e g aE aP bu cd aX ao;have dG:L=pre:=by simpa using e
   have bf:¬((pre.length:Int)<(L.length:Int)):=by rw[dG];omega
   refine⟨F,acc,rows,.int j pre.length,.bool T,?_,g,bu,cd,aX,by rw[dG];exact ao⟩;rw[cV KK.eq_1];simp only[ak,aq,ar,al,cb,aP,(m h).len,(m h).fits,bf]
 |cons y l aZ=>
   intro pre F acc rows b7 e g aE aP bu cd aX ao;have bf:(pre.length:Int)<(L.length:Int):=by rw[e];simp;omega
   have jZ:pre.length<=100000:=by rw[e]at c5;simp at c5;omega
   obtain⟨a,q,i1,gt,iu⟩:=(m F).bV pre.length y (by rw[e];simp);have jG:=gt _ (aB.refl F);obtain⟨ek,gQ,nq⟩:=bl y (by rw[e];simp) q F iu;obtain⟨bt,bq⟩:=nq.one;have hw:=eL (n:=(pre.length:Int)+1) (by omega) (by omega);have gP:rows.length<=1000000:=by rw[ao.len];omega
   obtain⟨ko,R,au,aR,a5,bp,cA⟩:=mp aX g (row:=ek) bt gP;have cg:(R.set (h.n+1+1) (o [[ko]])).cell h.n=o [[v]]:=by rw[eu (by omega),bp];exact aP
   have dw:(R.set (h.n+1+1) (o [[ko]])).cell (h.n+1)=o [[.aA]]:=by rw[eu (by omega),bp];exact bu
   obtain⟨gF,l3,sy,gH,fI,bH,bR⟩:=aZ (pre++[y]) (R.set (h.n+1+1) (o [[ko]])) ko (rows++[ek]) (.bool O) (by simp[e]) (a5.set (by omega)) (by show _<R.n;rw[cA];exact aE) cg dw k1 aR (ao.append nq);have bc:((pre++[y]).length:Int)=(pre.length:Int)+1:=by simp
   rw[bc]at bH;refine⟨gF,l3,sy,gH,fI,?_,bR⟩;have oR:ko.one=O:=by rcases aR with⟨_,rfl⟩|⟨id,_,_,_,_,rfl⟩<;>rfl
   have ve:ko.cells=[ko]:=by rcases aR with⟨_,rfl⟩|⟨id,_,_,_,_,rfl⟩<;>rfl
   rw[cV KK.eq_1];simp only[ak,aq,ar,al,cb,aP,cd,(m h).len,(m h).fits,bf,i1,jG,gQ,bt,bq,au,bp,oR,ve,hw];exact bH
theorem aow(v:E)(L:List bx)(m:∀h,iP h v L)(c5:L.length<=100000)(aC:∀x∈L,x.size<=100000):∃bj,aQ ap W 83 [.agg [v]] h=o (.inl (.agg bj),h)/\aas L bj:=by
 have bt:=(m h).one;have cK:=(m h).len;have f1:=(m h).fits;obtain⟨gF,l3,sy,gH,fI,bH,g,bu,cd,aX,ao⟩:=aov (h:=h) L v m c5 (λy bE q F aW=>GE _ y (b4 _) (aC y bE) q F aW) (.agg [v]) [.bP [.ops [CI,(.i .n (.store 1 (.v 2) (.l 0)))],.ret]] L [] (((h.push [[v]]).push [[.aA]]).push [[.aA]]) .aA [] .az rfl (((aB.push h _).trans (aB.push _ _)).trans (aB.push _ _)) (by simp only[ey];omega) tl vQ vP (uF _ _ _) rfl;simp only[gf,k6]at bH;have ei:fo fp l3 sy:=by
  rcases aX with⟨bM,bL⟩|⟨id,_,_,_,_,bL⟩
  ·exact .inl ⟨bM,bL⟩
  ·exact .inr ⟨_,bL⟩
 obtain⟨QE,hw,hG⟩:=QC ao;have QD:l3.one=O:=(iP.of (h:=h) ei ao).one;have qU:∃a5,c7 (.agg [l3])=o (.agg [a5])/\fo fp a5 QE:=by
  rcases ei with⟨bM,rfl⟩|⟨id,rfl⟩
  ·subst bM;cases hw;exact⟨.aA,rfl,.inl ⟨rfl,rfl⟩⟩
  ·exact⟨.b0 ad fp QE,by simp only[c7,o0,hw,hF],.inr ⟨_,rfl⟩⟩
 obtain⟨a5,qU,iZ⟩:=qU;refine⟨[a5],?_,a5,QE,rfl,iZ,hG⟩;refine a2 aoa rfl ?_;unfold aao;simp only[ak,aq,ar,al,bt,bH,bu,cd,QD,dI (g.set (show h.n<=h.n+1 by omega)) qU]
end
def k8(c d:Int):Int:=if c=0 then d else c
theorem zc(d:Int):k8 0 d=d:=rfl
theorem QF(c:Int):k8 c 0=c:=by unfold k8;split<;>simp_all
theorem xH{c:Int}(h:c≠0)(d:Int):k8 c d=c:=if_neg h
theorem aox(a b c:Int):k8 (k8 a b) c=k8 a (k8 b c):=by unfold k8;by_cases h:a=0<;>simp[h]
structure kp(b:Nat)(a4:E)(c:Int)(h F:ag):Prop where
 n:h.n<=F.n
 ids:h.ids<=F.ids
 fe:∀k,k<h.n->k≠b->F.cell k=h.cell k
 hw:∀k,k<h.ids->F.hw k=h.hw k
 D:F.cell b=o [[a4,.int j c]]
theorem kp.refl{b:Nat}{a4:E}{c:Int}{h:ag}(ab:h.cell b=o [[a4,.int j c]]):kp b a4 c h h:=⟨b4 _,b4 _,λ_ _ _=>rfl,λ_ _=>rfl,ab⟩
theorem kp.trans{b:Nat}{a4:E}{c ej:Int}{h F gF:ag}(x:kp b a4 c h F)(y:kp b a4 ej F gF):kp b a4 ej h gF:=⟨e7 x.n y.n,e7 x.ids y.ids,λk Z aE=>(y.fe k (fq Z x.n) aE).trans (x.fe k Z aE),λk Z=>(y.hw k (fq Z x.ids)).trans (x.hw k Z),y.D⟩
theorem kp.push{b:Nat}{a4:E}{c:Int}{h:ag}(ab:h.cell b=o [[a4,.int j c]])(bf:b<h.n)(es:List (List E)):kp b a4 c h (h.push es):=⟨by simp[ag.push],by simp[ag.push],λk Z _=>ir Z,λ_ _=>rfl,(ir bf).trans ab⟩
theorem kp.hb{b:Nat}{a4:E}{c:Int}{aj h F:ag}(g:aB aj h)(ab:aj.n<=b)(x:kp b a4 c h F):aB aj F:=⟨e7 g.n x.n,e7 g.ids x.ids,λk Z=>(x.fe k (fq Z g.n) (by omega)).trans (g.cell k Z),λk Z=>(x.hw k (fq Z g.ids)).trans (g.hw k Z)⟩
section
variable{h:ag}{b:Nat}{a4:E}{c:Int}
theorem tH(ab:h.cell b=o [[a4,.int j c]])(bN:Bool)(d:Int):∃F,aQ ap W 103 [.ptr b 0 0,.bool bN,.int j d] h=o (.inl (.bU []),F)/\kp b a4 (k8 c (if bN then d else 0)) h F:=by
 cases bN
 ·refine⟨h,?_,by rw[if_neg (by simp),QF];exact kp.refl ab⟩;refine a2 Qu rfl ?_;unfold Ku;simp only[ak,aq,ar,al]
 ·by_cases an:c=0
  ·subst an;refine⟨h.set b (o [[a4,.int j d]]),?_,⟨b4 _,b4 _,λk _ aE=>eu aE,λ_ _=>rfl,by rw[k1];rfl⟩⟩;refine a2 Qu rfl ?_;unfold Ku;simp only[ak,aq,ar,al,ab,eq_self]
  ·refine⟨h,?_,by rw[xH an];exact kp.refl ab⟩;refine a2 Qu rfl ?_;unfold Ku;simp only[ak,aq,ar,al,ab,an]
def hc(cj op k I:Int):Int:=
 if op=4 then(if k<0\/I<=k then 1 else 0)
 else if op=6 then(if k<1\/5<k then 1 else 0)
 else if op=15 then(if k<0\/15<k then 1 else 0)
 else if op=18 then(if k<0\/cj<=k then 1 else 0)
 else if k≠0 then 5 else 0
theorem aav(cj op k n I:Int):ro cj op k n I=k8 (if n≠0/\op≠2 then 5 else 0) (hc cj op k I):=by
 unfold ro;by_cases J:n≠0/\op≠2
 ·rw[if_pos J,if_pos J];rfl
 ·rw[if_neg J,if_neg J];rfl
theorem aoy(k:Int):aQ ap W 120 [.int j k] h=o (.inl (.bool (!decide (k<0\/15<k))),h):=by
 refine a2 WL rfl ?_;unfold OS;by_cases aj:0<=k
 ·by_cases J:k<=15
  ·have e:decide (k<0\/15<k)=T:=by rw[decide_eq_false_iff_not];omega
   simp only[ak,aq,ar,al,aj,J,e]
  ·have e:decide (k<0\/15<k)=O:=by rw[decide_eq_true_eq];omega
   simp only[ak,aq,ar,al,aj,J,e]
 ·have e:decide (k<0\/15<k)=O:=by rw[decide_eq_true_eq];omega
  simp only[ak,aq,ar,al,aj,e]
end
section
variable{h:ag}{b:Nat}{a4:E}{c:Int}
theorem aoz(ab:h.cell b=o [[a4,.int j c]])(op k n:Int)(v:E)(q:Nat)(aW:h.cell q=o [[.int j op,.int j k,.int j n,v]])(dL cn du b7 dd eB fi:E)(rest:List be)(K:List i'):∃J,bB (aQ ap W) 9 (.bP ((.ops [bd,CN,aM,uZ,cl,(.g (.l 0) O .l (.c0 0 (.v 3))),oM,Kw,AK,(.i .l (.call (.c (.fn 103 [] [])) [(.l 8),(.l 0),(.c (.int j 5))]))])::rest)::K) [.ptr b 0 0,dL,cn,.ptr q 0 0,du,b7,dd,eB,fi] [] h=bB (aQ ap W) 9 (.bP rest::K) [.ptr b 0 0,dL,cn,.ptr q 0 0,du,b7,dd,eB,fi] [] J/\kp b a4 (k8 c (if n≠0/\op≠2 then 5 else 0)) h J:=by
 obtain⟨J,bH,gm⟩:=tH ab (!decide (n=0)&& !decide (op=2)) 5;refine⟨J,?_,?_⟩
 ·cases au:decide (n=0)<;>cases ax:decide (op=2)<;>simp only[au,ax,Bool.not_true,Bool.not_false,pZ,Bool.and_false]at bH<;>simp only[ak,aW,au,ax,bH]
 ·have e:(if(!decide (n=0)&& !decide (op=2))=O then(5:Int)else 0)=if n≠0/\op≠2 then 5 else 0:=by simp
  rw[e]at gm;exact gm
theorem aoA(ab:h.cell b=o [[a4,.int j c]])(hm:hX a4=o cj)(mn:∀s,j3 s (o fp) a4=O)(op k n I:Int)(v:E)(q:Nat)(aw:h.cell q=o [[.int j op,.int j k,.int j n,v]])(H:ag)(dL du b7 dd eB fi:E):∃J,lT T [] H (bB (aQ ap W) 9 [.bP [(.ops [qR,(.i (.v 4) oc)]),(.block 0 [(.ops [JA,jT]),(.cond (.v 5) [(.ops [bd,nG,aM,oL,cl,xG,k4,(.g (.l 2) T .l (.a4 (.v 2))),(.g (.l 3) T .l (.bin (.int j) .geq (.l 1) (.l 0))),(.i .l Al),(.i .l (.call (.c (.fn 103 [] [])) [(.l 9),(.l 0),(.c (.int j 1))]))])] [(.ops [(.i .l (.bin (.int j) .eql (.v 4) (.c (.int j 6)))),jC]),(.cond (.v 6) [(.ops [bd,nG,aM,FY,cl,xG,k4,JZ,AM,(.i .l (.call (.c (.fn 103 [] [])) [(.l 8),(.l 0),(.c (.int j 1))]))])] [(.ops [(.i .l (.bin (.int j) .eql (.v 4) (.c (.int j 15)))),mI]),(.cond (.v 7) [(.ops [bd,nG,aM,IH,si,(.i .l (.call (.c (.fn 103 [] [])) [(.l 4),(.l 0),(.c (.int j 1))]))])] [(.ops [(.i .l (.bin (.int j) .eql (.v 4) (.c (.int j 18)))),kA]),(.cond (.v 8) [(.ops [bd,nG,aM,oL,cl,xG,k4,CR,Kx,Ky,Kz,AT,(.g (.l 7) T .l CQ),(.g (.l 8) T .l (.bin (.int j) .geq (.l 6) (.l 0))),(.i .l (.pick (.l 9) (.c (.bool O)) (.l 0))),(.i .l (.call (.c (.fn 103 [] [])) [(.l 14),(.l 0),(.c (.int j 1))]))])] [(.ops [bd,nG,aM,uZ,(.i .l (.call (.c (.fn 103 [] [])) [(.l 3),(.l 0),(.c (.int j 5))]))])])])])])])]] [.ptr b 0 0,dL,.int j I,.ptr q 0 0,du,b7,dd,eB,fi] [] h)=o (.inl (.bU []),J)/\kp b a4 (k8 c (hc cj op k I)) h J:=by
 have aa:=ab;have gm:=kp.refl ab;by_cases aD:op=4
 ·subst aD;obtain⟨R,bR,fA⟩:=tH gm.D (decide (k<0\/I<=k)) 1;refine⟨R,?_,?_⟩
  ·by_cases Z:k<0
   ·have e:decide (k<0\/I<=k)=O:=by rw[decide_eq_true_eq];omega
    rw[e]at bR;simp only[ak,cC,aw,Z,bR]
   ·by_cases bQ:I<=k
    ·have e:decide (k<0\/I<=k)=O:=by rw[decide_eq_true_eq];omega
     rw[e]at bR;simp only[ak,cC,aw,aa,hm,mn,Z,bQ,bR]
    ·have e:decide (k<0\/I<=k)=T:=by rw[decide_eq_false_iff_not];omega
     rw[e]at bR;simp only[ak,cC,aw,aa,hm,mn,Z,bQ,bR]
  ·have ax:hc cj 4 k I=if decide (k<0\/I<=k)=O then 1 else 0:=by simp[hc]
   rw[ax];exact gm.trans fA
 by_cases b9:op=6
 ·subst b9;obtain⟨R,bR,fA⟩:=tH gm.D (decide (k<1\/5<k)) 1;refine⟨R,?_,?_⟩
  ·by_cases Z:k<1
   ·have e:decide (k<1\/5<k)=O:=by rw[decide_eq_true_eq];omega
    rw[e]at bR;simp only[ak,cC,aw,Z,bR]
   ·by_cases bQ:5<k
    ·have e:decide (k<1\/5<k)=O:=by rw[decide_eq_true_eq];omega
     rw[e]at bR;simp only[ak,cC,aw,Z,bQ,bR]
    ·have e:decide (k<1\/5<k)=T:=by rw[decide_eq_false_iff_not];omega
     rw[e]at bR;simp only[ak,cC,aw,Z,bQ,bR]
  ·have ax:hc cj 6 k I=if decide (k<1\/5<k)=O then 1 else 0:=by simp[hc]
   rw[ax];exact gm.trans fA
 by_cases tn:op=15
 ·subst tn;obtain⟨R,bR,fA⟩:=tH gm.D (decide (k<0\/15<k)) 1;refine⟨R,?_,?_⟩
  ·have w:=aoy (h:=h) k;simp only[ak,cC,aw,w,Bool.not_not,bR]
  ·have ax:hc cj 15 k I=if decide (k<0\/15<k)=O then 1 else 0:=by simp[hc]
   rw[ax];exact gm.trans fA
 by_cases xI:op=18
 ·subst xI;obtain⟨R,bR,fA⟩:=tH gm.D (decide (k<0\/(cj:Int)<=k)) 1;refine⟨R,?_,?_⟩
  ·by_cases Z:k<0
   ·have e:decide (k<0\/(cj:Int)<=k)=O:=by rw[decide_eq_true_eq];omega
    rw[e]at bR;simp only[ak,cC,aw,Z,bR]
   ·by_cases bQ:(cj:Int)<=k
    ·have e:decide (k<0\/(cj:Int)<=k)=O:=by rw[decide_eq_true_eq];omega
     rw[e]at bR;simp only[ak,cC,aw,aa,hm,mn,Z,bQ,bR]
    ·have e:decide (k<0\/(cj:Int)<=k)=T:=by rw[decide_eq_false_iff_not];omega
     rw[e]at bR;simp only[ak,cC,aw,aa,hm,mn,Z,bQ,bR]
  ·have ax:hc cj 18 k I=if decide (k<0\/(cj:Int)<=k)=O then 1 else 0:=by simp[hc]
   rw[ax];exact gm.trans fA
 obtain⟨R,bR,fA⟩:=tH gm.D (!decide (k=0)) 5;refine⟨R,?_,?_⟩
 ·simp only[ak,aw,aD,b9,tn,xI,bR]
 ·have ax:hc cj op k I=if(!decide (k=0))=O then 5 else 0:=by simp[hc,aD,b9,tn,xI]
  rw[ax];exact gm.trans fA
theorem aoB(ab:h.cell b=o [[a4,.int j c]])(bf:b<h.n)(hm:hX a4=o cj)(mn:∀s,j3 s (o fp) a4=O)(op k n I:Int)(v:E)(U:v.one=O):∃F,aQ ap W 124 [.ptr b 0 0,.agg [.int j op,.int j k,.int j n,v],.int j I] h=o (.inl (.bU []),F)/\kp b a4 (k8 c (ro cj op k n I)) h F:=by
 have p:=kp.push (c:=c) ab bf [[.int j op,.int j k,.int j n,v]];obtain⟨J,bH,gm⟩:=aoz p.D op k n v h.n iG (.agg [.int j op,.int j k,.int j n,v]) (.int j I) .az .az .az .az .az [(.ops [qR,(.i (.v 4) oc)]),(.block 0 [(.ops [JA,jT]),(.cond (.v 5) [(.ops [bd,nG,aM,oL,cl,xG,k4,(.g (.l 2) T .l (.a4 (.v 2))),(.g (.l 3) T .l (.bin (.int j) .geq (.l 1) (.l 0))),(.i .l Al),(.i .l (.call (.c (.fn 103 [] [])) [(.l 9),(.l 0),(.c (.int j 1))]))])] [(.ops [(.i .l (.bin (.int j) .eql (.v 4) (.c (.int j 6)))),jC]),(.cond (.v 6) [(.ops [bd,nG,aM,FY,cl,xG,k4,JZ,AM,(.i .l (.call (.c (.fn 103 [] [])) [(.l 8),(.l 0),(.c (.int j 1))]))])] [(.ops [(.i .l (.bin (.int j) .eql (.v 4) (.c (.int j 15)))),mI]),(.cond (.v 7) [(.ops [bd,nG,aM,IH,si,(.i .l (.call (.c (.fn 103 [] [])) [(.l 4),(.l 0),(.c (.int j 1))]))])] [(.ops [(.i .l (.bin (.int j) .eql (.v 4) (.c (.int j 18)))),kA]),(.cond (.v 8) [(.ops [bd,nG,aM,oL,cl,xG,k4,CR,Kx,Ky,Kz,AT,(.g (.l 7) T .l CQ),(.g (.l 8) T .l (.bin (.int j) .geq (.l 6) (.l 0))),(.i .l (.pick (.l 9) (.c (.bool O)) (.l 0))),(.i .l (.call (.c (.fn 103 [] [])) [(.l 14),(.l 0),(.c (.int j 1))]))])] [(.ops [bd,nG,aM,uZ,(.i .l (.call (.c (.fn 103 [] [])) [(.l 3),(.l 0),(.c (.int j 5))]))])])])])])])] [];obtain⟨R,bR,fA⟩:=aoA gm.D hm mn op k n I v h.n (by rw[gm.fe h.n (by simp[ag.push]) (by omega)];exact iG) h (.agg [.int j op,.int j k,.int j n,v]) .az .az .az .az .az;refine⟨R,?_,?_⟩
 ·refine a2 an0 rfl ?_;unfold Z4;rw[UX,Eh (by simp only[ak,aq,ar,al,U]) (by simp only[ak,aq,ar,al]),U0];exact(congrArg (lT T [] h) bH).trans bR
 ·rw[aav,<-aox];exact(p.trans gm).trans fA
end
theorem bx.Cg(cj:Int)(x:bx)(I:Int):x.fault cj I=k8 (mG cj x.op x.k x.n x.l.length I) (qH cj x.op 0 x.l I):=by
 cases x with
 |mk op k n l=>simp only[bx.fault,bx.op,bx.k,bx.n,bx.l,k8];by_cases bC:mG cj op k n l.length I=0<;>simp[bC]
theorem aoC(cj k n:Int)(len:Nat):mG cj 5 k n len 12≠0:=by
 unfold mG;split
 ·decide
 ·split
  ·decide
  ·split
   ·assumption
   ·simp
theorem KL(cj op:Int)(i:Nat)(x:bx)(l:List bx)(I:Int):qH cj op i (x::l) I=k8 (x.fault cj (if op=5/\i=1 then I+1 else I)) (qH cj op (i+1) l I):=by simp only[qH,k8];by_cases bC:x.fault cj (if op=5/\i=1 then I+1 else I)=0<;>simp[bC]
theorem aoD(cj op k n:Int)(len:Nat)(I:Int):mG cj op k n len I=k8 (k8 (k8 (if decide (fM op<0)=O then 2 else 0) (if(!decide ((len:Int)=fM op))=O then 5 else 0)) (ro cj op k n I)) (if(decide (op=5)&&decide (I=12))=O then 3 else 0):=by
 unfold mG k8;by_cases J:fM op<0
 ·simp[J]
 ·by_cases R:(len:Int)=fM op
  ·by_cases ah:ro cj op k n I=0<;>simp[J,R,ah]
  ·simp[J,R]
section
variable{h:ag}{b:Nat}{a4:E}
theorem aoE(hE:b<h.n)(cj:Int)(x:bx)(v:E)(m:∀h,iP h v x.l)(c5:x.l.length<=100000)(I:Int)(aF:0<=I)(pP:I<=12)(H:ag)(bl:∀y∈x.l,∀(q:List E) (h:ag) (I:Int),gR y q->0<=I->I<=12->h.cell b=o [[a4,.int j 0]]->b<h.n->∃F,aQ ap W 106 [.ptr b 0 0,.agg q,.int j I] h=o (.inl (.bU []),F)/\kp b a4 (y.fault cj I) h F)(dL du:E):∀(l pre:List bx) (F:ag) (c:Int) (b7 dd fz hs hS:E),x.l=pre++l->kp b a4 c h F->h.n<F.n->F.cell h.n=o [[.int j x.op,.int j x.k,.int j x.n,v]]->(x.op=5->I=12->c≠0)->∃gF,lT T [] H (bB (aQ ap W) 13 [.e' CS,.bP [],.cm 0,.bP []] [.ptr b 0 0,dL,.int j I,.ptr h.n 0 0,du,b7,dd,v,.int j x.l.length,.int j pre.length,fz,hs,hS] [] F)=o (.inl (.bU []),gF)/\kp b a4 (k8 c (qH cj x.op pre.length l I)) h gF:=by
 intro l;induction l with
 |nil=>
   intro pre F c b7 dd fz hs hS e D aE aw a3;have dG:x.l=pre:=by simpa using e
   have bf:¬((pre.length:Int)<(x.l.length:Int)):=by rw[dG];omega
   refine⟨F,?_,by simp only[qH,QF];exact D⟩;rw[cV CS.eq_1];simp only[ak,aq,ar,al,cb,bf]
 |cons y l aZ=>
   intro pre F c b7 dd fz hs hS e D aE aw a3;have bf:(pre.length:Int)<(x.l.length:Int):=by rw[e];simp;omega
   obtain⟨a,q,i1,gt,iu⟩:=(m F).bV pre.length y (by rw[e];simp);have jG:=gt _ (aB.refl F);obtain⟨bt,bq⟩:=iu.one;have p:=kp.push D.D (Nat.lt_trans hE aE) [q];have aa:=p.D;have r6:(F.push [q]).cell h.n=o [[.int j x.op,.int j x.k,.int j x.n,v]]:=(ir aE).trans aw;have hw:=eL (n:=(pre.length:Int)+1) (by rw[e]at c5;simp at c5;omega) (by rw[e]at c5;simp at c5;omega);by_cases an:c=0
   ·subst an;have oC:F.n+1=(F.push [q]).n:=rfl;have KM:∀{ej:Int},x.op=5->I=12->ej≠0:=λJ R=>absurd rfl (a3 J R);have bc:((pre++[y]).length:Int)=(pre.length:Int)+1:=by simp
    have bY:(pre++[y]).length=pre.length+1:=by simp
    have Z:∀(J:ag) (ej:Int),kp b a4 ej (F.push [q]) J->J.cell h.n=o [[.int j x.op,.int j x.k,.int j x.n,v]]/\h.n<J.n:=λJ ej gm=>
     ⟨(gm.fe h.n (by simp only[ey];omega) (by omega)).trans r6,fq (by simp only[ey];omega) gm.n⟩
    by_cases gL:x.op=5/\pre.length=1
    ·obtain⟨h0,pb⟩:=gL;have aoF:I<=11:=by
      rcases Int.lt_or_eq_of_le pP with J|J
      ·omega
      ·exact absurd rfl (a3 h0 J)
     have aoG:(pre.length:Int)=1:=by omega
     have KN:=eL (n:=I+1) (by omega) (by omega);obtain⟨J,bH,gm⟩:=bl y (by rw[e];simp) q (F.push [q]) (I+1) iu (by omega) (by omega) aa (by simp only[ey];omega);obtain⟨R,bR,fA⟩:=aZ (pre++[y]) J (y.fault cj (I+1)) (.int j pre.length) (.ptr F.n 0 0) (.bool O) (.bool T) (.bool O) (by simp[e]) ((D.trans p).trans gm) (Z J _ gm).2 (Z J _ gm).1 KM;rw[bc]at bR;refine⟨R,?_,?_⟩
     ·rw[h0]at r6;have KO:decide ((pre.length:Int)=1)=O:=by simp[aoG]
      rw[cV CS.eq_1];simp only[ak,aq,ar,al,cb,bf,i1,jG,bt,bq,aa,r6,KO,KN,bH,hw];exact bR
     ·rw[KL,if_pos ⟨h0,pb⟩,zc];rw[bY]at fA;exact fA
    ·obtain⟨J,bH,gm⟩:=bl y (by rw[e];simp) q (F.push [q]) I iu (by omega) (by omega) aa (by simp only[ey];omega);have a7:(decide (x.op=5)&&decide ((pre.length:Int)=1))=T:=by
      rw[Bool.and_eq_false_iff,decide_eq_false_iff_not,decide_eq_false_iff_not];by_cases bo:x.op=5
      ·exact .inr (λaH=>gL ⟨bo,by omega⟩)
      ·exact .inl bo
     obtain⟨R,bR,fA⟩:=aZ (pre++[y]) J (y.fault cj I) (.int j pre.length) (.ptr F.n 0 0) (.bool O) (.bool T) (.bool T) (by simp[e]) ((D.trans p).trans gm) (Z J _ gm).2 (Z J _ gm).1 KM;rw[bc]at bR;refine⟨R,?_,?_⟩
     ·rw[cV CS.eq_1];cases bo:decide (x.op=5)
      ·simp only[ak,aq,ar,al,cb,bf,i1,jG,bt,bq,aa,r6,bo,bH,hw];exact bR
      ·rw[bo,Bool.true_and]at a7;simp only[ak,aq,ar,al,cb,bf,i1,jG,bt,bq,aa,r6,bo,a7,bH,hw];exact bR
     ·rw[KL,if_neg gL,zc];rw[bY]at fA;exact fA
   ·refine⟨F.push [q],?_,by rw[xH an];exact D.trans p⟩;rw[cV CS.eq_1];simp only[ak,aq,ar,al,cb,bf,i1,jG,bt,bq,aa,an]
theorem aoH(cj:Nat)(hm:hX a4=o cj)(mn:∀s,j3 s (o fp) a4=O):∀(N:Nat) (x:bx),kL x<=N->x.size<=100000->∀(r:List E) (h:ag) (I:Int),gR x r->0<=I->I<=12->h.cell b=o [[a4,.int j 0]]->b<h.n->∃F,aQ ap W 106 [.ptr b 0 0,.agg r,.int j I] h=o (.inl (.bU []),F)/\kp b a4 (x.fault cj I) h F:=by
 intro N;induction N with
 |zero=>intro x aw;have:=x.mf;omega
 |succ N aZ=>
   intro x aw eJ r h I he aF pP ab bf;obtain⟨v,es,e,U,am⟩:=he.row;have m:∀h,iP h v x.l:=λh=>iP.of U am;have bt:=(m h).one;have cK:=(m h).len;have f1:=(m h).fits;have hlen:=x.p0;subst e;have p:=kp.push ab bf [[.int j x.op,.int j x.k,.int j x.n,v]];have aoI:(h.push [[.int j x.op,.int j x.k,.int j x.n,v]]).cell h.n=o [[.int j x.op,.int j x.k,.int j x.n,v]]:=iG;have hE:h.n≠b:=by omega
   obtain⟨J,bH,gm⟩:=tH p.D (decide (fM x.op<0)) 2;have cY:=(gm.fe h.n (by simp only[ey];omega) hE).trans aoI;have fm:h.n<J.n:=fq (by simp only[ey];omega) gm.n;obtain⟨R,bR,fA⟩:=tH gm.D (!decide ((x.l.length:Int)=fM x.op)) 5;have gC:=(fA.fe h.n fm hE).trans cY;have lp:h.n<R.n:=fq fm fA.n;obtain⟨ah,hz,vf⟩:=aoB fA.D (by omega) hm mn x.op x.k x.n I v bt;have ht:=(vf.fe h.n lp hE).trans gC;have ll:h.n<ah.n:=fq lp vf.n;obtain⟨aD,jV,KP⟩:=tH vf.D (decide (x.op=5)&&decide (I=12)) 3;have gH:=(KP.fe h.n ll hE).trans ht;have zd:h.n<aD.n:=fq ll KP.n;rw[zc,<-aoD]at KP;have aoJ:=(((p.trans gm).trans fA).trans vf).trans KP;obtain⟨bo,hD,aaw⟩:=aoE (h:=h) bf cj x v m (by omega) I aF pP h (λy bE q h I aW=>aZ y (by have:=bx.mF bE;omega) (by have:=bx.ph bE;omega) q h I aW) (.agg [.int j x.op,.int j x.k,.int j x.n,v]) (.int j (fM x.op)) x.l [] aD _ .az .az .az .az .az rfl aoJ zd gH (λbo Vl=>by rw[bo,Vl];exact aoC _ _ _ _);simp only[gf,k6]at hD;rw[gf,<-bx.Cg]at aaw;refine⟨bo,?_,aaw⟩;have ze:=aog (h:=h.push [[.int j x.op,.int j x.k,.int j x.n,v]]) x.op;refine a2 an1 rfl ?_;unfold Z7;cases cU:decide (x.op=5)<;>cases F5:decide (I=12)<;>simp only[cU,F5,pZ,Bool.and_false]at jV<;> (simp only[ak,aq,ar,al,bt,ze,bH,cY,cK,f1,bR,gC,hz,ht,cU,F5,jV,gH];exact hD)
end
section
variable{h:ag}{a4:E}
theorem aoK(yt:cj<=100000)(hm:hX a4=o cj)(mn:∀s,j3 s (o fp) a4=O)(op k n I:Int)(aF:0<=I)(pP:I<=12)(v:E)(rest:List be)(iq dL dd eB fi gJ fz hs hS j8 mK qb oS qV qW tI xJ wc tJ tK tL:E):(hc cj op k I=0/\∃l2 oQ rJ sz sA sB QG QH QI,bB (aQ ap W) 25 [.bP ((.ops [v0,qN])::(.ops [sq,(.i (.v 14) oc)])::(.block 0 [(.ops [(.i .l (.bin (.int j) .eql (.v 14) (.c (.int j 4)))),AB]),(.cond (.v 16) [(.ops [gT,mh,kA])] [(.ops [(.i .l (.bin (.int j) .eql (.v 14) (.c (.int j 6)))),tz]),(.cond (.v 17) [(.ops [(.i (.v 7) F1),(.i (.v 8) (.a4 (.c (.int j 5))))])] [(.ops [(.i .l (.bin (.int j) .eql (.v 14) (.c (.int j 15)))),Fo]),(.cond (.v 18) [(.ops [(.i (.v 8) (.a4 (.c (.int j 15))))])] [(.ops [(.i .l (.bin (.int j) .eql (.v 14) (.c (.int j 18)))),Fp]),(.cond (.v 19) [(.ops [qR,aM,pu,mh,kA])] [(.ops [od,aM,KF]),(.cond (.v 15) [(.ops [F2]),.ret] [])])])])])])::(.ops [od,aM,j7,Jl,cl,(.g (.l 0) T .l (.c0 1 (.v 4))),k4,(.g (.l 2) T .l (.a4 (.v 8))),(.g (.l 3) T .l CT),(.i (.v 20) Al)])::(.cond (.v 20) [(.ops [EG]),.ret] [])::rest)] [iq,dL,.int j I,.ptr h.n 0 0,.ptr (h.n+1) 0 0,.int j 0,dd,eB,fi,gJ,fz,hs,hS,j8,mK,qb,oS,qV,qW,tI,xJ,wc,tJ,tK,tL] [] ((h.push [[a4]]).push [[.int j op,.int j k,.int j n,v]])=bB (aQ ap W) 25 [.bP rest] [iq,dL,.int j I,.ptr h.n 0 0,.ptr (h.n+1) 0 0,.int j 0,dd,l2,oQ,gJ,fz,hs,hS,j8,rJ,sz,sA,sB,QG,QH,QI,wc,tJ,tK,tL] [] ((h.push [[a4]]).push [[.int j op,.int j k,.int j n,v]]))\/(hc cj op k I≠0/\lT O [.v 5] h (bB (aQ ap W) 25 [.bP ((.ops [v0,qN])::(.ops [sq,(.i (.v 14) oc)])::(.block 0 [(.ops [(.i .l (.bin (.int j) .eql (.v 14) (.c (.int j 4)))),AB]),(.cond (.v 16) [(.ops [gT,mh,kA])] [(.ops [(.i .l (.bin (.int j) .eql (.v 14) (.c (.int j 6)))),tz]),(.cond (.v 17) [(.ops [(.i (.v 7) F1),(.i (.v 8) (.a4 (.c (.int j 5))))])] [(.ops [(.i .l (.bin (.int j) .eql (.v 14) (.c (.int j 15)))),Fo]),(.cond (.v 18) [(.ops [(.i (.v 8) (.a4 (.c (.int j 15))))])] [(.ops [(.i .l (.bin (.int j) .eql (.v 14) (.c (.int j 18)))),Fp]),(.cond (.v 19) [(.ops [qR,aM,pu,mh,kA])] [(.ops [od,aM,KF]),(.cond (.v 15) [(.ops [F2]),.ret] [])])])])])])::(.ops [od,aM,j7,Jl,cl,(.g (.l 0) T .l (.c0 1 (.v 4))),k4,(.g (.l 2) T .l (.a4 (.v 8))),(.g (.l 3) T .l CT),(.i (.v 20) Al)])::(.cond (.v 20) [(.ops [EG]),.ret] [])::rest)] [iq,dL,.int j I,.ptr h.n 0 0,.ptr (h.n+1) 0 0,.int j 0,dd,eB,fi,gJ,fz,hs,hS,j8,mK,qb,oS,qV,qW,tI,xJ,wc,tJ,tK,tL] [] ((h.push [[a4]]).push [[.int j op,.int j k,.int j n,v]]))=o (.inl (.int j (hc cj op k I)),h)):=by
 have ch:aB h ((h.push [[a4]]).push [[.int j op,.int j k,.int j n,v]]):=(aB.push h _).trans (aB.push _ _);have hw:=eL (n:=I - 1) (by omega) (by omega);by_cases aD:op=4
 ·subst aD;by_cases Z:k<0
  ·refine .inr ⟨by simp[hc,Z],?_⟩;have ax:hc cj 4 k I=1:=by simp[hc,Z]
   rw[ax];simp only[ak,cC,hm,mn,hw,Z,dI ch (rfl:c7 (.int j 1)=_)]
  ·by_cases bQ:I<=k
   ·refine .inr ⟨by simp[hc,bQ],?_⟩;have ax:hc cj 4 k I=1:=by simp[hc,bQ]
    have mV:(I - 1)<k:=by omega
    rw[ax];simp only[ak,cC,hm,mn,hw,Z,mV,dI ch (rfl:c7 (.int j 1)=_)]
   ·refine .inl ⟨by simp[hc,Z,bQ],.int j 0,.int j (I - 1),.int j 4,qb,.bool O,qV,qW,tI,.bool T,?_⟩;have mV:¬(I - 1)<k:=by omega
    simp only[ak,cC,hm,mn,hw,Z,mV]
 by_cases b9:op=6
 ·subst b9;by_cases Z:k<1
  ·refine .inr ⟨by simp[hc,Z],?_⟩;have ax:hc cj 6 k I=1:=by simp[hc,Z]
   rw[ax];simp only[ak,cC,hm,mn,hw,Z,dI ch (rfl:c7 (.int j 1)=_)]
  ·by_cases bQ:5<k
   ·refine .inr ⟨by simp[hc,bQ],?_⟩;have ax:hc cj 6 k I=1:=by simp[hc,bQ]
    have mV:5<k:=by omega
    rw[ax];simp only[ak,cC,hm,mn,hw,Z,mV,dI ch (rfl:c7 (.int j 1)=_)]
   ·refine .inl ⟨by simp[hc,Z,bQ],.int j 1,.int j 5,.int j 6,qb,.bool T,.bool O,qW,tI,.bool T,?_⟩;have mV:¬5<k:=by omega
    simp only[ak,cC,hm,mn,hw,Z,mV]
 by_cases tn:op=15
 ·subst tn;by_cases Z:k<0
  ·refine .inr ⟨by simp[hc,Z],?_⟩;have ax:hc cj 15 k I=1:=by simp[hc,Z]
   rw[ax];simp only[ak,cC,hm,mn,hw,Z,dI ch (rfl:c7 (.int j 1)=_)]
  ·by_cases bQ:15<k
   ·refine .inr ⟨by simp[hc,bQ],?_⟩;have ax:hc cj 15 k I=1:=by simp[hc,bQ]
    have mV:15<k:=by omega
    rw[ax];simp only[ak,cC,hm,mn,hw,Z,mV,dI ch (rfl:c7 (.int j 1)=_)]
   ·refine .inl ⟨by simp[hc,Z,bQ],.int j 0,.int j 15,.int j 15,qb,.bool T,.bool T,.bool O,tI,.bool T,?_⟩;have mV:¬15<k:=by omega
    simp only[ak,cC,hm,mn,hw,Z,mV]
 by_cases xI:op=18
 ·subst xI;have hw:=eL (n:=(cj:Int) - 1) (by omega) (by omega);by_cases Z:k<0
  ·refine .inr ⟨by simp[hc,Z],?_⟩;have ax:hc cj 18 k I=1:=by simp[hc,Z]
   rw[ax];simp only[ak,cC,hm,mn,hw,Z,dI ch (rfl:c7 (.int j 1)=_)]
  ·by_cases bQ:(cj:Int)<=k
   ·refine .inr ⟨by simp[hc,bQ],?_⟩;have ax:hc cj 18 k I=1:=by simp[hc,bQ]
    have mV:((cj:Int) - 1)<k:=by omega
    rw[ax];simp only[ak,cC,hm,mn,hw,Z,mV,dI ch (rfl:c7 (.int j 1)=_)]
   ·refine .inl ⟨by simp[hc,Z,bQ],.int j 0,.int j ((cj:Int) - 1),.int j 18,qb,.bool T,.bool T,.bool T,.bool O,.bool T,?_⟩;have mV:¬((cj:Int) - 1)<k:=by omega
    simp only[ak,cC,hm,mn,hw,Z,mV]
 by_cases Z:k=0
 ·subst Z;refine .inl ⟨by simp[hc,aD,b9,tn,xI],.int j 0,.int j 0,.int j op,.bool T,.bool T,.bool T,.bool T,.bool T,.bool T,?_⟩;simp only[ak,Int.lt_irrefl,eq_self,aD,b9,tn,xI]
 ·have ax:hc cj op k I=5:=by simp[hc,aD,b9,tn,xI,Z]
  refine .inr ⟨by rw[ax];decide,?_⟩;rw[ax];simp only[ak,aD,b9,tn,xI,Z,dI ch (rfl:c7 (.int j 5)=_)]
theorem aoL(cj:Int)(x:bx)(v:E)(m:∀h,iP h v x.l)(c5:x.l.length<=100000)(I:Int)(aF:0<=I)(pP:I<=12)(a3:x.op=5->I≠12)(bl:∀y∈x.l,∀(q:List E) (h:ag) (I:Int),gR y q->0<=I->I<=12->aQ ap W 110 [.agg [a4],.agg q,.int j I] h=o (.inl (.int j (y.fault cj I)),h))(iq dL eB fi hS j8 mK qb oS qV qW tI xJ wc:E):∀(l pre:List bx) (fz hs tJ tK tL:E),x.l=pre++l->lT O [.v 5] h (bB (aQ ap W) 25 [.e' zb,.bP [],.cm 1,.bP [yS,.ret]] [iq,dL,.int j I,.ptr h.n 0 0,.ptr (h.n+1) 0 0,.int j 0,.int j (x.l.length:Int),eB,fi,.int j pre.length,fz,hs,hS,j8,mK,qb,oS,qV,qW,tI,xJ,wc,tJ,tK,tL] [] ((h.push [[a4]]).push [[.int j x.op,.int j x.k,.int j x.n,v]]))=o (.inl (.int j (qH cj x.op pre.length l I)),h):=by
 have ch:aB h ((h.push [[a4]]).push [[.int j x.op,.int j x.k,.int j x.n,v]]):=(aB.push h _).trans (aB.push _ _);intro l;induction l with
 |nil=>
   intro pre fz hs tJ tK tL e;have dG:x.l=pre:=by simpa using e
   have bf:¬((pre.length:Int)<(x.l.length:Int)):=by rw[dG];omega
   rw[cV zb.eq_1];simp only[ak,aq,ar,al,cb,bf,qH,dI ch (rfl:c7 (.int j 0)=_)]
 |cons y l aZ=>
   intro pre fz hs tJ tK tL e;have bf:(pre.length:Int)<(x.l.length:Int):=by rw[e];simp;omega
   obtain⟨a,q,i1,gt,iu⟩:=(m ((h.push [[a4]]).push [[.int j x.op,.int j x.k,.int j x.n,v]])).bV pre.length y (by rw[e];simp);have jG:=gt _ (aB.refl _);have hw:=eL (n:=(pre.length:Int)+1) (by rw[e]at c5;simp at c5;omega) (by rw[e]at c5;simp at c5;omega);have bc:((pre++[y]).length:Int)=(pre.length:Int)+1:=by simp
   have bY:(pre++[y]).length=pre.length+1:=by simp
   by_cases gL:x.op=5/\pre.length=1
   ·obtain⟨h0,pb⟩:=gL;have aoF:=a3 h0;have KO:decide ((pre.length:Int)=1)=O:=by simp[pb]
    have aax:decide (x.op=5)=O:=by simp[h0]
    have KN:=eL (n:=I+1) (by omega) (by omega);have gQ:=bl y (by rw[e];simp) q ((h.push [[a4]]).push [[.int j x.op,.int j x.k,.int j x.n,v]]) (I+1) iu (by omega) (by omega);rw[KL,if_pos ⟨h0,pb⟩];by_cases an:y.fault cj (I+1)=0
    ·have bH:=aZ (pre++[y]) (.int j (I+1)) (.int j 0) (.bool O) (.bool O) (.bool T) (by simp[e]);rw[bc,bY]at bH;rw[an]at gQ;rw[an,zc];rw[cV zb.eq_1];simp only[ak,aq,ar,al,cb,bf,i1,jG,KO,aax,KN,gQ,eq_self,hw];exact bH
    ·rw[xH an];rw[cV zb.eq_1];simp only[ak,aq,ar,al,cb,bf,i1,jG,KO,aax,KN,gQ,an,dI ch (rfl:c7 (.int j (y.fault cj (I+1)))=_)]
   ·have a7:(decide (x.op=5)&&decide ((pre.length:Int)=1))=T:=by
     rw[Bool.and_eq_false_iff,decide_eq_false_iff_not,decide_eq_false_iff_not];by_cases bo:x.op=5
     ·exact .inr (λaH=>gL ⟨bo,by omega⟩)
     ·exact .inl bo
    have gQ:=bl y (by rw[e];simp) q ((h.push [[a4]]).push [[.int j x.op,.int j x.k,.int j x.n,v]]) I iu (by omega) (by omega);rw[KL,if_neg gL];by_cases an:y.fault cj I=0
    ·have bH:=aZ (pre++[y]) (.int j I) (.int j 0) (.bool O) (.bool T) (.bool T) (by simp[e]);rw[bc,bY]at bH;rw[an]at gQ;rw[an,zc];rw[cV zb.eq_1];cases bo:decide (x.op=5)
     ·simp only[ak,aq,ar,al,cb,bf,i1,jG,bo,gQ,eq_self,hw];exact bH
     ·rw[bo,Bool.true_and]at a7;simp only[ak,aq,ar,al,cb,bf,i1,jG,bo,a7,gQ,eq_self,hw];exact bH
    ·rw[xH an];rw[cV zb.eq_1];cases bo:decide (x.op=5)
     ·simp only[ak,aq,ar,al,cb,bf,i1,jG,bo,gQ,an,dI ch (rfl:c7 (.int j (y.fault cj I))=_)]
     ·rw[bo,Bool.true_and]at a7;simp only[ak,aq,ar,al,cb,bf,i1,jG,bo,a7,gQ,an,dI ch (rfl:c7 (.int j (y.fault cj I))=_)]
theorem aoM(yt:cj<=100000)(hm:hX a4=o cj)(mn:∀s,j3 s (o fp) a4=O)(KQ:a4.one=O):∀(N:Nat) (x:bx),kL x<=N->x.size<=100000->∀(r:List E) (h:ag) (I:Int),gR x r->0<=I->I<=12->aQ ap W 110 [.agg [a4],.agg r,.int j I] h=o (.inl (.int j (x.fault cj I)),h):=by
 intro N;induction N with
 |zero=>intro x aw;have:=x.mf;omega
 |succ N aZ=>
   intro x aw eJ r h I he aF pP;obtain⟨v,es,e,U,am⟩:=he.row;have m:∀h,iP h v x.l:=λh=>iP.of U am;have bt:=(m h).one;have cK:=(m h).len;have f1:=(m h).fits;have hlen:=x.p0;subst e;have ch:aB h ((h.push [[a4]]).push [[.int j x.op,.int j x.k,.int j x.n,v]]):=(aB.push h _).trans (aB.push _ _);have ze:=aon (h:=((h.push [[a4]]).push [[.int j x.op,.int j x.k,.int j x.n,v]])) x.op;rw[bx.Cg];refine a2 an7 rfl ?_;unfold aai;by_cases J:fM x.op<0
   ·have ax:mG cj x.op x.k x.n x.l.length I=2:=by simp[mG,J]
    rw[ax,xH (by decide)];simp only[ak,aq,ar,al,KQ,bt,ze,J,dI ch (rfl:c7 (.int j 2)=_)]
   cases R:decide ((x.l.length:Int)=fM x.op)
   ·have nZ:¬(x.l.length:Int)=fM x.op:=by simpa using R
    have ax:mG cj x.op x.k x.n x.l.length I=5:=by simp[mG,J,nZ]
    rw[ax,xH (by decide)];simp only[ak,aq,ar,al,KQ,bt,ze,J,cK,f1,R,dI ch (rfl:c7 (.int j 5)=_)]
   have nZ:(x.l.length:Int)=fM x.op:=by simpa using R
   by_cases ah:x.n≠0/\x.op≠2
   ·have ax:mG cj x.op x.k x.n x.l.length I=5:=by simp[mG,J,nZ,ro,ah]
    rw[ax,xH (by decide)];obtain⟨aoN,aoO⟩:=ah;simp only[ak,aq,ar,al,KQ,bt,ze,J,cK,f1,R,aoN,aoO,dI ch (rfl:c7 (.int j 5)=_)]
   have bc:ro cj x.op x.k x.n I=hc cj x.op x.k I:=by rw[aav,if_neg ah,zc]
   have QJ:∀K:List be,bB (aQ ap W) 25 [.bP ((.ops [(.i (.v 3) (.box 1 (.v 0))),(.i (.v 4) (.box 4 (.v 1))),p6])::(.ops [sq,aM,(.i .l (.call (.c (.fn 125 [] [])) [(.l 0)])),jC])::(.ops [k5,(.i (.v 12) JY)])::(.cond (.v 12) [(.ops [(.i (.v 5) FN)]),.ret] [])::K)] [.agg [a4],.agg [.int j x.op,.int j x.k,.int j x.n,v],.int j I,.az,.az,.az,.az,.az,.az,.az,.az,.az,.az,.az,.az,.az,.az,.az,.az,.az,.az,.az,.az,.az,.az] [] h=bB (aQ ap W) 25 [.bP K] [.agg [a4],.agg [.int j x.op,.int j x.k,.int j x.n,v],.int j I,.ptr h.n 0 0,.ptr (h.n+1) 0 0,.int j 0,.int j (fM x.op),.az,.az,.az,.az,.az,.bool T,.az,.az,.az,.az,.az,.az,.az,.az,.az,.az,.az,.az] [] ((h.push [[a4]]).push [[.int j x.op,.int j x.k,.int j x.n,v]]):=by intro K;simp only[ak,aq,KQ,bt,ze,J]
   have first:∀K:List be,bB (aQ ap W) 25 [.bP ((.ops [Jn,aM,pu,k5,Fa,cl,(.g (.l 0) T .l FQ),k4,(.g (.l 2) T .l mJ),PY,QA,oM,Kw,PZ,(.i (.v 13) P0)])::(.cond (.v 13) [(.ops [F2]),.ret] [])::K)] [.agg [a4],.agg [.int j x.op,.int j x.k,.int j x.n,v],.int j I,.ptr h.n 0 0,.ptr (h.n+1) 0 0,.int j 0,.int j (fM x.op),.az,.az,.az,.az,.az,.bool T,.az,.az,.az,.az,.az,.az,.az,.az,.az,.az,.az,.az] [] ((h.push [[a4]]).push [[.int j x.op,.int j x.k,.int j x.n,v]])=bB (aQ ap W) 25 [.bP K] [.agg [a4],.agg [.int j x.op,.int j x.k,.int j x.n,v],.int j I,.ptr h.n 0 0,.ptr (h.n+1) 0 0,.int j 0,.int j (fM x.op),.az,.az,.az,.az,.az,.bool T,.bool T,.az,.az,.az,.az,.az,.az,.az,.az,.az,.az,.az] [] ((h.push [[a4]]).push [[.int j x.op,.int j x.k,.int j x.n,v]]):=by
    intro K;cases AS:decide (x.n=0)
    ·have h0:decide (x.op=2)=O:=by
      have aoP:x.n≠0:=by simpa using AS
      simp only[decide_eq_true_eq];exact Classical.byContradiction λbC=>ah ⟨aoP,bC⟩
     simp only[ak,cK,f1,R,AS,h0]
    ·simp only[ak,cK,f1,R,AS]
   rcases aoK (h:=h) yt hm mn x.op x.k x.n I aF pP v [(.ops [sq,aM,AL,cl,Qx,Qy,(.i (.v 21) KA)]),(.cond (.v 21) [(.ops [(.i (.v 5) (.a4 (.c (.int j 3))))]),.ret] []),(.ops [CP]),(.block 1 [(.loop zb)]),yS,.ret] (.agg [a4]) (.agg [.int j x.op,.int j x.k,.int j x.n,v]) (.int j (fM x.op)) (.az) (.az) (.az) (.az) (.az) (.bool T) (.bool T) (.az) (.az) (.az) (.az) (.az) (.az) (.az) (.az) (.az) (.az) (.az)with⟨aD,l2,oQ,rJ,sz,sA,sB,QG,QH,QI,bH⟩|⟨aD,bH⟩
   ·cases bo:(decide (x.op=5)&&decide (I=12))
    ·have ax:mG cj x.op x.k x.n x.l.length I=0:=by
      simp only[Bool.and_eq_false_iff,decide_eq_false_iff_not]at bo;simp only[mG,J,if_false,nZ,ne_eq,not_true,bc,aD];rw[if_neg];rintro⟨a,b⟩;rcases bo with bo|bo
      ·exact bo a
      ·exact bo b
     rw[ax,zc];have bR:=aoL (h:=h) (a4:=a4) cj x v m (by omega) I aF pP (λa b=>by simp[a,b]at bo) (λy bE q h I aW=>aZ y (by have:=bx.mF bE;omega) (by have:=bx.ph bE;omega) q h I aW) (.agg [a4]) (.agg [.int j x.op,.int j x.k,.int j x.n,v]) l2 oQ (.bool T) (.bool T) rJ sz sA sB QG QH QI (.bool T) x.l [] .az .az .az .az .az rfl;simp only[gf,k6]at bR;rw[nZ]at bR;refine(congrArg (lT O [.v 5] h) ((QJ _).trans ((first _).trans bH))).trans ?_;cases cU:decide (x.op=5)
     ·simp only[ak,cU];exact bR
     ·rw[cU,Bool.true_and]at bo;simp only[ak,cU,bo];exact bR
    ·have aay:=bo;simp only[hx]at bo;have ax:mG cj x.op x.k x.n x.l.length I=3:=by simp only[mG,J,if_false,nZ,ne_eq,not_true,bc,aD];simp only[decide_eq_true_eq]at bo;rw[if_pos bo]
     rw[ax,xH (by decide)];refine(congrArg (lT O [.v 5] h) ((QJ _).trans ((first _).trans bH))).trans ?_;simp only[ak,bo,dI ch (rfl:c7 (.int j 3)=_)]
   ·have ax:mG cj x.op x.k x.n x.l.length I=hc cj x.op x.k I:=by simp only[mG,J,if_false,nZ,ne_eq,not_true,bc,aD,not_false_eq_true,if_true]
    rw[ax,xH aD];exact(congrArg (lT O [.v 5] h) ((QJ _).trans (first _))).trans bH
end
theorem QK(cj:Int)(i:Nat)(x:bx)(l:List bx):rp cj i (x::l)=if n6 cj x≠0 then(n6 cj x,(i:Int))else rp cj (i+1) l:=rfl
section
variable{h:ag}
theorem aoQ(v:E)(L:List bx)(m:∀h,iP h v L)(c5:L.length<=100000)(aC:∀x∈L,x.size<=100000)(iq dd:E):∀(l pre:List bx) (F:ag) (du b7 eB fi gJ fz:E),L=pre++l->aB h F->h.n+1<F.n->F.cell h.n=o [[v]]->F.cell (h.n+1)=o [[.int j 0,.int j 0]]->lT O [.cell O 2 2] h (bB (aQ ap W) 11 [.e' KG,.bP [],.cm 0,.bP [(.ops [FX,vd]),.ret]] [iq,.ptr h.n 0 0,.ptr (h.n+1) 0 0,.int j pre.length,du,b7,dd,eB,fi,gJ,fz] [] F)=o (.inl (.agg [.int j (rp L.length pre.length l).1,.int j (rp L.length pre.length l).2]),h):=by
 intro l;induction l with
 |nil=>
   intro pre F du b7 eB fi gJ fz e g aE aP bu;have dG:L=pre:=by simpa using e
   have bf:¬((pre.length:Int)<(L.length:Int)):=by rw[dG];omega
   rw[cV KG.eq_1];simp only[ak,aq,ar,al,cb,aP,bu,(m F).len,(m F).fits,bf,rp,dI (g.set (show h.n<=h.n+1 by omega)) (rfl:c7 (.agg [.int j 0,.int j 0])=_)]
 |cons y l aZ=>
   intro pre F du b7 eB fi gJ fz e g aE aP bu;have bf:(pre.length:Int)<(L.length:Int):=by rw[e];simp;omega
   obtain⟨a,q,i1,gt,iu⟩:=(m F).bV pre.length y (by rw[e];simp);have jG:=gt _ (aB.refl F);obtain⟨bt,bq⟩:=iu.one;have F6:=aC y (by rw[e];simp);have d1:(F.push [q]).cell h.n=o [[v]]:=(ir (by omega)).trans aP;have d2:(F.push [q]).cell (h.n+1)=o [[.int j 0,.int j 0]]:=(ir aE).trans bu;have da:=g.trans (aB.push F [q]);have hw:=eL (n:=(pre.length:Int)+1) (by rw[e]at c5;simp at c5;omega) (by rw[e]at c5;simp at c5;omega);have bc:((pre++[y]).length:Int)=(pre.length:Int)+1:=by simp
   have bY:(pre++[y]).length=pre.length+1:=by simp
   have iv:=aok _ y (b4 _) F6 q (F.push [q]) 30 iu (by omega) (by omega);have iw:=aau _ y (b4 _) q (F.push [q]) 120 iu (by omega) (by omega);have ce:=aoM c5 (m F).len (m F).fits (m F).one _ y (b4 _) F6 q (F.push [q]) 0 iu (by omega) (by omega);have ch:∀es,aB h ((F.push [q]).set (h.n+1) es):=λes=>da.set (by omega);have pw:∀a b:Int,c7 (.agg [.int j a,.int j b])=o (.agg [.int j a,.int j b]):=λa b=>rfl;rw[QK];rw[cV KG.eq_1];by_cases a7:30<y.depth
   ·have qX:(30:Int)<min (y.depth:Int) (30+1):=by omega
    have px:n6 L.length y=4:=by simp[n6,a7]
    rw[px,if_pos (by decide)];simp only[ak,aq,ar,al,cb,aP,(m F).len,(m F).fits,bf,i1,jG,bt,bq,d2,iv,qX,F4,dI (ch _) (pw _ _)]
   ·have qX:¬(30:Int)<min (y.depth:Int) (30+1):=by omega
    by_cases an:120<y.size
    ·have iC:(120:Int)<min (y.size:Int) (120+1):=by omega
     have px:n6 L.length y=3:=by simp[n6,a7,an]
     rw[px,if_pos (by decide)];simp only[ak,aq,ar,al,cb,aP,(m F).len,(m F).fits,bf,i1,jG,bt,bq,d1,d2,iv,qX,iw,iC,F4,dI (ch _) (pw _ _)]
    ·have iC:¬(120:Int)<min (y.size:Int) (120+1):=by omega
     have px:n6 L.length y=y.fault L.length 0:=by simp[n6,a7,an]
     rw[px];by_cases bl:y.fault L.length 0=0
     ·rw[if_neg (by simp[bl])];have bH:=aZ (pre++[y]) (F.push [q]) (.ptr F.n 0 0) (.int j 0) (.bool O) (.bool T) (.bool T) (.bool T) (by simp[e]) da (by simp only[ey];omega) d1 d2;rw[bc,bY]at bH;rw[bl]at ce;simp only[ak,aq,ar,al,cb,aP,(m F).len,(m F).fits,bf,i1,jG,bt,bq,d1,iv,qX,iw,iC,ce,eq_self,hw];exact bH
     ·rw[if_pos bl];simp only[ak,aq,ar,al,cb,aP,(m F).len,(m F).fits,bf,i1,jG,bt,bq,d1,d2,iv,qX,iw,iC,ce,bl,F4,dI (ch _) (pw _ _)]
theorem aoR(v:E)(L:List bx)(m:∀h,iP h v L)(c5:L.length<=100000)(aC:∀x∈L,x.size<=100000):aQ ap W 82 [.agg [v]] h=o (.inl (.agg [.int j (e1 L).1,.int j (e1 L).2]),h):=by
 have bt:=(m h).one;have cK:=(m h).len;have f1:=(m h).fits;have ch:aB h ((h.push [[v]]).push [[.int j 3,.int j (-1)]]):=(aB.push h _).trans (aB.push _ _);have pw:∀a b:Int,c7 (.agg [.int j a,.int j b])=o (.agg [.int j a,.int j b]):=λa b=>rfl;refine a2 an8 rfl ?_;unfold aaj;by_cases aj:L.length=0
 ·have sj:(L.length:Int)<1:=by omega
  have e:e1 L=(3, -1):=by simp[e1,aj]
  rw[e];simp only[ak,aq,ar,al,bt,cK,f1,sj,F4,dI ch (pw _ _)]
 ·have sj:¬(L.length:Int)<1:=by omega
  by_cases b9:6<L.length
  ·have AU:(6:Int)<(L.length:Int):=by omega
   have e:e1 L=(3, -1):=by simp[e1,b9]
   rw[e];simp only[ak,aq,ar,al,bt,cK,f1,sj,AU,F4,dI ch (pw _ _)]
  ·have AU:¬(6:Int)<(L.length:Int):=by omega
   have e:e1 L=rp L.length 0 L:=by simp only[e1,aj,b9,or_self,if_false]
   rw[e];have bH:=aoQ (h:=h) v L m c5 aC (.agg [v]) (.bool T) L [] ((h.push [[v]]).push [[.int j 0,.int j 0]]) .az .az .az .az .az .az rfl ((aB.push h _).trans (aB.push _ _)) (by simp only[ey];omega) qG yG;simp only[gf,k6]at bH;simp only[ak,aq,ar,al,bt,cK,f1,sj,AU];exact bH
theorem aoS(v:E)(L:List bx)(m:iP h v L)(c5:L.length<=100000)(aC:∀x∈L,x.size<=100000)(iq dd:E):∀(l pre:List bx) (F:ag) (hB du b7 fz hs hS:E),L=pre++l->aB h F->h.n+1<F.n->F.cell h.n=o [[v]]->F.cell (h.n+1)=o [[.int j 0,.int j 0]]->lT O [.cell O 2 2] h (bB (aQ ap W) 13 [.e' KC,.bP [],.cm 0,.bP [(.ops [FX,vd]),.ret]] [iq,.ptr h.n 0 0,.ptr (h.n+1) 0 0,hB,du,b7,dd,v,.int j L.length,.int j pre.length,fz,hs,hS] [] F)=o (.inl (.agg [.int j (rp L.length pre.length l).1,.int j (rp L.length pre.length l).2]),h):=by
 intro l;induction l with
 |nil=>
   intro pre F hB du b7 fz hs hS e g aE aP bu;have dG:L=pre:=by simpa using e
   have bf:¬((pre.length:Int)<(L.length:Int)):=by rw[dG];omega
   rw[cV KC.eq_1];simp only[ak,aq,ar,al,cb,bu,bf,rp,dI (g.set (show h.n<=h.n+1 by omega)) (rfl:c7 (.agg [.int j 0,.int j 0])=_)]
 |cons y l aZ=>
   intro pre F hB du b7 fz hs hS e g aE aP bu;have bf:(pre.length:Int)<(L.length:Int):=by rw[e];simp;omega
   obtain⟨a,q,i1,gt,iu⟩:=m.bV pre.length y (by rw[e];simp);have jG:=gt _ g;obtain⟨bt,bq⟩:=iu.one;have F6:=aC y (by rw[e];simp);have py:=m.one;have d1:(F.push [q]).cell h.n=o [[v]]:=(ir (by omega)).trans aP;have hw:=eL (n:=(pre.length:Int)+1) (by rw[e]at c5;simp at c5;omega) (by rw[e]at c5;simp at c5;omega);have bc:((pre++[y]).length:Int)=(pre.length:Int)+1:=by simp
   have bY:(pre++[y]).length=pre.length+1:=by simp
   have pw:∀a b:Int,c7 (.agg [.int j a,.int j b])=o (.agg [.int j a,.int j b]):=λa b=>rfl;have aoT:aB h ((F.push [q]).push [[v,.int j 0]]):=(g.trans (aB.push F [q])).trans (aB.push _ _);have aoU:((F.push [q]).push [[v,.int j 0]]).cell (F.n+1)=o [[v,.int j 0]]:=yG;have iv:=aos _ y (b4 _) F6 q ((F.push [q]).push [[v,.int j 0]]) 30 iu (by omega) (by omega);have g2:∀{J R:ag} {c:Int},kp (F.n+1) v c J R->F.n+1<J.n->J.cell F.n=o [q]->J.cell h.n=o [[v]]->J.cell (h.n+1)=o [[.int j 0,.int j 0]]->R.cell F.n=o [q]/\R.cell h.n=o [[v]]/\R.cell (h.n+1)=o [[.int j 0,.int j 0]]/\F.n+1<R.n:=λ{J R c} D fm cE c6 eb=>
    ⟨(D.fe _ (by omega) (by omega)).trans cE,(D.fe _ (by omega) (by omega)).trans c6,(D.fe _ (by omega) (by omega)).trans eb,fq fm D.n⟩
   have hy:((F.push [q]).push [[v,.int j 0]]).cell F.n=o [q]:=qG;have cE:((F.push [q]).push [[v,.int j 0]]).cell h.n=o [[v]]:=(ir (by simp only[ey];omega)).trans d1;have c6:((F.push [q]).push [[v,.int j 0]]).cell (h.n+1)=o [[.int j 0,.int j 0]]:=(ir (by simp only[ey];omega)).trans ((ir aE).trans bu);have aoV:F.n+1<((F.push [q]).push [[v,.int j 0]]).n:=by simp only[ey];omega
   obtain⟨J,bH,gm⟩:=tH aoU (!decide ((y.depth:Int)<=30)) 4;obtain⟨d',dA,ft,aaz⟩:=g2 gm aoV hy cE c6;have da:=kp.hb aoT (by omega) gm;have iw:=aom _ y (b4 _) q J 120 iu (by omega) (by omega);rw[QK];rw[cV KC.eq_1];by_cases a7:30<y.depth
   ·have qX:¬(y.depth:Int)<=30:=by omega
    have px:n6 L.length y=4:=by simp[n6,a7]
    rw[px,if_pos (by decide)];have au:k8 0 (if(!decide ((y.depth:Int)<=30))=O then 4 else 0)=4:=by simp[k8,qX]
    rw[au]at gm;obtain⟨R,bR,fA⟩:=tH gm.D T 3;rw[if_neg (by simp),QF]at fA;obtain⟨gG,bg,aV,zf⟩:=g2 fA aaz d' dA ft;have eF:=(kp.hb da (by have:=g.n;omega) fA).set (b:=h.n+1) (es:=o [[.int j 4,.int j pre.length]]) (by omega);have bM:=gm.D;have bL:=fA.D;simp only[qX,decide_false,Bool.not_false]at bH;simp only[ak,aq,ar,al,bW,cb,bf,i1,jG,bt,bq,py,d1,iv,qX,hy,bH,bM,cC,bR,bL,gG,aV,dI eF (pw _ _)]
   ·have qX:(y.depth:Int)<=30:=by omega
    have au:k8 0 (if(!decide ((y.depth:Int)<=30))=O then 4 else 0)=0:=by simp[k8,qX]
    rw[au]at gm;have bM:=gm.D;obtain⟨R,bR,fA⟩:=tH gm.D (decide (max (120 - (y.size:Int)) (-1)<0)) 3;rw[zc]at fA;obtain⟨gG,bg,aV,zf⟩:=g2 fA aaz d' dA ft;have ch:=kp.hb da (by have:=g.n;omega) fA;simp only[qX,decide_true,Bool.not_true]at bH;by_cases an:120<y.size
    ·have iC:max (120 - (y.size:Int)) (-1)<0:=by omega
     have px:n6 L.length y=3:=by simp[n6,a7,an]
     rw[px,if_pos (by decide)];rw[if_pos (by simpa using iC)]at fA;have bL:=fA.D;have eF:=ch.set (b:=h.n+1) (es:=o [[.int j 3,.int j pre.length]]) (by omega);simp only[iC,decide_true]at bR;simp only[ak,aq,ar,al,bW,cb,bf,i1,jG,bt,bq,py,d1,iv,qX,hy,bH,d',bM,eq_self,iw,iC,cC,bR,bL,gG,aV,dI eF (pw _ _)]
    ·have iC:¬max (120 - (y.size:Int)) (-1)<0:=by omega
     have px:n6 L.length y=y.fault L.length 0:=by simp[n6,a7,an]
     rw[px];rw[if_neg (by simpa using iC)]at fA;have bL:=fA.D;simp only[iC,decide_false]at bR;obtain⟨ah,hz,vf⟩:=aoH (b:=F.n+1) L.length m.len m.fits _ y (b4 _) F6 q R 0 iu (by omega) (by omega) fA.D zf;obtain⟨t0,t1,t2,KR⟩:=g2 vf zf gG bg aV;have de:=vf.D;have eF:=kp.hb ch (by have:=g.n;omega) vf;by_cases bl:y.fault L.length 0=0
     ·rw[if_neg (by simp[bl])];have lD:=aZ (pre++[y]) ah (.int j pre.length) (.ptr F.n 0 0) (.ptr (F.n+1) 0 0) (.bool O) (.bool O) (.bool T) (by simp[e]) eF (by have:=g.n;omega) t1 t2;rw[bc,bY]at lD;rw[bl]at de;simp only[ak,aq,ar,al,bW,cb,bf,i1,jG,bt,bq,py,d1,iv,qX,hy,bH,d',bM,eq_self,iw,iC,bR,bL,gG,hz,de,hw];exact lD
     ·rw[if_pos bl];have kk:=eF.set (b:=h.n+1) (es:=o [[.int j (y.fault L.length 0),.int j pre.length]]) (by omega);simp only[ak,aq,ar,al,bW,cb,bf,i1,jG,bt,bq,py,d1,iv,qX,hy,bH,d',bM,eq_self,iw,iC,bR,bL,gG,hz,de,bl,t2,dI kk (pw _ _)]
theorem aoW(v:E)(L:List bx)(m:iP h v L)(c5:L.length<=100000)(aC:∀x∈L,x.size<=100000):aQ ap W 78 [.agg [v]] h=o (.inl (.agg [.int j (e1 L).1,.int j (e1 L).2]),h):=by
 have bt:=m.one;have cK:=m.len;have f1:=m.fits;have ch:aB h ((h.push [[v]]).push [[.int j 3,.int j (-1)]]):=(aB.push h _).trans (aB.push _ _);have pw:∀a b:Int,c7 (.agg [.int j a,.int j b])=o (.agg [.int j a,.int j b]):=λa b=>rfl;refine a2 an2 rfl ?_;unfold aaa;by_cases aj:L.length=0
 ·have sj:decide ((L.length:Int)=0)=O:=by simp[aj]
  have e:e1 L=(3, -1):=by simp[e1,aj]
  rw[e];simp only[ak,aq,ar,al,bW,bt,cK,f1,sj,dI ch (pw _ _)]
 ·have sj:decide ((L.length:Int)=0)=T:=by rw[decide_eq_false_iff_not];omega
  by_cases b9:6<L.length
  ·have AU:(6:Int)<(L.length:Int):=by omega
   have e:e1 L=(3, -1):=by simp[e1,b9]
   rw[e];simp only[ak,aq,ar,al,bW,bt,cK,f1,sj,AU,dI ch (pw _ _)]
  ·have AU:¬(6:Int)<(L.length:Int):=by omega
   have e:e1 L=rp L.length 0 L:=by simp only[e1,aj,b9,or_self,if_false]
   rw[e];have bH:=aoS (h:=h) v L m c5 aC (.agg [v]) (.bool T) L [] ((h.push [[v]]).push [[.int j 0,.int j 0]]) .az .az .az .az .az .az rfl ((aB.push h _).trans (aB.push _ _)) (by simp only[ey];omega) qG yG;simp only[gf,k6]at bH;simp only[ak,aq,ar,al,bW,bt,cK,f1,sj,AU];exact bH
theorem aoX{L:List bx}(a8:rq L=T):L.length<=20/\∀x∈L,x.size<=600:=by simp only[rq,Bool.or_eq_false_iff,decide_eq_false_iff_not,List.any_eq_false]at a8;exact⟨by omega,λx aw=>by have:=a8.2 x aw;simpa using this⟩
end
end Go.Proofs.YtkdbjfncchmmpaaGreat
