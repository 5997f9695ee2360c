/- Functions as short lists of steps: what they do ('runR'), how they are made out of the program ('trFn'). No walk here. What a short list of steps does the function does. What a list of steps comes to the function comes to. What a list of steps comes to the function comes to: the proof. -/
import Derived.Test.YtaodiaofbeblbaaGreatDoorMg2
import Derived.Test.YtaodiaofbeblbaaGreatDoorRows
import Derived.ProofKit
import Derived.OpenShut
import Derived.ShutString
import Derived.ChangeOld
import Derived.Deep.Slices
import Derived.Deep.Fields
import Derived.Lib.SmallJoins
import Derived.Lib.Bytealg
import Derived.Laws.IdiomStrings
import Derived.Lib.ItoaMem
import Derived.WalkKit
import Derived.Lib.ItoaLen
import Derived.Lib.ParseIntB
import Derived.Lib.FieldsP
import Derived.Lib.Join
import Derived.Lib.ItoaNum
import Derived.Shelf.Strings.Builder1
import Derived.Shelf.Strings.Builder2
import Derived.Shelf.LaysM
import Derived.Shelf.Strconv.Itoa3
import Derived.Shelf.Strconv.ErrVarParseInt
import Derived.Test.YtaodiaofbeblbaaGreatDoorProg
import Derived.Lib.Hide
import Derived.Lib.UnsafeStr
import Derived.Lib.ParseIntBTie
import Derived.Lib.AtoiErrMem
import Derived.Shelf.Strings.OnBuilder
import Derived.Shelf.Strings.Search3
import Derived.Shelf.Strings.FieldsFuncGrows
import Derived.Recover
set_option linter.unusedSimpArgs false
set_option linter.unusedVariables false
set_option maxHeartbeats 4000000
set_option maxRecDepth 1000000
open List renaming replicate→ar,length_append→dy,length_cons→dw,getElem?_eq_some_iff→fR,getElem?_eq_getElem→gd,length_singleton→fS,length_nil→ey,getD→dm,length_map→gG,map_cons→gP,mem_cons→gW,all_eq_true→iC,cons_append→kq,nil_append→j6,length_eq_zero_iff→mF,mem_range→j8,range→iO,getElem?_append_left→ph,append_nil→me,map_nil→kK,mem_map→lR,mem_cons_of_mem→qk,getElem?_cons_zero→qT,getElem?_append_right→rx,mem_of_getElem?→qV,mem_append→pq,take_succ_cons→rU,map_append→rR,length_drop→sK,mem_cons_self→uq,drop_succ_cons→vR,mem_singleton→vp
open Option renaming some→j,none→Z,bind_eq_some_iff→dt,map_eq_some_iff→dl,bind_some→da,map_some→g3,getD_some→ns
open Nat renaming le_refl→bS,lt_of_lt_of_le→eF,le_trans→ee,zero_add→gH
open Go.IntKind renaming i64→o,wrap→hq
open Go.Proofs.Tryz renaming prog→ak,underlying36→vM
open Bool renaming false→R,true→Q,and_eq_true→h8,false_eq_true→nx,and_true→s3
open Go renaming TypeId→aU,Program→cu,Value→bH,Oper→bb,run_underlying→fY,FuncId→cH,World→cd,Operand→fM,Frame→eO,undef→fy,Code→ef,lone→ew,IntKind→kf
open Array renaming getD_eq_getD_getElem?→h9
open Option.some renaming injEq→hg
open Int renaming toNat_natCast→rV
open Go.Region renaming before→mA
open Go.Frame renaming enter→jO
open Go.Lib renaming itoa→ie,join→jv
open Go.RowKit.Below renaming refl→kZ
open BitVec renaming ofInt→nS
open Go.Addr renaming add_lit→nW
open Go.DataW renaming TrodAll→qZ
open UInt8 renaming ofNat→q2
open Ne renaming symm→lo
open String renaming singleton→tS
open List.cons renaming injEq→xf
namespace Go.Proofs.YtaodiaofbeblbaaGreatDoor
open Go
variable{fG:List im}{r:(I⊕I)×ad}{dh:Bool}{es acc:List (List I)}{m:dq}{bl:List bH}
inductive Arg where
 |v (D:Nat)
 |l (i:Nat)
 |c (a:I)
def arg(V L:List I):Arg->I
 |.v D=>V.getD D .aD
 |.l i=>L.getD i .aD
 |.c a=>a
inductive e' where
 |a' (x:Arg)
 |pick (c x y:Arg)
 |build (z:List I) (pl:List (Nat×Nat)) (parts:List (Nat×Arg))
 |lv (x:Arg)
 |bin (fq:kh) (op:BinOp) (x y:Arg)
 |Av (fq:kh) (aV:Option (List kh)) (kO:Bool) (op:BinOp) (x y:Arg)
 |un (op:UnOp) (x:Arg)
 |conv (fq:kh) (x:Arg)
 |CM (t:aU) (x:Arg)
 |CN (g:cH) (first captured:List Arg)
 |qh (s:Bool) (e:Option aU) (x:Arg) (gk ae:Option Arg)
 |dG (off:Nat) (x:Arg)
 |Fl (agg:Bool) (n off:Nat) (x:Arg)
 |fa (e:Option aU) (hH:Option (Nat×Nat)) (x k:Arg)
 |bR (s:Bool) (hH:Option (Nat×Nat×Bool)) (x k:Arg)
 |CO (aS:aU) (ok:Bool) (x:Arg)
 |ext (x:Arg) (i:Nat)
 |len (s:Bool) (e:Option aU) (x:Arg)
 |alloc (z:List I)
 |OB (t:aU) (z:List I)
 |kx (l8:Bool) (x y:Arg)
 |box (n:Nat) (x:Arg)
 |Jk (t:aU) (n:Nat) (x:Arg)
 |hv (ba:Bool) (e:aU) (z:List I) (n len:Nat) (parts:List (Nat×Arg))
 |OC (e:aU) (z:List I) (n len:Nat) (parts:List (Nat×Arg))
 |load (agg:Bool) (n:Nat) (x:Arg)
 |store (n:Nat) (a x:Arg)
 |OD (e:aU) (z:List I) (l c:Arg)
 |app (ba:Bool) (e:aU) (x y:Arg)
 |apps (ba:Bool) (e:aU) (x y:Arg)
 |call (f:Arg) (args:List Arg)
 |yK (x:Arg)
inductive oZ where
 |l
 |v (D:Nat)
 |n
structure vJ where
 guard:Option (Arg×Bool)
 agg:Bool
 n:Nat
 a:Arg
 d:Arg
inductive aH where
 |i (d:oZ) (O:e')
 |g (a:Arg) (w:Bool) (d:oZ) (O:e')
 |bU (l:List vJ)
inductive bj where
 |ops (l:List aH)
 |cond (a:Arg) (x y:List bj)
 |block (id:Nat) (b:List bj)
 |loop (b:List bj)
 |exit (id:Nat)
 |ret
inductive RK where
 |bQ (l:List bj)
 |ops (l:List aH)
 |b1 (id:Nat)
 |ff (b:List bj)
 |halt (K:List Item)
inductive nC where
 |v (D:Nat)
 |cell (agg:Bool) (n:Nat) (D:Nat)
def fg(e:Option aU)(hH:Option (Nat×Nat))(x k:I):Option I:=
 match x,k with
 |.bN _ el es,.int _ k=>if e=j el/\0<=k then(es[k.toNat]?).map λe=>.ip e 0 else Z
 |.br b O n el,.int _ k=>if e=j el/\0<=k/\k<n then j (.ptr b (O+k.toNat) 0)else Z
 |.ptr b i off,.int _ k=>hH.bind λq=>if q.2≠0/\0<=k/\k<q.1 then j (.ptr b i (off+k.toNat*q.2))else Z
 |.ip e off,.int _ k=>hH.bind λq=>if q.2≠0/\0<=k/\k<q.1 then j (.ip e (off+k.toNat*q.2))else Z
 |_,_=>Z
def sY(s:Bool)(hH:Option (Nat×Nat×Bool))(x k:I):Option I:=
 match x,k with
 |.str l,.int _ k=>if s=Q/\0<=k then(l[k.toNat]?).map λc=>.int .u8 c.toNat else Z
 |.agg cs,.int _ k=>hH.bind λq=>if q.2.1≠0/\0<=k/\k<q.1 then gX q.2.2 q.2.1 cs (k.toNat*q.2.1)else Z
 |_,_=>Z
def ko(s:Bool)(e:Option aU):I->Bool
 |.str _=>s
 |.bN _ el _=>e==j el
 |.br _ _ _ el=>e==j el
 |.aC=>e.isSome
 |_=>R
def Fm:I->Option I
 |.ptr b i off=>j (.ptr b i off)
 |.cF t b=>j (.cF t b)
 |.ip e off=>j (.ip e off)
 |.fn f a c=>j (.fn f a c)
 |.iface q v=>j (.iface q v)
 |_=>Z
def OE:kh->Bool
 |.iface=>Q
 |_=>R
def pD(fq:kh)(aV:Option (List kh))(kO:Bool)(op:BinOp)(x y:I):Option I:=
 match x,y with
 |.fC,.fC=>if OE fq&&kO then(match op with|.eql=>j (.bool Q)|.neq=>j (.bool R)|_=>Z)else Z
 |.agg xs,.agg dR=>aV.bind λaV=>match op with
   |.eql=>(sA aV xs dR).map λb=>.bool b
   |.neq=>(sA aV xs dR).map λb=>.bool !b
   |_=>Z
 |a,b=>dC fq op a b
def OF(c x y:I):Option I:=match c with
 |.bool v=>j (if v then x else y)
 |_=>Z
def Fo(t:aU)(x:I):Option I:=if x.one then j (.iface t x)else match x with
 |.agg cs=>j (.iface t (.agg cs))
 |_=>Z
def yL(aS:aU)(ok:Bool):I->Option I
 |.iface q v=>if q=aS then j (if ok then .bx [v,.bool Q]else v)else Z
 |_=>Z
def OG(x:I)(i:Nat):Option I:=match x with
 |.bx bl=>bl[i]?
 |_=>Z
def Jl(agg:Bool)(n off:Nat):I->Option I
 |.agg cs=>gX agg n cs off
 |_=>Z
def Wi(e:aU)(z:List I)(l c:I)(h:ad):Option (I×ad):=match l,c with
 |.int _ n,.int _ m=>if 0<=n/\n=m/\n<=100000 then j (.br h.n 0 n.toNat e,h.push (ar n.toNat z))else Z
 |_,_=>Z
def g9(V L:List I)(h:ad):e'->Option (I×ad)
 |.a' x=>j (arg V L x,h)
 |.pick c x y=>(OF (arg V L c) (arg V L x) (arg V L y)).map λv=>(v,h)
 |.build z pl parts=>(pr pl z (parts.map λq=>(q.1,arg V L q.2))).map λcs=>(.agg cs,h)
 |.lv x=>(Fm (arg V L x)).map λv=>(v,h)
 |.bin fq op x y=>(dC fq op (arg V L x) (arg V L y)).map λv=>(v,h)
 |.Av fq aV kO op x y=>(pD fq aV kO op (arg V L x) (arg V L y)).map λv=>(v,h)
 |.un op x=>(zW op (arg V L x)).map λv=>(v,h)
 |.conv fq x=>(yp fq (arg V L x)).map λv=>(v,h)
 |.CM t x=>(Fo t (arg V L x)).map λv=>(v,h)
 |.CN g first captured=>j (.fn g (first.map (arg V L)) (captured.map (arg V L)),h)
 |.qh s e x gk ae=>if ko s e (arg V L x)then(ku (arg V L x) (gk.map (arg V L)) (ae.map (arg V L))).map λv=>(v,h)else Z
 |.dG off x=>(b9 off (arg V L x)).map λv=>(v,h)
 |.Fl agg n off x=>(Jl agg n off (arg V L x)).map λv=>(v,h)
 |.fa e hH x k=>(fg e hH (arg V L x) (arg V L k)).map λv=>(v,h)
 |.bR s hH x k=>(sY s hH (arg V L x) (arg V L k)).map λv=>(v,h)
 |.CO aS ok x=>(yL aS ok (arg V L x)).map λv=>(v,h)
 |.ext x i=>(OG (arg V L x) i).map λv=>(v,h)
 |.len s e x=>if ko s e (arg V L x)then(gY (arg V L x)).map λ(n:Nat)=>(i64 n,h)else Z
 |.alloc z=>j (.ptr h.n 0 0,h.push [z])
 |.OB t z=>j (.cF t h.n,h.push [z])
 |.kx l8 x y=>(yq l8 (arg V L x) (arg V L y)).map λv=>(v,h)
 |.box n x=>if(arg V L x).cells.all I.one/\(arg V L x).cells.length=n then j (.ptr h.n 0 0,h.push [(arg V L x).cells])else Z
 |.Jk t n x=>if(arg V L x).cells.all I.one/\(arg V L x).cells.length=n then j (.cF t h.n,h.push [(arg V L x).cells])else Z
 |.hv ba e z n len parts=>(ps n (ar len z) (parts.map λq=>(q.1,arg V L q.2))).map λes=>if ba then(.br h.n 0 len e,h.push es)else(.bN (j h.ids) e es,h.fresh len)
 |.OC e z n len parts=>(ps n (ar len z) (parts.map λq=>(q.1,arg V L q.2))).map λes=>(.bN Z e es,h)
 |.load agg n x=>(cO agg n h (arg V L x)).map λv=>(v,h)
 |.store n a x=>(eN n h (arg V L a) (arg V L x)).map λE=>(.aD,E)
 |.OD e z l c=>Wi e z (arg V L l) (arg V L c) h
 |.app ba e x y=>e0 ba e (arg V L x) (arg V L y) h
 |.apps ba e x y=>wT ba e (arg V L x) (arg V L y) h
 |.call _ _=>Z
 |.yK _=>Z
def Aw(V L:List I)(a:Arg)(w:Bool):Option Bool:=match arg V L a with
 |.bool b=>j (if w then b else !b)
 |.bx _=>j R
 |_=>Z
def CP(V L:List I):Option (Arg×Bool)->Option Bool
 |none=>j Q
 |some (a,w)=>Aw V L a w
def vK(V L:List I)(h:ad):List vJ->Prop
 |[]=>True
 |q::r=>(match CP V L q.guard with
    |some Q=>cO q.agg q.n h (arg V L q.a)=j (arg V L q.d)
    |_=>True)/\vK V L h r
def hx(V L:List I):e'->Option (cH×List I)
 |.call f args=>match arg V L f with
   |.fn g first captured=>j (g,first++args.map (arg V L)++captured)
   |_=>Z
 |_=>Z
def yM(V L:List I):e'->Option I
 |.yK x=>match arg V L x with
   |.iface q v=>j (.iface q v)
   |_=>Z
 |_=>Z
def kp(V:List I)(v:I):oZ->List I
 |.v D=>V.set D v
 |_=>V
def kP(L:List I)(v:I):oZ->List I
 |.l=>v::L
 |_=>L
def mI(id:Nat):List RK->Option (List RK)
 |[]=>Z
 |.b1 i::k=>if i=id then j k else mI id k
 |.halt _::_=>Z
 |_::k=>mI id k
open Classical in
noncomputable def bu(C:cH->List I->ad->Option ((I⊕I)×ad))(aI:Nat)(k:List RK)(V L:List I)(h:ad):Option (h4×List I×ad):=
 match k with
 |[]=>j (.ret,V,h)
 |.bQ []::k=>bu C aI k V L h
 |.bQ (s::l)::k=>
   match s with
   |.ops bI=>bu C aI (.ops bI::.bQ l::k) V [] h
   |.cond a x y=>match arg V [] a with
     |.bool b=>if b then bu C aI (.bQ x::.bQ l::k) V [] h else bu C aI (.bQ y::.bQ l::k) V [] h
     |_=>Z
   |.block id b=>bu C aI (.bQ b::.b1 id::.bQ l::k) V L h
   |.loop b=>bu C aI (.ff b::.bQ l::k) V L h
   |.exit id=>mI id k>>= λdn=>bu C aI dn V L h
   |.ret=>j (.ret,V,h)
 |.b1 _::k=>bu C aI k V L h
 |.halt K::_=>j (.halt K,V,h)
 |.ff b::k=>bu C aI (.bQ b::.ff b::k) (cz aI V) L h
 |.ops []::k=>bu C aI k V [] h
 |.ops (.bU l::bI)::k=>if vK V L h l then bu C aI (.ops bI::k) V L h else Z
 |.ops (.i d O::bI)::k=>
  match yM V L O with
  |some v=>j (.panic v,V,h)
  |none=>
   match hx V L O with
   |some (g,args)=>C g args h>>= λr=>match r.1 with
     |.inl v=>bu C aI (.ops bI::k) (kp V v d) (kP L v d) r.2
     |.inr v=>j (.panic v,V,r.2)
   |none=>g9 V L h O>>= λr=>bu C aI (.ops bI::k) (kp V r.1 d) (kP L r.1 d) r.2
 |.ops (.g a w d O::bI)::k=>
   match Aw V L a w with
   |none=>Z
   |some R=>bu C aI (.ops bI::k) (kp V (.bx []) d) (kP L (.bx []) d) h
   |some Q=>
    match yM V L O with
    |some v=>j (.panic v,V,h)
    |none=>
     match hx V L O with
     |some (g,args)=>C g args h>>= λr=>match r.1 with
       |.inl v=>bu C aI (.ops bI::k) (kp V v d) (kP L v d) r.2
       |.inr v=>j (.panic v,V,r.2)
     |none=>g9 V L h O>>= λr=>bu C aI (.ops bI::k) (kp V r.1 d) (kP L r.1 d) r.2
partial_fixpoint
section
variable(P:cu)
def sZ(l:List Nat)(i:Nat):Option Nat:=go l 0
where go:List Nat->Nat->Option Nat
 |[],_=>Z
 |x::l,n=>if x=i then j n else go l (n+1)
def o0(aT lm:List Nat):fM->Option Arg
 |.tmp i=>match sZ lm i with
   |some k=>j (.l k)
   |none=>(sZ aT i).map .v
 |.const v=>j (.c (zV v))
 |.func f=>j (.c (.fn f [] []))
 |.global _=>Z
def Ax(aT lm:List Nat):List fM->Option (List Arg)
 |[]=>j []
 |x::l=>(o0 aT lm x).bind λa=>(Ax aT lm l).map (a::·)
def Jm(a b:Bool)(e:aU)(z:List I)(n len:Nat)(eP:List (Nat×Arg)):e':=if a then .hv Q e z n len eP else if b then .OC e z n len eP else .hv R e z n len eP
def CQ(aT lm:List Nat):List (Nat×fM)->Option (List (Nat×Arg))
 |[]=>j []
 |x::l=>(o0 aT lm x.2).bind λa=>(CQ aT lm l).map ((x.1,a)::·)
def Fp(aT lm:List Nat):Option fM->Option (Option Arg)
 |none=>j Z
 |some x=>(o0 aT lm x).map j
def Ay:kh->Bool
 |.iface|.agg|.other=>R
 |_=>Q
def Jn:fM->Bool
 |.const _=>Q
 |_=>R
def xg(ba:aU->Bool)(aT lm:List Nat)(O:bb):Option e':=
 let A:=o0 aT lm
 match O.op with
 |.move x=>(A x).map .a'
 |.assign x=>(A x).map .a'
 |.pick c x y=>(A c).bind λc=>(A x).bind λx=>(A y).map λy=>.pick c x y
 |.build ty parts=>(kg P ty).bind λz=>(CQ aT lm parts.toList).bind λeP=>match sz P ty with
   |some pl=>if pl.all (λq=>c' P q.2 != 0)then j (.build z (pl.map λq=>(q.1,c' P q.2)) eP)else Z
   |none=>(qL P ty).bind λq=>if c' P q.2=0 then Z else j (.build z ((iO q.1).map λi=>(i*c' P q.2,c' P q.2)) eP)
 |.nilCheck x=>(A x).map .lv
 |.binOp op ty x y _=>(A x).bind λhV=>(A y).map λrO=>if Ay (hs P ty)then .bin (hs P ty) op hV rO else .Av (hs P ty) (vs P ty) (Jn y) op hV rO
 |.unOp op _ x=>(A x).map (.un op)
 |.convert src dst x=>if(P.underlying src).isNone then Z else(A x).map (.conv (hs P dst))
 |.makeInterface ty x=>if wR P ty=R then Z else(A x).map (.CM ty)
 |.makeFunc f first captured=>match f with
   |.func g=>(Ax aT lm first.toList).bind λa=>(Ax aT lm captured.toList).map λc=>.CN g a c
   |_=>Z
 |.slice ty x gk ae l8=>if l8.isSome then Z else(A x).bind λx=>(Fp aT lm gk).bind λgk=>(Fp aT lm ae).map λae=>.qh (oM P ty) (jK P ty) x gk ae
 |.fieldAddr s x f=>((sz P s).bind (·[f]?)).bind λq=>if c' P q.2=0 then Z else(A x).map (.dG q.1)
 |.field s x f=>((sz P s).bind (·[f]?)).bind λq=>if c' P q.2=0\/(P.underlying q.2).isNone then Z else(A x).map (.Fl (j3 P q.2) (c' P q.2) q.1)
 |.indexAddr ty x bR=>(A x).bind λx=>(A bR).map λk=>.fa (jK P ty) ((qL P ty).map λq=>(q.1,c' P q.2)) x k
 |.index ty x bR=>(A x).bind λx=>(A bR).map λk=>.bR (oM P ty) ((qL P ty).bind λq=>if(P.underlying q.2).isSome then j (q.1,c' P q.2,j3 P q.2)else Z) x k
 |.typeAssert x _ aS ok=>if wR P aS=Q then(A x).map (.CO aS ok)else Z
 |.extract x i=>(A x).map λx=>.ext x i
 |.call {callee:=.builtin .len,args,argTypes}=>match args.toList,argTypes.toList with
   |[x],ty::_=>(A x).map (.len (oM P ty) (jK P ty))
   |_,_=>Z
 |.alloc e=>(kg P e).map λz=>if ba e then .OB e z else .alloc z
 |.box e x=>(A x).map λx=>if ba e then .Jk e (c' P e) x else .box (c' P e) x
 |.buildSlice ty len parts=>(jK P ty).bind λe=>(kg P e).bind λz=>if len*c' P e<=16777216 then(CQ aT lm parts.toList).map (Jm (ba ty) (ba (ty+1000000)) e z (c' P e) len)else Z
 |.load ty a=>if(P.underlying ty).isNone then Z else(A a).map (.load (j3 P ty) (c' P ty))
 |.store ty a x=>if c' P ty=0 then Z else(A a).bind λa=>(A x).map (.store (c' P ty) a)
 |.makeSlice ty l c=>(jK P ty).bind λe=>(kg P e).bind λz=>(A l).bind λl=>(A c).map λc=>.OD e z l c
 |.call {callee:=.builtin .append,args,argTypes}=>match args.toList,argTypes.toList with
   |[x,y],[ty,tM]=>if ty=tM then(jK P ty).bind λe=>if(kg P e).isSome then(A x).bind λx=>(A y).map λy=>.app (ba ty) e x y else Z else if oM P tM then(jK P ty).bind λe=>if EN P e then(A x).bind λx=>(A y).map λy=>.apps (ba ty) e x y else Z else Z
   |_,_=>Z
 |.call {callee:=.value f,args,..}=>(A f).bind λf=>(Ax aT lm args.toList).map (.call f)
 |.panic x=>(A x).map .yK
 |.call {callee:=.builtin .min,args,..}=>match args.toList with
   |[x,y]=>(A x).bind λx=>(A y).map (.kx R x)
   |_=>Z
 |.call {callee:=.builtin .max,args,..}=>match args.toList with
   |[x,y]=>(A x).bind λx=>(A y).map (.kx Q x)
   |_=>Z
 |_=>Z
def CR(aT lm:List Nat)(all:Array bb)(O:bb):Option (Option (Arg×Bool)):=
 match O.guard with
 |none=>j Z
 |some (D,want)=>((all[D]?).bind (·.dst)).bind λd=>(o0 aT lm (.tmp d)).map λa=>j (a,want)
def Wj(aT lm:List Nat)(all:Array bb)(O:bb):Option vJ:=
 match O.op,O.dst with
 |.load ty a,j d=>(CR aT lm all O).bind λg=>(o0 aT lm a).bind λa=>(o0 aT lm (.tmp d)).map λd=>⟨g,j3 P ty,c' P ty,a,d⟩
 |.store ty a x,Z=>(CR aT lm all O).bind λg=>(o0 aT lm a).bind λa=>(o0 aT lm x).map λd=>⟨g,j3 P ty,c' P ty,a,d⟩
 |_,_=>Z
def yN(aT lm:List Nat)(all:Array bb):List bb->Option (List vJ)
 |[]=>j []
 |O::l=>(Wj P aT lm all O).bind λq=>(yN aT lm all l).map (q::·)
def Az(n:Nat)(aT lm:List Nat):Option Tmp->Option (oZ×List Nat)
 |none=>j (.n,lm)
 |some d=>if n<=d\/(sZ lm d).isSome then Z else match sZ aT d with
   |some D=>j (.v D,lm)
   |none=>j (.l,d::lm)
def Wk(g:Option (Arg×Bool))(d:oZ)(r:e'):aH:=match g with
 |none=>.i d r
 |some (a,w)=>.g a w d r
def Jo(c:List vJ)(bI:List aH):List aH:=match c with
 |[]=>bI
 |q::c=>.bU (q::c)::bI
def mg(ba:aU->Bool)(n:Nat)(aT:List Nat)(all:Array bb):List Nat->List (bb×List bb)->Option (List aH)
 |_,[]=>j []
 |lm,(O,bU)::l=>(xg P ba aT lm O).bind λr=>(CR aT lm all O).bind λg=>(Az n aT lm O.dst).bind λd=>(yN P aT d.2 all bU).bind λc=>(mg ba n aT all d.2 l).map λbI=>Wk g d.1 r::Jo c bI
def ga(ba:aU->Bool)(ch:Nat->List (Nat×List Nat))(n:Nat)(aT:List Nat):ef->List bj->Option (List bj)
 |.skip,r=>j r
 |.label _,r=>j r
 |.seq a b,r=>(ga ba ch n aT b r).bind λr=>ga ba ch n aT a r
 |.cond c x y,r=>(o0 aT [] c).bind λc=>(ga ba ch n aT x []).bind λx=>(ga ba ch n aT y []).map λy=>.cond c x y::r
 |.block id b,r=>(ga ba ch n aT b []).map λb=>.block id b::r
 |.loop b,r=>(ga ba ch n aT b []).map λb=>.loop b::r
 |.exit id,r=>j (.exit id::r)
 |.ret,r=>j (.ret::r)
 |.region id ops d,r=>(mg P ba n aT ops [] (iq d ops (ch id))).map λbI=>.ops bI::r
 |_,_=>Z
def pE(aT:List Nat):List ResultVar->Option (List nC)
 |[]=>j []
 |.tmp i::l=>(sZ aT i).bind λD=>(pE aT l).map (.v D::·)
 |.cell i ty::l=>if(P.underlying ty).isNone then Z else(sZ aT i).bind λD=>(pE aT l).map (.cell (j3 P ty) (c' P ty) D::·)
end
def iS(V:List I)(h:ad):List nC->Option (List I)
 |[]=>j []
 |.v D::rs=>(iS V h rs).map λl=>V.getD D .aD::l
 |.cell agg n D::rs=>(cO agg n h (V.getD D .aD)).bind λv=>(iS V h rs).map λl=>v::l
structure gb(n:Nat)(aT lm:List Nat)(t V L:List I):Prop where
 len:t.length=n
 bV:V.length=aT.length
 uh:L.length=lm.length
 v:∀D s,aT[D]? =j s->s<n/\t.getD s .aD=V.getD D .aD
 l:∀D s,lm[D]? =j s->s<n/\t.getD s .aD=L.getD D .aD
section
variable{P:cu}{T:gZ}{f:cH}{n:Nat}{aT lm:List Nat}{t V L:List I}{h:ad}{ba:aU->Bool}
theorem Wl{i:Nat}:∀(l:List Nat) (m k:Nat),sZ.go i l m=j k->m<=k/\l[k - m]? =j i
 |[],m,k,he=>by simp[sZ.go]at he
 |x::l,m,k,he=>by
   simp only[sZ.go]at he;split at he
   ·rename_i an;injection he with he;subst he;exact⟨bS _,by simp[an]⟩
   ·obtain⟨F,J⟩:=Wl l (m+1) k he;refine⟨by omega,?_⟩;rw[show k - m=(k - (m+1))+1 by omega,List.getElem?_cons_succ];exact J
theorem Fq{l:List Nat}{i k:Nat}(he:sZ l i=j k):l[k]? =j i:=by simpa using(Wl l 0 k he).2
theorem OH{i:Nat}:∀(l:List Nat) (m:Nat),sZ.go i l m=Z->i ∉ l
 |[],m,_=>by simp
 |x::l,m,he=>by
   simp only[sZ.go]at he;split at he
   ·cases he
   ·rename_i an;have:=OH l (m+1) he;simp only[gW,not_or];exact⟨λe=>an e.symm,this⟩
theorem gT(r:gb n aT lm t V L){x:fM}{a:Arg}(he:o0 aT lm x=j a):bA t x=arg V L a:=by
 cases x with
 |tmp i=>
   simp only[o0]at he;split at he
   ·rename_i k ab;injection he with he;subst he;exact(r.l k i (Fq ab)).2
   ·obtain⟨D,aa,rfl⟩:=dl.1 he;exact(r.v D i (Fq aa)).2
 |const v=>simp only[o0,hg]at he;subst he;rfl
 |func g=>simp only[o0,hg]at he;subst he;rfl
 |global g=>simp[o0]at he
theorem Jp(r:gb n aT lm t V L):∀{xs:List fM} {aS:List Arg},Ax aT lm xs=j aS->xs.map (bA t)=aS.map (arg V L)
 |[],aS,he=>by simp[Ax]at he;subst he;rfl
 |x::xs,aS,he=>by simp only[Ax]at he;obtain⟨a,aN,he⟩:=dt.1 he;obtain⟨Ou,has,rfl⟩:=dl.1 he;simp[gT r aN,Jp r has]
theorem OI(r:gb n aT lm t V L):∀{xs:List (Nat×fM)} {aS:List (Nat×Arg)},CQ aT lm xs=j aS->(xs.map λq=>(q.1,bA t q.2))=aS.map λq=>(q.1,arg V L q.2)
 |[],aS,he=>by simp[CQ]at he;subst he;rfl
 |x::xs,aS,he=>by simp only[CQ]at he;obtain⟨a,aN,he⟩:=dt.1 he;obtain⟨Ou,has,rfl⟩:=dl.1 he;simp[gT r aN,OI r has]
theorem Wm(r:gb n aT lm t V L){x:Option fM}{a:Option Arg}(he:Fp aT lm x=j a):x.map (bA t)=a.map (arg V L):=by
 cases x with
 |none=>simp[Fp]at he;subst he;rfl
 |some x=>simp only[Fp]at he;obtain⟨a,aN,rfl⟩:=dl.1 he;simp[gT r aN]
theorem Wn(P:cu)(ty:aU)(x:I):wS P ty x=ko (oM P ty) (jK P ty) x:=by cases x<;>rfl
theorem amD(P:cu)(ty:aU)(x k:I):p6 P ty x k=fg (jK P ty) ((qL P ty).map λq=>(q.1,c' P q.2)) x k:=by cases x<;>cases k<;>first|rfl|(simp only[p6,fg];cases qL P ty<;>rfl)
theorem amE(P:cu)(ty:aU)(x k:I):wU P ty x k=sY (oM P ty) ((qL P ty).bind λq=>if(P.underlying q.2).isSome then j (q.1,c' P q.2,j3 P q.2)else Z) x k:=by
 cases x<;>cases k<;>first|rfl|skip
 simp only[wU,sY];cases qL P ty with
 |none=>rfl
 |some q=>cases bE:(P.underlying q.2).isSome<;>simp[bE]
theorem amF(fq:kh)(op:BinOp):dC fq op .fC .fC=Z:=by unfold dC;simp only;split<;>(cases fq<;>rfl)
theorem amG(fq:kh)(op:BinOp)(xs dR:List I):dC fq op (.agg xs) (.agg dR)=Z:=by unfold dC;simp only;split<;>(cases fq<;>rfl)
theorem amH(r:gb n aT lm t V L){O:bb}{mh:e'}(he:xg P ba aT lm O=j mh):fi P ba t h O=g9 V L h mh/\fr t O=hx V L mh:=by
 unfold xg at he;simp only at he;split at he
 case h_1 x au=>
  obtain⟨a,aN,rfl⟩:=dl.1 he;exact⟨by simp[fi,jC,au,g9,gT r aN],by simp[fr,hx,au]⟩
 case h_2 x au=>
  obtain⟨a,aN,rfl⟩:=dl.1 he;exact⟨by simp[fi,jC,au,g9,gT r aN],by simp[fr,hx,au]⟩
 case h_3 c x y au=>
  obtain⟨gy,al,he⟩:=dt.1 he;obtain⟨hV,an,he⟩:=dt.1 he;obtain⟨rO,bq,rfl⟩:=dl.1 he;refine⟨?_,by simp[fr,hx,au]⟩;simp only[fi,jC,au,g9,gT r al,gT r an,gT r bq];rfl
 case h_4 ty parts au=>
  obtain⟨z,aR,he⟩:=dt.1 he;obtain⟨eP,yO,he⟩:=dt.1 he;have hp:=OI r yO;split at he
  ·rename_i pl i6;split at he
   ·rename_i mc;injection he with he;subst he;exact⟨by simp only[fi,jC,au,g9,aR,i6,da,mc,if_true,hp,Option.map_map];rfl,by simp[fr,hx,au]⟩
   ·cases he
  ·rename_i i6;obtain⟨q,aE,he⟩:=dt.1 he;split at he
   ·cases he
   ·rename_i E3;injection he with he;subst he;exact⟨by simp only[fi,jC,au,g9,aR,i6,aE,da,E3,if_false,hp,Option.map_map];rfl,by simp[fr,hx,au]⟩
 case h_5 x au=>
  obtain⟨a,aN,rfl⟩:=dl.1 he;exact⟨by simp only[fi,jC,au,g9,gT r aN];rfl,by simp[fr,hx,au]⟩
 case h_6 op ty x y sM au=>
  obtain⟨hV,an,he⟩:=dt.1 he;obtain⟨rO,bq,rfl⟩:=dl.1 he;refine⟨?_,by split<;>simp[fr,hx,au]⟩;have av:g9 V L h (if Ay (hs P ty)then .bin (hs P ty) op hV rO else .Av (hs P ty) (vs P ty) (Jn y) op hV rO)=(if Ay (hs P ty)then dC (hs P ty) op (arg V L hV) (arg V L rO)else pD (hs P ty) (vs P ty) (Jn y) op (arg V L hV) (arg V L rO)).map λv=>(v,h):=by split<;>rfl
  rw[av];have OJ:Ay (hs P ty)=Q->vs P ty=Z:=by
   intro ab;unfold vs;split
   ·rename_i dM sL;simp[hs,sL,Ay]at ab
   ·rfl
  have ax:jC P t O=if Ay (hs P ty)then dC (hs P ty) op (arg V L hV) (arg V L rO)else pD (hs P ty) (vs P ty) (Jn y) op (arg V L hV) (arg V L rO):=by
   simp only[jC,au,gT r an,gT r bq];generalize arg V L hV=X;generalize arg V L rO=Y;generalize hs P ty=fq at*;generalize vs P ty=aV at*;cases az:Ay fq
   ·simp only[nx,if_false];cases X<;>first|rfl|skip
    ·cases Y<;>first|rfl|(cases fq<;>cases y<;>cases op<;>rfl)
    ·cases Y<;>rfl
   ·simp only[if_true];have am:=OJ az;subst am;cases X<;>first|rfl|skip
    ·cases Y<;>first|rfl|skip
     rw[amF];cases fq<;>first|rfl|cases az
    ·cases Y<;>first|rfl|skip
     rw[amG];rfl
  simp only[fi,au];rw[ax]
 case h_7 op ty x au=>
  obtain⟨a,aN,rfl⟩:=dl.1 he;exact⟨by simp only[fi,jC,au,g9,gT r aN],by simp[fr,hx,au]⟩
 case h_8 src dst x au=>
  split at he
  ·cases he
  ·rename_i aq;obtain⟨a,aN,rfl⟩:=dl.1 he;exact⟨by simp only[fi,jC,au,g9,gT r aN,aq];rfl,by simp[fr,hx,au]⟩
 case h_9 ty x au=>
  split at he
  ·cases he
  ·rename_i aq;obtain⟨a,aN,rfl⟩:=dl.1 he;exact⟨by simp only[fi,jC,au,g9,gT r aN,aq];rfl,by simp[fr,hx,au]⟩
 case h_10 g first captured au=>
  split at he
  ·obtain⟨a,aN,he⟩:=dt.1 he;obtain⟨c,al,rfl⟩:=dl.1 he;exact⟨by simp[fi,jC,au,g9,Jp r aN,Jp r al],by simp[fr,hx,au]⟩
  ·cases he
 case h_11 ty x gk ae l8 au=>
  split at he
  ·cases he
  ·rename_i ju;obtain⟨a,aN,he⟩:=dt.1 he;obtain⟨aAx,Aa,he⟩:=dt.1 he;obtain⟨ev,IS,rfl⟩:=dl.1 he;refine⟨?_,by simp[fr,hx,au]⟩;simp only[fi,jC,au,g9,gT r aN,Wm r Aa,Wm r IS,Wn];cases bn:ko (oM P ty) (jK P ty) (arg V L a)<;>simp[ju]
 case h_12 s x Fs au=>
  obtain⟨q,aE,he⟩:=dt.1 he;split at he
  ·cases he
  ·rename_i aq;obtain⟨a,aN,rfl⟩:=dl.1 he;exact⟨by simp only[fi,jC,au,g9,gT r aN,aE,da,aq,if_false],by simp[fr,hx,au]⟩
 case h_13 s x Fs au=>
  obtain⟨q,aE,he⟩:=dt.1 he;split at he
  ·cases he
  ·rename_i aq;obtain⟨a,aN,rfl⟩:=dl.1 he;exact⟨by simp only[fi,jC,au,g9,gT r aN,aE,da,aq,if_false];rfl,by simp[fr,hx,au]⟩
 case h_14 ty x bR au=>
  obtain⟨a,aN,he⟩:=dt.1 he;obtain⟨k,ab,rfl⟩:=dl.1 he;exact⟨by simp only[fi,jC,au,g9,gT r aN,gT r ab,amD],by simp[fr,hx,au]⟩
 case h_15 ty x bR au=>
  obtain⟨a,aN,he⟩:=dt.1 he;obtain⟨k,ab,rfl⟩:=dl.1 he;exact⟨by simp only[fi,jC,au,g9,gT r aN,gT r ab,amE],by simp[fr,hx,au]⟩
 case h_16 x EX aS ok au=>
  split at he
  ·rename_i hp;obtain⟨a,aN,rfl⟩:=dl.1 he;refine⟨?_,by simp[fr,hx,au]⟩;simp only[fi,jC,au,g9,gT r aN,hp,true_and];rfl
  ·cases he
 case h_17 x i au=>
  obtain⟨a,aN,rfl⟩:=dl.1 he;exact⟨by simp only[fi,jC,au,g9,gT r aN];rfl,by simp[fr,hx,au]⟩
 case h_18 args argTypes au=>
  split at he
  ·rename_i x ty qc av ax;obtain⟨a,aN,rfl⟩:=dl.1 he;refine⟨?_,by simp[fr,hx,au]⟩;simp only[fi,jC,au,g9,av,ax,gT r aN,Wn];split<;>simp[Option.map_map,Function.comp_def]
  ·cases he
 case h_19 e au=>
  obtain⟨z,aR,rfl⟩:=dl.1 he;refine⟨?_,?_⟩
  ·simp only[fi,au,aR,g3];split<;>rfl
  ·split<;>simp[fr,hx,au]
 case h_20 e x au=>
  obtain⟨a,aN,rfl⟩:=dl.1 he;refine⟨?_,?_⟩
  ·simp only[fi,au,gT r aN];split<;>split<;>simp_all [g9]
  ·split<;>simp[fr,hx,au]
 case h_21 ty len parts au=>
  obtain⟨e,gJ,he⟩:=dt.1 he;obtain⟨z,aR,he⟩:=dt.1 he;split at he
  ·rename_i al;obtain⟨eP,yO,rfl⟩:=dl.1 he;refine⟨?_,?_⟩
   ·simp only[fi,au,gJ,aR,da,if_pos al,OI r yO];unfold Jm;cases ba ty
    ·cases ba (ty+1000000)
     ·simp only[nx,if_false,g9]
     ·simp only[nx,if_false,if_true,g9]
    ·simp only[if_true,g9]
   ·unfold Jm;split
    ·simp[fr,hx,au]
    ·split<;>simp[fr,hx,au]
  ·cases he
 case h_22 ty a au=>
  split at he
  ·cases he
  ·rename_i aq;obtain⟨a,aN,rfl⟩:=dl.1 he;exact⟨by simp only[fi,au,g9,gT r aN,aq];rfl,by simp[fr,hx,au]⟩
 case h_23 ty a x au=>
  split at he
  ·cases he
  ·rename_i aq;obtain⟨a,aN,he⟩:=dt.1 he;obtain⟨x,an,rfl⟩:=dl.1 he;exact⟨by simp only[fi,au,g9,gT r aN,gT r an,aq,if_false],by simp[fr,hx,au]⟩
 case h_24 ty l c au=>
  obtain⟨e,gJ,he⟩:=dt.1 he;obtain⟨z,aR,he⟩:=dt.1 he;obtain⟨a,aN,he⟩:=dt.1 he;obtain⟨k,ab,rfl⟩:=dl.1 he;exact⟨by simp only[fi,au,g9,gT r aN,gT r ab,gJ,aR,da];rfl,by simp[fr,hx,au]⟩
 case h_25 args argTypes au=>
  split at he
  ·rename_i x y ty tM av ax;split at he
   ·rename_i aO;obtain⟨e,gJ,he⟩:=dt.1 he;split at he
    ·rename_i aR;obtain⟨a,aN,he⟩:=dt.1 he;obtain⟨k,ab,rfl⟩:=dl.1 he;exact⟨by simp only[fi,au,g9,av,ax,gT r aN,gT r ab,if_pos aO,gJ,da,if_pos aR],by simp[fr,hx,au]⟩
    ·cases he
   ·rename_i aO;split at he
    ·rename_i bJ;obtain⟨e,gJ,he⟩:=dt.1 he;split at he
     ·rename_i g7;obtain⟨a,aN,he⟩:=dt.1 he;obtain⟨k,ab,rfl⟩:=dl.1 he;exact⟨by simp only[fi,au,g9,av,ax,gT r aN,gT r ab,if_neg aO,if_pos bJ,gJ,da,if_pos g7],by simp[fr,hx,au]⟩
     ·cases he
    ·cases he
  ·cases he
 case h_26 CC args VK au=>
  obtain⟨a,aN,he⟩:=dt.1 he;obtain⟨aS,has,rfl⟩:=dl.1 he;refine⟨by simp[fi,jC,au,g9],?_⟩;simp only[fr,hx,au,gT r aN,Jp r has];rfl
 case h_27 x au=>
  obtain⟨a,aN,rfl⟩:=dl.1 he;exact⟨by simp[fi,jC,au,g9],by simp[fr,hx,au]⟩
 case h_28 args _ au=>
  split at he
  ·rename_i x y av;obtain⟨a,aN,he⟩:=dt.1 he;obtain⟨k,ab,rfl⟩:=dl.1 he;exact⟨by simp only[fi,jC,au,av,g9,gT r aN,gT r ab],by simp[fr,hx,au]⟩
  ·cases he
 case h_29 args _ au=>
  split at he
  ·rename_i x y av;obtain⟨a,aN,he⟩:=dt.1 he;obtain⟨k,ab,rfl⟩:=dl.1 he;exact⟨by simp only[fi,jC,au,av,g9,gT r aN,gT r ab],by simp[fr,hx,au]⟩
  ·cases he
 case h_30=>cases he
theorem amI{O:bb}{x:Arg}(he:xg P ba aT lm O=j (.yK x)):∃y,O.op= .panic y/\o0 aT lm y=j x:=by
 unfold xg at he;simp only at he;split at he
 case h_27 y au=>
  obtain⟨a,aN,e⟩:=dl.1 he;injection e with e;subst e;exact⟨y,au,aN⟩
 case h_21 ty len parts au=>
  obtain⟨e,gJ,he⟩:=dt.1 he;obtain⟨z,aR,he⟩:=dt.1 he;split at he
  ·obtain⟨eP,yO,he⟩:=dl.1 he;unfold Jm at he;split at he
   ·cases he
   ·split at he<;>cases he
  ·cases he
 all_goals
  exfalso
  try (cases he;done)
  try simp only[dl,dt,reduceCtorEq,and_false,exists_false]at he
 case h_4=>
  obtain⟨_,_,_,_,he⟩:=he;split at he
  ·split at he<;>cases he
  ·obtain⟨_,_,he⟩:=dt.1 he;split at he<;>cases he
 all_goals repeat' (first
   |(cases he;done)
   |split at he
   |(obtain⟨_,_,he⟩:=he)
   |(simp only[dl,dt,reduceCtorEq,and_false,exists_false]at he))
theorem If(r:gb n aT lm t V L){O:bb}{mh:e'}(he:xg P ba aT lm O=j mh):mZ t O=yM V L mh:=by
 cases mh with
 |yK x=>obtain⟨y,F,J⟩:=amI he;simp only[mZ,F,yM,gT r J];rfl
 |_=>
   have:mZ t O=Z:=by
    unfold mZ;split
    ·rename_i x au;unfold xg at he;rw[au]at he;simp only at he;obtain⟨a,aN,e⟩:=dl.1 he;cases e
    ·rfl
   rw[this];rfl
end
section
variable{P:cu}{T:gZ}{f:cH}{n:Nat}{aT lm:List Nat}{t V L:List I}{h:ad}{ba:aU->Bool}{ch:Nat->List (Nat×List Nat)}
theorem amJ{l:List Nat}(h:l.Nodup){i D s:Nat}(ae:l[i]? =j s)(aa:l[D]? =j s):i=D:=by
 obtain⟨aP,a2⟩:=fR.1 ae;obtain⟨dk,dH⟩:=fR.1 aa;have:=List.pairwise_iff_getElem.1 h;rcases Nat.lt_trichotomy i D with h|h|h
 ·exact absurd (a2.trans dH.symm) (this i D aP dk h)
 ·exact h
 ·exact absurd (dH.trans a2.symm) (this D i dk aP h)
theorem amK(r:gb n aT lm t V L)(s0:aT.Nodup){dst:Option Tmp}{d:oZ×List Nat}(he:Az n aT lm dst=j d)(v:I):gb n aT d.2 (eU t dst v) (kp V v d.1) (kP L v d.1):=by
 cases dst with
 |none=>simp only[Az,hg]at he;subst he;exact r
 |some s=>
   simp only[Az]at he;split at he
   ·cases he
   ·rename_i al;simp only[not_or,Nat.not_le,Option.isSome_iff_ne_none,ne_eq,Classical.not_not]at al;obtain⟨a6,c2⟩:=al;have Ag:=OH lm 0 c2;split at he
    ·rename_i D aa;injection he with he;subst he;have di:=Fq aa;refine⟨by simp[eU,r.len],by simp[kp,r.bV],r.uh,λi q aE=>?_,λi q aE=>?_⟩
     ·obtain⟨F,J⟩:=r.v i q aE;refine⟨F,?_⟩;by_cases gR:i=D
      ·subst gR;rw[di]at aE;injection aE with aE;subst aE;have bt:i<V.length:=by rw[r.bV];exact(fR.1 di).1
       rw[I2 rfl (by rw[r.len];exact F)];simp[kp,dm,bt]
      ·have cP:s≠q:=by intro e;subst e;exact gR (amJ s0 aE di)
       rw[CE (by simpa using cP),J];simp[kp,dm,List.getElem?_set_ne (lo gR)]
     ·obtain⟨F,J⟩:=r.l i q aE;refine⟨F,?_⟩;have cP:s≠q:=λe=>Ag (by rw[e];exact qV aE);rw[CE (by simpa using cP),J];rfl
    ·rename_i aa;injection he with he;subst he;have OK:=OH aT 0 aa;refine⟨by simp[eU,r.len],r.bV,by simp[kP,r.uh],λi q aE=>?_,λi q aE=>?_⟩
     ·obtain⟨F,J⟩:=r.v i q aE;have cP:s≠q:=λe=>OK (by rw[e];exact qV aE);exact⟨F,by rw[CE (by simpa using cP),J];rfl⟩
     ·cases i with
      |zero=>simp only[qT,hg]at aE;subst aE;exact⟨a6,by rw[I2 rfl (by rw[r.len];exact a6)];rfl⟩
      |succ i=>simp only[List.getElem?_cons_succ]at aE;obtain⟨F,J⟩:=r.l i q aE;have cP:s≠q:=λe=>Ag (by rw[e];exact qV aE);exact⟨F,by rw[CE (by simpa using cP),J];rfl⟩
theorem Jq(r:gb n aT lm t V L){all:Array bb}{O:bb}{g:Option (Arg×Bool)}(he:CR aT lm all O=j g):h3 all t O=CP V L g:=by
 unfold CR at he;split at he
 ·rename_i a7;injection he with he;subst he;simp[h3,a7,CP]
 ·rename_i D want a7;obtain⟨d,a1,he⟩:=dt.1 he;obtain⟨a,aN,rfl⟩:=dl.1 he;have:=gT r aN;simp only[bA]at this;simp only[h3,a7,a1,this,CP,Aw];rfl
theorem OL(r:gb n aT lm t V L){all:Array bb}:∀{l:List bb} {c:List vJ},yN P aT lm all l=j c->vK V L h c->pt P all t h l
 |[],c,_,_=>trivial
 |O::l,c,he,al=>by
   simp only[yN]at he;obtain⟨q,aE,he⟩:=dt.1 he;obtain⟨gy,sR,rfl⟩:=dl.1 he;obtain⟨F,J⟩:=al;refine⟨?_,OL r sR J⟩;unfold Wj at aE;split at aE
   ·rename_i ty a d au a1;obtain⟨g,a7,aE⟩:=dt.1 aE;obtain⟨dZ,aN,aE⟩:=dt.1 aE;obtain⟨nB,m5,rfl⟩:=dl.1 aE;rw[Jq r a7];have av:=gT r aN;have ax:=gT r m5;simp only[bA]at ax;simp only at F;split at F
    ·rename_i hw;rw[hw];simp only[au,a1,av,ax];exact F
    ·rename_i hw;split
     ·rename_i kn;exact absurd kn hw
     ·trivial
   ·rename_i ty a x au a1;obtain⟨g,a7,aE⟩:=dt.1 aE;obtain⟨dZ,aN,aE⟩:=dt.1 aE;obtain⟨nB,m5,rfl⟩:=dl.1 aE;rw[Jq r a7];have av:=gT r aN;have ax:=gT r m5;simp only at F;split at F
    ·rename_i hw;rw[hw];simp only[au,a1,av,ax];exact F
    ·rename_i hw;split
     ·rename_i kn;exact absurd kn hw
     ·trivial
   ·cases aE
def mi(P:cu)(ba:aU->Bool)(ch:Nat->List (Nat×List Nat))(n:Nat)(aT:List Nat):List ef->List bj->Option (List bj)
 |[],r=>j r
 |c::cs,r=>(mi P ba ch n aT cs r).bind λr=>ga P ba ch n aT c r
inductive yP(P:cu)(ba:aU->Bool)(ch:Nat->List (Nat×List Nat))(n:Nat)(aT:List Nat):ef->bj->Prop
 |cond (c:fM) (x y:ef) (a:Arg) (xs dR:List bj):o0 aT [] c=j a->ga P ba ch n aT x []=j xs->ga P ba ch n aT y []=j dR->yP P ba ch n aT (.cond c x y) (.cond a xs dR)
 |block (id:Nat) (b:ef) (ui:List bj):ga P ba ch n aT b []=j ui->yP P ba ch n aT (.block id b) (.block id ui)
 |loop (b:ef) (ui:List bj):ga P ba ch n aT b []=j ui->yP P ba ch n aT (.loop b) (.loop ui)
 |exit (id:Nat):yP P ba ch n aT (.exit id) (.exit id)
 |ret:yP P ba ch n aT .ret .ret
 |region (id:Nat) (all:Array bb) (d:Bool) (bI:List aH):mg P ba n aT all [] (iq d all (ch id))=j bI->yP P ba ch n aT (.region id all d) (.ops bI)
theorem Wo(cs hP:List ef)(r:List bj):mi P ba ch n aT (cs++hP) r=(mi P ba ch n aT hP r).bind λr=>mi P ba ch n aT cs r:=by
 induction cs with
 |nil=>simp only[j6,mi];cases mi P ba ch n aT hP r<;>rfl
 |cons c cs aW=>simp only[kq,mi,aW];cases mi P ba ch n aT hP r<;>rfl
theorem Or:∀(c:ef) (r l:List bj),ga P ba ch n aT c r=j l->(l=r/\∀k t h,dA P T f (.code c::k) t h=dA P T f k t h)\/(∃s b8 a6 cs,l=s::b8/\mi P ba ch n aT cs r=j b8/\yP P ba ch n aT a6 s/\∀k t h,dA P T f (.code c::k) t h=dA P T f (.code a6::(cs.map .code++k)) t h):=by
 intro c;induction c with
 |skip=>intro r l he;simp only[ga,hg]at he;exact .inl ⟨he.symm,λk t h=>akq⟩
 |label i=>intro r l he;simp only[ga,hg]at he;exact .inl ⟨he.symm,λk t h=>akr⟩
 |seq a b amL amM=>
   intro r l he;simp only[ga]at he;obtain⟨b0,F,J⟩:=dt.1 he;rcases amL b0 l J with⟨av,ax⟩|⟨s,b8,a6,cs,av,ax,bs,cq⟩
   ·subst av;rcases amM r l F with⟨f1,f2⟩|⟨s,b8,a6,cs,f1,f2,f3,f4⟩
    ·exact .inl ⟨f1,λk t h=>by rw[Nx,ax,f2]⟩
    ·exact .inr ⟨s,b8,a6,cs,f1,f2,f3,λk t h=>by rw[Nx,ax,f4]⟩
   ·refine .inr ⟨s,b8,a6,cs++[b],av,?_,bs,λk t h=>?_⟩
    ·rw[Wo];simp only[mi,da,F,ax]
    ·rw[Nx,cq];simp
 |cond c x y _ _=>intro r l he;simp only[ga]at he;obtain⟨a,aN,he⟩:=dt.1 he;obtain⟨xs,an,he⟩:=dt.1 he;obtain⟨dR,bq,rfl⟩:=dl.1 he;exact .inr ⟨_,_,_,[],rfl,rfl,.cond _ _ _ _ _ _ aN an bq,λk t h=>rfl⟩
 |block id b _=>intro r l he;simp only[ga]at he;obtain⟨ui,ag,rfl⟩:=dl.1 he;exact .inr ⟨_,_,_,[],rfl,rfl,.block _ _ _ ag,λk t h=>rfl⟩
 |loop b _=>intro r l he;simp only[ga]at he;obtain⟨ui,ag,rfl⟩:=dl.1 he;exact .inr ⟨_,_,_,[],rfl,rfl,.loop _ _ ag,λk t h=>rfl⟩
 |exit id=>intro r l he;simp only[ga,hg]at he;subst he;exact .inr ⟨_,_,_,[],rfl,rfl,.exit _,λk t h=>rfl⟩
 |ret=>intro r l he;simp only[ga,hg]at he;subst he;exact .inr ⟨_,_,_,[],rfl,rfl,.ret,λk t h=>rfl⟩
 |region id ops d=>intro r l he;simp only[ga]at he;obtain⟨bI,m8,rfl⟩:=dl.1 he;exact .inr ⟨_,_,_,[],rfl,rfl,.region _ _ _ _ m8,λk t h=>rfl⟩
 |_=>intro r l he;simp[ga]at he
theorem Wp:∀(cs:List ef) (l:List bj),mi P ba ch n aT cs []=j l->(l=[]/\∀k t h,dA P T f (cs.map .code++k) t h=dA P T f k t h)\/(∃s b8 a6 gA,l=s::b8/\mi P ba ch n aT gA []=j b8/\yP P ba ch n aT a6 s/\∀k t h,dA P T f (cs.map .code++k) t h=dA P T f (.code a6::(gA.map .code++k)) t h):=by
 intro cs;induction cs with
 |nil=>intro l he;simp only[mi,hg]at he;exact .inl ⟨he.symm,λk t h=>rfl⟩
 |cons c cs aW=>
   intro l he;simp only[mi]at he;obtain⟨r,F,J⟩:=dt.1 he;rcases Or (T:=T) (f:=f) c r l J with⟨av,ax⟩|⟨s,b8,a6,OM,av,ax,bs,cq⟩
   ·subst av;rcases aW l F with⟨f1,f2⟩|⟨s,b8,a6,gA,f1,f2,f3,f4⟩
    ·exact .inl ⟨f1,λk t h=>by simp only[gP,kq];rw[ax,f2]⟩
    ·exact .inr ⟨s,b8,a6,gA,f1,f2,f3,λk t h=>by simp only[gP,kq];rw[ax,f4]⟩
   ·refine .inr ⟨s,b8,a6,OM++cs,av,?_,bs,λk t h=>?_⟩
    ·rw[Wo,F];exact ax
    ·simp only[gP,kq];rw[cq];simp
inductive o1(P:cu)(ba:aU->Bool)(ch:Nat->List (Nat×List Nat))(n:Nat)(aT:List Nat):List im->List RK->Prop
 |nil:o1 P ba ch n aT [] []
 |bQ (cs:List ef) (l:List bj) (k:List im) (o2:List RK):mi P ba ch n aT cs []=j l->o1 P ba ch n aT k o2->o1 P ba ch n aT (cs.map .code++k) (.bQ l::o2)
 |b1 (id:Nat) (k:List im) (o2:List RK):o1 P ba ch n aT k o2->o1 P ba ch n aT (.inBlock id::k) (.b1 id::o2)
 |ff (c:ef) (b:List bj) (k:List im) (o2:List RK):ga P ba ch n aT c []=j b->o1 P ba ch n aT k o2->o1 P ba ch n aT (.inLoop c::k) (.ff b::o2)
 |halt (K:List Item) (k:List im) (o2:List RK):o1 P ba ch n aT (.halt K::k) (.halt K::o2)
theorem amN{id:Nat}(cs:List ef)(k:List im):nU id (cs.map .code++k)=nU id k:=by
 induction cs with
 |nil=>rfl
 |cons c cs aW=>simp only[gP,kq,nU];exact aW
theorem amO{id:Nat}{k:List im}{o2 Jr:List RK}(ab:o1 P ba ch n aT k o2)(he:mI id o2=j Jr):∃dn,nU id k=j dn/\o1 P ba ch n aT dn Jr:=by
 induction ab with
 |nil=>simp[mI]at he
 |bQ cs l k o2 F J aW=>simp only[mI]at he;obtain⟨dn,av,ax⟩:=aW he;exact⟨dn,by rw[amN];exact av,ax⟩
 |b1 i k o2 F aW=>
   simp only[mI]at he;by_cases ae:i=id
   ·rw[if_pos ae]at he;injection he with he;subst he;exact⟨k,by simp[nU,ae],F⟩
   ·rw[if_neg ae]at he;obtain⟨dn,av,ax⟩:=aW he;exact⟨dn,by simp[nU,ae];exact av,ax⟩
 |ff c b k o2 F J aW=>simp only[mI]at he;obtain⟨dn,av,ax⟩:=aW he;exact⟨dn,by simp only[nU];exact av,ax⟩
 |halt K k o2=>simp[mI]at he
def od(P:cu)(T:gZ)(f:cH)(n:Nat)(aT:List Nat)(fG:List im)(t:List I)(h:ad)(r:h4×List I×ad):Prop:=∃cM,dA P T f fG t h=j (r.1,cM,r.2.2)/\gb n aT [] cM r.2.1 []
def uj(P:cu)(T:gZ)(f:cH)(n:Nat)(aT:List Nat)(k:List RK)(V L:List I)(h:ad)(r:h4×List I×ad):Prop:=(∀fG t,o1 P (T.ba f) (T.ch f) n aT fG k->gb n aT [] t V []->od P T f n aT fG t h r)/\(∀d all l bI fG lm t dn,k= .ops bI::dn->mg P (T.ba f) n aT all lm l=j bI->o1 P (T.ba f) (T.ch f) n aT fG dn->gb n aT lm t V L->od P T f n aT (.ops d all l::fG) t h r)/\(∀d all l bI c bU fG lm t dn,k= .ops (.bU c::bI)::dn->yN P aT lm all bU=j c->mg P (T.ba f) n aT all lm l=j bI->o1 P (T.ba f) (T.ch f) n aT fG dn->gb n aT lm t V L->pt P all t h bU/\od P T f n aT (.ops d all l::fG) t h r)
theorem od.eq{Wq:List im}{t cM:List I}{h E:ad}{r:h4×List I×ad}(he:dA P T f fG t h=dA P T f Wq cM E)(ab:od P T f n aT Wq cM E r):od P T f n aT fG t h r:=by obtain⟨t2,F,J⟩:=ab;exact⟨t2,he.trans F,J⟩
theorem uj.CS{k:List RK}{V L:List I}{h:ad}{r:h4×List I×ad}(pi:∀bI dn,k≠.ops bI::dn)(ab:∀fG t,o1 P (T.ba f) (T.ch f) n aT fG k->gb n aT [] t V []->od P T f n aT fG t h r):uj P T f n aT k V L h r:=⟨ab,λd all l bI fG lm t dn he=>absurd he (pi _ _),λd all l bI c bU fG lm t dn he=>absurd he (pi _ _)⟩
theorem gb.drop{L:List I}{lm:List Nat}(r:gb n aT lm t V L):gb n aT [] t V []:=⟨r.len,r.bV,rfl,r.v,λD s az=>by simp at az⟩
theorem gb.clear{Js ON:Nat}(r:gb n aT [] t V [])(F:∀D s,aT[D]? =j s->(D<ON↔s<Js)):gb n aT [] (cz Js t) (cz ON V) []:=by
 refine⟨by rw[<-r.len,cz];simp;omega,by rw[<-r.bV,cz];simp;omega,rfl,λD s az=>?_,λD s az=>by simp at az⟩;obtain⟨aP,a2⟩:=r.v D s az;refine⟨aP,?_⟩;have aa:D<V.length:=by rw[r.bV];exact(fR.1 az).1
 have E7:s<t.length:=by rw[r.len];exact aP
 have get:∀(n:Nat) (x:List I) (i:Nat),i<x.length->(cz n x).getD i .aD=if i<n then x.getD i .aD else .aD:=by
  intro n x i ae;unfold cz;by_cases gt:i<n
  ·have:i<(x.take n).length:=by simp;omega
   rw[if_pos gt,dm,ph this,List.getElem?_take];simp[gt,dm]
  ·rw[if_neg gt,dm,rx (by simp;omega)];simp only[List.getElem?_replicate];split<;>rfl
 rw[get _ _ _ E7,get _ _ _ aa];by_cases bt:D<ON
 ·rw[if_pos bt,if_pos ((F D s az).1 bt),a2]
 ·rw[if_neg bt,if_neg (λx=>bt ((F D s az).2 x))]
end
noncomputable def qY(p:Bool)(rs:List nC)(am:ad):Option (h4×List I×ad)->Option ((I⊕I)×ad)
 |some (.ret,V,h)=>zX.fj p am h ((iS V h rs).map iY)
 |some (.panic v,_,h)=>m2 p am (.inr v,h)
 |some (.halt _,_,_)=>Z
 |none=>Z
section
variable{P:cu}{T:gZ}{f:cH}{n aI:Nat}{aT lm:List Nat}{t V L:List I}{h:ad}
theorem OO{d:oZ}{bI:List aH}{dn:List RK}{O:bb}{c:List vJ}{bU:List bb}{l:List (bb×List bb)}{all:Array bb}{oe:List Nat}{v:I}{E:ad}{r:h4×List I×ad}(s0:aT.Nodup)(a1:Az n aT lm O.dst=j (d,oe))(al:yN P aT oe all bU=j c)(m8:mg P (T.ba f) n aT all oe l=j bI)(ab:o1 P (T.ba f) (T.ch f) n aT fG dn)(b6:gb n aT lm t V L)(hm:uj P T f n aT (.ops (Jo c bI)::dn) (kp V v d) (kP L v d) E r):pt P all (eU t O.dst v) E bU/\od P T f n aT (.ops dh all l::fG) (eU t O.dst v) E r:=by
 have o3:=amK b6 s0 a1 v;cases c with
 |nil=>refine⟨OL o3 al trivial,hm.2.1 dh all l bI fG _ _ dn rfl m8 ab o3⟩
 |cons q c=>exact hm.2.2 dh all l bI (q::c) bU fG _ _ dn rfl al m8 ab o3
theorem OP{ba:aU->Bool}{all:Array bb}{lm:List Nat}{l:List (bb×List bb)}{x:aH}{bI:List aH}(he:mg P ba n aT all lm l=j (x::bI)):∃O bU b8 mh g d oe c s1,l=(O,bU)::b8/\xg P ba aT lm O=j mh/\CR aT lm all O=j g/\Az n aT lm O.dst=j (d,oe)/\yN P aT oe all bU=j c/\mg P ba n aT all oe b8=j s1/\x=Wk g d mh/\bI=Jo c s1:=by
 cases l with
 |nil=>simp[mg]at he
 |cons q b8=>obtain⟨O,bU⟩:=q;simp only[mg]at he;obtain⟨mh,F,he⟩:=dt.1 he;obtain⟨g,J,he⟩:=dt.1 he;obtain⟨⟨d,oe⟩,af,he⟩:=dt.1 he;obtain⟨c,aB,he⟩:=dt.1 he;obtain⟨s1,bw,he⟩:=dl.1 he;simp only[xf]at he;exact⟨O,bU,b8,mh,g,d,oe,c,s1,rfl,F,J,af,aB,bw,he.1.symm,he.2.symm⟩
theorem amP{all:Array bb}{O:bb}{bU:List bb}{l:List (bb×List bb)}{v:I}{E:ad}(hw:h3 all t O=j Q)(hp:mZ t O=Z)(al:fr t O=Z)(he:fi P (T.ba f) t h O=j (v,E))(pB:pt P all (eU t O.dst v) E bU):dA P T f (.ops dh all ((O,bU)::l)::fG) t h=dA P T f (.ops dh all l::fG) (eU t O.dst v) E:=by rw[ES,hw,IC,hp,Ny,al,akz,he,akA,UZ pB]
theorem amQ{all:Array bb}{O:bb}{bU:List bb}{l:List (bb×List bb)}{g:cH}{args:List I}{v:I}{E:ad}(hw:h3 all t O=j Q)(hp:mZ t O=Z)(al:fr t O=j (g,args))(he:aM P T g args h=j (.inl v,E))(pB:pt P all (eU t O.dst v) E bU):dA P T f (.ops dh all ((O,bU)::l)::fG) t h=dA P T f (.ops dh all l::fG) (eU t O.dst v) E:=by rw[ES,hw,IC,hp,Ny,al,UY,he,akB,UZ pB]
theorem amR{all:Array bb}{O:bb}{bU:List bb}{l:List (bb×List bb)}{g:cH}{args:List I}{v:I}{E:ad}(hw:h3 all t O=j Q)(hp:mZ t O=Z)(al:fr t O=j (g,args))(he:aM P T g args h=j (.inr v,E)):dA P T f (.ops dh all ((O,bU)::l)::fG) t h=j (.panic v,t,E):=by rw[ES,hw,IC,hp,Ny,al,UY,he,akC]
theorem amS{all:Array bb}{O:bb}{bU:List bb}{l:List (bb×List bb)}(hw:h3 all t O=j R):dA P T f (.ops dh all ((O,bU)::l)::fG) t h=dA P T f (.ops dh all l::fG) (eU t O.dst (.bx [])) h:=by rw[ES,hw,aky]
theorem Jt(s0:aT.Nodup)(lp:∀D s,aT[D]? =j s->(D<aI↔s<T.aI f)):∀(k:List RK) (V L:List I) (h:ad) (r:h4×List I×ad),bu (aM P T) aI k V L h=j r->uj P T f n aT k V L h r:=by
 refine bu.partial_correctness (aM P T) aI (uj P T f n aT) λrun aW k V L h r aj=>?_;have wanted:∀{d:oZ} {mh:e'} {bI:List aH} {dn:List RK},(match yM V L mh with
   |some v=>j (.panic v,V,h)
   |none=>match hx V L mh with
   |some (g,args)=>aM P T g args h>>= λr=>match r.1 with
     |.inl v=>run (.ops bI::dn) (kp V v d) (kP L v d) r.2
     |.inr v=>j (.panic v,V,r.2)
   |none=>g9 V L h mh>>= λr=>run (.ops bI::dn) (kp V r.1 d) (kP L r.1 d) r.2)=j r->
   ∀{all O bU l lm oe c s1 fG t dh},xg P (T.ba f) aT lm O=j mh->Az n aT lm O.dst=j (d,oe)->yN P aT oe all bU=j c->mg P (T.ba f) n aT all oe l=j s1->bI=Jo c s1->
   o1 P (T.ba f) (T.ch f) n aT fG dn->gb n aT lm t V L->h3 all t O=j Q->od P T f n aT (.ops dh all ((O,bU)::l)::fG) t h r:=by
  intro d mh bI dn aj all O bU l lm oe c s1 fG t dh F J af aB bw ab b6 hw;obtain⟨av,ax⟩:=amH (h:=h) b6 F;have gI:=If b6 F;split at aj
  ·rename_i v Fj;injection aj with aj;subst aj;exact⟨t,by rw[ES,hw,IC,gI,Fj,akx],b6.drop⟩
  rename_i M9;have gI:=gI.trans M9;split at aj
  ·rename_i g args Ju;obtain⟨⟨x,E⟩,an,aj⟩:=dt.1 aj;cases x with
   |inl v=>simp only at aj;subst bw;have hm:=aW _ _ _ _ _ aj;obtain⟨m1,cR⟩:=OO (dh:=dh) s0 J af aB ab b6 hm;exact cR.eq (amQ hw gI (ax.trans Ju) an m1)
   |inr v=>simp only at aj;injection aj with aj;subst aj;exact⟨t,amR hw gI (ax.trans Ju) an,b6.drop⟩
  ·rename_i Ju;obtain⟨⟨v,E⟩,an,aj⟩:=dt.1 aj;simp only at aj;subst bw;have hm:=aW _ _ _ _ _ aj;obtain⟨m1,cR⟩:=OO (dh:=dh) s0 J af aB ab b6 hm;exact cR.eq (amP hw gI (ax.trans Ju) (av.trans an) m1)
 split at aj
 ·injection aj with aj;subst aj;refine uj.CS (by simp) λfG t ab b6=>?_;cases ab;exact⟨t,akl,b6⟩
 ·rename_i k;refine uj.CS (by simp) λfG t ab b6=>?_;cases ab with
  |bQ cs _ hh _ hR ab=>
    rcases Wp (T:=T) (f:=f) cs [] hR with⟨_,ax⟩|⟨s,b8,a6,gA,av,_⟩
    ·exact((aW _ _ _ _ _ aj).1 _ _ ab b6.drop).eq (ax _ _ _)
    ·cases av
 ·rename_i s l k;refine uj.CS (by simp) λfG t ab b6=>?_;cases ab with
  |bQ cs _ hh _ hR ab=>
    rcases Wp (T:=T) (f:=f) cs (s::l) hR with⟨av,_⟩|⟨eD,b8,a6,gA,av,ax,bs,cq⟩
    ·cases av
    ·injection av with av amT;subst av;subst amT;refine od.eq (cq _ _ _) ?_;have CT:o1 P (T.ba f) (T.ch f) n aT (gA.map .code++hh) (.bQ l::k):=.bQ gA l hh k ax ab;cases bs with
     |region id all d bI OQ=>exact((aW _ _ _ _ _ aj).2.1 d all _ bI _ [] t _ rfl OQ CT b6).eq akv
     |cond c x y a xs dR aN an bq=>
       simp only at aj;have w8:=gT b6 aN;split at aj
       ·rename_i b ag;have Wr:bA t c= .bool b:=w8.trans ag;cases b with
        |true=>simp only[if_true]at aj;refine od.eq (by rw[UX,Wr,akD]) ((aW _ _ _ _ _ aj).1 (.code x::(gA.map .code++hh)) t ?_ b6);exact .bQ [x] xs _ _ (by simp[mi,an]) CT
        |false=>simp only[nx,if_false]at aj;refine od.eq (by rw[UX,Wr,akE]) ((aW _ _ _ _ _ aj).1 (.code y::(gA.map .code++hh)) t ?_ b6);exact .bQ [y] dR _ _ (by simp[mi,bq]) CT
       ·cases aj
     |block id b ui ag=>refine od.eq aks ((aW _ _ _ _ _ aj).1 (.code b::.inBlock id::(gA.map .code++hh)) t ?_ b6);exact .bQ [b] ui _ _ (by simp[mi,ag]) (.b1 id _ _ CT)
     |loop b ui ag=>exact od.eq akt ((aW _ _ _ _ _ aj).1 (.inLoop b::(gA.map .code++hh)) t (.ff b ui _ _ ag CT) b6)
     |exit id=>obtain⟨Jr,F,aj⟩:=dt.1 aj;obtain⟨dn,J,af⟩:=amO CT (by simpa[mI]using F:mI id (.bQ l::k)=j Jr);exact od.eq (by rw[akw,J,akF]) ((aW _ _ _ _ _ aj).1 dn t af b6)
     |ret=>injection aj with aj;subst aj;exact⟨t,aku,b6⟩
 ·rename_i id k;refine uj.CS (by simp) λfG t ab b6=>?_;cases ab with
  |b1 _ hh _ ab=>exact od.eq akn ((aW _ _ _ _ _ aj).1 _ _ ab b6)
 ·rename_i amB k;injection aj with aj;subst aj;refine uj.CS (by simp) λfG t ab b6=>?_;cases ab with
  |halt _ hh _=>exact⟨t,akm,b6⟩
 ·rename_i b k;refine uj.CS (by simp) λfG t ab b6=>?_;cases ab with
  |ff c _ hh _ ag ab=>refine od.eq ako ((aW _ _ _ _ _ aj).1 (.code c::.inLoop c::hh) _ ?_ (b6.clear lp));exact .bQ [c] b _ _ (by simp[mi,ag]) (.ff c b _ _ ag ab)
 ·rename_i k;refine⟨λfG t ab b6=>(by cases ab),λdh all l bI fG lm t dn he hR ab b6=>?_,λdh all l bI c bU fG lm t dn he=>(by cases he)⟩;injection he with gJ oa;injection gJ with gJ;subst gJ;subst oa;cases l with
  |nil=>exact od.eq akp ((aW _ _ _ _ _ aj).1 _ _ ab b6.drop)
  |cons q l=>obtain⟨O,bU⟩:=q;simp only[mg]at hR;obtain⟨mh,F,hR⟩:=dt.1 hR;obtain⟨g,J,hR⟩:=dt.1 hR;obtain⟨⟨d,oe⟩,af,hR⟩:=dt.1 hR;obtain⟨c,aB,hR⟩:=dt.1 hR;obtain⟨s1,bw,hR⟩:=dl.1 hR;cases hR
 ·rename_i l bI k;split at aj
  ·rename_i pB;refine⟨λfG t ab b6=>(by cases ab),λdh all ca Ft fG lm t dn he hR ab b6=>?_,λdh all ca Ft c bU fG lm t dn he al hR ab b6=>?_⟩
   ·injection he with gJ oa;injection gJ with gJ;subst gJ;subst oa;obtain⟨O,bU,b8,mh,g,d,oe,c,s1,_,_,_,_,_,_,an,_⟩:=OP hR;cases g<;>cases an
   ·injection he with gJ oa;injection gJ with gJ;injection gJ with Fu gJ;injection Fu with Fu;subst Fu;subst gJ;subst oa;exact⟨OL b6 al pB,(aW _ _ _ _ _ aj).2.1 dh all ca bI fG lm t _ rfl hR ab b6⟩
  ·cases aj
 ·rename_i d mh bI k;refine⟨λfG t ab b6=>(by cases ab),λdh all l Ft fG lm t dn he hR ab b6=>?_,λdh all l Ft c bU fG lm t dn he=>(by cases he)⟩;injection he with gJ oa;injection gJ with gJ;subst gJ;subst oa;obtain⟨O,bU,b8,amU,g,nB,oe,c,s1,rfl,F,J,af,aB,bw,an,cc⟩:=OP hR;cases g with
  |some g=>cases an
  |none=>injection an with Jv rH;subst Jv;subst rH;exact wanted aj F af aB bw cc ab b6 (by rw[Jq b6 J];rfl)
 ·rename_i a w d mh bI k;refine⟨λfG t ab b6=>(by cases ab),λdh all l Ft fG lm t dn he hR ab b6=>?_,λdh all l Ft c bU fG lm t dn he=>(by cases he)⟩;injection he with gJ oa;injection gJ with gJ;subst gJ;subst oa;obtain⟨O,bU,b8,amU,g,nB,oe,c,s1,rfl,F,J,af,aB,bw,an,cc⟩:=OP hR;cases g with
  |none=>cases an
  |some g=>
    injection an with Jv rH xh amV;obtain⟨aAy,aAz⟩:=g;simp only at Jv rH;subst Jv;subst rH;subst xh;subst amV;have a7:=Jq b6 J;simp only[CP]at a7;split at aj
    ·cases aj
    ·rename_i Ws;subst cc;obtain⟨_,cR⟩:=OO (dh:=dh) s0 af aB bw ab b6 (aW _ _ _ _ _ aj);exact cR.eq (amS (a7.trans Ws))
    ·rename_i gc;exact wanted aj F af aB bw cc ab b6 (a7.trans gc)
theorem CU(b6:gb n aT [] t V []):∀{l:List ResultVar} {rs:List nC},pE P aT l=j rs->p7 P t h l=iS V h rs
 |[],rs,he=>by simp only[pE,hg]at he;subst he;rfl
 |.tmp i::l,rs,he=>by simp only[pE]at he;obtain⟨D,aa,he⟩:=dt.1 he;obtain⟨vL,rP,rfl⟩:=dl.1 he;simp only[p7,iS,CU b6 rP,(b6.v D i (Fq aa)).2]
 |.cell i ty::l,rs,he=>by
   simp only[pE]at he;split at he
   ·cases he
   ·rename_i aq;obtain⟨D,aa,he⟩:=dt.1 he;obtain⟨vL,rP,rfl⟩:=dl.1 he;simp only[p7,iS,CU b6 rP,(b6.v D i (Fq aa)).2,if_neg aq]
def rQ(a n Js aI:Nat)(aT:List Nat):Bool:=
 decide (a<=aT.length/\a<=n)&&(iO aT.length).all λD=>let s:=aT.getD D 0
  decide (s<n)&&(decide (D<aI)==decide (s<Js))&&(if D<a\/s<a then s==D else Q)&&(iO D).all λi=>aT.getD i 0 != s
def cw(P:cu)(T:gZ)(g:cH)(a aI:Nat)(aT:List Nat)(bQ:List bj)(rs:List nC)(p:Bool):Prop:=∃fn c,P.funcs[g]? =j fn/\fn.body=j c/\T.ext g=Z/\T.use g=Q/\T.pure g=p/\ga P (T.ba g) (T.ch g) fn.ntmps aT c []=j bQ/\rQ a fn.ntmps (T.aI g) aI aT=Q/\pE P aT fn.results.toList=j rs
theorem bd{g:cH}{a:Nat}{bQ:List bj}{rs:List nC}{p:Bool}{args:List I}{q:(I⊕I)×ad}(bn:cw P T g a aI aT bQ rs p)(aN:args.length=a)(aj:qY p rs h (bu (aM P T) aI [.bQ bQ] (args++ar (aT.length - args.length) .aD) [] h)=j q):aM P T g args h=j q:=by
 obtain⟨fn,c,F,J,af,aB,bw,cc,cQ,g7⟩:=bn;rw[akH af F J aB bw];unfold rQ at cQ;simp only[h8,decide_eq_true_eq,iC,j8,beq_iff_eq,bne_iff_ne,ne_eq]at cQ;obtain⟨⟨aP,a2⟩,a3⟩:=cQ;have get:∀D s,aT[D]? =j s->D<aT.length/\aT.getD D 0=s:=λD s aa=>⟨(fR.1 aa).1,by simp[dm,aa]⟩;have s0:aT.Nodup:=by rw[List.nodup_iff_pairwise_ne,List.pairwise_iff_getElem];intro i D ae aa gR e;have:=(a3 D aa).2 i gR;apply this;simp[dm,ae,aa,e]
 have lp:∀D s,aT[D]? =j s->(D<aI↔s<T.aI g):=by intro D s aa;obtain⟨g1,cK⟩:=get D s aa;have:=(a3 D g1).1.1.2;rw[cK]at this;exact decide_eq_decide.1 this
 have b6:gb fn.ntmps aT [] (args++ar (fn.ntmps - args.length) .aD) (args++ar (aT.length - args.length) .aD) []:=by
  refine⟨by simp;omega,by simp;omega,rfl,λD s aa=>?_,λD s aa=>by simp at aa⟩;obtain⟨g1,cK⟩:=get D s aa;obtain⟨⟨⟨dk,_⟩,dH⟩,_⟩:=a3 D g1;rw[cK]at dk dH;refine⟨dk,?_⟩;by_cases al:D<a\/s<a
  ·rw[if_pos al]at dH;have:s=D:=by simpa using dH
   subst this;have bt:s<args.length:=by omega
   simp[dm,ph bt]
  ·have a6:¬D<args.length:=by omega
   have c2:¬s<args.length:=by omega
   simp only[dm,rx (Nat.not_lt.1 a6),rx (Nat.not_lt.1 c2),List.getElem?_replicate];split<;>split<;>rfl
 generalize jM:bu (aM P T) aI [.bQ bQ] (args++ar (aT.length - args.length) .aD) [] h=x at aj;cases x with
 |none=>cases aj
 |some r=>
   have hm:=(Jt (n:=fn.ntmps) (f:=g) s0 lp _ _ _ _ _ jM).1 [.code c] _ (.bQ [c] bQ [] [] (by simp[mi,cc]) .nil) b6;obtain⟨cM,av,ax⟩:=hm;rw[av];obtain⟨x,cv,E⟩:=r;cases x with
   |panic v=>exact aj
   |halt K=>cases aj
   |ret=>rw[akG];have:=CU (h:=E) ax g7;unfold nV;rw[this];exact aj
end
abbrev bc:aH:=.i .l (.load R 1 (.l 0))
abbrev aX:aH:=.i .l (.a' (.v 0))
abbrev b7:aH:=.i .l (.lv (.l 0))
abbrev dB:aH:=.i .l (.dG 0 (.l 0))
abbrev cU:aH:=.i .l (.a' (.l 0))
abbrev dv:aH:=.i .l (.a' (.v 1))
abbrev eY:aH:=.i .l (.a' (.v 3))
abbrev eS:aH:=.i .l (.a' (.v 4))
abbrev iw:aH:=.i (.v 2) (.a' (.l 0))
abbrev hB:aH:=.i .l (.dG 1 (.l 0))
abbrev g4:aH:=.i .l (.a' (.v 2))
abbrev o8:aH:=.i .l (.call (.c (.fn 144 [] [])) [.l 0])
abbrev iv:aH:=.i .l (.ext (.l 1) 1)
abbrev iu:aH:=.i .l (.ext (.l 0) 0)
abbrev wc:aH:=.i .l (.bin (.int o) .add (.l 0) (.c (.int o 1)))
abbrev jT:aH:=.i (.v 4) (.a' (.l 0))
abbrev kD:aH:=.i (.v 3) (.a' (.l 0))
abbrev ka:aH:=.i .n (.store 1 (.l 0) (.l 2))
abbrev v7:aH:=.i .l (.build [.int o 0,.int o 0,.aC] [(0,1),(1,1),(2,1)] [])
abbrev rW:aH:=.i .l (.bin (.int o) .sub (.l 0) (.c (.int o 1)))
abbrev rX:aH:=.i .l (.bin (.int o) .geq (.l 0) (.c (.int o 0)))
abbrev xy:aH:=.i (.v 2) (.a' (.c (.int o 0)))
abbrev ta:aH:=.i (.v 3) (.a' (.c (.int o 0)))
abbrev jm:aH:=.i .l (.a' (.v 5))
abbrev kC:aH:=.i .l (.dG 2 (.l 0))
abbrev q7:aH:=.i .l (.bin (.int o) .neq (.l 0) (.c (.int o 0)))
abbrev tb:aH:=.i (.v 4) (.a' (.c (.int o 0)))
abbrev lF:aH:=.i (.v 5) (.a' (.l 0))
abbrev nd:aH:=.i .l (.load Q 3 (.l 0))
abbrev DE:aH:=.i (.v 2) (.a' (.c (.bool R)))
abbrev lE:aH:=.i (.v 1) (.a' (.l 0))
abbrev y7:aH:=.i (.v 5) (.alloc [.int o 0,.int o 0,.aC])
abbrev y5:aH:=.i (.v 4) (.alloc [.int o 0,.int o 0,.aC])
abbrev mM:aH:=.i (.v 7) (.a' (.l 0))
abbrev vZ:aH:=.i .l (.pick (.l 2) (.c (.bool Q)) (.l 0))
abbrev y9:aH:=.i .l (.bin (.int o) .eql (.l 0) (.c (.int o 0)))
abbrev q5:aH:=.g (.l 0) Q .l (.a' (.v 0))
abbrev pJ:aH:=.g (.l 1) R .l (.load R 1 (.l 0))
abbrev mm:aH:=.i .l (.a' (.v 6))
abbrev nG:aH:=.i (.v 6) (.a' (.l 0))
abbrev L1:aH:=.i .l (.build [.int o 0,.int o 0,.int o 0,.int o 0,.aC] [(0,1),(1,1),(2,3)] [(0,(.l 0))])
abbrev uy:aH:=.i .l (.bin (.int o) .lss (.l 0) (.c (.int o 0)))
abbrev o7:aH:=.i .l (.dG 1 (.v 2))
abbrev y1:aH:=.i .l (.pick (.l 2) (.l 0) (.c (.bool R)))
abbrev uJ:aH:=.i .l (.load Q 4 (.l 0))
abbrev qn:aH:=.i (.v 8) (.a' (.l 0))
abbrev u':aH:=.i .n (.store 5 (.v 3) (.l 0))
abbrev tl:aH:=.i .n (.store 2 (.v 2) (.l 0))
abbrev s':aH:=.i .l (.load Q 3 (.v 5))
abbrev r3:aH:=.i .l (.load Q 3 (.v 4))
abbrev xA:aH:=.i (.v 5) (.a' (.c (.int o 0)))
abbrev Gu:aH:=.i (.v 2) (.a' (.c .aC))
abbrev Gf:aH:=.i .l (.call (.c (.fn 145 [] [])) [.l 0,.c (.int o 4)])
abbrev L2:aH:=.i (.v 3) (.alloc [.int o 0,.int o 0,.int o 0,.int o 0,.aC])
abbrev r4:aH:=.i .l (.dG 0 (.v 2))
abbrev BQ:aH:=.i .l (.call (.l 0) [.c (.int o 0)])
abbrev xK:aH:=.i .l (.build [.int o 0,.int o 0] [(0,1),(1,1)] [])
abbrev uH:aH:=.i .l (.load Q 3 (.v 3))
abbrev y':aH:=.g (.l 1) Q .l (.load R 1 (.l 0))
abbrev xE:aH:=.i .n (.store 3 (.v 4) (.l 0))
abbrev y6:aH:=.i (.v 9) (.a' (.l 0))
abbrev azN:aH:=.i (.v 1) (.a' (.c (.bool R)))
abbrev we:aH:=.i .l (.dG 3 (.v 2))
abbrev yZ:aH:=.i (.v 10) (.a' (.l 0))
abbrev azO:aH:=.i .l (.bin (.int o) .add (.v 9) (.c (.int o 1)))
abbrev azP:aH:=.i .l (.bin (.int o) .add (.v 5) (.c (.int o 1)))
abbrev Da:aH:=.i .l (.fa Z (j (4,5)) (.l 0) (.l 2))
abbrev Qa:aH:=.i .l (.build [.int o 0,.int o 0,.aC] [(0,1),(1,1),(2,1)] [(0,(.c (.int o 1))),(1,(.l 0))])
abbrev za:aH:=.g (.l 0) R .l (.a' (.v 0))
abbrev DB:aH:=.i .n (.store 3 (.v 5) (.l 0))
abbrev nJ:aH:=.i .l (.dG 0 (.v 1))
abbrev s9:aH:=.i .l (.un .not (.l 0))
abbrev zF:aH:=.i .l (.len Q Z (.l 0))
abbrev Gh:aH:=.i .l (.call (.c (.fn 149 [] [])) [.l 1,.l 0])
abbrev Q4:aH:=.i .l (.call (.c (.fn 134 [] [])) [.l 4,.l 0])
abbrev Dk:aH:=.g (.l 6) Q .l (.load R 1 (.l 0))
abbrev MF:aH:=.g (.l 4) Q .l (.fa (j 174) Z (.l 0) (.c (.int o 0)))
abbrev Dj:aH:=.g (.l 3) Q .l (.load R 1 (.l 0))
abbrev azQ:aH:=.i (.v 10) (.bin (.int o) .lss (.v 9) (.v 8))
abbrev azR:aH:=.i (.v 6) (.bin (.int o) .lss (.v 5) (.v 4))
abbrev Kl:aH:=.i .l (.call (.c (.fn 145 [] [])) [.l 0,.c (.int o 1)])
abbrev Kh:aH:=.i .l (.call (.c (.fn 143 [] [])) [.l 0,.c (.int o 2)])
abbrev uG:aH:=.i .l (.load Q 3 (.v 2))
abbrev DI:aH:=.i .l (.pick (.l 3) (.l 0) (.c (.bool R)))
abbrev wb:aH:=.i .l (.dG 3 (.l 0))
abbrev xB:aH:=.i .l (.dG 1 (.v 4))
abbrev nf:aH:=.i .l (.dG 1 (.v 3))
abbrev tk:aH:=.i .l (.dG 0 (.v 3))
abbrev xH:aH:=.i (.v 12) (.a' (.l 0))
abbrev MK:aH:=.i (.v 1) (.a' (.c .aC))
abbrev Bb:aH:=.i .n (.store 1 (.l 0) (.l 1))
abbrev KV:aH:=.i (.v 8) (.bin (.int o) .neq (.l 0) (.c (.int o 0)))
abbrev uz:aH:=.i .l (.a' (.v 7))
abbrev P':aH:=.i .l (.call (.c (.fn 142 [] [])) [.l 0])
abbrev Eo:aH:=.i .l (.len R (j 9) (.l 0))
abbrev azS:aH:=.i .l (.bin (.int o) .add (.v 10) (.c (.int o 1)))
abbrev J6:aH:=.i (.v 3) (.a' (.c (.bool R)))
abbrev Dg:aH:=.i (.v 1) (.a' (.c (.int o 0)))
abbrev HD:aH:=.i .l (.call (.c (.fn 51 [] [])) [.l 0])
abbrev Rh:aH:=.i .l (.build [.int o 0,.int o 0] [(0,1),(1,1)] [(0,(.l 1)),(1,(.l 0))])
abbrev xz:aH:=.i .l (.dG 2 (.v 2))
abbrev Kg:aH:=.i (.v 3) (.alloc [.int o 0,.int o 0,.aC])
abbrev Ki:aH:=.i (.v 2) (.alloc [.int o 0,.int o 0,.aC])
abbrev Ke:aH:=.i (.v 1) (.alloc [.int o 0,.int o 0,.aC])
abbrev J9:aH:=.i .l (.hv R 3 [.int o 0] 1 1 [(0,(.l 0))])
abbrev FU:aH:=.g (.l 2) Q .l (.load R 1 (.l 0))
abbrev DF:aH:=.i (.v 7) (.load R 1 (.l 0))
abbrev Di:aH:=.g (.l 1) Q .l (.lv (.l 0))
abbrev WF:aH:=.i .l (.hv Q 233 [.int o 0,.int o 0,.int o 0,.int o 0,.int o 0,.aC,.aC,.aC,.bool R,.aC] 10 1 [(0,(.l 0))])
abbrev Kn:aH:=.i .l (.call (.c (.fn 143 [] [])) [.l 1,.l 0])
abbrev Qt:aH:=.i .l (.hv R 90 [.int o 0,.int o 0,.aC] 3 1 [(0,(.l 0))])
abbrev zH:aH:=.i .n (.store 4 (.v 2) (.l 0))
abbrev xJ:aH:=.i .n (.store 2 (.v 3) (.l 0))
abbrev Dh:aH:=.g (.l 0) Q .l (.a' (.v 1))
abbrev Em:aH:=.i .l (.hv R 9 [.str []] 1 1 [(0,(.l 0))])
abbrev GL:aH:=.i (.v 2) (.a' (.c (.int o (-1))))
abbrev QT:aH:=.i (.v 2) (.box 3 (.v 1))
abbrev azT:aH:=.i (.v 11) (.bin (.int o) .lss (.v 10) (.v 9))
abbrev GH:aH:=.i (.v 1) (.a' (.c (.int o (-1))))
abbrev A6:aH:=.i (.v 1) (.box 3 (.v 0))
abbrev KU:aH:=.i (.v 3) (.alloc [.int o 0,.int o 0])
abbrev K1:aH:=.i (.v 2) (.alloc [.int o 0,.int o 0])
abbrev Fd:aH:=.i .l (.len R (j 233) (.l 0))
abbrev HW:aH:=.i .l (.len R (j 174) (.l 0))
abbrev Ga:aH:=.i .l (.len R (j 90) (.l 0))
abbrev Pu:aH:=.g (.l 1) R .l (.bin (.int o) .lss (.l 0) (.c (.int o 0)))
abbrev GB:aH:=.i (.v 9) (.a' (.c (.int o 0)))
abbrev Gn:aH:=.i (.v 5) (.a' (.c (.bool R)))
abbrev AU:aH:=.i (.v 15) (.a' (.l 0))
abbrev AV:aH:=.i (.v 13) (.a' (.l 0))
abbrev Gl:aH:=.i (.v 11) (.a' (.l 0))
abbrev Dm:aH:=.i (.v 6) (.un .not (.l 0))
abbrev AY:aH:=.i (.v 0) (.a' (.l 0))
abbrev azU:aH:=.i (.v 0) (.a' (.c .fx))
abbrev aas:aH:=.i .l (.hv R 213 [.int o 0,.int o 0,.int o 0,.int o 0,.int o 0,.int o 0] 6 1 [(0,(.l 0))])
abbrev Mu:aH:=.i .l (.call (.c (.fn 32 [] [])) [.l 0])
abbrev Kf:aH:=.i .l (.fa (j 90) Z (.l 1) (.l 0))
abbrev A7:aH:=.i .l (.dG 7 (.l 0))
abbrev azV:aH:=.i .l (.call (.c (.fn 95 [] [])) [.l 0,.c (.int o 5)])
abbrev PR:aH:=.i (.v 11) (.bin (.int o) .eql (.l 0) (.c (.int o 0)))
abbrev J0:aH:=.g (.l 4) Q .l (.load R 1 (.l 0))
abbrev Dy:aH:=.i .n (.store 3 (.v 3) (.l 0))
abbrev Dz:aH:=.i .n (.store 3 (.v 2) (.l 0))
abbrev Gb:aH:=.i .n (.store 3 (.v 1) (.l 0))
abbrev QU:aH:=.i (.v 6) (.bin (.int o) .neq (.l 0) (.c (.int o 0)))
abbrev azW:aH:=.i (.v 1) (.a' (.c (.str [])))
abbrev abX:aH:=.i .l (.hv Q 90 [.int o 0,.int o 0,.aC] 3 1 [(0,(.c (.agg [.int o 0,.int o 0,.aC])))])
abbrev af4:aH:=.i .l (.build [.int o 0,.int o 0,.int o 0,.int o 0,.aC] [(0,1),(1,1),(2,3)] [(2,(.l 0))])
abbrev azX:aH:=.i .l (.bin (.int o) .add (.v 11) (.c (.int o 1)))
abbrev adj:aH:=.i .l (.build [.int o 0,.int o 0] [(0,1),(1,1)] [(0,(.c (.int o 3))),(1,(.c (.int o (-1))))])
abbrev GG:aH:=.i .l (.bin (.int o) .lss (.l 0) (.c (.int o 1)))
abbrev TA:aH:=.i .l (.bin (.int o) .gtr (.l 0) (.c (.int o 0)))
abbrev QP:aH:=.i .l (.bin (.int o) .eql (.l 0) (.c (.int o 5)))
abbrev azY:aH:=.i .l (.bin (.int o) .add (.v 8) (.c (.int o 1)))
abbrev Pq:aH:=.i (.v 7) (.alloc [.int o 0,.int o 0,.aC])
abbrev Qp:aH:=.i (.v 6) (.alloc [.int o 0,.int o 0,.aC])
abbrev J2:aH:=.i .l (.len R (j 213) (.l 0))
abbrev aby:aH:=.i .l (.build [.int o 0,.int o 0,.aC] [(0,1),(1,1),(2,1)] [(0,(.c (.int o 4))),(1,(.l 0))])
abbrev abB:aH:=.i .l (.build [.int o 0,.int o 0,.aC] [(0,1),(1,1),(2,1)] [(0,(.c (.int o 2))),(2,(.l 0))])
abbrev De:aH:=.i (.v 6) (.a' (.l 1))
abbrev Dp:aH:=.i (.v 5) (.a' (.l 1))
abbrev Dn:aH:=.i (.v 4) (.a' (.l 1))
abbrev GF:aH:=.i .l (.load Q 1 (.v 1))
abbrev abx:aH:=.i (.v 6) (.alloc [.int o 0,.int o 0,.int o 0,.int o 0,.int o 0,.int o 0])
abbrev aaB:aH:=.i (.v 5) (.alloc [.int o 0,.int o 0,.int o 0,.int o 0,.int o 0,.int o 0])
abbrev aaK:aH:=.i (.v 4) (.alloc [.int o 0,.int o 0,.int o 0,.int o 0,.int o 0,.int o 0])
abbrev A9:aH:=.i .l (.a' (.v 9))
abbrev MC:aH:=.i .l (.call (.c (.fn 6 [] [])) [])
abbrev KM:aH:=.i (.v 10) (.a' (.c (.int o 0)))
abbrev Ba:aH:=.i .l (.dG 2 (.v 3))
abbrev DH:aH:=.i .l (.dG 2 (.v 1))
abbrev Qj:aH:=.i .l (.call (.c (.fn 149 [] [])) [.l 5,.l 0])
abbrev QH:aH:=.i (.v 12) (.bin (.int o) .lss (.v 11) (.v 10))
abbrev Tu:aH:=.i .l (.call (.c (.fn 19 [] [])) [.l 7,.l 0])
abbrev ain:aH:=.i .l (.build [.int o 0,.str [],.bool R,.int o 0] [(0,1),(1,1),(2,1),(3,1)] [])
abbrev ab2:aH:=.i .l (.hv R 118 [.int o 0,.int o 0,.int o 0,.int o 0] 4 1 [(0,(.l 0))])
abbrev HG:aH:=.i (.v 2) (.box 9 (.v 1))
abbrev ME:aH:=.g (.l 2) Q .l (.dG 0 (.l 0))
abbrev DC:aH:=.i .l (.lv (.l 4))
abbrev Gk:aH:=.i .l (.lv (.l 2))
abbrev C':aH:=.i .l (.lv (.l 1))
abbrev TC:aH:=.i .l (.call (.c (.fn 7 [] [])) [.l 1,.l 0])
abbrev Q':aH:=.i (.v 4) (.alloc [.int o 0,.int o 0])
abbrev acw:aH:=.i .l (.build [.int o 0,.int o 0,.aC] [(0,1),(1,1),(2,1)] [(0,(.l 2)),(1,(.l 0))])
abbrev Kq:aH:=.i (.v 6) (.load R 1 (.l 0))
abbrev PO:aH:=.i (.v 9) (.bin (.int o) .lss (.v 8) (.v 7))
abbrev Df:aH:=.i .n (.yK (.l 0))
abbrev PB:aH:=.i .l (.pick (.l 7) (.l 0) (.c (.bool R)))
abbrev PH:aH:=.i .l (.pick (.l 5) (.l 0) (.c (.bool R)))
abbrev Db:aH:=.i .l (.a' (.v 10))
abbrev JV:aH:=.g (.l 0) R .l (.a' (.v 2))
abbrev Gv:aH:=.i .l (.pick (.l 3) (.c (.bool Q)) (.l 0))
abbrev FR:aH:=.i (.v 14) (.a' (.l 0))
abbrev JU:aH:=.i .n (.store 3 (.v 7) (.l 0))
abbrev Mv:aH:=.i (.v 2) (.a' (.c (.str [])))
abbrev SQ:aH:=.i .l (.fa Z (j (4,1)) (.l 0) (.l 2))
abbrev ahD:aH:=.i .l (.hv R 9 [.str []] 1 3 [(0,(.c (.str [110,111]))),(1,(.l 1)),(2,(.l 0))])
abbrev Gp:aH:=.i .l (.dG 12 (.l 0))
abbrev Qh:aH:=.i .l (.call (.c (.fn 150 [] [])) [.l 0])
abbrev Pw:aH:=.i .l (.call (.c (.fn 136 [] [])) [.l 0])
abbrev PK:aH:=.i .l (.call (.c (.fn 126 [] [])) [.l 0])
abbrev Qc:aH:=.i .l (.bin (.int o) .neq (.l 1) (.l 0))
abbrev Qe:aH:=.i .l (.bin (.int o) .eql (.l 1) (.l 0))
abbrev TQ:aH:=.i .l (.bin (.int o) .add (.l 3) (.l 0))
abbrev Gg:aH:=.i (.v 3) (.a' (.l 1))
abbrev Pv:aH:=.i .n (.store 1 (.v 8) (.c (.int o 0)))
abbrev Q3:aH:=.i .l (.fa (j 153) Z (.v 7) (.v 9))
abbrev Py:aH:=.i .l (.call (.c (.fn 53 [] [])) [.l 0])
abbrev Tt:aH:=.i .l (.call (.c (.fn 49 [] [])) [.l 1])
abbrev JZ:aH:=.i .l (.load R 1 (.v 1))
abbrev ahN:aH:=.i .l (.call (.c (.fn 24 [] [])) [.l 0,.c (.int o 10),.c (.int o 64)])
abbrev Tz:aH:=.i .l (.call (.l 0) [.c (.int o 2)])
abbrev Ty:aH:=.i .l (.call (.l 0) [.c (.int o 1)])
abbrev J':aH:=.i .l (.box 2 (.l 0))
abbrev GK:aH:=.g (.l 6) R .l (.load R 1 (.l 0))
abbrev Qm:aH:=.g (.l 3) R .l (.load R 1 (.l 0))
abbrev L4:aH:=.i .l (.load Q 9 (.v 2))
abbrev J4:aH:=.i .l (.load Q 6 (.l 0))
abbrev Kj:aH:=.i .l (.load Q 3 (.v 1))
abbrev Q5:aH:=.i (.v 8) (.len R (j 153) (.v 7))
abbrev azZ:aH:=.i (.v 3) (.a' (.c .aC))
abbrev ahP:aH:=.g (.l 1) R .l (.call (.c (.fn 25 [] [])) [.l 0,.c (.int o 10)])
abbrev Qg:aH:=.i (.v 3) (.box 3 (.v 1))
abbrev Re:aH:=.i .l (.len R (j 153) (.l 0))
abbrev FX:aH:=.i .l (.a' (.v 8))
abbrev QN:aH:=.i (.v 11) (.a' (.c (.int o 0)))
abbrev PG:aH:=.g (.l 4) Q .l (.un .not (.l 0))
abbrev ac1:aH:=.i (.v 6) (.alloc [.int o 0,.int o 0,.int o 0,.aC])
abbrev KA:aH:=.g (.l 2) R .l (.bin (.int o) .gtr (.l 0) (.c (.int o 5)))
abbrev aaa:aH:=.g (.l 1) R .l (.bin (.int o) .geq (.l 0) (.c (.int o 4)))
abbrev az0:aH:=.i .l (.qh R (j 174) (.l 0) (j (.c (.int o 1))) Z)
abbrev PU:aH:=.i (.v 8) (.a' (.c (.int o 0)))
abbrev PF:aH:=.i (.v 4) (.a' (.c (.int o 1)))
abbrev EQ:aH:=.i (.v 16) (.a' (.l 0))
abbrev aid:aH:=.g (.l 4) R .l (.fa (j 174) Z (.l 0) (.c (.int o 0)))
abbrev acp:aH:=.g (.l 2) Q .l (.bin (.int o) .neq (.l 0) (.c (.int o 0)))
abbrev acr:aH:=.g (.l 2) Q .l (.bin (.int o) .lss (.l 0) (.c (.int o 0)))
abbrev ach:aH:=.g (.l 1) Q .l (.bin (.int o) .geq (.l 0) (.c (.int o 0)))
abbrev xL:aH:=.g (.l 0) R .l (.dG 1 (.v 3))
abbrev QJ:aH:=.g (.l 0) R .l (.dG 0 (.v 1))
abbrev az1:aH:=.i .l (.build [.fx,.aC] [(0,1),(1,1)] [(0,(.l 1)),(1,(.l 0))])
abbrev Q8:aH:=.i .l (.build [.aC] [(0,1)] [])
abbrev QQ:aH:=.i (.v 7) (.call (.l 4) [.l 0])
abbrev QK:aH:=.g (.l 0) Q .l (.dG 1 (.v 1))
abbrev af6:aH:=.i .l (.call (.c (.fn 109 [] [])) [.l 4,.l 2,.l 1,.l 0])
abbrev ahp:aH:=.i .l (.call (.c (.fn 25 [] [])) [.l 0,.c (.int o 10)])
abbrev az2:aH:=.i .l (.call (.c (.fn 143 [] [])) [.l 0,.c (.int o 4)])
abbrev wa:aH:=.i .l (.dG 6 (.l 0))
abbrev Km:aH:=.i .l (.dG 4 (.v 6))
abbrev KZ:aH:=.i .l (.dG 3 (.v 3))
abbrev KC:aH:=.i .l (.dG 1 (.v 1))
abbrev Kp:aH:=.i .l (.dG 0 (.v 4))
abbrev Pt:aH:=.g (.l 0) R .l (.a' (.v 1))
abbrev Ra:aH:=.i .n (.store 2 (.v 4) (.l 0))
abbrev TH:aH:=.i .n (.store 1 (.v 1) (.l 1))
abbrev ahr:aH:=.i .l (.call (.c (.fn 27 [] [])) [.l 0,.c (.str [32])])
abbrev abU:aH:=.i (.v 8) (.bin (.int o) .eql (.l 0) (.c (.int o 0)))
abbrev PA:aH:=.g (.l 1) Q .l (.a' (.v 0))
abbrev Rf:aH:=.g (.l 0) Q .l (.a' (.v 2))
abbrev Dc:aH:=.i .l (.lv (.l 6))
abbrev Px:aH:=.i .l (.load R 1 (.v 11))
abbrev ad0:aH:=.i (.v 5) (.Av .iface Z Q .neq (.l 0) (.c .fC))
abbrev abM:aH:=.i .l (.bin (.int o) .eql (.v 10) (.c (.int o 6)))
abbrev abL:aH:=.i .l (.bin (.int o) .eql (.v 10) (.c (.int o 4)))
abbrev abJ:aH:=.i .l (.bin (.int o) .eql (.v 10) (.c (.int o 3)))
abbrev abI:aH:=.i .l (.bin (.int o) .eql (.v 10) (.c (.int o 2)))
abbrev abH:aH:=.i .l (.bin (.int o) .eql (.v 10) (.c (.int o 1)))
abbrev az3:aH:=.i .l (.bin (.int o) .eql (.l 0) (.c (.int o 20)))
abbrev Ps:aH:=.i .l (.load R 1 (.v 6))
abbrev abt:aH:=.i .l (.bin (.int o) .eql (.v 5) (.c (.int o 4)))
abbrev abs:aH:=.i .l (.bin (.int o) .eql (.v 5) (.c (.int o 2)))
abbrev aaO:aH:=.i .l (.bin (.int o) .add (.v 7) (.c (.int o 1)))
abbrev aaj:aH:=.g (.l 6) Q .l (.bin (.int o) .lss (.l 5) (.l 0))
abbrev ah9:aH:=.i .l (.fa (j 174) Z (.l 0) (.c (.int o 0)))
abbrev az4:aH:=.i .l (.fa (j 153) Z (.l 0) (.c (.int o 1)))
abbrev az5:aH:=.i .l (.fa (j 153) Z (.l 0) (.c (.int o 0)))
abbrev abE:aH:=.i (.v 9) (.alloc [.int o 0,.int o 0,.aC])
abbrev abQ:aH:=.i (.v 8) (.alloc [.int o 0,.int o 0,.aC])
abbrev Q9:aH:=.i .l (.load Q 4 (.v 6))
abbrev Qq:aH:=.i .l (.load Q 3 (.v 6))
abbrev ac6:aH:=.i .l (.bR R (j (22,(1,R))) (.l 1) (.l 0))
abbrev ahL:aH:=.i .l (.hv R 2 [.int o 0] 1 1 [(0,(.l 0))])
abbrev ahO:aH:=.i .l (.Av .iface Z Q .neq (.l 0) (.c .fC))
abbrev PD:aH:=.i (.v 3) (.un .not (.l 0))
abbrev ahW:aH:=.i .l (.fa (j 9) Z (.l 0) (.c (.int o 0)))
abbrev abu:aH:=.i .l (.call (.c (.fn 167 [] [])) [.l 1,.l 0])
abbrev acI:aH:=.i .l (.call (.c (.fn 157 [] [])) [.l 1,.l 0])
abbrev abO:aH:=.i .l (.call (.c (.fn 149 [] [])) [.l 8,.l 0])
abbrev abK:aH:=.i .l (.call (.c (.fn 149 [] [])) [.l 4,.l 0])
abbrev ac0:aH:=.i .l (.call (.c (.fn 139 [] [])) [.l 1,.l 0])
abbrev acX:aH:=.i .l (.call (.c (.fn 134 [] [])) [.l 1,.l 0])
abbrev aak:aH:=.i .l (.call (.c (.fn 129 [] [])) [.l 1,.l 0])
abbrev aat:aH:=.i .l (.call (.c (.fn 127 [] [])) [.l 4,.l 0])
abbrev aci:aH:=.i (.v 5) (.pick (.l 2) (.l 0) (.c (.bool R)))
abbrev ahU:aH:=.i .l (.call (.c (.fn 30 [] [])) [.l 8,.l 0])
abbrev ahF:aH:=.i .l (.call (.c (.fn 30 [] [])) [.l 3,.l 0])
abbrev ahE:aH:=.i .l (.call (.c (.fn 19 [] [])) [.l 4,.l 0])
abbrev MA:aH:=.i .l (.call (.c (.fn 19 [] [])) [.l 2,.l 0])
abbrev Tw:aH:=.i .l (.call (.c (.fn 19 [] [])) [.l 1,.l 0])
abbrev ac5:aH:=.i (.v 2) (.pick (.l 2) (.c (.bool Q)) (.l 0))
abbrev Rc:aH:=.i (.v 2) (.box 4 (.v 0))
abbrev ahQ:aH:=.g (.l 3) R .l (.bin .str .neq (.l 1) (.l 0))
abbrev ah2:aH:=.i .l (.call (.c (.fn 7 [] [])) [.l 3,.l 0])
abbrev agH:aH:=.i (.v 5) (.alloc [.int o 0,.int o 0])
abbrev aaJ:aH:=.i (.v 8) (.bin (.int o) .lss (.v 7) (.v 6))
abbrev aaq:aH:=.i .l (.pick (.l 8) (.l 0) (.c (.bool R)))
abbrev agN:aH:=.i .l (.pick (.l 4) (.l 0) (.c (.bool R)))
abbrev ahs:aH:=.i .l (.bin .str .add (.c (.str [35])) (.l 0))
abbrev ahI:aH:=.i .l (.bin .str .add (.c (.str [32])) (.l 0))
abbrev ab7:aH:=.i (.v 2) (.bin .slice .eql (.l 0) (.c .aC))
abbrev Qu:aH:=.i (.v 20) (.a' (.l 0))
abbrev Qs:aH:=.i (.v 18) (.a' (.l 0))
abbrev Qr:aH:=.i (.v 17) (.a' (.l 0))
abbrev agC:aH:=.i .l (.fa Z (j (2,1)) (.v 5) (.l 0))
abbrev abP:aH:=.i .l (.call (.c (.fn 152 [] [])) [.l 0])
abbrev acl:aH:=.i .l (.call (.c (.fn 141 [] [])) [.l 0])
abbrev J1:aH:=.i .l (.call (.c (.fn 133 [] [])) [.l 0])
abbrev abA:aH:=.i .l (.call (.c (.fn 113 [] [])) [.l 0])
abbrev adh:aH:=.i .l (.call (.c (.fn 101 [] [])) [.l 0])
abbrev aae:aH:=.i .l (.bin (.int o) .sub (.l 4) (.l 0))
abbrev acg:aH:=.i .l (.bin (.int o) .lss (.l 3) (.l 0))
abbrev aaY:aH:=.i .l (.bin (.int o) .and (.l 1) (.l 0))
abbrev abr:aH:=.i .l (.bin (.int o) .add (.l 1) (.l 0))
abbrev aaz:aH:=.i .l (.fa (j 213) Z (.l 1) (.l 0))
abbrev ac':aH:=.i .l (.fa (j 153) Z (.l 1) (.l 0))
abbrev aie:aH:=.i .l (.call (.c (.fn 98 [] [])) [.l 0])
abbrev ac3:aH:=.i .l (.call (.c (.fn 74 [] [])) [.l 0])
abbrev agU:aH:=.i .l (.call (.c (.fn 54 [] [])) [.l 0])
abbrev ahC:aH:=.i .l (.call (.c (.fn 49 [] [])) [.l 2])
abbrev Qv:aH:=.i .l (.lv (.l 11))
abbrev Qw:aH:=.i .l (.lv (.l 10))
abbrev az6:aH:=.i .l (.fa (j 90) Z (.v 7) (.v 9))
abbrev SS:aH:=.i .l (.dG 6 (.v 2))
abbrev SR:aH:=.i .l (.dG 5 (.v 2))
abbrev S6:aH:=.i .l (.dG 5 (.l 0))
abbrev PQ:aH:=.i .l (.dG 1 (.v 5))
abbrev Ql:aH:=.i .l (.dG 0 (.v 7))
abbrev SN:aH:=.i .l (.dG 0 (.v 6))
abbrev ahT:aH:=.i .l (.call (.l 0) [.c (.int o 3)])
abbrev agD:aH:=.i .l (.fa (j 3) Z (.l 1) (.l 0))
abbrev PI:aH:=.i .l (.lv (.l 7))
abbrev Qz:aH:=.i .l (.lv (.l 5))
abbrev acK:aH:=.i (.v 8) (.len R (j 90) (.v 7))
abbrev acV:aH:=.i .l (.len R (j 239) (.l 0))
abbrev ahJ:aH:=.i .l (.bin .str .add (.l 3) (.l 0))
abbrev ab3:aH:=.i .l (.app R 118 (.l 5) (.l 0))
abbrev abW:aH:=.i .l (.len R (j 90) (.l 1))
abbrev aap:aH:=.g (.l 7) Q .l (.un .not (.l 0))
abbrev ahV:aH:=.i .n (.store 1 (.l 0) (.c .aC))
abbrev aaf:aH:=.i .l (.len R (j 4) (.l 0))
abbrev ahn:aH:=.i .l (.app R 9 (.l 3) (.l 0))
abbrev aaN:aH:=.i .l (.app R 3 (.l 3) (.l 0))
abbrev ahM:aH:=.i .l (.app R 2 (.l 2) (.l 0))
abbrev aaQ:aH:=.i (.v 7) (.a' (.c (.int o 0)))
abbrev abq:aH:=.i (.v 4) (.a' (.c (.bool R)))
abbrev acL:aH:=.i (.v 3) (.a' (.c (.int o 9)))
abbrev aio:aH:=.i (.v 3) (.a' (.c (.int o 7)))
abbrev acq:aH:=.i (.v 2) (.a' (.c (.int o 5)))
abbrev ack:aH:=.i (.v 2) (.a' (.c (.int o 3)))
abbrev acs:aH:=.i (.v 2) (.a' (.c (.int o 1)))
abbrev aab:aH:=.g (.l 6) R .l (.dG 1 (.l 0))
abbrev aic:aH:=.g (.l 2) R .l (.dG 0 (.l 0))
abbrev ab4:aH:=.i (.v 5) (.a' (.c (.bool Q)))
abbrev aaI:aH:=.i (.v 3) (.a' (.c (.bool Q)))
abbrev abV:aH:=.i (.v 2) (.a' (.c (.bool Q)))
abbrev abS:aH:=.i (.v 11) (.load R 1 (.l 0))
abbrev abG:aH:=.i (.v 10) (.load R 1 (.l 0))
abbrev So:aH:=.g (.l 5) Q .l (.dG 2 (.l 0))
abbrev aao:aH:=.g (.l 2) Q .l (.dG 1 (.l 0))
abbrev aib:aH:=.g (.l 1) R .l (.lv (.l 0))
abbrev ah1:aH:=.i .l (.conv (.int .u64) (.l 0))
abbrev acu:aH:=.i (.v 9) (.load R 1 (.l 0))
abbrev acx:aH:=.i (.v 5) (.load R 1 (.l 0))
abbrev aai:aH:=.g (.l 2) Q .l (.lv (.l 0))
abbrev KY:aH:=.g (.l 2) R .l (.a' (.v 0))
abbrev WP:aH:=.i .n (.store 6 (.v 6) (.l 0))
abbrev aaC:aH:=.i .n (.store 6 (.v 5) (.l 0))
abbrev aaL:aH:=.i .n (.store 6 (.v 4) (.l 0))
abbrev aaH:aH:=.i .n (.store 6 (.v 2) (.l 0))
abbrev af3:aH:=.i .n (.store 5 (.v 4) (.l 0))
abbrev ac2:aH:=.i .n (.store 4 (.v 6) (.l 0))
abbrev abR:aH:=.i .n (.store 3 (.v 8) (.l 0))
abbrev abT:aH:=.i .n (.store 3 (.v 6) (.l 0))
abbrev az7:aH:=.i .n (.store 3 (.v 4) (.l 2))
abbrev agI:aH:=.i .n (.store 2 (.v 5) (.l 0))
abbrev abY:aH:=.i .n (.store 1 (.l 0) (.l 3))
abbrev uB:bj:=.ops [eY,iw]
abbrev rY:bj:=.ops [xy]
abbrev uA:bj:=.ops [DE]
abbrev Gs:bj:=.ops [eS,wc,jT]
abbrev xC:bj:=.ops [azN]
abbrev y0:bj:=.ops [ta]
abbrev Gx:bj:=.ops [azP,lF]
abbrev GA:bj:=.ops [azO,y6]
abbrev Dr:bj:=.ops [azU]
abbrev DG:bj:=.ops [tb]
abbrev ah':bj:=.ops [aX,aX,b7,dB,bc,az0,Qz,dB,ka]
abbrev abN:bj:=.ops [aX,o8,aX,o8,y5,y7,az7,DB]
abbrev KK:bj:=.ops [azS,yZ]
abbrev KF:bj:=.ops [jm,kD]
abbrev HS:bj:=.ops [azW]
abbrev Ge:bj:=.ops [QT]
abbrev abC:bj:=.ops [aX,b7,hB,bc,Fd,az3,az2]
abbrev Gq:bj:=.ops [MK]
abbrev Gw:bj:=.ops [azR]
abbrev Gz:bj:=.ops [azQ]
abbrev FV:bj:=.ops [Gu]
abbrev Qo:bj:=.ops [aX,P',kD]
abbrev abZ:bj:=.ops [eY,xB,bc,Gk,kC,ka]
abbrev abw:bj:=.ops [Qg,.i (.v 4) (.box 3 (.v 2))]
abbrev acY:bj:=.ops [aX,we,bc,az5,uJ,Q4]
abbrev acZ:bj:=.ops [aX,we,bc,az4,uJ,Q4]
abbrev QI:bj:=.ops [azX,Gl]
abbrev J5:bj:=.ops [azZ]
abbrev adZ:bj:=.ops [aX,g4,az1,J',mM]
abbrev PS:bj:=.ops [azY,qn]
abbrev KJ:bj:=.ops [azT]
abbrev KG:bj:=.ops [GL]
abbrev Tx:bj:=.ops [Gu,J6]
abbrev TO:bj:=.ops [aX,azV]
abbrev ahq:bj:=.ops [.i (.v 4) (.a' (.c .aC))]
abbrev ade:bj:=.ops [.i (.v 3) (.box 4 (.v 1))]
abbrev QV:bj:=.ops [eS,kD]
abbrev acH:bj:=.ops [az6,nd,y7,DB]
abbrev abj:bj:=.ops [.i (.v 2) (.a' (.v 0))]
abbrev xx:e':=.bin (.int o) .neq (.l 0) (.c (.int o 0))
abbrev KR:e':=.alloc [.int o 0,.int o 0,.int o 0,.aC]
abbrev Bf:e':=.pick (.l 4) (.c (.bool Q)) (.l 0)
abbrev HE:e':=.alloc [.int o 0,.int o 0]
abbrev J7:e':=.bin (.int o) .eql (.l 0) (.c (.int o 0))
abbrev v8:e':=.un .not (.l 0)
abbrev Mi:e':=.bin (.int o) .lss (.l 2) (.l 0)
abbrev yY:e':=.load R 1 (.l 0)
abbrev QG:e':=.bin (.int o) .lss (.l 0) (.c (.int o 0))
abbrev QO:e':=.bin (.int o) .eql (.l 0) (.c (.int o 4))
abbrev aaG:e':=.alloc [.int o 0,.int o 0,.int o 0,.int o 0,.int o 0,.int o 0]
abbrev AX:e':=.a' (.c (.int o 0))
abbrev PT:e':=.call (.c (.fn 175 [] [])) [.l 1,.l 0]
abbrev QL:e':=.pick (.l 3) (.l 0) (.c (.bool R))
abbrev QM:e':=.pick (.l 8) (.c (.bool Q)) (.l 0)
abbrev tj:e':=.a' (.l 1)
abbrev af2:e':=.alloc [.int o 0,.int o 0,.int o 0,.int o 0,.aC]
abbrev agS:e':=.alloc [.int o 0,.int o 0,.int o 0,.int o 0]
abbrev aim:e':=.alloc [.int o 0,.str [],.bool R,.int o 0]
abbrev xw:e':=.a' (.v 1)
abbrev A8:e':=.a' (.l 0)
abbrev GJ:e':=.len R (j 153) (.l 0)
abbrev TE:e':=.bin .str .eql (.l 1) (.l 0)
abbrev ahX:e':=.bin (.int o) .gtr (.l 0) (.c (.int o 200))
abbrev agF:e':=.bin (.int o) .sub (.c (.int o 1)) (.l 0)
abbrev ah7:e':=.bin (.int o) .gtr (.l 0) (.c (.int o 0))
abbrev aaM:e':=.bin (.int o) .geq (.l 0) (.c (.int o 0))
abbrev aco:e':=.bin (.int o) .eql (.l 0) (.c (.int o 2))
abbrev adf:e':=.bin (.int o) .eql (.l 0) (.c (.int o 1))
abbrev Dq:e':=.a' (.l 2)
abbrev PE:e':=.a' (.c (.int o 8))
abbrev PL:e':=.a' (.c (.int o 1))
abbrev Pr:e':=.alloc [.int o 0]
abbrev aax:e':=.call (.c (.fn 180 [] [])) [.l 1,.l 0]
abbrev aad:e':=.alloc [.int o 0,.int o 0,.aC]
abbrev Rd:e':=.load R 1 (.v 3)
abbrev agT:e':=.pick (.l 9) (.l 0) (.c (.bool R))
abbrev agG:e':=.pick (.l 7) (.l 0) (.c (.bool R))
abbrev aaD:e':=.pick (.l 5) (.l 0) (.c (.bool R))
abbrev aav:e':=.pick (.l 2) (.c (.bool Q)) (.l 0)
abbrev Gc:e':=.a' (.v 4)
abbrev Rg:e':=.load Q 4 (.v 4)
abbrev acy:e':=.call (.c (.fn 165 [] [])) [.l 0]
abbrev aac:e':=.bin (.int o) .geq (.l 8) (.l 0)
abbrev agE:e':=.bin (.int o) .eql (.l 4) (.l 0)
abbrev agM:e':=.bin (.int o) .eql (.l 1) (.l 0)
abbrev aal:e':=.fa (j 4) Z (.l 1) (.l 0)
def Wt(ops:Array bb)(M:Array Nat):Nat->List Nat->List Nat->List (Nat×List Nat)
 |0,_,_=>[]
 |n+1,rest,done=>
   let yQ:=rest.filter λi=>rest.all λD=>D==i|| !ln M D i
   match((yQ.find? λi=>m0 (ops.getD i default)).or (yQ.find? λi=>match(ops.getD i default).op with|.alloc _=>R|_=>Q)).or yQ.head? with
   |none=>[]
   |some i=>(i,if m0 (ops.getD i default)then[]else done.filter λD=>sC (ops.getD D default)&& !ln M D i)::Wt ops M n (rest.filter (· != i)) (done++[i])
def Wu(ops:Array bb)(M:Array Nat)(pl:List (Nat×List Nat)):List (Nat×List Nat):=match pl.reverse with
 |(y,[])::(x,[])::r=>if rC (ops.getD x default)&&rC (ops.getD y default)&& !ln M x y then r.reverse++[(x,[]),(y,[x])]else pl
 |_=>pl
def Wv(ops:Array bb)(M:Array Nat):Nat->List Nat->List Nat->List (Nat×List Nat)
 |0,_,_=>[]
 |n+1,rest,done=>
   let yQ:=rest.filter λi=>rest.all λD=>D==i|| !ln M D i
   match(((yQ.find? λi=>m0 (ops.getD i default)).or (yQ.find? λi=>match(ops.getD i default).op with|.buildSlice .. =>Q|_=>R)).or (yQ.find? λi=>match(ops.getD i default).op with|.alloc _=>R|_=>Q)).or yQ.head? with
   |none=>[]
   |some i=>(i,if m0 (ops.getD i default)then[]else done.filter λD=>sC (ops.getD D default)&& !ln M D i)::Wv ops M n (rest.filter (· != i)) (done++[i])
def amW(ops:Array bb):List (Nat×List Nat):=Wu ops (mA ops) (Wt ops (mA ops) ops.size (iO ops.size) [])
def amX(ops:Array bb):List (Nat×List Nat):=Wu ops (mA ops) (Wv ops (mA ops) ops.size (iO ops.size) [])
def amY(ba:aU->Bool)(ops:Array bb):Bool:=ops.any λO=>match O.op with|.buildSlice ty _ _=> !ba ty&&ba (ty+1000000)|_=>R
def AA(id:Nat):ef->Option (Array bb)
 |.region i ops _=>if i=id then j ops else Z
 |.seq a b=>(AA id a).or (AA id b)
 |.cond _ a b=>(AA id a).or (AA id b)
 |.block _ b=>AA id b
 |.loop b=>AA id b
 |_=>Z
def amZ(fn:Func):Nat:=fn.ntmps
def AB(P:cu)(ba:cH->aU->Bool)(ext:cH->Option (List I->ad->Option ((I⊕I)×ad)))(use pure:List cH):gZ where
 ext:=ext
 ba:=ba
 aI g:=match P.funcs[g]? with
  |some fn=>amZ fn
  |none=>0
 ch g id:=match((P.funcs[g]?).bind (·.body)).bind (AA id)with
  |some ops=>if amY (ba g) ops then amX ops else amW ops
  |none=>[]
 use:=use.contains
 pure:=pure.contains
 eu g d:=if 3000000<=d then !ba g (d - 3000000)&&ba g (d - 3000000+1000000)else if 1000000<=d then(kg P (d - 1000000)).isSome else match P.funcs[g]? with
  |some fn=>fn.results.toList.any λr=>match r with|.cell i _=>i==d|_=>R
  |none=>R
def Ww(P:cu):Bool:=(iO P.types.size).all λt=>(match P.info? t with
 |some i=>decide (i.bytes<=100000)&&(match i.zero with|some v=>v.cells.size==i.size|none=>Q)
 |none=>Q)&&(match P.underlying t with
 |some (.slice e)=>decide (0<P.cellsOf e)
 |_=>Q)
def xi(P:cu)(T:gZ)(use:List cH):Bool:=use.all λg=>match P.funcs[g]? with
 |some fn=>(match fn.body with|some c=>ht (T.ch g) (T.eu g) c|none=>Q)&& !(fn.name== "runtime.NumGoroutine")
 |none=>Q
theorem am0{P:cu}(h:Ww P=Q):pw P:=by
 unfold Ww at h;rw[iC]at h;refine⟨λt i v bt F J=>?_,λt i bt F=>?_,λt e bt he=>?_⟩
 ·have:=h t (j8.2 bt);simp only[F,J,h8,beq_iff_eq]at this;exact this.1.2
 ·have:=h t (j8.2 bt);simp only[F,h8,decide_eq_true_eq]at this;exact this.1.1
 ·have:=h t (j8.2 bt);simp only[he,h8,decide_eq_true_eq]at this;exact this.2
theorem am1{P:cu}{ba:cH->aU->Bool}{ext:cH->Option (List I->ad->Option ((I⊕I)×ad))}{use pure:List cH}(rG:pw P)(hm:P.follows .mixedOrders=Q)(bn:xi P (AB P ba ext use pure) use=Q)(an:∀g ah,ext g=j ah->∃fn,P.funcs[g]? =j fn/\(fn.body.isNone=R/\(fn.name== "runtime.NumGoroutine")=R)/\∀args h r,ah args h=j r->AC P g args h r):ky P (AB P ba ext use pure):=by
 unfold xi at bn;rw[iC]at bn;have ud:∀g,(AB P ba ext use pure).use g=Q->g∈use:=λg a7=>by simpa[AB]using a7
 refine⟨rG,λg fn F J=>?_,an,λg fn c F J af=>?_,hm,λg e F he=>?_,λg ty he=>?_⟩
 ·have:=bn g (ud g J);rw[F]at this;simp only[h8]at this;simpa using this.2
 ·have:=bn g (ud g af);rw[F]at this;simp only[J,h8]at this;exact this.1
 ·simp only[AB]at he;rw[if_neg (by omega),if_pos (Nat.le_add_right _ _),Nat.add_sub_cancel_left]at he;exact he
 ·simp only[AB]at he ⊢;rw[if_pos (by omega),show 1000000+(ty+2000000) - 3000000=ty by omega,h8,Bool.not_eq_true']at he;exact he
open Go.ChangeShapes Go.WideShapes Go.ChangeAt Go.RowKit Go.Deep Go.Joins
open Go.ChangeMaps (open_string shut_string)
theorem own:ownKnob ak.godebug=Z:=by kernel_rfl
theorem am2:laidOutB ak=Q:=by kernel_rfl
section
variable{H:Type}{enc:aU×bH->H}{P:cu}{W yR:cd}
theorem Wx(ai:laidOutB P=Q):∀{bX:List aU} {bl:List bH} {hP:List (DataW H)} {p:List MemPlace},qZ enc P W 0 (λ_=>Q) Q bX bl hP p->(∀t∈bX,P.readableRec t=Q/\t<P.types.size)->Below W.heap.size W yR->(∀x∈p,x.block<W.heap.size)->qZ enc P yR 0 (λb=>decide (b<W.heap.size)) Q bX bl hP p
 |[],[],[],p,h,_,_,_=>h
 |t::bX,v::bl,d::hP,p,h,aO,ag,hp=>by obtain⟨dU,bT,F,J,rfl⟩:=h;obtain⟨aj,az⟩:=aO t (by simp);exact⟨dU,bT,Below.trod ai aj az F ag (λx an=>hp x (by simp[an])),Wx ai J (λcM E=>aO cM (by simp[E])) ag (λx an=>hp x (by simp[an])),rfl⟩
 |[],_::_,_,_,h,_,_,_=>by simp[qZ]at h
 |_::_,[],_,_,h,_,_,_=>by simp[qZ]at h
 |_::_,_::_,[],_,h,_,_,_=>by simp[qZ]at h
 |[],[],_::_,_,h,_,_,_=>by simp[qZ]at h
theorem Wy:∀{bX:List aU} {bl:List bH} {hP:List (DataW H)} {p:List MemPlace},qZ enc P W 0 (λ_=>Q) Q bX bl hP p->∀x∈p,x.block<W.heap.size
 |[],[],[],p,h,x,an=>by have:p=[]:=h;subst this;simp at an
 |t::bX,v::bl,d::hP,p,h,x,an=>by
   obtain⟨dU,bT,⟨n,F⟩,J,rfl⟩:=h;rcases pq.1 an with an|an
   ·exact DataW.trod_lt n _ _ _ F x an
   ·exact Wy J x an
 |[],_::_,_,_,h,_,_=>by simp[qZ]at h
 |_::_,[],_,_,h,_,_=>by simp[qZ]at h
 |_::_,_::_,[],_,h,_,_=>by simp[qZ]at h
 |[],[],_::_,_,h,_,_=>by simp[qZ]at h
def Wz(P:cu)(f:cH)(args:Array bH)(W:cd):Prop:=Calls P f args W λe yR=>e= .returned (.bool Q)/\Below W.heap.size W yR
theorem am3{f:Func}{s:ChangeSpec}{args:Array bH}{hP fK:List (DataW H)}{before:List MemPlace}{WA:aU}(ai:laidOutB P=Q)(am4:P.underlying WA=j .bool)(kl:f.resultTypes= #[WA])(U:s.vars=[])(am5:∀t∈f.params.toList,P.readableRec t=Q/\t<P.types.size)(az:∀hP:List (DataW H),hP.length=f.params.size->s.fn H hP={results:=[.lit (.bool Q)],args:=hP})(d':DataW.Whole enc P f.params.toList s.vars R W args.toList hP fK before)(ag:Below W.heap.size W yR):s.post enc P f R Q R R W args (.bool Q) yR:=by
 have am6:=d';obtain⟨p,q,e7,q0,rfl,OR,s0⟩:=d';rw[U]at q0;obtain⟨rfl,rfl⟩:=trodVars_none q0;have hlen:hP.length=f.params.size:=by
  have:∀{bX:List aU} {bl:List bH} {hP:List (DataW H)} {p:List MemPlace},qZ enc P W 0 (λ_=>Q) Q bX bl hP p->hP.length=bX.length:=by
   intro bX;induction bX with
   |nil=>intro bl hP p h;cases bl<;>cases hP<;>simp[qZ]at h ⊢
   |cons t bX aW=>intro bl hP p h;cases bl<;>cases hP<;>simp[qZ]at h ⊢;obtain⟨_,_,_,J,_⟩:=h;exact aW J
  simpa using this e7
 have e:=az (hP++[]) (by simpa using hlen);refine⟨hP,[],_,[],p,[],am6,?_,?_,?_,ag.frame _,λh=>by cases h⟩
 ·rw[e,kl];exact trodAll_mk1 (shut_bool am4 _)
 ·rw[e];simp only[me];exact Wx ai e7 am5 ag (Wy e7)
 ·rw[e,U];rfl
def bL(z:Int):Prop:= -9223372036854775808<=z/\z<=9223372036854775807
end
open Go.RowKit
def it(a:Int)(k:Nat):List UInt8:=((iO k).filter (gO a)).map λi=>[(114:UInt8),119,112,97].getD i 0
def uk(a:Int):List UInt8:=if it a 4=[]then[45]else it a 4
theorem Fv(a:Int)(k:Nat):(it a k).length<=k:=by unfold it;rw[gG];exact ee (List.length_filter_le _ _) (by simp)
theorem Jw{a:Int}{k:Nat}(h:gO a k=Q):it a (k+1)=it a k++[[(114:UInt8),119,112,97].getD k 0]:=by unfold it;rw[List.range_succ,List.filter_append,rR];simp[h]
theorem Jx{a:Int}{k:Nat}(h:gO a k=R):it a (k+1)=it a k:=by unfold it;rw[List.range_succ,List.filter_append,rR];simp[h]
theorem am7:(ak.info? 5).map (λi=>(i.zero,i.size,i.bytes))=j (j (.int .u8 0),1,1):=by kernel_rfl
theorem am8(a:Int)(w:cd):Calls ak 55 #[.int o a] w λe aJ=>e= .returned (.string ⟨(uk a).toArray⟩)/\hL w aJ:=by
 obtain⟨i0,ae,lQ,yB,og⟩:=info_parts am7
 go_enter Tryz.func55,Tryz.ntmps55
 go_wp2
 go_loopw [3,5] (λv i wr=>∃k:Nat,k<=4/\i= .int o k/\wr.ownsRow w.heap.size 5 1 v (it a k).length ((it a k).map λc=>.int .u8 c.toNat)/\hL w wr) (λ_ i _=>4 - (intOf i).toNat)
 case atStart=>exact⟨0,by omega,rfl,World.ownsRow_nil _ _ _ _,ci.refl _ _⟩
 case round=>
  obtain⟨k,ab,rfl,fD,au⟩:=hrel
  match k,ab with
  |0,_=>
    by_cases ag:gO a 0=Q
    ·have df:it a 1=it a 0++[114]:=Jw ag;have hle:(it a 0).length<=0:=Fv a 0;have i1:(bits .and o a 1==1)=Q:=by simpa[gO]using ag
     clear ag
     go_wp2_with (at_builtin;go_must (refine ID rfl (.tmp 13) (.tmp 16) 36 rfl w.heap.size 5 i0 _ 1 1 vM ae lQ yB og rfl (by decide) u3 _ _ wr rfl fD _ _ (by simp) rfl rfl (by simp[Value.oneCell']) (by omega) (by omega) au.size ?_))
     intro g cap cg ul xj a7
     go_wp2
     go_roundw
     case rel=>exact⟨1,by omega,by go_num,by rw[df,rR,dy];exact ul,au.step xj (λi ae h=>by have:=(fD.lt i h.symm).1;omega)⟩
     case measure=>simp[intOf]
    ·have df:it a 1=it a 0:=Jx (by simpa using ag);have i1:(bits .and o a 1==1)=R:=by simpa[gO]using ag
     clear ag
     go_wp2
     go_roundw
     case rel=>exact⟨1,by omega,by go_num,by rw[df];exact fD,au⟩
     case measure=>simp[intOf]
  |1,_=>
    by_cases ag:gO a 1=Q
    ·have df:it a 2=it a 1++[119]:=Jw ag;have hle:(it a 1).length<=1:=Fv a 1;have i1:(bits .and o (a / 2) 1==1)=Q:=by simpa[gO]using ag
     clear ag
     go_wp2_with (at_builtin;go_must (refine ID rfl (.tmp 13) (.tmp 16) 36 rfl w.heap.size 5 i0 _ 1 1 vM ae lQ yB og rfl (by decide) u3 _ _ wr rfl fD _ _ (by simp) rfl rfl (by simp[Value.oneCell']) (by omega) (by omega) au.size ?_))
     intro g cap cg ul xj a7
     go_wp2
     go_roundw
     case rel=>exact⟨2,by omega,by go_num,by rw[df,rR,dy];exact ul,au.step xj (λi ae h=>by have:=(fD.lt i h.symm).1;omega)⟩
     case measure=>simp[intOf]
    ·have df:it a 2=it a 1:=Jx (by simpa using ag);have i1:(bits .and o (a / 2) 1==1)=R:=by simpa[gO]using ag
     clear ag
     go_wp2
     go_roundw
     case rel=>exact⟨2,by omega,by go_num,by rw[df];exact fD,au⟩
     case measure=>simp[intOf]
  |2,_=>
    by_cases ag:gO a 2=Q
    ·have df:it a 3=it a 2++[112]:=Jw ag;have hle:(it a 2).length<=2:=Fv a 2;have i1:(bits .and o (a / 4) 1==1)=Q:=by simpa[gO]using ag
     clear ag
     go_wp2_with (at_builtin;go_must (refine ID rfl (.tmp 13) (.tmp 16) 36 rfl w.heap.size 5 i0 _ 1 1 vM ae lQ yB og rfl (by decide) u3 _ _ wr rfl fD _ _ (by simp) rfl rfl (by simp[Value.oneCell']) (by omega) (by omega) au.size ?_))
     intro g cap cg ul xj a7
     go_wp2
     go_roundw
     case rel=>exact⟨3,by omega,by go_num,by rw[df,rR,dy];exact ul,au.step xj (λi ae h=>by have:=(fD.lt i h.symm).1;omega)⟩
     case measure=>simp[intOf]
    ·have df:it a 3=it a 2:=Jx (by simpa using ag);have i1:(bits .and o (a / 4) 1==1)=R:=by simpa[gO]using ag
     clear ag
     go_wp2
     go_roundw
     case rel=>exact⟨3,by omega,by go_num,by rw[df];exact fD,au⟩
     case measure=>simp[intOf]
  |3,_=>
    by_cases ag:gO a 3=Q
    ·have df:it a 4=it a 3++[97]:=Jw ag;have hle:(it a 3).length<=3:=Fv a 3;have i1:(bits .and o (a / 8) 1==1)=Q:=by simpa[gO]using ag
     clear ag
     go_wp2_with (at_builtin;go_must (refine ID rfl (.tmp 13) (.tmp 16) 36 rfl w.heap.size 5 i0 _ 1 1 vM ae lQ yB og rfl (by decide) u3 _ _ wr rfl fD _ _ (by simp) rfl rfl (by simp[Value.oneCell']) (by omega) (by omega) au.size ?_))
     intro g cap cg ul xj a7
     go_wp2
     go_roundw
     case rel=>exact⟨4,by omega,by go_num,by rw[df,rR,dy];exact ul,au.step xj (λi ae h=>by have:=(fD.lt i h.symm).1;omega)⟩
     case measure=>simp[intOf]
    ·have df:it a 4=it a 3:=Jx (by simpa using ag);have i1:(bits .and o (a / 8) 1==1)=R:=by simpa[gO]using ag
     clear ag
     go_wp2
     go_roundw
     case rel=>exact⟨4,by omega,by go_num,by rw[df];exact fD,au⟩
     case measure=>simp[intOf]
  |4,_=>
    by_cases Ao:it a 4=[]
    ·have gf:uk a=[45]:=by simp[uk,Ao]
     rw[Ao]at fD;obtain⟨A,cap,rfl,az⟩:=U3 fD
     go_wp2
     go_ret
     exact⟨by rw[gf];rfl,au⟩
    ·have gf:uk a=it a 4:=by simp[uk,Ao]
     obtain⟨A,cap,rfl,az⟩:=U3 fD;have mC:0<(it a 4).length:=List.length_pos_iff.2 Ao;have aR:(((it a 4).length:Int)==0)=R:=by simp;exact Ao
     obtain⟨b,O,rfl⟩:=az.some_ mC;have aAA:=run_convert_bytes_back (P:=ak) wr 36 9 5 ⟨b,O,Z⟩ cap (it a 4) vM Tryz.underlying5 Tryz.underlying9 (λD aa=>by rw[nW];exact az.U0 (by simp[aa]))
     go_wp2
     go_ret
     exact⟨by rw[gf];rfl,au⟩
def idx(c:UInt8):Int:=if c=114 then 0 else if c=119 then 1 else if c=112 then 2 else if c=97 then 3 else -1
theorem am9(c:UInt8):Lib.indexByte [114,119,112,97] c=idx c:=by
 unfold idx;by_cases am:c=114
 ·subst am;rfl
 by_cases F:c=119
 ·subst F;rfl
 by_cases J:c=112
 ·subst J;rfl
 by_cases af:c=97
 ·subst af;rfl
 have gI:((114:UInt8)==c)=R:=by simpa using λh=>am h.symm
 have av:((119:UInt8)==c)=R:=by simpa using λh=>F h.symm
 have ax:((112:UInt8)==c)=R:=by simpa using λh=>J h.symm
 have bs:((97:UInt8)==c)=R:=by simpa using λh=>af h.symm
 simp[Lib.indexByte,am,F,J,af,gI,av,ax,bs]
theorem am'(c:UInt8)(w:cd):Calls ak 42 #[.string ⟨#[114,119,112,97]⟩,.int .u8 c.toNat] w λe aJ=>e= .returned (.int o (idx c))/\w=aJ:=by
 have an:∀W:cd,(callFunc 57 #[.string ⟨#[114,119,112,97]⟩,.int .u8 c.toNat]).run ak W= .ok (.value (.int o (idx c))) W:=by intro W;rw[run_callFunc_extern (e:=Extern.BytealgIndexByte.indexByte) Tryz.func57 (by kernel_rfl) (by kernel_rfl) (by kernel_rfl) (by kernel_rfl)];rw[Lib.run_indexByteString];simp only[Result.andThen];congr;rw[<-am9];simp
 go_enter Tryz.func42,Tryz.ntmps42
 go_wp2
 go_ret
 exact⟨rfl,rfl⟩
theorem xk{c:UInt8}{i:Int}(h:idx c=i)(w:cd):Calls ak 42 #[.string ⟨#[114,119,112,97]⟩,.int .u8 c.toNat] w λe aJ=>e= .returned (.int o i)/\w=aJ:=by subst h;exact am' c w
theorem ana(c:UInt8):idx c= -1\/idx c=0\/idx c=1\/idx c=2\/idx c=3:=by
 unfold idx;split
 ·simp
 ·split
  ·simp
  ·split
   ·simp
   ·split<;>simp
def CV:Option (Int×Int)->UInt8->Option (Int×Int)
 |none,_=>Z
 |some (r,last),c=>if idx c<=last then Z else j (bits .or o r (2 ^ (idx c).toNat),idx c)
theorem Fw{r last:Int}{c:UInt8}(h:idx c<=last):CV (j (r,last)) c=Z:=if_pos h
theorem Jy{r last:Int}{c:UInt8}(h:¬idx c<=last):CV (j (r,last)) c=j (bits .or o r (2 ^ (idx c).toNat),idx c):=if_neg h
def um(l:List UInt8):Option (Int×Int):=l.foldl CV (j (0, -1))
def m9(l:List UInt8):Int×Bool:=if l=[45]then(0,Q)else match um l with
 |none=>(0,R)
 |some (r,_)=>(r,!l.isEmpty)
theorem anb(l:List UInt8)(k:Nat)(ab:k<l.length):um (l.take (k+1))=CV (um (l.take k)) l[k]:=by unfold um;rw[List.take_succ_eq_append_getElem ab,List.foldl_append];rfl
theorem Fx(l:List UInt8)(k:Nat)(h:um (l.take k)=Z):um l=Z:=by
 have aq:∀m:List UInt8,m.foldl CV Z=Z:=by
  intro m;induction m with
  |nil=>rfl
  |cons a m aW=>exact aW
 rw[<-List.take_append_drop k l];unfold um at h ⊢;rw[List.foldl_append,h];exact aq _
theorem Fy{l:List UInt8}(a1:¬l=[45])(h:um l=Z):m9 l=(0,R):=by unfold m9;rw[if_neg a1,h]
theorem anc(l:List UInt8)(w:cd)(ai:l.length<=1000000):Calls ak 23 #[.string ⟨l.toArray⟩] w λe aJ=>e= .returned (.tuple #[.int o (m9 l).1,.bool (m9 l).2])/\w=aJ:=by
 by_cases a1:l=[45]
 ·subst a1
  go_enter Tryz.func23,Tryz.ntmps23
  go_wp2
  go_ret2
  exact⟨rfl,rfl⟩
 ·have m5:(l==[45])=R:=by simpa using a1
  go_enter Tryz.func23,Tryz.ntmps23
  go_wp2
  go_loop [4,5,12] (λr last i=>∃(k:Nat) (bZ uo:Int),k<=l.length/\i= .int o k/\r= .int o bZ/\last= .int o uo/\Hid (um (l.take k)=j (bZ,uo))/\ -1<=uo/\uo<=3) (λ_ _ i=>l.length - (intOf i).toNat)
  case atStart=>exact⟨0,0, -1,by omega,rfl,rfl,rfl,rfl,by omega,by omega⟩
  case round=>
   obtain⟨k,bZ,uo,ab,rfl,rfl,rfl,bJ,qd,n2⟩:=hrel;by_cases bt:k<l.length
   ·have xl:Hid (um (l.take (k+1))=CV (j (bZ,uo)) l[k]):=by rw[<-bJ.out];exact anb l k bt
    rcases ana l[k]with h|h|h|h|h
    ·go_wp2_with (go_at_call 42;go_must (refine(xk h _).mono ?_;rintro e aJ ⟨rfl,rfl⟩))
     go_ret2
     have hp:m9 l=(0,R):=Fy a1 (Fx l (k+1) (by rw[xl.out];exact Fw (by rw[h];omega)));exact⟨by rw[hp];rfl,rfl⟩
    ·by_cases hle:0<=uo
     ·go_wp2_with (go_at_call 42;go_must (refine(xk h _).mono ?_;rintro e aJ ⟨rfl,rfl⟩))
      go_ret2
      have hp:m9 l=(0,R):=Fy a1 (Fx l (k+1) (by rw[xl.out];exact Fw (by rw[h];omega)));exact⟨by rw[hp];rfl,rfl⟩
     ·go_wp2_with (go_at_call 42;go_must (refine(xk h _).mono ?_;rintro e aJ ⟨rfl,rfl⟩))
      go_round
      case rel=>exact⟨k+1,_,_,by omega,by go_num,rfl,rfl,by rw[xl.out,Jy (by rw[h];omega),h];rfl,by omega,by omega⟩
      case measure=>simp[intOf];omega
    ·by_cases hle:1<=uo
     ·go_wp2_with (go_at_call 42;go_must (refine(xk h _).mono ?_;rintro e aJ ⟨rfl,rfl⟩))
      go_ret2
      have hp:m9 l=(0,R):=Fy a1 (Fx l (k+1) (by rw[xl.out];exact Fw (by rw[h];omega)));exact⟨by rw[hp];rfl,rfl⟩
     ·go_wp2_with (go_at_call 42;go_must (refine(xk h _).mono ?_;rintro e aJ ⟨rfl,rfl⟩))
      go_round
      case rel=>exact⟨k+1,_,_,by omega,by go_num,rfl,rfl,by rw[xl.out,Jy (by rw[h];omega),h];rfl,by omega,by omega⟩
      case measure=>simp[intOf];omega
    ·by_cases hle:2<=uo
     ·go_wp2_with (go_at_call 42;go_must (refine(xk h _).mono ?_;rintro e aJ ⟨rfl,rfl⟩))
      go_ret2
      have hp:m9 l=(0,R):=Fy a1 (Fx l (k+1) (by rw[xl.out];exact Fw (by rw[h];omega)));exact⟨by rw[hp];rfl,rfl⟩
     ·go_wp2_with (go_at_call 42;go_must (refine(xk h _).mono ?_;rintro e aJ ⟨rfl,rfl⟩))
      go_round
      case rel=>exact⟨k+1,_,_,by omega,by go_num,rfl,rfl,by rw[xl.out,Jy (by rw[h];omega),h];rfl,by omega,by omega⟩
      case measure=>simp[intOf];omega
    ·by_cases hle:3<=uo
     ·go_wp2_with (go_at_call 42;go_must (refine(xk h _).mono ?_;rintro e aJ ⟨rfl,rfl⟩))
      go_ret2
      have hp:m9 l=(0,R):=Fy a1 (Fx l (k+1) (by rw[xl.out];exact Fw (by rw[h];omega)));exact⟨by rw[hp];rfl,rfl⟩
     ·go_wp2_with (go_at_call 42;go_must (refine(xk h _).mono ?_;rintro e aJ ⟨rfl,rfl⟩))
      go_round
      case rel=>exact⟨k+1,_,_,by omega,by go_num,rfl,rfl,by rw[xl.out,Jy (by rw[h];omega),h];rfl,by omega,by omega⟩
      case measure=>simp[intOf];omega
   ·have ane:k=l.length:=by omega
    subst ane;have hp:m9 l=(bZ,!l.isEmpty):=by unfold m9;rw[if_neg a1,show um l=j (bZ,uo) from by have:=bJ.out;rwa [List.take_length]at this]
    go_wp2
    go_ret2
    exact⟨rfl,rfl⟩
abbrev AD:=cH->List I->ad->Option ((I⊕I)×ad)
abbrev k3:=Option (h4×List I×ad)
section
variable(C:AD)(aI:Nat)
noncomputable def lW(d:oZ)(bI:List aH)(k:List RK)(V L:List I)(h:ad):Option I->k3
 |some v=>bu C aI (.ops bI::k) (kp V v d) (kP L v d) h
 |none=>Z
noncomputable def WB(bI:List aH)(k:List RK)(V L:List I):Option ad->k3
 |some h=>bu C aI (.ops bI::k) V L h
 |none=>Z
noncomputable def o4(d:oZ)(bI:List aH)(k:List RK)(V L:List I):Option (I×ad)->k3
 |some (v,h)=>bu C aI (.ops bI::k) (kp V v d) (kP L v d) h
 |none=>Z
noncomputable def rS(d:oZ)(bI:List aH)(k:List RK)(V L:List I):Option ((I⊕I)×ad)->k3
 |some (.inl v,h)=>bu C aI (.ops bI::k) (kp V v d) (kP L v d) h
 |some (.inr v,h)=>j (.panic v,V,h)
 |none=>Z
noncomputable def Jz(d:oZ)(bI:List aH)(k:List RK)(V L:List I)(h:ad):Option (cH×List I)->k3
 |some (g,args)=>rS C aI d bI k V L (C g args h)
 |none=>Z
noncomputable def JA(d:oZ)(O:e')(bI:List aH)(k:List RK)(V L:List I)(h:ad):Option Bool->k3
 |some Q=>bu C aI (.ops (.i d O::bI)::k) V L h
 |some R=>bu C aI (.ops bI::k) (kp V (.bx []) d) (kP L (.bx []) d) h
 |none=>Z
noncomputable def WC(x y l:List bj)(k:List RK)(V:List I)(h:ad):I->k3
 |.bool b=>if b then bu C aI (.bQ x::.bQ l::k) V [] h else bu C aI (.bQ y::.bQ l::k) V [] h
 |_=>Z
noncomputable def WD(V L:List I)(h:ad):Option (List RK)->k3
 |some k=>bu C aI k V L h
 |none=>Z
end
section
variable{C:AD}{aI:Nat}{k:List RK}{V L:List I}{h:ad}{d:oZ}{bI:List aH}
theorem WE:bu C aI [] V L h=j (.ret,V,h):=by rw[bu]
theorem WG:bu C aI (.bQ []::k) V L h=bu C aI k V L h:=by rw[bu]
theorem OS{l:List bj}:bu C aI (.bQ (.ops bI::l)::k) V L h=bu C aI (.ops bI::.bQ l::k) V [] h:=by rw[bu]
theorem WH{a:Arg}{x y l:List bj}:bu C aI (.bQ (.cond a x y::l)::k) V L h=WC C aI x y l k V h (arg V [] a):=by rw[bu];cases arg V [] a<;>rfl
theorem OT{id:Nat}{b l:List bj}:bu C aI (.bQ (.block id b::l)::k) V L h=bu C aI (.bQ b::.b1 id::.bQ l::k) V L h:=by rw[bu]
theorem OU{b l:List bj}:bu C aI (.bQ (.loop b::l)::k) V L h=bu C aI (.ff b::.bQ l::k) V L h:=by conv=>lhs;rw[bu]
theorem WI{id:Nat}{l:List bj}:bu C aI (.bQ (.exit id::l)::k) V L h=WD C aI V L h (mI id k):=by rw[bu];cases mI id k<;>rfl
theorem WJ{l:List bj}:bu C aI (.bQ (.ret::l)::k) V L h=j (.ret,V,h):=by rw[bu]
theorem WK{id:Nat}:bu C aI (.b1 id::k) V L h=bu C aI k V L h:=by rw[bu]
theorem anf{b:List bj}:bu C aI (.ff b::k) V L h=bu C aI (.bQ b::.ff b::k) (cz aI V) L h:=by rw[bu]
theorem OV:bu C aI (.ops []::k) V L h=bu C aI k V [] h:=by rw[bu]
theorem WL{l:List vJ}(al:vK V L h l):bu C aI (.ops (.bU l::bI)::k) V L h=bu C aI (.ops bI::k) V L h:=by rw[bu];simp[al]
theorem jF{O:e'}(aq:hx V L O=Z)(hp:yM V L O=Z):bu C aI (.ops (.i d O::bI)::k) V L h=o4 C aI d bI k V L (g9 V L h O):=by rw[bu];simp only[aq,hp];rcases g9 V L h O with _|⟨v,E⟩<;>rfl
theorem yS{x:Arg}{q:aU}{v:I}(an:arg V L x= .iface q v):bu C aI (.ops (.i d (.yK x)::bI)::k) V L h=j (.panic (.iface q v),V,h):=by rw[bu];simp[yM,an]
theorem WM{K:List Item}:bu C aI (.halt K::k) V L h=j (.halt K,V,h):=by rw[bu]
theorem OW{f:Arg}{args:List Arg}:bu C aI (.ops (.i d (.call f args)::bI)::k) V L h=Jz C aI d bI k V L h (hx V L (.call f args)):=by
 rw[bu];simp only[yM];rcases al:hx V L (.call f args)with _|⟨g,aS⟩
 ·rfl
 ·simp only[Jz];rcases C g aS h with _|⟨_|_,E⟩<;>rfl
theorem WN{g:cH}{args:List Arg}:bu C aI (.ops (.i d (.call (.c (.fn g [] [])) args)::bI)::k) V L h=rS C aI d bI k V L (C g (args.map (arg V L)) h):=by rw[OW];simp[hx,arg,Jz]
theorem WO{a:Arg}{w:Bool}{O:e'}:bu C aI (.ops (.g a w d O::bI)::k) V L h=JA C aI d O bI k V L h (Aw V L a w):=by
 rw[bu];rcases Aw V L a w with _|⟨_|_⟩
 ·rfl
 ·rfl
 ·simp only[JA]
  conv=>rhs;rw[bu]
theorem pF{x:Option I}:o4 C aI d bI k V L (x.map λv=>(v,h))=lW C aI d bI k V L h x:=by cases x<;>rfl
theorem WQ{x:Arg}:bu C aI (.ops (.i d (.a' x)::bI)::k) V L h=bu C aI (.ops bI::k) (kp V (arg V L x) d) (kP L (arg V L x) d) h:=by rw[jF rfl rfl];rfl
theorem WR{c x y:Arg}:bu C aI (.ops (.i d (.pick c x y)::bI)::k) V L h=lW C aI d bI k V L h (OF (arg V L c) (arg V L x) (arg V L y)):=by rw[jF rfl rfl];exact pF
theorem WS{z:List I}{pl:List (Nat×Nat)}{eP:List (Nat×Arg)}:bu C aI (.ops (.i d (.build z pl eP)::bI)::k) V L h=lW C aI d bI k V L h ((pr pl z (eP.map λq=>(q.1,arg V L q.2))).map .agg):=by rw[jF rfl rfl];simp only[g9];cases pr pl z (eP.map λq=>(q.1,arg V L q.2))<;>rfl
theorem WT{x:Arg}:bu C aI (.ops (.i d (.lv x)::bI)::k) V L h=lW C aI d bI k V L h (Fm (arg V L x)):=by rw[jF rfl rfl];exact pF
theorem WU{fq:kh}{op:BinOp}{x y:Arg}:bu C aI (.ops (.i d (.bin fq op x y)::bI)::k) V L h=lW C aI d bI k V L h (dC fq op (arg V L x) (arg V L y)):=by rw[jF rfl rfl];exact pF
theorem WV{fq:kh}{aV:Option (List kh)}{kO:Bool}{op:BinOp}{x y:Arg}:bu C aI (.ops (.i d (.Av fq aV kO op x y)::bI)::k) V L h=lW C aI d bI k V L h (pD fq aV kO op (arg V L x) (arg V L y)):=by rw[jF rfl rfl];exact pF
theorem WW{op:UnOp}{x:Arg}:bu C aI (.ops (.i d (.un op x)::bI)::k) V L h=lW C aI d bI k V L h (zW op (arg V L x)):=by rw[jF rfl rfl];exact pF
theorem WX{fq:kh}{x:Arg}:bu C aI (.ops (.i d (.conv fq x)::bI)::k) V L h=lW C aI d bI k V L h (yp fq (arg V L x)):=by rw[jF rfl rfl];exact pF
theorem WY{t:aU}{x:Arg}:bu C aI (.ops (.i d (.CM t x)::bI)::k) V L h=lW C aI d bI k V L h (Fo t (arg V L x)):=by rw[jF rfl rfl];exact pF
theorem WZ{g:cH}{f c:List Arg}:bu C aI (.ops (.i d (.CN g f c)::bI)::k) V L h=lW C aI d bI k V L h (j (.fn g (f.map (arg V L)) (c.map (arg V L)))):=by rw[jF rfl rfl];rfl
theorem W0{s:Bool}{e:Option aU}{x:Arg}{gk ae:Option Arg}:bu C aI (.ops (.i d (.qh s e x gk ae)::bI)::k) V L h=lW C aI d bI k V L h (if ko s e (arg V L x)then ku (arg V L x) (gk.map (arg V L)) (ae.map (arg V L))else Z):=by
 rw[jF rfl rfl];simp only[g9];split
 ·exact pF
 ·rfl
theorem W1{off:Nat}{x:Arg}:bu C aI (.ops (.i d (.dG off x)::bI)::k) V L h=lW C aI d bI k V L h (b9 off (arg V L x)):=by rw[jF rfl rfl];exact pF
theorem W2{agg:Bool}{n off:Nat}{x:Arg}:bu C aI (.ops (.i d (.Fl agg n off x)::bI)::k) V L h=lW C aI d bI k V L h (Jl agg n off (arg V L x)):=by rw[jF rfl rfl];exact pF
theorem W3{e:Option aU}{hH:Option (Nat×Nat)}{x q:Arg}:bu C aI (.ops (.i d (.fa e hH x q)::bI)::k) V L h=lW C aI d bI k V L h (fg e hH (arg V L x) (arg V L q)):=by rw[jF rfl rfl];exact pF
theorem W4{s:Bool}{hH:Option (Nat×Nat×Bool)}{x q:Arg}:bu C aI (.ops (.i d (.bR s hH x q)::bI)::k) V L h=lW C aI d bI k V L h (sY s hH (arg V L x) (arg V L q)):=by rw[jF rfl rfl];exact pF
theorem W5{t:aU}{ok:Bool}{x:Arg}:bu C aI (.ops (.i d (.CO t ok x)::bI)::k) V L h=lW C aI d bI k V L h (yL t ok (arg V L x)):=by rw[jF rfl rfl];exact pF
theorem W6{x:Arg}{i:Nat}:bu C aI (.ops (.i d (.ext x i)::bI)::k) V L h=lW C aI d bI k V L h (OG (arg V L x) i):=by rw[jF rfl rfl];exact pF
theorem W7{s:Bool}{e:Option aU}{x:Arg}:bu C aI (.ops (.i d (.len s e x)::bI)::k) V L h=lW C aI d bI k V L h (if ko s e (arg V L x)then(gY (arg V L x)).map λ(n:Nat)=>i64 n else Z):=by
 rw[jF rfl rfl];simp only[g9];split
 ·cases gY (arg V L x)<;>rfl
 ·rfl
theorem W8{z:List I}:bu C aI (.ops (.i d (.alloc z)::bI)::k) V L h=bu C aI (.ops bI::k) (kp V (.ptr h.n 0 0) d) (kP L (.ptr h.n 0 0) d) (h.push [z]):=by rw[jF rfl rfl];rfl
theorem JB{n:Nat}{x:Arg}(F:(arg V L x).cells.all I.one=Q)(J:(arg V L x).cells.length=n):bu C aI (.ops (.i d (.box n x)::bI)::k) V L h=bu C aI (.ops bI::k) (kp V (.ptr h.n 0 0) d) (kP L (.ptr h.n 0 0) d) (h.push [(arg V L x).cells]):=by rw[jF rfl rfl];simp[g9,F,J,o4]
theorem W9{e:aU}{z:List I}{n len:Nat}{eP:List (Nat×Arg)}:bu C aI (.ops (.i d (.hv R e z n len eP)::bI)::k) V L h=o4 C aI d bI k V L ((ps n (ar len z) (eP.map λq=>(q.1,arg V L q.2))).map λes=>(.bN (j h.ids) e es,h.fresh len)):=by rw[jF rfl rfl];rfl
theorem W'{e:aU}{z:List I}{n len:Nat}{eP:List (Nat×Arg)}:bu C aI (.ops (.i d (.OC e z n len eP)::bI)::k) V L h=o4 C aI d bI k V L ((ps n (ar len z) (eP.map λq=>(q.1,arg V L q.2))).map λes=>(.bN Z e es,h)):=by rw[jF rfl rfl];rfl
theorem Xa{e:aU}{z:List I}{n len:Nat}{eP:List (Nat×Arg)}:bu C aI (.ops (.i d (.hv Q e z n len eP)::bI)::k) V L h=o4 C aI d bI k V L ((ps n (ar len z) (eP.map λq=>(q.1,arg V L q.2))).map λes=>(.br h.n 0 len e,h.push es)):=by rw[jF rfl rfl];rfl
theorem Xb{agg:Bool}{n:Nat}{x:Arg}:bu C aI (.ops (.i d (.load agg n x)::bI)::k) V L h=lW C aI d bI k V L h (cO agg n h (arg V L x)):=by rw[jF rfl rfl];exact pF
theorem Xc{n:Nat}{a x:Arg}:bu C aI (.ops (.i .n (.store n a x)::bI)::k) V L h=WB C aI bI k V L (eN n h (arg V L a) (arg V L x)):=by rw[jF rfl rfl];simp only[g9];cases eN n h (arg V L a) (arg V L x)<;>rfl
theorem Xd{e:aU}{z:List I}{l c:Arg}:bu C aI (.ops (.i d (.OD e z l c)::bI)::k) V L h=o4 C aI d bI k V L (Wi e z (arg V L l) (arg V L c) h):=by rw[jF rfl rfl];rfl
theorem Xe{ba:Bool}{e:aU}{x y:Arg}:bu C aI (.ops (.i d (.app ba e x y)::bI)::k) V L h=o4 C aI d bI k V L (e0 ba e (arg V L x) (arg V L y) h):=by rw[jF rfl rfl];rfl
theorem Xf{ba:Bool}{e:aU}{x y:Arg}:bu C aI (.ops (.i d (.apps ba e x y)::bI)::k) V L h=o4 C aI d bI k V L (wT ba e (arg V L x) (arg V L y) h):=by rw[jF rfl rfl];rfl
theorem Xg{t:aU}{n:Nat}{x:Arg}(F:(arg V L x).cells.all I.one=Q)(J:(arg V L x).cells.length=n):bu C aI (.ops (.i d (.Jk t n x)::bI)::k) V L h=bu C aI (.ops bI::k) (kp V (.cF t h.n) d) (kP L (.cF t h.n) d) (h.push [(arg V L x).cells]):=by rw[jF rfl rfl];simp[g9,F,J,o4]
theorem Xh{t:aU}{z:List I}:bu C aI (.ops (.i d (.OB t z)::bI)::k) V L h=bu C aI (.ops bI::k) (kp V (.cF t h.n) d) (kP L (.cF t h.n) d) (h.push [z]):=by rw[jF rfl rfl];rfl
theorem Xi{l8:Bool}{x y:Arg}:bu C aI (.ops (.i d (.kx l8 x y)::bI)::k) V L h=lW C aI d bI k V L h (yq l8 (arg V L x) (arg V L y)):=by rw[jF rfl rfl];exact pF
theorem Xj{v:I}:lW C aI d bI k V L h (j v)=bu C aI (.ops bI::k) (kp V v d) (kP L v d) h:=rfl
theorem Xk:WB C aI bI k V L (j h)=bu C aI (.ops bI::k) V L h:=rfl
theorem Xl{v:I}:o4 C aI d bI k V L (j (v,h))=bu C aI (.ops bI::k) (kp V v d) (kP L v d) h:=rfl
theorem Xm{v:I}:rS C aI d bI k V L (j (.inl v,h))=bu C aI (.ops bI::k) (kp V v d) (kP L v d) h:=rfl
theorem Xn{v:I}:rS C aI d bI k V L (j (.inr v,h))=j (.panic v,V,h):=rfl
theorem Xo{O:e'}:JA C aI d O bI k V L h (j Q)=bu C aI (.ops (.i d O::bI)::k) V L h:=rfl
theorem Xp{O:e'}:JA C aI d O bI k V L h (j R)=bu C aI (.ops bI::k) (kp V (.bx []) d) (kP L (.bx []) d) h:=rfl
theorem Xq{x y l:List bj}{b:Bool}:WC C aI x y l k V h (.bool b)=if b=Q then bu C aI (.bQ x::.bQ l::k) V [] h else bu C aI (.bQ y::.bQ l::k) V [] h:=rfl
theorem Xr:WD C aI V L h (j k)=bu C aI k V L h:=rfl
theorem Xs{b:Bool}{x y:I}:OF (.bool b) x y=j (if b=Q then x else y):=rfl
theorem AE{p:Bool}{rs:List nC}{am:ad}:qY p rs am (j (.ret,V,h))=zX.fj p am h ((iS V h rs).map iY):=rfl
theorem yT{p:Bool}{rs:List nC}{am:ad}{v:I}:qY p rs am (j (.panic v,V,h))=m2 p am (.inr v,h):=rfl
theorem Xt{D:Nat}:arg V L (.v D)=V.getD D .aD:=rfl
theorem Xu{D:Nat}:arg V L (.l D)=L.getD D .aD:=rfl
theorem Xv{a:I}:arg V L (.c a)=a:=rfl
theorem Xw{v:I}{D:Nat}:kp V v (.v D)=V.set D v:=rfl
theorem Xx{v:I}:kp V v .l=V:=rfl
theorem Xy{v:I}:kp V v .n=V:=rfl
theorem Xz{v:I}{D:Nat}:kP L v (.v D)=L:=rfl
theorem XA{v:I}:kP L v .l=v::L:=rfl
theorem XB{v:I}:kP L v .n=L:=rfl
end
section
variable{C:AD}{aI:Nat}{k:List RK}{V L:List I}{h am:ad}{fq:kh}{q:kf}
theorem XC{a b:Int}:dC fq .add (.int q a) (.int q b)=j (.int q (q.wrap (a+b))):=by simp[dC,oN]
theorem XD{a b:Int}:dC fq .sub (.int q a) (.int q b)=j (.int q (q.wrap (a - b))):=by simp[dC,oN]
theorem XE{a b:Int}:dC fq .mul (.int q a) (.int q b)=j (.int q (q.wrap (a*b))):=by simp[dC,oN]
theorem XF{a b:Int}:dC fq .eql (.int q a) (.int q b)=j (.bool (decide (a=b))):=by simp[dC,oN];rfl
theorem XG{a b:Int}:dC fq .neq (.int q a) (.int q b)=j (.bool (!decide (a=b))):=by simp[dC,oN];rfl
theorem XH{a b:Int}:dC fq .lss (.int q a) (.int q b)=j (.bool (decide (a<b))):=by simp[dC,oN]
theorem XI{a b:Int}:dC fq .leq (.int q a) (.int q b)=j (.bool (decide (a<=b))):=by simp[dC,oN]
theorem XJ{a b:Int}:dC fq .gtr (.int q a) (.int q b)=j (.bool (decide (b<a))):=by simp[dC,oN]
theorem XK{a b:Int}:dC fq .geq (.int q a) (.int q b)=j (.bool (decide (b<=a))):=by simp[dC,oN]
theorem XL{a b:Int}:dC fq .and (.int q a) (.int q b)=j (.int q (q.wrap (nS q.bits a&&& nS q.bits b).toNat)):=by simp[dC,oN]
theorem XM{a b:Int}:dC fq .or (.int q a) (.int q b)=j (.int q (q.wrap (nS q.bits a|||nS q.bits b).toNat)):=by simp[dC,oN]
theorem XN{a b:Int}:dC fq .andNot (.int q a) (.int q b)=j (.int q (q.wrap (nS q.bits a&&& ~~~(nS q.bits b)).toNat)):=by simp[dC,oN]
theorem XO{a b:List UInt8}:dC fq .eql (.str a) (.str b)=j (.bool (decide (a=b))):=by by_cases bz:a=b<;>simp[dC,bz]
theorem XP{a b:List UInt8}:dC fq .neq (.str a) (.str b)=j (.bool (!decide (a=b))):=by by_cases bz:a=b<;>simp[dC,bz]
theorem XQ{a b:Bool}:dC .bool .eql (.bool a) (.bool b)=j (.bool (a==b)):=by simp[dC,nT]
theorem XR{a b:Bool}:dC .bool .neq (.bool a) (.bool b)=j (.bool (!(a==b))):=by simp[dC,nT]
theorem XS{z:aU}{es:List (List I)}{i:Option Nat}:dC .slice .eql (.bN i z es) .aC=j (.bool R):=by simp[dC,nT]
theorem XT:dC .slice .eql .aC .aC=j (.bool Q):=by simp[dC,nT]
theorem XU{b O n:Nat}{z:aU}:dC .slice .eql (.br b O n z) .aC=j (.bool R):=by simp[dC,nT]
theorem XV{b:Bool}:zW .not (.bool b)=j (.bool !b):=rfl
theorem XW{a:Int}:zW .neg (.int q a)=j (.int q (q.wrap (0 - a))):=rfl
theorem XX{p:kf}{a:Int}:yp (.int q) (.int p a)=j (.int q (q.wrap a)):=rfl
theorem XY{s:List UInt8}:yp .str (.str s)=j (.str s):=rfl
theorem gm{agg:Bool}{n b i off:Nat}:cO agg n h (.ptr b i off)=((h.cell b).bind (·[i]?)).bind λe=>gX agg n e off:=rfl
theorem XZ{agg:Bool}{n off:Nat}{e:List I}:cO agg n h (.ip e off)=gX agg n e off:=rfl
theorem qi{n off:Nat}{e:List I}:gX R n e off=e[off]? :=rfl
theorem jP{n:Nat}{e:List I}(he:e.length=n):gX Q n e 0=j (.agg e):=by subst he;simp[gX]
theorem yU{e el:aU}{id:Option Nat}{i:Nat}{r:List I}(he:e=el)(ae:es[i]? =j r):fg (j e) Z (.bN id el es) (.int q (i:Int))=j (.ip r 0):=by simp[fg,he,ae]
theorem AF{e el:aU}{b O n i:Nat}(he:e=el)(ae:i<n):fg (j e) Z (.br b O n el) (.int q (i:Int))=j (.ptr b (O+i) 0):=by simp[fg,he,ae]
theorem X0{b i O off:Nat}:b9 off (.ptr b i O)=j (.ptr b i (O+off)):=rfl
theorem X1{e:List I}{O off:Nat}:b9 off (.ip e O)=j (.ip e (O+off)):=rfl
theorem X2{b i O:Nat}:Fm (.ptr b i O)=j (.ptr b i O):=rfl
theorem X3{e:List I}{O:Nat}:Fm (.ip e O)=j (.ip e O):=rfl
theorem X4:gY .aC=j 0:=rfl
theorem X5{id:Option Nat}{el:aU}{es:List (List I)}:gY (.bN id el es)=j es.length:=rfl
theorem X6{b O n:Nat}{el:aU}:gY (.br b O n el)=j n:=rfl
theorem X7{s:List UInt8}:gY (.str s)=j s.length:=rfl
theorem X8{s:Bool}{e:aU}:ko s (j e) .aC=Q:=rfl
theorem CW{s:Bool}{e:aU}{id:Option Nat}{es:List (List I)}:ko s (j e) (.bN id e es)=Q:=by simp[ko]
theorem yV{s:Bool}{e:aU}{b O n:Nat}:ko s (j e) (.br b O n e)=Q:=by simp[ko]
theorem In{e:Option aU}{l:List UInt8}:ko Q e (.str l)=Q:=rfl
theorem i7{b:Nat}{es:Option (List (List I))}:(h.set b es).cell b=es:=by simp[ad.set]
theorem dL{b D:Nat}{es:Option (List (List I))}(aa:D≠b):(h.set b es).cell D=h.cell D:=by simp[ad.set,aa]
theorem iF{b:Nat}{es:Option (List (List I))}:(h.set b es).n=h.n:=rfl
theorem AG{b:Nat}{es:Option (List (List I))}:(h.set b es).ids=h.ids:=rfl
theorem AH{b:Nat}{es:Option (List (List I))}:(h.set b es).hw=h.hw:=rfl
theorem fU{es:List (List I)}:(h.push es).cell h.n=j es:=by simp[ad.push]
theorem vN{D:Nat}(aa:D≠h.n):(h.push es).cell D=h.cell D:=by simp[ad.push,aa]
theorem ek{es:List (List I)}:(h.push es).n=h.n+1:=rfl
theorem qj{es:List (List I)}:(h.push es).ids=h.ids:=rfl
theorem X9{es:List (List I)}:(h.push es).hw=h.hw:=rfl
theorem X'{m:Nat}:(h.fresh m).cell=h.cell:=rfl
theorem Ya{m:Nat}:(h.fresh m).n=h.n:=rfl
theorem OX{m:Nat}:(h.fresh m).ids=h.ids+1:=rfl
theorem Fz{m:Nat}:(h.fresh m).hw h.ids=m:=by simp[ad.fresh]
theorem FA{m D:Nat}(aa:D≠h.ids):(h.fresh m).hw D=h.hw D:=by simp[ad.fresh,aa]
theorem Yb{i m:Nat}:(h.grow i m).cell=h.cell:=rfl
theorem Yc{i m:Nat}:(h.grow i m).n=h.n:=rfl
theorem Yd{i m:Nat}:(h.grow i m).ids=h.ids:=rfl
theorem Nm{i m:Nat}:(h.grow i m).hw i=m:=by simp[ad.grow]
theorem Ye{i m D:Nat}(aa:D≠i):(h.grow i m).hw D=h.hw D:=by simp[ad.grow,aa]
def Acc(am h:ad)(e:aU)(v:I)(acc:List (List I)):Prop:=(acc=[]/\v= .aC)\/∃id,acc≠[]/\am.ids<=id/\id<h.ids/\h.hw id=acc.length/\v= .bN (j id) e acc
theorem vO(am h:ad)(e:aU):Acc am h e .aC []:=.inl ⟨rfl,rfl⟩
theorem vP{e:aU}{v:I}(aN:Acc am h e v acc)(g:aK am h){row:List I}(F:row.all I.one=Q)(ai:acc.length<=1000000):∃bg E,e0 R e v (.bN (j h.ids) e [row]) (h.fresh 1)=j (bg,E)/\Acc am E e bg (acc++[row])/\aK am E/\E.cell=h.cell/\E.n=h.n:=by
 have g1:aK am (h.fresh 1):=g.trans (aK.fresh h 1);have n8:∀x,x∈row->x.one=Q:=by simpa using F
 rcases aN with⟨rfl,rfl⟩|⟨id,a0,aP,a2,a3,rfl⟩
 ·refine⟨.bN (j (h.ids+1)) e [row],(h.fresh 1).fresh 1,?_,.inr ⟨h.ids+1,by simp,?_,?_,?_,by simp⟩,g1.trans (aK.fresh _ 1),rfl,rfl⟩
  ·simp only[e0,js,if_true,da,fS,Nat.one_ne_zero,if_false,kW];rw[if_pos ⟨by omega,by omega,by simpa using n8⟩];rfl
  ·have:=g.ids;omega
  ·simp[ad.fresh]
  ·simp[ad.fresh]
 ·have cP:id≠h.ids:=by omega
  refine⟨.bN (j id) e (acc++[row]),(h.fresh 1).grow id (acc.length+1),?_,.inr ⟨id,by simp,aP,?_,?_,rfl⟩,g1.grow aP,rfl,rfl⟩
  ·simp only[e0,js,if_true,da,fS,Nat.one_ne_zero,if_false,kW];rw[if_pos ⟨by omega,by omega,by simpa using n8⟩,FA cP,a3];simp only[true_and,ai,if_true]
  ·simp[ad.grow,ad.fresh];omega
  ·simp[ad.grow]
def s2:I->Bool
 |.bool _|.int _ _|.str _|.fx|.aC|.nu|.fC=>Q
 |_=>R
theorem ang{v:I}(h:s2 v=Q):dP v=j v:=by cases v<;>simp_all [s2,dP]
theorem Yf:∀{l:List I},l.all s2=Q->lP l=j l
 |[],_=>rfl
 |v::l,h=>by simp only[List.all_cons,h8]at h;simp[lP,ang h.1,Yf h.2]
theorem CX:∀{l:List (List I)},(∀r∈l,r.all s2=Q)->ki l=j l
 |[],_=>rfl
 |v::l,h=>by simp only[ki,Yf (h v (uq ..)),CX λr aj=>h r (qk _ aj)]
def e4(e:aU)(es:List (List I)):I:=if es=[]then .aC else .bN Z e es
theorem FB{e:aU}{v:I}(aN:Acc am h e v acc)(bn:∀r∈acc,r.all s2=Q):dP v=j (e4 e acc):=by
 rcases aN with⟨rfl,rfl⟩|⟨id,a0,_,a2,a3,rfl⟩
 ·rfl
 ·simp only[dP,CX bn,g3,e4,if_neg a0]
structure hY(e:aU)(v:I)(rows:List (List I)):Prop where
 len:gY v=j rows.length
 fits:∀s,ko s (j e) v=Q
 bR:∀(q:kf) (i:Nat) row,rows[i]? =j row->fg (j e) Z v (.int q (i:Int))=j (.ip row 0)
theorem rT(id:Option Nat)(e:aU)(rows:List (List I)):hY e (.bN id e rows) rows:=⟨rfl,λs=>CW,λq i row h=>yU rfl h⟩
theorem yW(e:aU):hY e .aC []:=⟨rfl,λs=>rfl,λq i row h=>by simp at h⟩
theorem xm(e:aU)(rows:List (List I)):hY e (e4 e rows) rows:=by
 unfold e4;split
 ·rename_i h;subst h;exact yW e
 ·exact rT _ _ _
theorem Yg{e:aU}{v:I}(aN:Acc am h e v acc):hY e v acc:=by
 rcases aN with⟨rfl,rfl⟩|⟨id,_,_,_,_,rfl⟩
 ·exact yW e
 ·exact rT _ _ _
def FC(w:Bool):I->Option Bool
 |.bool b=>j (if w then b else !b)
 |.bx _=>j R
 |_=>Z
theorem Yh{w:Bool}{bl:List I}:FC w (.bx bl)=j R:=rfl
theorem OY{a:Arg}{w:Bool}:Aw V L a w=FC w (arg V L a):=by unfold Aw FC;cases arg V L a<;>rfl
theorem Yi{b w:Bool}:FC w (.bool b)=j (if w=Q then b else !b):=rfl
theorem Yj{i id:Nat}:mI id (.b1 i::k)=if i=id then j k else mI id k:=rfl
theorem Yk{l:List bj}{id:Nat}:mI id (.bQ l::k)=mI id k:=rfl
theorem Yl{l:List bj}{id:Nat}:mI id (.ff l::k)=mI id k:=rfl
theorem Ym{l:List aH}{id:Nat}:mI id (.ops l::k)=mI id k:=rfl
theorem Yn:iS V h []=j []:=rfl
theorem Yo{D:Nat}{rs:List nC}:iS V h (.v D::rs)=(iS V h rs).map λl=>V.getD D .aD::l:=rfl
theorem Yp{agg:Bool}{n D:Nat}{rs:List nC}:iS V h (.cell agg n D::rs)=(cO agg n h (V.getD D .aD)).bind λv=>(iS V h rs).map λl=>v::l:=rfl
theorem Yq:iY []= .bx []:=rfl
theorem Yr{a:I}:iY [a]=a:=rfl
theorem Ys{a b:I}:iY [a,b]= .bx [a,b]:=rfl
theorem Yt{a b c:I}:iY [a,b,c]= .bx [a,b,c]:=rfl
theorem Yu{a d:I}{l:List I}:(a::l).getD 0 d=a:=rfl
theorem Yv{a d:I}{l:List I}{n:Nat}:(a::l).getD (n+1) d=l.getD n d:=rfl
theorem Yw{d:I}{n:Nat}:([]:List I).getD n d=d:=rfl
theorem Yx{a b:I}{l:List I}:(a::l).set 0 b=b::l:=rfl
theorem Yy{a b:I}{l:List I}{n:Nat}:(a::l).set (n+1) b=a::l.set n b:=rfl
theorem Yz{α:Type}{a:α}{l:List α}:(a::l)[0]? =j a:=rfl
theorem YA{α:Type}{a:α}{l:List α}{n:Nat}:(a::l)[n+1]? =l[n]? :=rfl
theorem YB{α:Type}{n:Nat}:([]:List α)[n]? =Z:=rfl
theorem YC{cs:List I}:(I.agg cs).cells=cs:=rfl
theorem Do{n:Int}:(I.int q n).cells=[.int q n]:=rfl
theorem YD{b:Bool}:(I.bool b).cells=[.bool b]:=rfl
theorem YE{b:List UInt8}:(I.str b).cells=[.str b]:=rfl
theorem YF:I.aC.cells=[.aC]:=rfl
theorem YG:I.fx.cells=[.fx]:=rfl
theorem YH{i:Option Nat}{z:aU}{es:List (List I)}:(I.bN i z es).cells=[.bN i z es]:=rfl
theorem YK{b O n:Nat}{z:aU}:(I.br b O n z).cells=[.br b O n z]:=rfl
theorem YL{b O n:Nat}:(I.ptr b O n).cells=[.ptr b O n]:=rfl
theorem YM{n:Int}:(I.int q n).one=Q:=rfl
theorem YN{b:Bool}:(I.bool b).one=Q:=rfl
theorem YO{b:List UInt8}:(I.str b).one=Q:=rfl
theorem YP:I.aC.one=Q:=rfl
theorem Id:I.fx.one=Q:=rfl
theorem YQ{i:Option Nat}{z:aU}{es:List (List I)}:(I.bN i z es).one=Q:=rfl
theorem YR{b O n:Nat}{z:aU}:(I.br b O n z).one=Q:=rfl
theorem YS{b O n:Nat}:(I.ptr b O n).one=Q:=rfl
theorem YT{t:aU}{v:I}:(I.iface t v).one=Q:=rfl
theorem YU{p:I->Bool}{a:I}{l:List I}:(a::l).all p=(p a&&l.all p):=rfl
theorem NE{p:I->Bool}:([]:List I).all p=Q:=rfl
theorem YV{bl:List I}{i:Nat}:OG (.bx bl) i=bl[i]? :=rfl
theorem YW{pl:List (Nat×Nat)}{cs:List I}:pr pl cs []=j cs:=by cases pl<;>rfl
def OZ(pl:List (Nat×Nat))(cs:List I)(v:I)(r:List (Nat×I)):Option (Nat×Nat)->Option (List I)
 |some (off,size)=>if v.cells.length=size/\off+size<=cs.length/\v.cells.all I.one=Q then pr pl (dO cs off v.cells) r else Z
 |none=>Z
theorem YX{pl:List (Nat×Nat)}{cs:List I}{i:Nat}{v:I}{r:List (Nat×I)}:pr pl cs ((i,v)::r)=OZ pl cs v r pl[i]? :=by
 conv=>lhs;unfold pr
 cases pl[i]? with
 |none=>rfl
 |some q=>rfl
theorem YY{pl:List (Nat×Nat)}{cs:List I}{off size:Nat}{v:I}{r:List (Nat×I)}(F:v.cells.length=size)(J:off+size<=cs.length)(af:v.cells.all I.one=Q):OZ pl cs v r (j (off,size))=pr pl (dO cs off v.cells) r:=by simp[OZ,F,J,af]
def JC(n:Nat)(h:ad)(b i off:Nat)(cs:List I):Option (List (List I))->Option ad
 |some es=>(es[i]?).bind λe=>if cs.all I.one=Q/\cs.length=n/\off+n<=e.length then j (h.set b (j (es.set i (dO e off cs))))else Z
 |none=>Z
def O0(n:Nat)(h:ad)(b i off:Nat)(cs:List I)(es:List (List I)):Option (List I)->Option ad
 |some e=>if cs.all I.one=Q/\cs.length=n/\off+n<=e.length then j (h.set b (j (es.set i (dO e off cs))))else Z
 |none=>Z
theorem YZ{n b i off:Nat}{x:I}:eN n h (.ptr b i off) x=JC n h b i off x.cells (h.cell b):=by simp only[eN];cases h.cell b<;>rfl
theorem Y0{n b i off:Nat}{cs:List I}{es:List (List I)}:JC n h b i off cs (j es)=O0 n h b i off cs es es[i]? :=by simp only[JC];cases es[i]? <;>rfl
theorem Y1{n b i off:Nat}{cs:List I}{es:List (List I)}{e:List I}(F:cs.all I.one=Q)(J:cs.length=n)(af:off+n<=e.length):O0 n h b i off cs es (j e)=j (h.set b (j (es.set i (dO e off cs)))):=by simp[O0,F,J,af]
theorem Y2{n:Nat}{es:List (List I)}:ps n es []=j es:=by cases es<;>rfl
theorem Y3{n:Nat}{es:List (List I)}{i:Nat}{v:I}{r:List (Nat×I)}(F:v.cells.length=n)(J:i<es.length)(af:v.cells.all I.one=Q):ps n es ((i,v)::r)=ps n (es.set i v.cells) r:=by
 conv=>lhs;unfold ps
 simp[F,J,af]
theorem Y4{e cs:List I}(he:e.length=cs.length):dO e 0 cs=cs:=by simp[dO,he]
theorem Y5{e:List I}:dO e 0 []=e:=by simp[dO]
theorem Y6{a c:I}{e cs:List I}:dO (a::e) 0 (c::cs)=c::dO e 0 cs:=by simp[dO]
theorem Y7{a:I}{e cs:List I}{n:Nat}:dO (a::e) (n+1) cs=a::dO e n cs:=by simp[dO,Nat.add_right_comm]
theorem Y8{b:Nat}{x y:Option (List (List I))}:(h.set b x).set b y=h.set b y:=by unfold ad.set;congr 1;funext D;by_cases aa:D=b<;>simp[aa]
theorem q1{x y:List (List I)}:(h.push x).set h.n (j y)=h.push y:=by unfold ad.push ad.set;congr 1;funext D;by_cases aa:D=h.n<;>simp[aa]
theorem Y9:vK V L h []=True:=rfl
theorem Y'{agg:Bool}{n:Nat}{a d:Arg}{r:List vJ}:vK V L h (⟨Z,agg,n,a,d⟩::r)=(cO agg n h (arg V L a)=j (arg V L d)/\vK V L h r):=rfl
theorem Za{agg:Bool}{n:Nat}{g a d:Arg}{w:Bool}{r:List vJ}:vK V L h (⟨j (g,w),agg,n,a,d⟩::r)=((match FC w (arg V L g)with|some Q=>cO agg n h (arg V L a)=j (arg V L d)|_=>True)/\vK V L h r):=by simp only[vK,CP,OY]<;>rfl
theorem Zb{b:Bool}:m2 Q h (.inl (.bool b),h)=j (.inl (.bool b),h):=e8 (aK.refl h) rfl
theorem Zc{n:Int}:m2 Q h (.inl (.int q n),h)=j (.inl (.int q n),h):=e8 (aK.refl h) rfl
theorem Zd{n:List UInt8}:m2 Q h (.inl (.str n),h)=j (.inl (.str n),h):=e8 (aK.refl h) rfl
theorem gD{n:Int}(F: -9223372036854775808<=n)(J:n<=9223372036854775807):hq o n=n:=by rw[IntKind.wrap_i64];omega
theorem vQ{a b:List (List I)}:((h.push a).push b).cell (h.n+1)=j b:=by simp[ad.push]
theorem AI{a b:List (List I)}:((h.push a).push b).cell h.n=j a:=by simp[ad.push]
theorem Ze{a x y:List (List I)}:((h.push a).push x).set (h.n+1) (j y)=(h.push a).push y:=q1 (h:=h.push a)
theorem AJ{a b c:List (List I)}:(((h.push a).push b).push c).cell (h.n+1+1)=j c:=by simp[ad.push]
theorem AK{a b c:List (List I)}:(((h.push a).push b).push c).cell (h.n+1)=j b:=by simp[ad.push]
theorem xn{a b c:List (List I)}:(((h.push a).push b).push c).cell h.n=j a:=by simp[ad.push,show ¬h.n=h.n+1+1 by omega]
theorem Zf{a b x y:List (List I)}:(((h.push a).push b).push x).set (h.n+1+1) (j y)=((h.push a).push b).push y:=q1 (h:=(h.push a).push b)
theorem eG{D:Nat}(aa:D<h.n):(h.push es).cell D=h.cell D:=vN (by omega)
theorem dd{b c1:List bj}(ag:b=c1):bu C aI (.ff b::k) V L h=bu C aI (.bQ c1::.ff b::k) (cz aI V) L h:=by subst ag;exact anf
theorem Zg{agg:Bool}{n b:Nat}{t:aU}:cO agg n h (.cF t b)=((h.cell b).bind (·[0]?)).bind λe=>gX agg n e 0:=rfl
theorem Zh{t:aU}{b:Nat}:b9 0 (.cF t b)=j (.cF t b):=rfl
theorem Zi{t:aU}{b:Nat}:b9 1 (.cF t b)=j (.ptr b 0 1):=rfl
theorem Zj{t:aU}{b:Nat}:b9 2 (.cF t b)=j (.ptr b 0 2):=rfl
theorem Zk{t:aU}{b:Nat}:b9 3 (.cF t b)=j (.ptr b 0 3):=rfl
theorem Zl{t:aU}{b:Nat}:Fm (.cF t b)=j (.cF t b):=rfl
theorem Zm{n b:Nat}{t:aU}{x:I}:eN n h (.cF t b) x=JC n h b 0 0 x.cells (h.cell b):=by simp only[eN];cases h.cell b<;>rfl
theorem Zn{t:aU}{b:Nat}:(I.cF t b).cells=[.cF t b]:=rfl
theorem Zo{t:aU}{b:Nat}:(I.cF t b).one=Q:=rfl
theorem Zp{a b:Int}:yq R (.int q a) (.int q b)=j (.int q (if b<a then b else a)):=rfl
theorem Zq{a b:Int}:yq Q (.int q a) (.int q b)=j (.int q (if b>a then b else a)):=rfl
theorem Zr{a b:Int}:dC fq .rem (.int q a) (.int q b)=if b=0 then Z else j (.int q (a.tmod b)):=by simp[dC,oN]
theorem Zs{b i O:Nat}:dC .ptr .eql (.ptr b i O) .fx=j (.bool R):=by simp[dC,nT]
theorem Zt{t:aU}{b:Nat}:dC .ptr .eql (.cF t b) .fx=j (.bool R):=by simp[dC,nT]
theorem Zu:dC .ptr .eql .fx .fx=j (.bool Q):=by simp[dC,nT]
theorem Zv{b i O:Nat}:dC .ptr .neq (.ptr b i O) .fx=j (.bool Q):=by simp[dC,nT]
theorem Zw{t:aU}{b:Nat}:dC .ptr .neq (.cF t b) .fx=j (.bool Q):=by simp[dC,nT]
theorem Zx:dC .ptr .neq .fx .fx=j (.bool R):=by simp[dC,nT]
theorem Zy{t:aU}{v:I}{aV:Option (List kh)}{kO:Bool}:pD .iface aV kO .neq (.iface t v) .fC=j (.bool Q):=by simp[pD,dC,nT]
theorem act{aV:Option (List kh)}:pD .iface aV Q .neq .fC .fC=j (.bool R):=by simp[pD,OE]
theorem Zz{t:aU}{v:I}{aV:Option (List kh)}{kO:Bool}:pD .iface aV kO .eql (.iface t v) .fC=j (.bool R):=by simp[pD,dC,nT]
theorem ZA{aV:Option (List kh)}:pD .iface aV Q .eql .fC .fC=j (.bool Q):=by simp[pD,OE]
theorem ap:(type_of% @dw.{0})/\(type_of% @ey.{0})/\(type_of% @kq.{0})/\(type_of% @j6.{0})/\(type_of% @gP.{0,0})/\(type_of% @kK.{0,0})/\(type_of% @da.{0,0})/\(type_of% @g3.{0,0})/\(type_of% @Option.bind_none.{0,0})/\(type_of% @Option.map_none.{0,0})/\(type_of% @if_true.{1})/\(type_of% @if_false.{1})/\(type_of% @decide_true)/\(type_of% @decide_false)/\(type_of% @nx)/\(type_of% @Bool.true_eq_false)/\(type_of% @Bool.not_true)/\(type_of% @Bool.not_false)/\(type_of% @s3)/\(type_of% @Bool.true_and)/\(type_of% @Bool.and_false)/\(type_of% @Bool.false_and)/\(type_of% @Bool.or_true)/\(type_of% @Bool.true_or)/\(type_of% @Bool.or_false)/\(type_of% @Bool.false_or)/\(type_of% @true_and)/\(type_of% @and_true)/\(type_of% @false_and)/\(type_of% @and_false)/\(type_of% @List.take_zero.{0})/\(type_of% @rU.{0})/\(type_of% @List.drop_zero.{0})/\(type_of% @vR.{0})/\(type_of% @List.take_nil.{0})/\(type_of% @List.drop_nil.{0})/\(type_of% @List.set_cons_zero.{0})/\(type_of% @List.set_cons_succ.{0})/\(type_of% @gH)/\(type_of% @Nat.lt_add_one)/\(type_of% @bS)/\(type_of% @rV)/\(type_of% @WE)/\(type_of% @WG)/\(type_of% @OS)/\(type_of% @WH)/\(type_of% @OT)/\(type_of% @OU)/\(type_of% @WI)/\(type_of% @WJ)/\(type_of% @WK)/\(type_of% @OV)/\(type_of% @WN)/\(type_of% @WO)/\(type_of% @yS)/\(type_of% @WM)/\(type_of% @WQ)/\(type_of% @WR)/\(type_of% @WS)/\(type_of% @WT)/\(type_of% @WU)/\(type_of% @WV)/\(type_of% @WW)/\(type_of% @WX)/\(type_of% @WY)/\(type_of% @WZ)/\(type_of% @W0)/\(type_of% @W1)/\(type_of% @W2)/\(type_of% @W3)/\(type_of% @W4)/\(type_of% @W5)/\(type_of% @W6)/\(type_of% @W7)/\(type_of% @W8)/\(type_of% @W9)/\(type_of% @Xa)/\(type_of% @W')/\(type_of% @Xb)/\(type_of% @Xc)/\(type_of% @Xd)/\(type_of% @Xe)/\(type_of% @Xj)/\(type_of% @Xk)/\(type_of% @Xl)/\(type_of% @Xm)/\(type_of% @Xn)/\(type_of% @Xo)/\(type_of% @Xp)/\(type_of% @Xq)/\(type_of% @Xr)/\(type_of% @Xs)/\(type_of% @AE)/\(type_of% @yT)/\(type_of% @Xt)/\(type_of% @Xu)/\(type_of% @Xv)/\(type_of% @Xw)/\(type_of% @Xx)/\(type_of% @Xy)/\(type_of% @Xz)/\(type_of% @XA)/\(type_of% @XB)/\(type_of% @OY)/\(type_of% @Yi)/\(type_of% @Yh)/\(type_of% @Yj)/\(type_of% @Yk)/\(type_of% @Yl)/\(type_of% @Ym)/\(type_of% @Yn)/\(type_of% @Yo)/\(type_of% @Yp)/\(type_of% @Yr)/\(type_of% @Ys)/\(type_of% @Yt)/\(type_of% @Yq)/\(type_of% @yt)/\(type_of% @zY)/\(type_of% @XC)/\(type_of% @XD)/\(type_of% @XE)/\(type_of% @XF)/\(type_of% @XG)/\(type_of% @XH)/\(type_of% @XI)/\(type_of% @XJ)/\(type_of% @XK)/\(type_of% @XL)/\(type_of% @XM)/\(type_of% @XN)/\(type_of% @XO)/\(type_of% @XP)/\(type_of% @XQ)/\(type_of% @XR)/\(type_of% @XS)/\(type_of% @XT)/\(type_of% @XU)/\(type_of% @XV)/\(type_of% @XW)/\(type_of% @XX)/\(type_of% @XY)/\(type_of% @gm)/\(type_of% @XZ)/\(type_of% @qi)/\(type_of% @X0)/\(type_of% @X1)/\(type_of% @X2)/\(type_of% @X3)/\(type_of% @X4)/\(type_of% @X5)/\(type_of% @X6)/\(type_of% @X7)/\(type_of% @X8)/\(type_of% @CW)/\(type_of% @yV)/\(type_of% @In)/\(type_of% @i7)/\(type_of% @iF)/\(type_of% @AG)/\(type_of% @AH)/\(type_of% @fU)/\(type_of% @ek)/\(type_of% @qj)/\(type_of% @X9)/\(type_of% @X')/\(type_of% @Ya)/\(type_of% @OX)/\(type_of% @Fz)/\(type_of% @Yb)/\(type_of% @Yc)/\(type_of% @Yd)/\(type_of% @Nm)/\(type_of% @Yu)/\(type_of% @Yv)/\(type_of% @Yx)/\(type_of% @Yy)/\(type_of% @Yw)/\(type_of% @Yz)/\(type_of% @YA)/\(type_of% @YB)/\(type_of% @JB)/\(type_of% @WL)/\(type_of% @YZ)/\(type_of% @Y0)/\(type_of% @Y1)/\(type_of% @YC)/\(type_of% @Do)/\(type_of% @YD)/\(type_of% @YE)/\(type_of% @YF)/\(type_of% @YG)/\(type_of% @YH)/\(type_of% @YK)/\(type_of% @YL)/\(type_of% @YM)/\(type_of% @YN)/\(type_of% @YO)/\(type_of% @YP)/\(type_of% @Id)/\(type_of% @YQ)/\(type_of% @YR)/\(type_of% @YS)/\(type_of% @YT)/\(type_of% @YU)/\(type_of% @NE)/\(type_of% @YV)/\(type_of% @YW)/\(type_of% @YX)/\(type_of% @YY)/\(type_of% @Y2)/\(type_of% @Y3)/\(type_of% @Y4)/\(type_of% @Y5)/\(type_of% @Y6)/\(type_of% @Y7)/\(type_of% @Y8)/\(type_of% @q1)/\(type_of% @Xf)/\(type_of% @Xg)/\(type_of% @Xh)/\(type_of% @Xi)/\(type_of% @Zg)/\(type_of% @Zh)/\(type_of% @Zi)/\(type_of% @Zj)/\(type_of% @Zk)/\(type_of% @Zl)/\(type_of% @Zm)/\(type_of% @Zn)/\(type_of% @Zo)/\(type_of% @Zp)/\(type_of% @Zq)/\(type_of% @Zr)/\(type_of% @Zs)/\(type_of% @Zt)/\(type_of% @Zu)/\(type_of% @Zv)/\(type_of% @Zw)/\(type_of% @Zx)/\(type_of% @Zy)/\(type_of% @act)/\(type_of% @Zz)/\(type_of% @ZA)/\(type_of% @Y9)/\(type_of% @Y')/\(type_of% @Za)/\(type_of% @Zb)/\(type_of% @Zc)/\(type_of% @Zd)/\(type_of% @jP)/\(type_of% @vQ)/\(type_of% @AI)/\(type_of% @Ze)/\(type_of% @AJ)/\(type_of% @AK)/\(type_of% @xn)/\(type_of% @Zf):=⟨@dw.{0},@ey.{0},@kq.{0},@j6.{0},@gP.{0,0},@kK.{0,0},@da.{0,0},@g3.{0,0},@Option.bind_none.{0,0},@Option.map_none.{0,0},@if_true.{1},@if_false.{1},@decide_true,@decide_false,@nx,@Bool.true_eq_false,@Bool.not_true,@Bool.not_false,@s3,@Bool.true_and,@Bool.and_false,@Bool.false_and,@Bool.or_true,@Bool.true_or,@Bool.or_false,@Bool.false_or,@true_and,@and_true,@false_and,@and_false,@List.take_zero.{0},@rU.{0},@List.drop_zero.{0},@vR.{0},@List.take_nil.{0},@List.drop_nil.{0},@List.set_cons_zero.{0},@List.set_cons_succ.{0},@gH,@Nat.lt_add_one,@bS,@rV,@WE,@WG,@OS,@WH,@OT,@OU,@WI,@WJ,@WK,@OV,@WN,@WO,@yS,@WM,@WQ,@WR,@WS,@WT,@WU,@WV,@WW,@WX,@WY,@WZ,@W0,@W1,@W2,@W3,@W4,@W5,@W6,@W7,@W8,@W9,@Xa,@W',@Xb,@Xc,@Xd,@Xe,@Xj,@Xk,@Xl,@Xm,@Xn,@Xo,@Xp,@Xq,@Xr,@Xs,@AE,@yT,@Xt,@Xu,@Xv,@Xw,@Xx,@Xy,@Xz,@XA,@XB,@OY,@Yi,@Yh,@Yj,@Yk,@Yl,@Ym,@Yn,@Yo,@Yp,@Yr,@Ys,@Yt,@Yq,@yt,@zY,@XC,@XD,@XE,@XF,@XG,@XH,@XI,@XJ,@XK,@XL,@XM,@XN,@XO,@XP,@XQ,@XR,@XS,@XT,@XU,@XV,@XW,@XX,@XY,@gm,@XZ,@qi,@X0,@X1,@X2,@X3,@X4,@X5,@X6,@X7,@X8,@CW,@yV,@In,@i7,@iF,@AG,@AH,@fU,@ek,@qj,@X9,@X',@Ya,@OX,@Fz,@Yb,@Yc,@Yd,@Nm,@Yu,@Yv,@Yx,@Yy,@Yw,@Yz,@YA,@YB,@JB,@WL,@YZ,@Y0,@Y1,@YC,@Do,@YD,@YE,@YF,@YG,@YH,@YK,@YL,@YM,@YN,@YO,@YP,@Id,@YQ,@YR,@YS,@YT,@YU,@NE,@YV,@YW,@YX,@YY,@Y2,@Y3,@Y4,@Y5,@Y6,@Y7,@Y8,@q1,@Xf,@Xg,@Xh,@Xi,@Zg,@Zh,@Zi,@Zj,@Zk,@Zl,@Zm,@Zn,@Zo,@Zp,@Zq,@Zr,@Zs,@Zt,@Zu,@Zv,@Zw,@Zx,@Zy,@act,@Zz,@ZA,@Y9,@Y',@Za,@Zb,@Zc,@Zd,@jP,@vQ,@AI,@Ze,@AJ,@AK,@xn,@Zf⟩
end
def fH(e:aU)(v:I)(es:List (List I)):Prop:=(es=[]/\v= .aC)\/∃id,v= .bN id e es
abbrev gn(l:List Int):List (List I):=l.map λx=>[.int o x]
abbrev fh:aU:=153
mutual
def j9:bk->List I->Prop
 |.mk op k n l,r=>∃v es,r=[.int o op,.int o k,.int o n,v]/\fH fh v es/\hy l es
def hy:List bk->List (List I)->Prop
 |[],es=>es=[]
 |x::l,es=>∃r rs,es=r::rs/\j9 x r/\hy l rs
end
mutual
def AL:bk->List I
 |.mk op k n l=>[.int o op,.int o k,.int o n,e4 fh (jQ l)]
def jQ:List bk->List (List I)
 |[]=>[]
 |x::l=>AL x::jQ l
end
open Go Go.Lib
def mj(c:UInt8):Bool:=97<=c&&c<=122
def jR(c:UInt8):Bool:=48<=c&&c<=57
open Go Go.Lib
def O1:List (List UInt8):=[[],[110,105,108],[110,117,109],[97,114,103],[118,97,114],[108,101,116],[98,105,110],[105,102],[112,97,105,114],[102,115,116],[115,110,100],[115,101,97,108],[111,112,101,110],[114,101,97,100],[119,114,105,116,101],[110,97,114,114,111,119],[119,114,97,112],[99,117,116],[99,97,108,108],[97,115,107],[107,101,101,112],[107,101,112,116]]
def O2:List (List UInt8):=[[],[97,100,100],[115,117,98],[109,117,108],[108,101,115,115],[101,113]]
def AM(op:Int):List UInt8:=if op<1\/21<op then[]else O1.getD op.toNat []
def AN(k:Int):List UInt8:=if k<1\/5<k then[]else O2.getD k.toNat []
theorem anh(op:Int):fX op<=3:=by
 unfold fX
 repeat' split
 all_goals omega
open Go Go.Lib
structure ce where
 at':Nat
 text:List UInt8
 num:Bool
 n:Int
 deriving Inhabited,DecidableEq
def mJ(c:UInt8):Bool:=c==32||(c==9||(c==10||c==13))
def s4(t:List UInt8):Option Int:=match parseIntB 64 t with
 |.ok n=>if itoa n=t then j n else Z
 |_=>Z
def kQ(at':Nat):List UInt8->Option ce
 |[]=>Z
 |c::r=>
   if c=40\/c=41 then j ⟨at',[c],R,0⟩
   else if mj c then j ⟨at',c::r.takeWhile mj,R,0⟩
   else if jR c\/c=45 then(s4 (c::r.takeWhile jR)).map λn=>⟨at',c::r.takeWhile jR,Q,n⟩
   else Z
def hz:Nat->Nat->List UInt8->List ce⊕Nat
 |_,_,[]=>.inl []
 |0,a,c::r=>if mJ c then hz 0 (a+1) r else match kQ a (c::r)with
   |none=>.inr a
   |some t=>match hz (t.text.length - 1) (a+1) r with
     |.inl l=>.inl (t::l)
     |.inr e=>.inr e
 |k+1,a,_::r=>hz k (a+1) r
def ib(s:List UInt8):List ce×(Int×Int):=if 6000<s.length then([],(3,6000))else match hz 0 0 s with
 |.inl l=>(l,(0,0))
 |.inr e=>([],(7,(e:Int)))
theorem ZB:∀(k a:Nat) (l:List UInt8),hz k a l=hz 0 (a+k) (l.drop k)
 |0,a,l=>by simp
 |k+1,a,[]=>by simp[hz]
 |k+1,a,c::r=>by rw[hz,ZB k (a+1) r,vR,show a+1+k=a+(k+1) by omega]
theorem ZC(a:Nat):hz 0 a []= .inl []:=by simp[hz]
theorem ZD{c:UInt8}(h:mJ c=Q)(a:Nat)(r:List UInt8):hz 0 a (c::r)=hz 0 (a+1) r:=by rw[hz,if_pos h]
theorem FD{a:Nat}{l:List UInt8}{t:ce}(h:kQ a l=j t):t.at'=a/\0<t.text.length/\t.text=l.take t.text.length:=by
 have key:∀(f:UInt8->Bool) (r:List UInt8),r.takeWhile f=r.take (r.takeWhile f).length:=λf r=>by
  induction r with
  |nil=>rfl
  |cons c r aW=>
    rw[List.takeWhile_cons];split
    ·rw[dw,rU,<-aW]
    ·rfl
 unfold kQ at h;split at h
 ·cases h
 ·rename_i c r;split at h
  ·injection h with h;subst h;exact⟨rfl,by simp,by simp⟩
  ·split at h
   ·injection h with h;subst h;exact⟨rfl,by simp,by simp only[dw,rU];rw[<-key]⟩
   ·split at h
    ·obtain⟨n,_,rfl⟩:=dl.1 h;exact⟨rfl,by simp,by simp only[dw,rU];rw[<-key]⟩
    ·cases h
theorem ZE{a:Nat}{c:UInt8}{r:List UInt8}{t:ce}(ag:mJ c=R)(h:kQ a (c::r)=j t):hz 0 a (c::r)=match hz 0 (a+t.text.length) ((c::r).drop t.text.length)with
   |.inl l=>.inl (t::l)
   |.inr e=>.inr e:=by
 have F:=(FD h).2.1;rw[hz,ag,if_neg (by simp),h];simp only;rw[ZB,show a+1+(t.text.length - 1)=a+t.text.length by omega];obtain⟨k,ab⟩:∃k,t.text.length=k+1:=⟨t.text.length - 1,by omega⟩;rw[ab,vR,Nat.add_sub_cancel]
theorem ZF{a:Nat}{c:UInt8}{r:List UInt8}(ag:mJ c=R)(h:kQ a (c::r)=Z):hz 0 a (c::r)= .inr a:=by rw[hz,ag,if_neg (by simp),h]
def m'(l:List UInt8):Nat:=(l.takeWhile mJ).length
theorem ZG{c:UInt8}(h:mJ c=Q)(r:List UInt8):m' (c::r)=m' r+1:=by simp[m',h]
theorem ZH{c:UInt8}(h:mJ c=R)(r:List UInt8):m' (c::r)=0:=by simp[m',h]
theorem ZI(l:List UInt8):m' l<=l.length:=(List.takeWhile_sublist _).length_le
theorem ZJ:∀(l:List UInt8) (a:Nat),hz 0 a l=hz 0 (a+m' l) (l.drop (m' l))
 |[],a=>by simp[m',hz]
 |c::r,a=>by
   cases h:mJ c with
   |true=>rw[ZG h,vR,ZD h,ZJ r (a+1),show a+1+m' r=a+(m' r+1) by omega]
   |false=>rw[ZH h];simp
theorem O3:∀(l:List UInt8) {c:UInt8} {r:List UInt8},l.drop (m' l)=c::r->mJ c=R
 |[],c,r,h=>by simp[m']at h
 |d::l,c,r,h=>by
   cases a1:mJ d with
   |true=>rw[ZG a1,vR]at h;exact O3 l h
   |false=>rw[ZH a1,List.drop_zero]at h;injection h with F J;rw[<-F];exact a1
def ce.ok(t:ce):Prop:=(t.text=[40]\/t.text=[41])/\t.num=R/\t.n=0\/(∃c r,t.text=c::r/\mj c=Q/\∀x∈r,mj x=Q)/\t.num=R/\t.n=0\/(∃c r,t.text=c::r/\(jR c=Q\/c=45)/\∀x∈r,jR x=Q)/\t.num=Q/\s4 t.text=j t.n
theorem O4{f:UInt8->Bool}:∀{l:List UInt8} {x:UInt8},x∈l.takeWhile f->f x=Q
 |[],x,h=>by simp at h
 |c::l,x,h=>by
   rw[List.takeWhile_cons]at h;split at h
   ·rename_i al;rcases gW.1 h with rfl|h
    ·exact al
    ·exact O4 h
   ·simp at h
theorem ani{a:Nat}{l:List UInt8}{t:ce}(h:kQ a l=j t):t.ok:=by
 unfold kQ at h;split at h
 ·cases h
 ·rename_i c r;split at h
  ·rename_i al;injection h with h;subst h;exact .inl ⟨by rcases al with rfl|rfl<;>simp,rfl,rfl⟩
  ·split at h
   ·rename_i al;injection h with h;subst h;exact .inr (.inl ⟨⟨c,_,rfl,al,λx an=>O4 an⟩,rfl,rfl⟩)
   ·split at h
    ·rename_i al;obtain⟨n,aq,rfl⟩:=dl.1 h;exact .inr (.inr ⟨⟨c,_,rfl,al,λx an=>O4 an⟩,rfl,aq⟩)
    ·cases h
def anj(r:List UInt8):Prop:=∀c t,r=c::t->mj c=R/\jR c=R
theorem O5{f:UInt8->Bool}:∀{l r:List UInt8},(∀x∈l,f x=Q)->(∀c t,r=c::t->f c=R)->(l++r).takeWhile f=l
 |[],[],_,_=>rfl
 |[],c::r,_,h=>by simp[h c r rfl]
 |c::l,r,F,J=>by rw[kq,List.takeWhile_cons,F c (by simp),if_pos rfl,O5 (λx an=>F x (by simp[an])) J]
theorem ank{c:UInt8}(h:mj c=Q):c≠40/\c≠41/\c≠45/\jR c=R/\mJ c=R:=by
 simp only[mj,h8,decide_eq_true_eq,UInt8.le_iff_toNat_le]at h;have e:c=q2 c.toNat:=by simp
 have O6:(97:UInt8).toNat=97:=rfl;have O7:(122:UInt8).toNat=122:=rfl;rw[O6,O7]at h;have key:∀k:Fin 256,97<=k.val/\k.val<=122->q2 k.val≠40/\q2 k.val≠41/\q2 k.val≠45/\jR (q2 k.val)=R/\mJ (q2 k.val)=R:=by decide
 have:=key ⟨c.toNat,c.toNat_lt⟩ h;simpa using this
theorem anl{c:UInt8}(h:jR c=Q\/c=45):c≠40/\c≠41/\mj c=R/\mJ c=R:=by
 rcases h with h|rfl
 ·simp only[jR,h8,decide_eq_true_eq,UInt8.le_iff_toNat_le]at h;have O6:(48:UInt8).toNat=48:=rfl;have O7:(57:UInt8).toNat=57:=rfl;rw[O6,O7]at h;have key:∀k:Fin 256,48<=k.val/\k.val<=57->q2 k.val≠40/\q2 k.val≠41/\mj (q2 k.val)=R/\mJ (q2 k.val)=R:=by decide
  have:=key ⟨c.toNat,c.toNat_lt⟩ h;simpa using this
 ·decide
theorem anm{t:ce}(h:t.ok)(a:Nat){r:List UInt8}(aj:anj r):kQ a (t.text++r)=j {t with at':=a}/\∃c s,t.text=c::s/\mJ c=R:=by
 obtain⟨p,x,m,n⟩:=t;rcases h with⟨F,J,af⟩|⟨⟨c,s,F,aB,bw⟩,J,af⟩|⟨⟨c,s,F,aB,bw⟩,J,af⟩
 ·simp only at F J af;subst J af;rcases F with rfl|rfl
  ·exact⟨by simp[kQ],40,[],rfl,by decide⟩
  ·exact⟨by simp[kQ],41,[],rfl,by decide⟩
 ·simp only at F J af;subst F J af;obtain⟨ep,gC,_,_,vS⟩:=ank aB;refine⟨?_,c,s,rfl,vS⟩;simp only[kq,kQ];rw[if_neg (by simp[ep,gC]),if_pos aB,O5 bw (λc t e=>(aj c t e).1)]
 ·simp only at F J af;subst F J;obtain⟨ep,gC,jS,pG⟩:=anl aB;refine⟨?_,c,s,rfl,pG⟩;simp only[kq,kQ];rw[if_neg (by simp[ep,gC]),jS,if_neg (by simp),if_pos aB,O5 bw (λc t e=>(aj c t e).2),af];rfl
theorem O8:∀(N a:Nat) (l:List UInt8),l.length<=N->∀bX,hz 0 a l= .inl bX->(∀t∈bX,t.ok)/\(bX.map λt=>t.text.length).sum<=l.length
 |_,a,[],_,bX,h=>by rw[ZC]at h;injection h with h;subst h;simp
 |0,a,c::r,eV,bX,h=>by simp at eV
 |N+1,a,c::r,eV,bX,h=>by
   cases ag:mJ c with
   |true=>rw[ZD ag]at h;obtain⟨eW,i2⟩:=O8 N (a+1) r (by simp at eV;omega) bX h;exact⟨eW,by simp;omega⟩
   |false=>
     cases au:kQ a (c::r)with
     |none=>rw[ZF ag au]at h;cases h
     |some t=>
       rw[ZE ag au]at h;obtain⟨bO,bC,dj⟩:=FD au;have hlen:t.text.length<=(c::r).length:=by rw[dj,List.length_take];omega
       have a1:((c::r).drop t.text.length).length=(c::r).length - t.text.length:=sK;cases az:hz 0 (a+t.text.length) ((c::r).drop t.text.length)with
       |inr e=>rw[az]at h;cases h
       |inl l=>
         rw[az]at h;injection h with h;subst h;obtain⟨eW,i2⟩:=O8 N _ _ (by rw[a1];simp at eV ⊢;omega) l az;refine⟨λx an=>?_,?_⟩
         ·rcases gW.1 an with rfl|an
          ·exact ani au
          ·exact eW x an
         ·simp only[gP,List.sum_cons];omega
open Go Go.Lib
def lx(e:Int)(l:List ce)(code:Int):Int×Int:=match l with
 |t::_=>(code,(t.at':Int))
 |[]=>(if code=5 then 6 else code,e)
def o5(s:List UInt8):List ce->Option (List ce)
 |[]=>Z
 |t::r=>if t.num=R/\t.text=s then j r else Z
def na(e:Int)(s:List UInt8)(l:List ce):Except (Int×Int) (List ce):=match o5 s l with
 |some r=>.ok r
 |none=>.error (lx e l 5)
def nD(e:Int)(l:List ce):Except (Int×Int) (Int×List ce):=match l with
 |[]=>.error (lx e [] 5)
 |t::r=>if t.num=Q then .ok (t.n,r)else .error (lx e (t::r) 5)
def q3(e:Int)(l:List ce):Except (Int×Int) (Int×List ce):=match l with
 |[]=>.error (lx e [] 5)
 |t::r=>if t.num=Q/\(t.n<0\/999<t.n)then .error (lx e (t::r) 1)else nD e (t::r)
def ql(e:Int)(of:Int->List UInt8)(l:List ce):Nat->Nat->Except (Int×Int) (Int×List ce)
 |0,_=>.error (lx e l 5)
 |c+1,k=>match o5 (of k) l with
   |some r=>.ok ((k:Int),r)
   |none=>ql e of l c (k+1)
def vT(e:Int)(ly:Nat)(of:Int->List UInt8)(l:List ce):Except (Int×Int) (Int×List ce):=ql e of l ly 1
def mK(e op:Int)(l:List ce):Except (Int×Int) (Int×Int×List ce):=
 if op=2 then(match nD e l with
  |.ok (n,r)=>.ok (0,n,r)
  |.error f=>.error f)
 else if op=4\/op=18\/op=15 then(match q3 e l with
  |.ok (k,r)=>.ok (k,0,r)
  |.error f=>.error f)
 else if op=6 then(match vT e 5 AN l with
  |.ok (k,r)=>.ok (k,0,r)
  |.error f=>.error f)
 else .ok (0,0,l)
def lz(f:List ce->Except (Int×Int) (bk×List ce)):Nat->List ce->Except (Int×Int) (List bk×List ce)
 |0,l=>.ok ([],l)
 |n+1,l=>match f l with
   |.error g=>.error g
   |.ok (x,r)=>match lz f n r with
     |.error g=>.error g
     |.ok (xs,q)=>.ok (x::xs,q)
def iT(e:Int):Nat->List ce->Except (Int×Int) (bk×List ce)
 |0,l=>.error (lx e l 4)
 |cn+1,l=>match na e [40] l with
   |.error f=>.error f
   |.ok b5=>match vT e 21 AM b5 with
     |.error f=>.error f
     |.ok (op,ca)=>match mK e op ca with
       |.error f=>.error f
       |.ok (k,n,dK)=>match lz (iT e cn) (fX op).toNat dK with
         |.error f=>.error f
         |.ok (xs,kM)=>match na e [41] kM with
           |.error f=>.error f
           |.ok jN=>.ok (.mk op k n xs,jN)
abbrev O9:List UInt8:=[102,117,110]
def kR(e:Int):Nat->List ce->Except (Int×Int) (List bk)
 |_,[]=>.ok []
 |0,_=>.ok []
 |N+1,t::l=>match na e O9 (t::l)with
   |.error f=>.error f
   |.ok b5=>match iT e 31 b5 with
     |.error f=>.error f
     |.ok (x,r)=>match kR e N r with
       |.error f=>.error f
       |.ok xs=>.ok (x::xs)
def hA(s:List UInt8):List bk×(Int×Int):=if(ib s).2.1≠0 then([],(ib s).2)else match kR s.length (ib s).1.length (ib s).1 with
 |.error f=>([],f)
 |.ok L=>if(fw L).1≠0 then([],fw L)else(L,(0,0))
theorem ZK{s:List UInt8}{l r:List ce}(h:o5 s l=j r):∃t,l=t::r/\t.num=R/\t.text=s:=by
 cases l with
 |nil=>cases h
 |cons t l=>
   simp only[o5]at h;split at h
   ·rename_i bz;injection h with h;subst h;exact⟨t,rfl,bz.1,bz.2⟩
   ·cases h
theorem vU{e:Int}{s:List UInt8}{l r:List ce}(h:na e s l= .ok r):o5 s l=j r:=by
 unfold na at h;split at h
 ·rename_i q aE;injection h with h;subst h;exact aE
 ·cases h
theorem O'{e:Int}{l r:List ce}{n:Int}(h:nD e l= .ok (n,r)):∃t,l=t::r/\t.num=Q/\t.n=n:=by
 cases l with
 |nil=>cases h
 |cons t l=>
   simp only[nD]at h;split at h
   ·rename_i bz;injection h with h;injection h with F J;subst J;exact⟨t,rfl,bz,F⟩
   ·cases h
theorem ZL{e:Int}{l r:List ce}{n:Int}(h:q3 e l= .ok (n,r)):∃t,l=t::r/\t.num=Q/\t.n=n/\0<=n/\n<=999:=by
 cases l with
 |nil=>cases h
 |cons t l=>
   simp only[q3]at h;split at h
   ·cases h
   ·rename_i bz;obtain⟨cM,av,ax,bs⟩:=O' h;injection av with av cq;subst av;subst cq;refine⟨t,rfl,ax,bs,?_,?_⟩
    ·rcases Int.lt_or_le n 0 with aq|aq
     ·exact absurd ⟨ax,.inl (by rw[bs];exact aq)⟩ bz
     ·exact aq
    ·rcases Int.lt_or_le 999 n with aq|aq
     ·exact absurd ⟨ax,.inr (by rw[bs];exact aq)⟩ bz
     ·exact aq
theorem ZM{e:Int}{of:Int->List UInt8}{l r:List ce}:∀{c k:Nat} {D:Int},ql e of l c k= .ok (D,r)->∃i:Nat,D=(i:Int)/\k<=i/\i<k+c/\o5 (of i) l=j r
 |0,k,D,h=>by cases h
 |c+1,k,D,h=>by
   simp only[ql]at h;split at h
   ·rename_i q aE;injection h with h;injection h with F J;subst J;exact⟨k,F.symm,bS _,by omega,aE⟩
   ·obtain⟨i,F,J,af,aB⟩:=ZM h;exact⟨i,F,by omega,by omega,aB⟩
theorem JD{e:Int}{ly:Nat}{of:Int->List UInt8}{l r:List ce}{D:Int}(h:vT e ly of l= .ok (D,r)):1<=D/\D<=ly/\o5 (of D) l=j r:=by obtain⟨i,rfl,J,af,aB⟩:=ZM h;exact⟨by omega,by omega,aB⟩
theorem vV{s:List UInt8}{l r:List ce}(h:o5 s l=j r):l.length=r.length+1:=by obtain⟨t,rfl,_⟩:=ZK h;rfl
theorem ZN{e op k n:Int}{l r:List ce}(h:mK e op l= .ok (k,n,r)):r.length<=l.length:=by
 unfold mK at h;split at h
 ·split at h
  ·rename_i b4 bZ aq;obtain⟨t,rfl,_⟩:=O' aq;injection h with h;injection h with _ h;injection h with _ h;subst h;simp
  ·cases h
 ·split at h
  ·split at h
   ·rename_i b4 bZ aq;obtain⟨t,rfl,_⟩:=ZL aq;injection h with h;injection h with _ h;injection h with _ h;subst h;simp
   ·cases h
  ·split at h
   ·split at h
    ·rename_i b4 bZ aq;have:=vV (JD aq).2.2;injection h with h;injection h with _ h;injection h with _ h;subst h;omega
    ·cases h
   ·injection h with h;injection h with _ h;injection h with _ h;subst h;exact bS _
theorem ZO{f:List ce->Except (Int×Int) (bk×List ce)}(bn:∀l x r,f l= .ok (x,r)->r.length<l.length):∀{n:Nat} {l r:List ce} {xs:List bk},lz f n l= .ok (xs,r)->r.length<=l.length
 |0,l,r,xs,h=>by injection h with h;injection h with _ h;subst h;exact bS _
 |n+1,l,r,xs,h=>by
   simp only[lz]at h;split at h
   ·cases h
   ·rename_i x q an;have F:=bn _ _ _ an;split at h
    ·cases h
    ·rename_i dR z bq;have J:=ZO bn bq;injection h with h;injection h with _ h;subst h;omega
theorem ZP{e:Int}{cn:Nat}{l r:List ce}{x:bk}(h:iT e (cn+1) l= .ok (x,r)):∃op k n xs b5 ca dK kM,x= .mk op k n xs/\na e [40] l= .ok b5/\vT e 21 AM b5= .ok (op,ca)/\mK e op ca= .ok (k,n,dK)/\lz (iT e cn) (fX op).toNat dK= .ok (xs,kM)/\na e [41] kM= .ok r:=by
 simp only[iT]at h;split at h
 ·cases h
 ·rename_i b5 F;split at h
  ·cases h
  ·rename_i op ca J;split at h
   ·cases h
   ·rename_i k n dK af;split at h
    ·cases h
    ·rename_i xs kM aB;split at h
     ·cases h
     ·rename_i jN bw;injection h with h;injection h with av ax;subst av;subst ax;exact⟨op,k,n,xs,b5,ca,dK,kM,rfl,F,J,af,aB,bw⟩
theorem Pa(e:Int):∀(cn:Nat) (l:List ce) (x:bk) (r:List ce),iT e cn l= .ok (x,r)->r.length<l.length
 |0,l,x,r,h=>by cases h
 |cn+1,l,x,r,h=>by obtain⟨op,k,n,xs,b5,ca,dK,kM,_,F,J,af,aB,bw⟩:=ZP h;have aP:=vV (vU F);have a2:=vV (JD J).2.2;have a3:=ZN af;have a4:=ZO (Pa e cn) aB;have a5:=vV (vU bw);omega
abbrev cD:aU:=90
mutual
def ck:ay->List I->Prop
 |.mk kind n l,r=>∃v es,r=[.int o kind,.int o n,v]/\fH cD v es/\fb l es
def fb:List ay->List (List I)->Prop
 |[],es=>es=[]
 |x::l,es=>∃r rs,es=r::rs/\ck x r/\fb l rs
end
def bi(n:gr):List I:=[.int o n.parent,.int o n.gate,.int o n.fm,.int o n.cell,.int o n.bD,.int o n.func]
abbrev mL:aU:=213
abbrev pH:aU:=4
def xo(h:ad)(ao:Nat->Prop)(e:aU)(v:I)(rows:List (List I)):Prop:=(rows=[]/\v= .aC)\/∃id,ao id/\rows≠[]/\id<h.ids/\h.hw id=rows.length/\v= .bN (j id) e rows
def xp(h:ad)(ah:Nat->Prop)(b:Nat)(e:aU)(v:I)(rows:List (List I)):Prop:=(rows=[]/\v= .aC)\/∃q,ah q/\q≠b/\q<h.n/\h.cell q=j rows/\v= .br q 0 rows.length e
structure gE(h:ad)(ah ao:Nat->Prop)(b:Nat)(G:be):Prop where
 ag:ah b/\b<h.n
 lt:(∀k,ah k->k<h.n)/\∀D,ao D->D<h.ids
 ex:∃aI ea,h.cell b=j [[aI,ea]]/\xo h ao mL aI (G.nodes.map bi)/\xp h ah b pH ea (G.shut.map λx=>[.bool x])
structure lA(ah ao:Nat->Prop)(h E:ad):Prop where
 n:h.n<=E.n
 ids:h.ids<=E.ids
 cell:∀k,k<h.n->¬ah k->E.cell k=h.cell k
 hw:∀D,D<h.ids->¬ao D->E.hw D=h.hw D
def ic(h:ad)(ah ao:Nat->Prop)(b:Nat)(E:ad)(ei:be):Prop:=∃k4 k5,gE E k4 k5 b ei/\lA ah ao h E/\(∀k,k4 k->ah k\/h.n<=k)/\(∀D,k5 D->ao D\/h.ids<=D)
theorem lA.refl(ah ao:Nat->Prop)(h:ad):lA ah ao h h:=⟨bS _,bS _,λ_ _ _=>rfl,λ_ _ _=>rfl⟩
theorem aK.vW{h E:ad}(g:aK h E)(ah ao:Nat->Prop):lA ah ao h E:=⟨g.n,g.ids,λk ab _=>g.cell k ab,λD aa _=>g.hw D aa⟩
theorem lA.trans{ah ao:Nat->Prop}{a b c:ad}(x:lA ah ao a b)(y:lA ah ao b c):lA ah ao a c:=⟨ee x.n y.n,ee x.ids y.ids,λk ab cW=>(y.cell k (eF ab x.n) cW).trans (x.cell k ab cW),λD aa fZ=>(y.hw D (eF aa x.ids) fZ).trans (x.hw D aa fZ)⟩
theorem lA.then{ah ao k4 k5:Nat->Prop}{a b c:ad}(x:lA ah ao a b)(y:lA k4 k5 b c)(cW:∀k,k4 k->ah k\/a.n<=k)(fZ:∀D,k5 D->ao D\/a.ids<=D):lA ah ao a c:=⟨ee x.n y.n,ee x.ids y.ids,
  λk ab F=>(y.cell k (eF ab x.n) λJ=>by rcases cW k J with h|h;exact F h;omega).trans (x.cell k ab F),
  λD aa F=>(y.hw D (eF aa x.ids) λJ=>by rcases fZ D J with h|h;exact F h;omega).trans (x.hw D aa F)⟩
theorem gE.fs{h E:ad}{ah ao dX eb:Nat->Prop}{b:Nat}{G:be}(g:gE h ah ao b G)(c:lA dX eb h E)(cW:∀k,ah k->¬dX k)(fZ:∀D,ao D->¬eb D):gE E ah ao b G:=by
 obtain⟨aI,ea,F,J,af⟩:=g.ex;refine⟨⟨g.ag.1,eF g.ag.2 c.n⟩,⟨λk ab=>eF (g.lt.1 k ab) c.n,λD aa=>eF (g.lt.2 D aa) c.ids⟩,aI,ea,(c.cell b g.ag.2 (cW b g.ag.1)).trans F,?_,?_⟩
 ·rcases J with J|⟨id,aP,a0,a2,a3,a4⟩
  ·exact .inl J
  ·exact .inr ⟨id,aP,a0,eF a2 c.ids,(c.hw id a2 (fZ id aP)).trans a3,a4⟩
 ·rcases af with af|⟨q,aP,a2,a3,a4,a5⟩
  ·exact .inl af
  ·exact .inr ⟨q,aP,a2,eF a3 c.n,(c.cell q a3 (cW q aP)).trans a4,a5⟩
structure b2 where
 A:ad->(Nat->Prop)->(Nat->Prop)->Prop
 lt:∀{h:ad} {ah ao:Nat->Prop},A h ah ao->(∀k,ah k->k<h.n)/\∀D,ao D->D<h.ids
 fs:∀{h E:ad} {ah ao X Y:Nat->Prop},A h ah ao->lA X Y h E->(∀k,ah k->¬X k)->(∀D,ao D->¬Y D)->A E ah ao
def xq(p:Prop):b2 where
 A _ ah ao:=p/\(∀k,¬ah k)/\∀D,¬ao D
 lt:=λ⟨_,a,b⟩=>⟨λk ab=>absurd ab (a k),λD aa=>absurd aa (b D)⟩
 fs:=λh _ _ _=>h
def bm(b:Nat)(es:List (List I)):b2 where
 A h ah ao:=(∀k,ah k↔k=b)/\(∀D,¬ao D)/\b<h.n/\h.cell b=j es
 lt:=λ⟨a,b,c,_⟩=>⟨λk ab=>by rw[(a k).1 ab];exact c,λD aa=>absurd aa (b D)⟩
 fs:=λ⟨a,b,c,d⟩ x cW _=>⟨a,b,eF c x.n,(x.cell _ c (cW _ ((a _).2 rfl))).trans d⟩
def FE(id n:Nat):b2 where
 A h ah ao:=(∀k,¬ah k)/\(∀D,ao D↔D=id)/\id<h.ids/\h.hw id=n
 lt:=λ⟨a,b,c,_⟩=>⟨λk ab=>absurd ab (a k),λD aa=>by rw[(b D).1 aa];exact c⟩
 fs:=λ⟨a,b,c,d⟩ x _ fZ=>⟨a,b,eF c x.ids,(x.hw _ c (fZ _ ((b _).2 rfl))).trans d⟩
def hj(X Y:b2):b2 where
 A h ah ao:=∃eH eI dX eb,X.A h eH eI/\Y.A h dX eb/\(∀k,ah k↔eH k\/dX k)/\(∀D,ao D↔eI D\/eb D)/\(∀k,eH k->¬dX k)/\(∀D,eI D->¬eb D)
 lt:=λ⟨eH,eI,dX,eb,x,y,cW,fZ,_,_⟩=>⟨λk ab=>((cW k).1 ab).elim ((X.lt x).1 k) ((Y.lt y).1 k),λD aa=>((fZ D).1 aa).elim ((X.lt x).2 D) ((Y.lt y).2 D)⟩
 fs:=λ⟨eH,eI,dX,eb,x,y,cW,fZ,oh,q4⟩ c ur ut=>
  ⟨eH,eI,dX,eb,X.fs x c (λk ab=>ur k ((cW k).2 (.inl ab))) (λD aa=>ut D ((fZ D).2 (.inl aa))),Y.fs y c (λk ab=>ur k ((cW k).2 (.inr ab))) (λD aa=>ut D ((fZ D).2 (.inr aa))),cW,fZ,oh,q4⟩
def s5{α:Type}(X:α->b2):b2 where
 A h ah ao:=∃a,(X a).A h ah ao
 lt:=λ⟨a,x⟩=>(X a).lt x
 fs:=λ⟨a,x⟩ c ur ut=>⟨a,(X a).fs x c ur ut⟩
def ZQ(X Y:b2):b2 where
 A h ah ao:=X.A h ah ao\/Y.A h ah ao
 lt:=λh=>h.elim X.lt Y.lt
 fs:=λh c ur ut=>h.imp (λx=>X.fs x c ur ut) (λy=>Y.fs y c ur ut)
def AO(p:Prop)(X:b2):b2 where
 A h ah ao:=p/\X.A h ah ao
 lt:=λh=>X.lt h.2
 fs:=λh c ur ut=>⟨h.1,X.fs h.2 c ur ut⟩
def iG(b:Nat)(G:be):b2 where
 A h ah ao:=gE h ah ao b G
 lt:=λg=>g.lt
 fs:=λg c ur ut=>g.fs c ur ut
def cX:List b2->b2
 |[]=>xq True
 |X::L=>hj X (cX L)
def en(h:ad)(ah ao:Nat->Prop)(E:ad)(X:b2):Prop:=∃k4 k5,X.A E k4 k5/\lA ah ao h E/\(∀k,k4 k->ah k\/h.n<=k)/\(∀D,k5 D->ao D\/h.ids<=D)
def lB(L:List bk):I:=.bN Z 222 (L.map λx=>[.bN Z 239 ((cB x 0++[(⟨105,0,0⟩:cY)]).map λi:cY=>[.int o i.op,.int o i.k,.int o i.n])])
abbrev j':aU:=118
abbrev FF:aU:=2
def g'(e:jI):List I:=[.int o e.bD,.int o e.cell,.int o e.right,.int o e.node]
def k6(e:aU)(v:I)(rows:List (List I)):b2:=ZQ (xq (rows=[]/\v= .aC)) (s5 λid:Nat=>AO (rows≠[]/\v= .bN (j id) e rows) (FE id rows.length))
def bv(b:Nat)(cells:List Int)(log:List jI):b2:=s5 λv:I=>hj (bm b [cells.map (.int o)++[v]]) (k6 j' v (log.map g'))
def qm(m:Option (List bk)):I:=match m with
 |some L=>lB L
 |none=>.aC
def nb:dQ->List (List I)->List I
 |m::ms,k::aV=>.bool m.isSome::qm m::k++nb ms aV
 |_,_=>[]
def nc(cl cr:Nat)(ms:dQ)(aV:List (List I)):List I:=.ptr cl 0 0::.ptr cr 0 0::nb ms aV
def ha(b cl cr:Nat)(ms:dQ)(kept:List ay):b2:=s5 λaV:List (List I)=>AO (fb kept aV) (bm b [nc cl cr ms aV])
def Pb(args:List I)(h:ad)(q:(I⊕I)×ad):Prop:=∀(ah ao:Nat->Prop) (aG cl cr:Nat) (ms:dQ) (S:bG) (p f fuel:Int) (v:ay) (r:List I),args=[.ptr aG 0 0,.int o p,.int o f,.agg r,.int o fuel]->ck v r->v.size<=100000->ms.length=4->yn ms->wQ ms->S.Good->S.log.length<=900000->(cX [ha aG cl cr ms S.kept,iG cl S.G,bv cr S.cells S.log]).A h ah ao->∃bZ E,q=(.inl (.bx [.agg bZ,.int o (gQ ms p f v fuel S).2.2.1,.int o (gQ ms p f v fuel S).2.2.2]),E)/\ck (gQ ms p f v fuel S).2.1 bZ/\en h ah ao E (cX [ha aG cl cr ms (gQ ms p f v fuel S).1.kept,iG cl (gQ ms p f v fuel S).1.G,bv cr (gQ ms p f v fuel S).1.cells (gQ ms p f v fuel S).1.log])
def JE:List cH:=[133,177,113,129,112,176,180,127,108,110,172,175,167,179,173,36,126,101,102,103,123,122,132,104,124,105,74,135,139,134,125,140,136,141,53,165,164,174,181,32,166,178,168,157,155,21,143,142,144,150,145,152,151,169,158,159,160,161,162,163,153,147,154,146,138,37,170,171,56,54,80,79,13,51,107,109,111,76,31,33,52,8,114,78,116,115,130,117,131,77,50,26,10,97,100,120,121,92,91,93,70,95,94,72,98,99,96,73,6,19,49,30,29,34,35,17,18,28,20,11,7,4,5,3]
def ann:List cH:=[133,177,129,176,180,175,167,179,173,126,101,103,123,122,132,104,74,140,136,141,53,165,164,174,181,32,166,178,155,143,150,145,152,151,169,56,54,80,79,51,31,33,52,114,78,116,115,130,117,131,97,100,120,121,92,91,93,70,95,49,17,18,28,4,5,3]
def ano:cH->aU->Bool:=λg t=>t==121||t==222||t==229||(t==63&&(g==149||g==138||g==109))||t==36||t==40||(g==48&&t==83)
def ZR(args:List I)(h:ad)(q:(I⊕I)×ad):Prop:=∀(ah ao:Nat->Prop) (b:Nat) (G:be) (x:ay) (r:List I) (cN:I) (aV:List Int),args=[.ptr b 0 0,.agg r,cN]->gE h ah ao b G->G.dE->ck x r->fH 3 cN (gn aV)->aV.length<=1000000->∃bZ E,q=(.inl (.bx [.agg bZ,.int o (hJ aV G x).2.2]),E)/\ck (hJ aV G x).2.1 bZ/\ic h ah ao b E (hJ aV G x).1
open Classical in
noncomputable def FG(args:List I)(h:ad):Option ((I⊕I)×ad):=
 if H:∃q,AC ak 148 args h q/\ZR args h q then j (Classical.choose H)else Z
def Pc(args:List I)(h:ad):Option ad:=match args with
 |[.ptr bp 0 0,.agg r]=>(h.cell bp).bind λes=>match es with
   |[[_,.br bh 0 k _,_]]=>(h.cell bh).bind λrows=>(rows[k - 1]?).bind λrow=>(row[6]?).bind λs=>(e0 Q cD s (.br (h.n+1) 0 1 cD) ((h.push [r]).push [r])).map λq=>q.2.set bh (j (rows.set (k - 1) (row.set 6 q.1)))
   |_=>Z
 |_=>Z
open Classical in
noncomputable def JF(args:List I)(h:ad):Option ((I⊕I)×ad):=match Pc args h with
 |some E=>if AC ak 149 args h (.inl (.bx []),E)then j (.inl (.bx []),E)else Z
 |none=>Z
def AP(L:List bk):I:=.bx [if(fw L).1=0 then lB L else .aC,.agg [.int o (fw L).1,.int o (fw L).2]]
open Classical in
noncomputable def JG(args:List I)(h:ad):Option ((I⊕I)×ad):=
 if H:∃L:List bk,(∃v es,args=[.agg [v]]/\fH fh v es/\hy L es)/\AC ak 125 args h (.inl (AP L),h)then j (.inl (AP (Classical.choose H)),h)else Z
open Classical in
noncomputable def JH(args:List I)(h:ad):Option ((I⊕I)×ad):=
 if H:∃cs:List Int,(∃b bV,args=[.ptr b 0 0]/\h.cell b=j [cs.map (.int o)++[bV]]/\cs.length=12)/\AC ak 56 args h (.inl (.bN Z 2 (cs.map λx=>[.int o x])),h)then j (.inl (.bN Z 2 ((Classical.choose H).map λx=>[.int o x])),h)else Z
open Classical in
noncomputable def FH(args:List I)(h:ad):Option ((I⊕I)×ad):=
 if H:∃q,AC ak 128 args h q/\Pb args h q then j (Classical.choose H)else Z
open Classical in
noncomputable def FI(args:List I)(h:ad):Option ((I⊕I)×ad):=match args with
 |[.str s]=>if AC ak 48 [.str s] h (.inl (.bx [.agg [e4 fh (jQ (hA s).1)],.agg [.int o (hA s).2.1,.int o (hA s).2.2]]),h)then j (.inl (.bx [.agg [e4 fh (jQ (hA s).1)],.agg [.int o (hA s).2.1,.int o (hA s).2.2]]),h)else Z
 |_=>Z
def CY(args:List I)(h:ad):Option ((I⊕I)×ad):=match args with
 |[.int o n,.int o b]=>if b=10/\ -9223372036854775808<=n/\n<=9223372036854775807 then j (.inl (.str (ie n)),h)else Z
 |_=>Z
def AQ:List (List I)->Option (List (List UInt8))
 |[]=>j []
 |[.str s]::r=>(AQ r).map (s::·)
 |_=>Z
noncomputable def CZ(args:List I)(h:ad):Option ((I⊕I)×ad):=match args with
 |[.aC,.str _]=>j (.inl (.str []),h)
 |[.bN _ e rows,.str s]=>if(ak).cellsOf e=1 then(AQ rows).bind λxs=>if xs.length<=1000000/\(jv xs s).length<=1000000000000 then j (.inl (.str (jv xs s)),h)else Z else Z
 |_=>Z
def C0(args:List I)(h:ad):Option ((I⊕I)×ad):=match args with
 |[.int o n]=>if -9223372036854775808<=n/\n<=9223372036854775807 then j (.inl (.str (ie n)),h)else Z
 |_=>Z
def C1:List aU:=[40]
def C2(args:List I)(h:ad):Option ((I⊕I)×ad):=match args with
 |[.cF cb b]=>if C1.contains cb then(match h.cell b with
   |some [.fx::row]=>j (.inl (.bx []),h.set b (j [.cF cb b::row]))
   |some [.cF ZS c1::row]=>if ZS=cb/\c1=b then j (.inl (.bx []),h)else Z
   |_=>Z)else Z
 |_=>Z
def C3:List (List I)->Option (List UInt8)
 |[]=>j []
 |[.int .u8 n]::r=>if 0<=n/\n<256 then(C3 r).map (q2 n.toNat::·)else Z
 |_=>Z
def C4(args:List I)(h:ad):Option ((I⊕I)×ad):=match args with
 |[.cF _ b]=>match h.cell b with
   |some [_::.aC::_]=>j (.inl (.str []),h)
   |some [_::.br c1 0 n e::_]=>if e=5/\n≠0 then(h.cell c1).bind λrs=>if rs.length=n then(C3 rs).map λl=>(.inl (.str l),h.set c1 Z)else Z else Z
   |_=>Z
 |_=>Z
noncomputable def C5(args:List I)(h:ad):Option ((I⊕I)×ad):=match args with
 |[.str s,.int o b,.int o z]=>if b=10/\z=64/\s.length<=1000000000 then j (.inl (match Lib.parseIntB 64 s with
   |.ok n=>.bx [.int o n,.fC]
   |_=>.bx [.aD,.iface 134 .aD]),h)else Z
 |_=>Z
def JI(args:List I)(h:ad):Option ((I⊕I)×ad):=match args with
 |[.int o a]=>j (.inl (.str (uk a)),h)
 |_=>Z
def C6(args:List I)(h:ad):Option ((I⊕I)×ad):=match args with
 |[.str s]=>if s.length<=1000000 then j (.inl (.bx [.int o (m9 s).1,.bool (m9 s).2]),h)else Z
 |_=>Z
def JJ(args:List I)(h:ad):Option ((I⊕I)×ad):=match args with
 |[.str s,.str [c]]=>j (.inl (.bool (decide (0<=Lib.indexByte s c))),h)
 |_=>Z
def s6(s:List UInt8):List (List UInt8):=(Lib.goFieldsP (λr=>r==32) ⟨s.toArray⟩).map λb=>b.data.toList
def C7(args:List I)(h:ad):Option ((I⊕I)×ad):=match args with
 |[.str s,.fn g [] []]=>if g=16/\s.length<=1000000 then j (.inl (.bN Z 9 ((s6 s).map λx=>[.str x])),h)else Z
 |_=>Z
noncomputable def i8:cH->Option (List I->ad->Option ((I⊕I)×ad)):=λg=>if g=148 then j FG else if g=149 then j JF else if g=125 then j JG else if g=56 then j JH else if g=128 then j FH else if g=48 then j FI else if g=25 then j CY else if g=27 then j CZ else if g=75 then j C0 else if g=46 then j C2 else if g=12 then j C4 else if g=24 then j C5 else if g=55 then j JI else if g=23 then j C6 else if g=9 then j JJ else if g=15 then j C7 else Z
noncomputable def T:gZ:=AB ak ano i8 JE ann
theorem anp:T.ext 128=j FH:=by show i8 128=_;unfold i8;rw[if_neg (by decide),if_neg (by decide),if_neg (by decide),if_neg (by decide),if_pos rfl]
theorem anq:T.ext 48=j FI:=by show i8 48=_;unfold i8;rw[if_neg (by decide),if_neg (by decide),if_neg (by decide),if_neg (by decide),if_neg (by decide),if_pos rfl]
theorem anr:T.ext 25=j CY:=by show i8 25=_;unfold i8;rw[if_neg (by decide),if_neg (by decide),if_neg (by decide),if_neg (by decide),if_neg (by decide),if_neg (by decide),if_pos rfl]
theorem ZT:T.ext 27=j CZ:=by show i8 27=_;unfold i8;rw[if_neg (by decide),if_neg (by decide),if_neg (by decide),if_neg (by decide),if_neg (by decide),if_neg (by decide),if_neg (by decide),if_pos rfl]
theorem ans:T.ext 75=j C0:=by show i8 75=_;unfold i8;rw[if_neg (by decide),if_neg (by decide),if_neg (by decide),if_neg (by decide),if_neg (by decide),if_neg (by decide),if_neg (by decide),if_neg (by decide),if_pos rfl]
theorem ant:T.ext 46=j C2:=by show i8 46=_;unfold i8;rw[if_neg (by decide),if_neg (by decide),if_neg (by decide),if_neg (by decide),if_neg (by decide),if_neg (by decide),if_neg (by decide),if_neg (by decide),if_neg (by decide),if_pos rfl]
theorem anu:T.ext 12=j C4:=by show i8 12=_;unfold i8;rw[if_neg (by decide),if_neg (by decide),if_neg (by decide),if_neg (by decide),if_neg (by decide),if_neg (by decide),if_neg (by decide),if_neg (by decide),if_neg (by decide),if_neg (by decide),if_pos rfl]
theorem anv:T.ext 24=j C5:=by show i8 24=_;unfold i8;rw[if_neg (by decide),if_neg (by decide),if_neg (by decide),if_neg (by decide),if_neg (by decide),if_neg (by decide),if_neg (by decide),if_neg (by decide),if_neg (by decide),if_neg (by decide),if_neg (by decide),if_pos rfl]
theorem anw:T.ext 55=j JI:=by show i8 55=_;unfold i8;rw[if_neg (by decide),if_neg (by decide),if_neg (by decide),if_neg (by decide),if_neg (by decide),if_neg (by decide),if_neg (by decide),if_neg (by decide),if_neg (by decide),if_neg (by decide),if_neg (by decide),if_neg (by decide),if_pos rfl]
theorem anx:T.ext 23=j C6:=by show i8 23=_;unfold i8;rw[if_neg (by decide),if_neg (by decide),if_neg (by decide),if_neg (by decide),if_neg (by decide),if_neg (by decide),if_neg (by decide),if_neg (by decide),if_neg (by decide),if_neg (by decide),if_neg (by decide),if_neg (by decide),if_neg (by decide),if_pos rfl]
theorem anz:T.ext 9=j JJ:=by show i8 9=_;unfold i8;rw[if_neg (by decide),if_neg (by decide),if_neg (by decide),if_neg (by decide),if_neg (by decide),if_neg (by decide),if_neg (by decide),if_neg (by decide),if_neg (by decide),if_neg (by decide),if_neg (by decide),if_neg (by decide),if_neg (by decide),if_neg (by decide),if_pos rfl]
theorem anA:T.ext 15=j C7:=by show i8 15=_;unfold i8;rw[if_neg (by decide),if_neg (by decide),if_neg (by decide),if_neg (by decide),if_neg (by decide),if_neg (by decide),if_neg (by decide),if_neg (by decide),if_neg (by decide),if_neg (by decide),if_neg (by decide),if_neg (by decide),if_neg (by decide),if_neg (by decide),if_neg (by decide),if_pos rfl]
open Go Go.Proofs Go.Shelf
def s7:Go.Shelf.Ren:=⟨fun|129=>86|143=>14|144=>9|156=>27|165=>47|166=>26|169=>12|171=>75|174=>24|205=>84|217=>38|219=>22|224=>40|225=>39|229=>15|240=>46|241=>69|243=>106|245=>44|246=>45|247=>43|266=>57|267=>41|276=>68|277=>90|279=>60|280=>61|281=>62|282=>63|283=>64|284=>65|285=>66|286=>67|287=>59|314=>58|316=>83|317=>85|318=>87|319=>88|320=>89|321=>81|322=>82|337=>118|338=>119|n=>n,fun|0=>0|2=>2|3=>3|4=>4|5=>5|9=>9|20=>20|21=>21|31=>22|37=>36|40=>52|46=>25|51=>127|53=>131|70=>35|72=>38|75=>73|76=>77|80=>43|85=>74|127=>60|143=>200|145=>202|146=>128|152=>67|154=>69|164=>142|167=>130|168=>134|171=>137|173=>140|175=>132|210=>164|212=>167|213=>168|232=>218|233=>219|n=>n,fun|1=>0|15=>1|16=>2|17=>3|18=>4|19=>5|n=>n⟩
theorem anB:Go.Proofs.Lays.n166 ak s7:={mixed:=by kernel_rfl,f166:=Tryz.func26.trans (congrArg j (by kernel_rfl)),f240:=Tryz.func46.trans (congrArg j (by kernel_rfl)),f276:=Tryz.func68.trans (congrArg j (by kernel_rfl)),t0:=Tryz.underlying0,a0:=Tryz.isAgg0,z0:=Tryz.sizeOf0,v0:=Tryz.zeroValue0,t3:=Tryz.underlying3,a3:=Tryz.isAgg3,z3:=Tryz.sizeOf3,v3:=Tryz.zeroValue3,t4:=Tryz.underlying4,a4:=Tryz.isAgg4,z4:=Tryz.sizeOf4,v4:=Tryz.zeroValue4,t9:=Tryz.underlying9,a9:=Tryz.isAgg9,z9:=Tryz.sizeOf9,v9:=Tryz.zeroValue9,t20:=Tryz.underlying20,a20:=Tryz.isAgg20,z20:=Tryz.sizeOf20,v20:=Tryz.zeroValue20,t37:=vM,a37:=Tryz.isAgg36,z37:=Tryz.sizeOf36,v37:=Tryz.zeroValue36,t70:=Tryz.underlying35,a70:=Tryz.isAgg35,z70:=Tryz.sizeOf35,v70:=Tryz.zeroValue35,t72:=Tryz.underlying38,a72:=Tryz.isAgg38,z72:=Tryz.sizeOf38,v72:=Tryz.zeroValue38,t75:=Tryz.underlying73,a75:=Tryz.isAgg73,z75:=Tryz.sizeOf73,v75:=Tryz.zeroValue73,t164:=Tryz.underlying142,a164:=Tryz.isAgg142,z164:=Tryz.sizeOf142,v164:=Tryz.zeroValue142}
theorem ZU:Go.Proofs.Lays.n169 ak s7:={mixed:=by kernel_rfl,f169:=Tryz.func12.trans (congrArg j (by kernel_rfl)),t0:=Tryz.underlying0,a0:=Tryz.isAgg0,z0:=Tryz.sizeOf0,v0:=Tryz.zeroValue0,t3:=Tryz.underlying3,a3:=Tryz.isAgg3,z3:=Tryz.sizeOf3,v3:=Tryz.zeroValue3,t9:=Tryz.underlying9,a9:=Tryz.isAgg9,z9:=Tryz.sizeOf9,v9:=Tryz.zeroValue9,t37:=vM,a37:=Tryz.isAgg36,z37:=Tryz.sizeOf36,v37:=Tryz.zeroValue36,t70:=Tryz.underlying35,a70:=Tryz.isAgg35,z70:=Tryz.sizeOf35,v70:=Tryz.zeroValue35,t72:=Tryz.underlying38,a72:=Tryz.isAgg38,z72:=Tryz.sizeOf38,v72:=Tryz.zeroValue38,t127:=Tryz.underlying60,a127:=Tryz.isAgg60,z127:=Tryz.sizeOf60,v127:=Tryz.zeroValue60}
theorem anC:Go.Proofs.LaysM.n246 ak s7:={mixed:=by kernel_rfl,f129:=Tryz.func86.trans (congrArg j (by kernel_rfl)),f246:=Tryz.func45.trans (congrArg j (by kernel_rfl)),f283:=Tryz.func64.trans (congrArg j (by kernel_rfl)),f284:=Tryz.func65.trans (congrArg j (by kernel_rfl)),f285:=Tryz.func66.trans (congrArg j (by kernel_rfl)),f286:=Tryz.func67.trans (congrArg j (by kernel_rfl)),f317:=Tryz.func85.trans (congrArg j (by kernel_rfl)),f318:=Tryz.func87.trans (congrArg j (by kernel_rfl)),f319:=Tryz.func88.trans (congrArg j (by kernel_rfl)),f320:=Tryz.func89.trans (congrArg j (by kernel_rfl)),f337:=Tryz.func118.trans (congrArg j (by kernel_rfl)),f338:=Tryz.func119.trans (congrArg j (by kernel_rfl)),t0:=Tryz.underlying0,a0:=Tryz.isAgg0,z0:=Tryz.sizeOf0,v0:=Tryz.zeroValue0,t2:=Tryz.underlying2,a2:=Tryz.isAgg2,z2:=Tryz.sizeOf2,v2:=Tryz.zeroValue2,t3:=Tryz.underlying3,a3:=Tryz.isAgg3,z3:=Tryz.sizeOf3,v3:=Tryz.zeroValue3,t4:=Tryz.underlying4,a4:=Tryz.isAgg4,z4:=Tryz.sizeOf4,v4:=Tryz.zeroValue4,t5:=Tryz.underlying5,a5:=Tryz.isAgg5,z5:=Tryz.sizeOf5,v5:=Tryz.zeroValue5,t9:=Tryz.underlying9,a9:=Tryz.isAgg9,z9:=Tryz.sizeOf9,v9:=Tryz.zeroValue9,t20:=Tryz.underlying20,a20:=Tryz.isAgg20,z20:=Tryz.sizeOf20,v20:=Tryz.zeroValue20,t37:=vM,a37:=Tryz.isAgg36,z37:=Tryz.sizeOf36,v37:=Tryz.zeroValue36,t46:=Tryz.underlying25,a46:=Tryz.isAgg25,z46:=Tryz.sizeOf25,v46:=Tryz.zeroValue25,t51:=Tryz.underlying127,a51:=Tryz.isAgg127,z51:=Tryz.sizeOf127,v51:=Tryz.zeroValue127,t53:=Tryz.underlying131,a53:=Tryz.isAgg131,z53:=Tryz.sizeOf131,v53:=Tryz.zeroValue131,t171:=Tryz.underlying137,a171:=Tryz.isAgg137,z171:=Tryz.sizeOf137,v171:=Tryz.zeroValue137,t173:=Tryz.underlying140,a173:=Tryz.isAgg140,z173:=Tryz.sizeOf140,v173:=Tryz.zeroValue140,t212:=Tryz.underlying167,a212:=Tryz.isAgg167,z212:=Tryz.sizeOf167,v212:=Tryz.zeroValue167,t213:=Tryz.underlying168,a213:=Tryz.isAgg168,z213:=Tryz.sizeOf168,t232:=Tryz.underlying218,a232:=Tryz.isAgg218,z232:=Tryz.sizeOf218,v232:=Tryz.zeroValue218,t233:=Tryz.underlying219,a233:=Tryz.isAgg219,z233:=Tryz.sizeOf219,v233:=Tryz.zeroValue219,g17:=by kernel_rfl,g18:=by kernel_rfl,g19:=by kernel_rfl,i0:=by kernel_rfl,i2:=by kernel_rfl,i3:=by kernel_rfl,i4:=by kernel_rfl,i5:=by kernel_rfl,i9:=by kernel_rfl,i20:=by kernel_rfl,i37:=by kernel_rfl,i46:=by kernel_rfl,i51:=by kernel_rfl,i53:=by kernel_rfl,i171:=by kernel_rfl,i173:=by kernel_rfl,i212:=by kernel_rfl,i232:=by kernel_rfl,i233:=by kernel_rfl,m17:=by kernel_rfl,m18:=by kernel_rfl,m19:=by kernel_rfl}
theorem anD:Go.Proofs.LaysM.n171 ak s7:={mixed:=by kernel_rfl,f129:=Tryz.func86.trans (congrArg j (by kernel_rfl)),f171:=Tryz.func75.trans (congrArg j (by kernel_rfl)),f243:=Tryz.func106.trans (congrArg j (by kernel_rfl)),f246:=Tryz.func45.trans (congrArg j (by kernel_rfl)),f283:=Tryz.func64.trans (congrArg j (by kernel_rfl)),f284:=Tryz.func65.trans (congrArg j (by kernel_rfl)),f285:=Tryz.func66.trans (congrArg j (by kernel_rfl)),f286:=Tryz.func67.trans (congrArg j (by kernel_rfl)),f317:=Tryz.func85.trans (congrArg j (by kernel_rfl)),f318:=Tryz.func87.trans (congrArg j (by kernel_rfl)),f319:=Tryz.func88.trans (congrArg j (by kernel_rfl)),f320:=Tryz.func89.trans (congrArg j (by kernel_rfl)),f337:=Tryz.func118.trans (congrArg j (by kernel_rfl)),f338:=Tryz.func119.trans (congrArg j (by kernel_rfl)),t0:=Tryz.underlying0,a0:=Tryz.isAgg0,z0:=Tryz.sizeOf0,v0:=Tryz.zeroValue0,t2:=Tryz.underlying2,a2:=Tryz.isAgg2,z2:=Tryz.sizeOf2,v2:=Tryz.zeroValue2,t3:=Tryz.underlying3,a3:=Tryz.isAgg3,z3:=Tryz.sizeOf3,v3:=Tryz.zeroValue3,t4:=Tryz.underlying4,a4:=Tryz.isAgg4,z4:=Tryz.sizeOf4,v4:=Tryz.zeroValue4,t5:=Tryz.underlying5,a5:=Tryz.isAgg5,z5:=Tryz.sizeOf5,v5:=Tryz.zeroValue5,t9:=Tryz.underlying9,a9:=Tryz.isAgg9,z9:=Tryz.sizeOf9,v9:=Tryz.zeroValue9,t20:=Tryz.underlying20,a20:=Tryz.isAgg20,z20:=Tryz.sizeOf20,v20:=Tryz.zeroValue20,t37:=vM,a37:=Tryz.isAgg36,z37:=Tryz.sizeOf36,v37:=Tryz.zeroValue36,t46:=Tryz.underlying25,a46:=Tryz.isAgg25,z46:=Tryz.sizeOf25,v46:=Tryz.zeroValue25,t51:=Tryz.underlying127,a51:=Tryz.isAgg127,z51:=Tryz.sizeOf127,v51:=Tryz.zeroValue127,t53:=Tryz.underlying131,a53:=Tryz.isAgg131,z53:=Tryz.sizeOf131,v53:=Tryz.zeroValue131,t171:=Tryz.underlying137,a171:=Tryz.isAgg137,z171:=Tryz.sizeOf137,v171:=Tryz.zeroValue137,t173:=Tryz.underlying140,a173:=Tryz.isAgg140,z173:=Tryz.sizeOf140,v173:=Tryz.zeroValue140,t212:=Tryz.underlying167,a212:=Tryz.isAgg167,z212:=Tryz.sizeOf167,v212:=Tryz.zeroValue167,t213:=Tryz.underlying168,a213:=Tryz.isAgg168,z213:=Tryz.sizeOf168,t232:=Tryz.underlying218,a232:=Tryz.isAgg218,z232:=Tryz.sizeOf218,v232:=Tryz.zeroValue218,t233:=Tryz.underlying219,a233:=Tryz.isAgg219,z233:=Tryz.sizeOf219,v233:=Tryz.zeroValue219,g17:=by kernel_rfl,g18:=by kernel_rfl,g19:=by kernel_rfl,i0:=by kernel_rfl,i2:=by kernel_rfl,i3:=by kernel_rfl,i4:=by kernel_rfl,i5:=by kernel_rfl,i9:=by kernel_rfl,i20:=by kernel_rfl,i37:=by kernel_rfl,i46:=by kernel_rfl,i51:=by kernel_rfl,i53:=by kernel_rfl,i171:=by kernel_rfl,i173:=by kernel_rfl,i212:=by kernel_rfl,i232:=by kernel_rfl,i233:=by kernel_rfl,m17:=by kernel_rfl,m18:=by kernel_rfl,m19:=by kernel_rfl}
theorem Pd:Go.Proofs.LaysC.n174 ak s7:={mixed:=by kernel_rfl,f129:=Tryz.func86.trans (congrArg j (by kernel_rfl)),f171:=Tryz.func75.trans (congrArg j (by kernel_rfl)),f174:=Tryz.func24.trans (congrArg j (by kernel_rfl)),f205:=Tryz.func84.trans (congrArg j (by kernel_rfl)),f243:=Tryz.func106.trans (congrArg j (by kernel_rfl)),f245:=Tryz.func44.trans (congrArg j (by kernel_rfl)),f246:=Tryz.func45.trans (congrArg j (by kernel_rfl)),f247:=Tryz.func43.trans (congrArg j (by kernel_rfl)),f279:=Tryz.func60.trans (congrArg j (by kernel_rfl)),f280:=Tryz.func61.trans (congrArg j (by kernel_rfl)),f281:=Tryz.func62.trans (congrArg j (by kernel_rfl)),f282:=Tryz.func63.trans (congrArg j (by kernel_rfl)),f283:=Tryz.func64.trans (congrArg j (by kernel_rfl)),f284:=Tryz.func65.trans (congrArg j (by kernel_rfl)),f285:=Tryz.func66.trans (congrArg j (by kernel_rfl)),f286:=Tryz.func67.trans (congrArg j (by kernel_rfl)),f287:=Tryz.func59.trans (congrArg j (by kernel_rfl)),f316:=Tryz.func83.trans (congrArg j (by kernel_rfl)),f317:=Tryz.func85.trans (congrArg j (by kernel_rfl)),f318:=Tryz.func87.trans (congrArg j (by kernel_rfl)),f319:=Tryz.func88.trans (congrArg j (by kernel_rfl)),f320:=Tryz.func89.trans (congrArg j (by kernel_rfl)),f321:=Tryz.func81.trans (congrArg j (by kernel_rfl)),f322:=Tryz.func82.trans (congrArg j (by kernel_rfl)),f337:=Tryz.func118.trans (congrArg j (by kernel_rfl)),f338:=Tryz.func119.trans (congrArg j (by kernel_rfl)),t0:=Tryz.underlying0,a0:=Tryz.isAgg0,z0:=Tryz.sizeOf0,v0:=Tryz.zeroValue0,t2:=Tryz.underlying2,a2:=Tryz.isAgg2,z2:=Tryz.sizeOf2,v2:=Tryz.zeroValue2,t3:=Tryz.underlying3,a3:=Tryz.isAgg3,z3:=Tryz.sizeOf3,v3:=Tryz.zeroValue3,t4:=Tryz.underlying4,a4:=Tryz.isAgg4,z4:=Tryz.sizeOf4,v4:=Tryz.zeroValue4,t5:=Tryz.underlying5,a5:=Tryz.isAgg5,z5:=Tryz.sizeOf5,v5:=Tryz.zeroValue5,t9:=Tryz.underlying9,a9:=Tryz.isAgg9,z9:=Tryz.sizeOf9,v9:=Tryz.zeroValue9,t20:=Tryz.underlying20,a20:=Tryz.isAgg20,z20:=Tryz.sizeOf20,v20:=Tryz.zeroValue20,t21:=Tryz.underlying21,a21:=Tryz.isAgg21,z21:=Tryz.sizeOf21,v21:=Tryz.zeroValue21,t37:=vM,a37:=Tryz.isAgg36,z37:=Tryz.sizeOf36,v37:=Tryz.zeroValue36,t46:=Tryz.underlying25,a46:=Tryz.isAgg25,z46:=Tryz.sizeOf25,v46:=Tryz.zeroValue25,t51:=Tryz.underlying127,a51:=Tryz.isAgg127,z51:=Tryz.sizeOf127,v51:=Tryz.zeroValue127,t53:=Tryz.underlying131,a53:=Tryz.isAgg131,z53:=Tryz.sizeOf131,v53:=Tryz.zeroValue131,t75:=Tryz.underlying73,a75:=Tryz.isAgg73,z75:=Tryz.sizeOf73,v75:=Tryz.zeroValue73,t85:=Tryz.underlying74,a85:=Tryz.isAgg74,z85:=Tryz.sizeOf74,v85:=Tryz.zeroValue74,t127:=Tryz.underlying60,a127:=Tryz.isAgg60,z127:=Tryz.sizeOf60,v127:=Tryz.zeroValue60,t143:=Tryz.underlying200,a143:=Tryz.isAgg200,z143:=Tryz.sizeOf200,v143:=Tryz.zeroValue200,t145:=Tryz.underlying202,a145:=Tryz.isAgg202,z145:=Tryz.sizeOf202,v145:=Tryz.zeroValue202,t167:=Tryz.underlying130,a167:=Tryz.isAgg130,z167:=Tryz.sizeOf130,v167:=Tryz.zeroValue130,t168:=Tryz.underlying134,a168:=Tryz.isAgg134,z168:=Tryz.sizeOf134,v168:=Tryz.zeroValue134,t171:=Tryz.underlying137,a171:=Tryz.isAgg137,z171:=Tryz.sizeOf137,v171:=Tryz.zeroValue137,t173:=Tryz.underlying140,a173:=Tryz.isAgg140,z173:=Tryz.sizeOf140,v173:=Tryz.zeroValue140,t175:=Tryz.underlying132,a175:=Tryz.isAgg132,z175:=Tryz.sizeOf132,v175:=Tryz.zeroValue132,t210:=Tryz.underlying164,a210:=Tryz.isAgg164,z210:=Tryz.sizeOf164,v210:=Tryz.zeroValue164,t212:=Tryz.underlying167,a212:=Tryz.isAgg167,z212:=Tryz.sizeOf167,v212:=Tryz.zeroValue167,t213:=Tryz.underlying168,a213:=Tryz.isAgg168,z213:=Tryz.sizeOf168,t232:=Tryz.underlying218,a232:=Tryz.isAgg218,z232:=Tryz.sizeOf218,v232:=Tryz.zeroValue218,t233:=Tryz.underlying219,a233:=Tryz.isAgg219,z233:=Tryz.sizeOf219,v233:=Tryz.zeroValue219,g15:=by kernel_rfl,g16:=by kernel_rfl,g17:=by kernel_rfl,g18:=by kernel_rfl,g19:=by kernel_rfl,t80:=Tryz.underlying43,a80:=Tryz.isAgg43,z80:=Tryz.sizeOf43,v80:=Tryz.zeroValue43,i0:=by kernel_rfl,i2:=by kernel_rfl,i3:=by kernel_rfl,i4:=by kernel_rfl,i5:=by kernel_rfl,i9:=by kernel_rfl,i20:=by kernel_rfl,i21:=by kernel_rfl,i37:=by kernel_rfl,i46:=by kernel_rfl,i51:=by kernel_rfl,i53:=by kernel_rfl,i75:=by kernel_rfl,i80:=by kernel_rfl,i85:=by kernel_rfl,i127:=by kernel_rfl,i143:=by kernel_rfl,i145:=by kernel_rfl,i167:=by kernel_rfl,i168:=by kernel_rfl,i171:=by kernel_rfl,i173:=by kernel_rfl,i175:=by kernel_rfl,i210:=by kernel_rfl,i212:=by kernel_rfl,i232:=by kernel_rfl,i233:=by kernel_rfl,m15:=by kernel_rfl,m16:=by kernel_rfl,m17:=by kernel_rfl,m18:=by kernel_rfl,m19:=by kernel_rfl,c0:=by kernel_rfl,c2:=by kernel_rfl,c3:=by kernel_rfl,c4:=by kernel_rfl,c5:=by kernel_rfl,c9:=by kernel_rfl,c20:=by kernel_rfl,c21:=by kernel_rfl,c37:=by kernel_rfl,c46:=by kernel_rfl,c51:=by kernel_rfl,c53:=by kernel_rfl,c75:=by kernel_rfl,c80:=by kernel_rfl,c85:=by kernel_rfl,c127:=by kernel_rfl,c143:=by kernel_rfl,c145:=by kernel_rfl,c167:=by kernel_rfl,c168:=by kernel_rfl,c171:=by kernel_rfl,c173:=by kernel_rfl,c175:=by kernel_rfl,c210:=by kernel_rfl,c212:=by kernel_rfl,c213:=by kernel_rfl,c232:=by kernel_rfl,c233:=by kernel_rfl}
theorem JK:Go.Proofs.Lays.n156 ak s7:={mixed:=by kernel_rfl,f156:=Tryz.func27.trans (congrArg j (by kernel_rfl)),f165:=Tryz.func47.trans (congrArg j (by kernel_rfl)),f166:=Tryz.func26.trans (congrArg j (by kernel_rfl)),f169:=Tryz.func12.trans (congrArg j (by kernel_rfl)),f240:=Tryz.func46.trans (congrArg j (by kernel_rfl)),f241:=Tryz.func69.trans (congrArg j (by kernel_rfl)),f276:=Tryz.func68.trans (congrArg j (by kernel_rfl)),f277:=Tryz.func90.trans (congrArg j (by kernel_rfl)),t0:=Tryz.underlying0,a0:=Tryz.isAgg0,z0:=Tryz.sizeOf0,v0:=Tryz.zeroValue0,t3:=Tryz.underlying3,a3:=Tryz.isAgg3,z3:=Tryz.sizeOf3,v3:=Tryz.zeroValue3,t4:=Tryz.underlying4,a4:=Tryz.isAgg4,z4:=Tryz.sizeOf4,v4:=Tryz.zeroValue4,t9:=Tryz.underlying9,a9:=Tryz.isAgg9,z9:=Tryz.sizeOf9,v9:=Tryz.zeroValue9,t20:=Tryz.underlying20,a20:=Tryz.isAgg20,z20:=Tryz.sizeOf20,v20:=Tryz.zeroValue20,t31:=Tryz.underlying22,a31:=Tryz.isAgg22,z31:=Tryz.sizeOf22,v31:=Tryz.zeroValue22,t37:=vM,a37:=Tryz.isAgg36,z37:=Tryz.sizeOf36,v37:=Tryz.zeroValue36,t70:=Tryz.underlying35,a70:=Tryz.isAgg35,z70:=Tryz.sizeOf35,v70:=Tryz.zeroValue35,t72:=Tryz.underlying38,a72:=Tryz.isAgg38,z72:=Tryz.sizeOf38,v72:=Tryz.zeroValue38,t75:=Tryz.underlying73,a75:=Tryz.isAgg73,z75:=Tryz.sizeOf73,v75:=Tryz.zeroValue73,t76:=Tryz.underlying77,a76:=Tryz.isAgg77,z76:=Tryz.sizeOf77,v76:=Tryz.zeroValue77,t127:=Tryz.underlying60,a127:=Tryz.isAgg60,z127:=Tryz.sizeOf60,v127:=Tryz.zeroValue60,t164:=Tryz.underlying142,a164:=Tryz.isAgg142,z164:=Tryz.sizeOf142,v164:=Tryz.zeroValue142}
theorem anE:Go.Proofs.Lays.n144 ak s7:={mixed:=by kernel_rfl,f143:=Tryz.func14.trans (congrArg j (by kernel_rfl)),f144:=Tryz.func9.trans (congrArg j (by kernel_rfl)),f217:=Tryz.func38.trans (congrArg j (by kernel_rfl)),f219:=Tryz.func22.trans (congrArg j (by kernel_rfl)),f224:=Tryz.func40.trans (congrArg j (by kernel_rfl)),f225:=Tryz.func39.trans (congrArg j (by kernel_rfl)),f266:=Tryz.func57.trans (congrArg j (by kernel_rfl)),f267:=Tryz.func41.trans (congrArg j (by kernel_rfl)),f314:=Tryz.func58.trans (congrArg j (by kernel_rfl)),t3:=Tryz.underlying3,a3:=Tryz.isAgg3,z3:=Tryz.sizeOf3,v3:=Tryz.zeroValue3,t4:=Tryz.underlying4,a4:=Tryz.isAgg4,z4:=Tryz.sizeOf4,v4:=Tryz.zeroValue4,t5:=Tryz.underlying5,a5:=Tryz.isAgg5,z5:=Tryz.sizeOf5,v5:=Tryz.zeroValue5,t9:=Tryz.underlying9,a9:=Tryz.isAgg9,z9:=Tryz.sizeOf9,v9:=Tryz.zeroValue9,t46:=Tryz.underlying25,a46:=Tryz.isAgg25,z46:=Tryz.sizeOf25,v46:=Tryz.zeroValue25,t51:=Tryz.underlying127,a51:=Tryz.isAgg127,z51:=Tryz.sizeOf127,v51:=Tryz.zeroValue127,t146:=Tryz.underlying128,a146:=Tryz.isAgg128,z146:=Tryz.sizeOf128,v146:=Tryz.zeroValue128,g1:=by kernel_rfl}
theorem anF:Go.Proofs.Lays.n229 ak s7:={mixed:=by kernel_rfl,f229:=Tryz.func15.trans (congrArg j (by kernel_rfl)),t0:=Tryz.underlying0,a0:=Tryz.isAgg0,z0:=Tryz.sizeOf0,v0:=Tryz.zeroValue0,t3:=Tryz.underlying3,a3:=Tryz.isAgg3,z3:=Tryz.sizeOf3,v3:=Tryz.zeroValue3,t4:=Tryz.underlying4,a4:=Tryz.isAgg4,z4:=Tryz.sizeOf4,v4:=Tryz.zeroValue4,t9:=Tryz.underlying9,a9:=Tryz.isAgg9,z9:=Tryz.sizeOf9,v9:=Tryz.zeroValue9,t21:=Tryz.underlying21,a21:=Tryz.isAgg21,z21:=Tryz.sizeOf21,v21:=Tryz.zeroValue21,t31:=Tryz.underlying22,a31:=Tryz.isAgg22,z31:=Tryz.sizeOf22,v31:=Tryz.zeroValue22,t40:=Tryz.underlying52,a40:=Tryz.isAgg52,z40:=Tryz.sizeOf52,v40:=Tryz.zeroValue52,t152:=Tryz.underlying67,a152:=Tryz.isAgg67,z152:=Tryz.sizeOf67,v152:=Tryz.zeroValue67,t154:=Tryz.underlying69,a154:=Tryz.isAgg69,z154:=Tryz.sizeOf69,v154:=Tryz.zeroValue69}
theorem xr:Builder.Extra ak s7:={sizeBuilder:=by kernel_rfl,liesBuilder:=by kernel_rfl,t5:=Tryz.underlying5,a5:=Tryz.isAgg5,z5:=Tryz.sizeOf5,v5:=Tryz.zeroValue5,infoByte:=by kernel_rfl,cellsByte:=by kernel_rfl,sizeByte:=by kernel_rfl,neB5:=by decide}
open Go Go.Proofs Go.RowKit
theorem ZV(B:Nat)(w:cd)(sF:B<=w.heap.size)(k:Nat)(os:Array Obj):Below B w (Go.Sort.grow (w.drewN k) os):=by refine⟨rfl,rfl,rfl,by simp[Go.Sort.grow,World.drewN],λi ae=>?_⟩;simp only[Go.Sort.grow,World.drewN];rw[Array.getElem?_append_left (by omega)]
theorem anG(n:Int)(am: -9223372036854775808<=n)(F:n<=9223372036854775807)(w:cd)(FJ:Lib.TabIs ak w ("internal"++tS (Char.ofNat 47)++ "strconv.uint64pow10") .u64 Lib.pow10Tab):Calls ak 45 #[.int o n,.int o 10] w λe aJ=>e= .returned (.string ⟨(ie n).toArray⟩)/\hL w aJ:=by have:=Any.internal_strconv_FormatInt_10 anC n am F w FJ;refine this.mono λe aJ ⟨F,k,os,J⟩=>⟨F,?_⟩;subst J;exact hL.zZ (ZV _ _ (bS _) k os)
theorem anH(n:Int)(am: -9223372036854775808<=n)(F:n<=9223372036854775807)(w:cd)(FJ:Lib.TabIs ak w ("internal"++tS (Char.ofNat 47)++ "strconv.uint64pow10") .u64 Lib.pow10Tab):Calls ak 25 #[.int o n,.int o 10] w λe aJ=>e= .returned (.string ⟨(ie n).toArray⟩)/\hL w aJ:=by
 go_enter Tryz.func25,Tryz.ntmps25
 go_wp2_with (go_at_call 45;go_must (refine(anG n am F _ FJ).mono ?_;rintro e aJ ⟨rfl,au⟩))
 go_ret
 exact⟨rfl,au⟩
theorem Pe:IF ak=[("internal"++tS (Char.ofNat 47)++ "strconv.uint64pow10",.u64,Lib.pow10Tab)]:=by unfold IF;rw[if_pos (by kernel_rfl)]
theorem xt{P:cu}{g:cH}{args:List I}{h:ad}{v:I}(k:∀(m:dq) (w:cd) (bl:List bH),bW P m h w->dV P m h args bl->∃u,bF P m h v u/\Calls P g bl.toArray w λe aJ=>e= .returned u/\hL w aJ):AC P g args h (.inl v,h):=by intro m w bl hw U;obtain⟨u,bE,al⟩:=k m w bl hw U;refine al.mono λe aJ ⟨he,au⟩=>⟨m,Ext.refl m h,hw.new au,ci.below au (λ_ h=>h.elim) hw.size,u,he,bE⟩
theorem FK{P:cu}{h:ad}{a b:I}(U:dV P m h [a,b] bl):∃u v,bl=[u,v]/\bF P m h a u/\bF P m h b v:=by
 obtain⟨F,J⟩:=U
 match bl,F with
 |[u,v],_=>exact⟨u,v,rfl,J 0 (by simp) (by simp),J 1 (by simp) (by simp)⟩
theorem anI{args:List I}{h:ad}(aj:CY args h=j r):AC ak 25 args h r:=by
 unfold CY at aj;split at aj
 ·rename_i n b;split at aj
  ·rename_i bz;obtain⟨ag,am,F⟩:=bz;subst ag;injection aj with aj;subst aj;refine xt λm w bl hw U=>?_;obtain⟨u,v,rfl,bE,aR⟩:=FK U;cases bE;cases aR;refine⟨_,.str _,anH n am F w ?_⟩;exact(hw.dg.NC _ (by rw[Pe];exact vp.2 rfl)).1
  ·cases aj
 ·cases aj
open Go Go.Proofs Go.RowKit Go.Shelf
section
variable{P:cu}{kB:Ren}
theorem anJ{e u:aU}{c:Nat}(a1:P.depth≠0)(al:1<=c)(h:rowAt P (sameLayout P P.depth · u) P.depth e 1 0 1=Q):liesAt P P.depth e c 0 u 1=Q:=by
 have key:rowAt P (sameLayout P P.depth · u) P.depth e c 0 1=Q:=by
  revert h;generalize sameLayout P P.depth=f;obtain⟨d,a1⟩:=Nat.exists_eq_succ_of_ne_zero a1;rw[a1];intro h;unfold rowAt at h ⊢;simp only at h ⊢;by_cases az:P.cellsOf e=0
  ·rw[if_pos az]at h;cases h
  ·rw[if_neg az]at h ⊢;simp only[Nat.zero_div,Nat.zero_mod]at h ⊢;have F:decide (0+1<=c)=Q:=decide_eq_true (by omega);have J:decide (0<c)=Q:=decide_eq_true (by omega);have af:decide (0+1<=1)=Q:=by decide
   have aB:decide (0<1)=Q:=by decide
   rw[af,aB]at h;rw[F,J];exact h
 obtain⟨d,a1⟩:=Nat.exists_eq_succ_of_ne_zero a1;rw[a1];unfold liesAt;rw[a1]at key;rw[a1,key];rfl
theorem anK(L:Lays.n240 P kB)(X:Builder.X72 P kB)(cb:aU)(n b:Nat)(w:cd)(am:w.cell? ⟨b,0,Z⟩=j (.pointer Z))(lX:w.shape? b=j (cb,n))(aq:0<n)(Pf:liesAt P P.depth cb (n / P.cellsOf cb) 0 (kB.t 72) 1=Q)(OR:w.frozen? ⟨b,0,Z⟩=R):Calls P (kB.f 240) #[.pointer (j ⟨b,0,Z⟩)] w λe aJ=>e= .returned (.tuple #[])/\aJ=w.setCell ⟨b,0,Z⟩ (.pointer (j ⟨b,0,Z⟩)):=by
 obtain⟨D,aa,tZ⟩:=dl.1 X.sizeBuilder;have mixed:=L.mixed;have t72:=L.t72;have a72:=L.a72;have z72:=L.z72;have v72:=L.v72;have ZW:=fY L.t72;have t70:=L.t70;have a70:=L.a70;have z70:=L.z70;have v70:=L.v70;have ZX:=fY L.t70;have t9:=L.t9;have a9:=L.a9;have z9:=L.z9;have v9:=L.v9;have u9:=fY L.t9;have t4:=L.t4;have a4:=L.a4;have z4:=L.z4;have v4:=L.v4;have u4:=fY L.t4;have t164:=L.t164;have a164:=L.a164;have z164:=L.z164;have v164:=L.v164;have aAB:=fY L.t164
 go_enter L.f240,Body.n240_ntmps kB
 go_wp2
 rw[Lib.run_to_unsafe w ⟨b,0,Z⟩ L.t70 L.t164 aa (by rw[tZ];decide) lX aq];simp only[Result.andThen];rw[Oper.upon_value]
 go_wp2
 rw[run_callFunc_extern L.f276 (by kernel_rfl) (by kernel_rfl) (by kernel_rfl) (e:=Extern.AbiNoEscape.same) (by kernel_rfl)];rw[Lib.run_noEscape];simp only[Result.andThen];rw[Oper.upon_value]
 go_wp2
 rw[Lib.run_from_unsafe w ⟨b,0,Z⟩ L.t164 L.t70 aa lX Pf];simp only[Result.andThen];rw[Oper.upon_value]
 go_wp2
 go_end0
 exact⟨rfl,rfl⟩
theorem anL(w:cd)(g n:Nat):ci (λk=>k=g) w (w.drew.freeze ⟨g,0,Z⟩ n):=by
 unfold World.freeze;split
 ·exact(ci.refl _ w).drew
 ·exact⟨rfl,rfl,rfl,by simp,λk ab aq=>by simp only[Array.getElem?_modify];rw[if_neg (λe=>aq e.symm)];rfl⟩
theorem anM(L:Lays.n169 P kB)(X:Builder.Extra P kB)(b g cap:Nat)(cur:Array bH)(l:List UInt8)(w:cd)(am:l≠[])(al:w.cell? ⟨b,1,Z⟩=j (.slice (j ⟨g,0,Z⟩) l.length cap))(a7:w.heap[g]? =j (.cells cur (kB.t 5) (0,0)))(tQ:l.length<=cap)(w7:cap<=maxLen)(nX:cur.size=cap)(yv:∀(D:Nat) (x:UInt8),l[D]? =j x->cur[D]? =j (Value.int .u8 x.toNat)):Calls P (kB.f 169) #[.pointer (j ⟨b,0,Z⟩)] w λe aJ=>e= .returned (.string ⟨l.toArray⟩)/\ci (λk=>k=g) w aJ:=by
 have qd:l.length≠0:=by simpa using am
 have a6:w.drew.cell? ⟨b,1,Z⟩=j (.slice (j ⟨g,0,Z⟩) l.length cap):=al;have anN:(Builtin.unsafeSliceData_ #[(kB.t 37)] (kB.t 127) #[.slice (j ⟨g,0,Z⟩) l.length cap]).run P w.drew= .ok (.pointer (j ⟨g,0,Z⟩)) w.drew:=Lib.run_unsafeSliceData_row _ _ _ _ _ _ (by omega);have anO:(Builtin.unsafeString_ #[(kB.t 127),(kB.t 3)] (kB.t 9) #[.pointer (j ⟨g,0,Z⟩),.int o l.length]).run P w.drew= .ok (.string ⟨l.toArray⟩) (w.drew.freeze ⟨g,0,Z⟩ l.length):=by refine Lib.run_unsafeString_row w.drew (kB.t 127) (kB.t 3) (kB.t 9) (kB.t 5) L.t127 X.cellsByte g cur.size (by have mD:w.drew.heap[g]? =j (.cells cur (kB.t 5) (0,0)):=a7;simp[World.shape?,mD]) l am (by omega) (by unfold maxLen at w7;omega) ?_;intro D x an;have mD:w.drew.heap[g]? =j (.cells cur (kB.t 5) (0,0)):=a7;rw[nW,gH];exact(cell_of_row w.drew g D cur _ (0,0) mD).trans (yv D x an)
 have au:=anL w g l.length;have mixed:=L.mixed;have t72:=L.t72;have a72:=L.a72;have z72:=L.z72;have v72:=L.v72;have ZW:=fY L.t72;have t70:=L.t70;have a70:=L.a70;have z70:=L.z70;have v70:=L.v70;have ZX:=fY L.t70;have t37:=L.t37;have a37:=L.a37;have z37:=L.z37;have v37:=L.v37;have anP:=fY L.t37;have t127:=L.t127;have a127:=L.a127;have z127:=L.z127;have v127:=L.v127;have anQ:=fY L.t127;have t3:=L.t3;have a3:=L.a3;have z3:=L.z3;have v3:=L.v3;have u3:=fY L.t3;have t9:=L.t9;have a9:=L.a9;have z9:=L.z9;have v9:=L.v9;have u9:=fY L.t9;have t5:=X.t5;have a5:=X.a5;have z5:=X.z5;have v5:=X.v5;have u5:=fY X.t5
 go_enter L.f169,Body.n169_ntmps kB
 go_wp2
 go_region_o
 all_goals (go_wp2;go_ret;exact⟨rfl,au⟩)
theorem anR(L:Lays.n169 P kB)(X:Builder.Extra P kB)(b:Nat)(w:cd)(al:w.cell? ⟨b,1,Z⟩=j (.slice Z 0 0)):Calls P (kB.f 169) #[.pointer (j ⟨b,0,Z⟩)] w λe aJ=>e= .returned (.string ⟨#[]⟩)/\hL w aJ:=by
 have anO:=Any.unsafeString_none L X;have a6:w.drew.cell? ⟨b,1,Z⟩=j (.slice Z 0 0):=al;have anN:(Builtin.unsafeSliceData_ #[(kB.t 37)] (kB.t 127) #[.slice Z 0 0]).run P w.drew= .ok (.pointer Z) w.drew:=rfl;have au:hL w w.drew:=(ci.refl _ w).drew;have mixed:=L.mixed;have t72:=L.t72;have a72:=L.a72;have z72:=L.z72;have v72:=L.v72;have ZW:=fY L.t72;have t70:=L.t70;have a70:=L.a70;have z70:=L.z70;have v70:=L.v70;have ZX:=fY L.t70;have t37:=L.t37;have a37:=L.a37;have z37:=L.z37;have v37:=L.v37;have anP:=fY L.t37;have t127:=L.t127;have a127:=L.a127;have z127:=L.z127;have v127:=L.v127;have anQ:=fY L.t127;have t3:=L.t3;have a3:=L.a3;have z3:=L.z3;have v3:=L.v3;have u3:=fY L.t3;have t9:=L.t9;have a9:=L.a9;have z9:=L.z9;have v9:=L.v9;have u9:=fY L.t9;have t5:=X.t5;have a5:=X.a5;have z5:=X.z5;have v5:=X.v5;have u5:=fY X.t5
 go_enter L.f169,Body.n169_ntmps kB
 go_wp2
 go_region_o
 all_goals (go_wp2;go_ret;exact⟨rfl,au⟩)
end
open Go Go.Proofs Go.RowKit
theorem AR{P:cu}{h:ad}{a:I}(U:dV P m h [a] bl):∃u,bl=[u]/\bF P m h a u:=by
 obtain⟨F,J⟩:=U
 match bl,F with
 |[u],_=>exact⟨u,rfl,J 0 (by simp) (by simp)⟩
theorem anS(n:Int)(am: -9223372036854775808<=n)(F:n<=9223372036854775807)(w:cd)(FJ:Lib.TabIs ak w ("internal"++tS (Char.ofNat 47)++ "strconv.uint64pow10") .u64 Lib.pow10Tab):Calls ak 75 #[.int o n] w λe aJ=>e= .returned (.string ⟨(ie n).toArray⟩)/\hL w aJ:=by have:=Any.strconv_Itoa anD n am F w FJ;refine this.mono λe aJ ⟨F,k,os,J⟩=>⟨F,?_⟩;subst J;exact hL.zZ (ZV _ _ (bS _) k os)
theorem anT{args:List I}{h:ad}(aj:C0 args h=j r):AC ak 75 args h r:=by
 unfold C0 at aj;split at aj
 ·rename_i n;split at aj
  ·rename_i bz;obtain⟨am,F⟩:=bz;injection aj with aj;subst aj;refine xt λm w bl hw U=>?_;obtain⟨u,rfl,bE⟩:=AR U;cases bE;refine⟨_,.str _,anS n am F w ?_⟩;exact(hw.dg.NC _ (by rw[Pe];exact vp.2 rfl)).1
  ·cases aj
 ·cases aj
section
variable{P:cu}{m:dq}{h:ad}{w aJ:cd}
theorem bW.first(hw:bW P m h w){b:Nat}{a dZ:I}{row:List I}(ag:h.cell b=j [a::row]){v:bH}(U:bF P m h dZ v)(F:v.oneCell'=Q):Ext m h m (h.set b (j [dZ::row]))/\bW P m (h.set b (j [dZ::row])) (w.setCell ⟨m.b1 b,0,Z⟩ v):=by
 obtain⟨cs,a6,c2,c3,c4,c5⟩:=hw.live b _ ag;have ai:(a::row).length=P.cellsOf (m.fI b):=c3 _ (by simp);have cG:0<cs.size:=by simp only[dw,ey]at c4 ai;omega
 refine hw.ET ag (aJ:=w.setCell ⟨m.b1 b,0,Z⟩ v) ((ci.refl (λk=>k=m.b1 b) w).setCell (p:=⟨m.b1 b,0,Z⟩) (.inl rfl) v) (cs.setIfInBounds 0 v) (a6.akI 0 v) (by simp[c2]) (by simpa using ai) (by simpa using c4) (λi ae D aa=>?_);have gw:i=0:=by simpa using ae
 subst gw;cases D with
 |zero=>exact⟨v,by simp[cG],U⟩
 |succ D=>obtain⟨u,u1,u2⟩:=c5 0 (by simp) (D+1) (by simpa using aa);refine⟨u,?_,u2⟩;rw[Array.getElem?_setIfInBounds_ne (by omega)];exact u1
theorem bW.drop(hw:bW P m h w){b:Nat}(ag:h.cell b=j es)(au:ci (λk=>k=m.b1 b) w aJ):Ext m h m (h.set b Z)/\bW P m (h.set b Z) aJ:=by
 have an:Ext m h m (h.set b Z):=⟨rfl,bS _,bS _,λ_ _=>⟨rfl,rfl,rfl⟩,λ_ _ _ h=>h,λ_ _=>⟨rfl,bS _,λ_=>⟨rfl,rfl⟩⟩,λ_ _ h=>h⟩;refine⟨an,?_⟩;have up:∀q x,(h.set b Z).cell q=j x->q≠b/\h.cell q=j x:=by
  intro q x aE;by_cases e:q=b
  ·subst e;simp[ad.set]at aE
  ·exact⟨e,by simpa[ad.set,e]using aE⟩
 have anU:bW P m (h.set b Z) w:=by
  refine⟨hw.size,λq x aE=>hw.lt q x (up q x aE).2,λq x aE=>?_,λq hi x hV aE sO=>hw.inj q hi x hV (up q x aE).2 (up hi hV sO).2,hw.dI,λq x aE=>hw.sep q x (up q x aE).2,hw.oP,hw.nw,λk ab q x aE=>hw.l9 k ab q x (up q x aE).2,hw.nY,hw.dg,λg x aa=>?_⟩
  case refine_2=>
   obtain⟨aP,a2,a3,a4⟩:=hw.fo g x aa;exact⟨aP,a2,λq y aE=>a3 q y (up q y aE).2,a4⟩
  obtain⟨cs,a6,c2,c3,c4,c5⟩:=hw.live q x (up q x aE).2;refine⟨cs,a6,c2,c3,c4,λi ae D aa=>?_⟩;obtain⟨v,v1,v2⟩:=c5 i ae D aa;exact⟨v,v1,v2.ext an⟩
 refine anU.only au (λq x aE e=>(up q x aE).1 (hw.inj _ _ _ _ (up q x aE).2 ag e)) (λg O v ae e=>?_) (λk ab e=>hw.l9 k ab b es ag e.symm) (λg a7 e=>?_) (λg x aa e=>(hw.fo g x aa).2.2.1 b es ag e.symm)
 ·subst e;rw[hw.sep b es ag O]at ae;cases ae
 ·have:=(hw.lt b es ag).2;omega
end
theorem anV:C1.all (λcb=>rowAt ak (sameLayout ak (ak).depth · (s7.t 72)) (ak).depth cb 1 0 1)=Q:=by kernel_rfl
theorem anW:(ak).depth≠0:=by
 intro e;have:((ak).depth==0)=R:=by kernel_rfl
 rw[e]at this;cases this
theorem ZY:Go.Proofs.Lays.n240 ak s7:={anB with}
theorem anX{args:List I}{h:ad}(aj:C2 args h=j r):AC ak 46 args h r:=by
 unfold C2 at aj;split at aj
 ·rename_i cb b;split at aj
  ·rename_i gf;split at aj
   ·rename_i row al;injection aj with aj;subst aj;intro m w bl hw U;obtain⟨u,rfl,bE⟩:=AR U;cases bE with
    |cF _ _ ag JL=>
      subst JL;obtain⟨cs,a6,c2,c3,c4,c5⟩:=hw.live b _ al;have ai:=c3 (.fx::row) (by simp);obtain⟨v,v1,v2⟩:=c5 0 (by simp) 0 (by simp);simp only[Nat.zero_mul,gH]at v1;simp only[List.getElem_cons_zero]at v2;cases v2;simp only[dw,ey,gH,Nat.one_mul]at c4 ai;have mC:0<(ak).cellsOf (m.fI b):=by omega
      have am:w.cell? ⟨m.b1 b,0,Z⟩=j (.pointer Z):=by rw[a6.cell];exact v1
      have lX:w.shape? (m.b1 b)=j (m.fI b,cs.size):=by have sV:w.heap[m.b1 b]? =j (.cells cs (m.fI b) (0,0)):=a6;simp[World.shape?,sV]
      have Pf:liesAt ak (ak).depth (m.fI b) (cs.size / (ak).cellsOf (m.fI b)) 0 (s7.t 72) 1=Q:=by refine anJ anW ((Nat.le_div_iff_mul_le mC).2 (by omega)) ?_;exact iC.1 anV (m.fI b) (List.contains_iff_mem.1 gf)
      refine(anK ZY xr.toX72 (m.fI b) cs.size (m.b1 b) w am lX (by omega) Pf (a6.frozen 0)).mono λe aJ ⟨he,kn⟩=>?_;subst kn;obtain⟨bY,db⟩:=hw.first al (bF.cF (m.fI b) b ag rfl) rfl;have n3:m.base<=m.b1 b:=(hw.lt b _ al).2;exact⟨m,bY,db,(kZ _ w).setCell (p:=⟨m.b1 b,0,Z⟩) n3 _,_,he,.bx [] [] rfl (λD aa=>by simp at aa)⟩
   ·rename_i ZS c1 row al;split at aj
    ·rename_i bz;obtain⟨rfl,rfl⟩:=bz;injection aj with aj;subst aj;refine xt λm w bl hw U=>?_;obtain⟨u,rfl,bE⟩:=AR U;cases bE with
     |cF _ _ ag JL=>
       obtain⟨cs,a6,c2,c3,c4,c5⟩:=hw.live c1 _ al;obtain⟨v,v1,v2⟩:=c5 0 (by simp) 0 (by simp);simp only[Nat.zero_mul,gH]at v1;simp only[List.getElem_cons_zero]at v2;cases v2;have am:w.cell? ⟨m.b1 c1,0,Z⟩=j (.pointer (j ⟨m.b1 c1,0,Z⟩)):=by rw[a6.cell];exact v1
       exact⟨_,.bx [] [] rfl (λD aa=>by simp at aa),(Any.Builder_copyCheck_used ZY xr.toX72 (m.b1 c1) w am).mono λe aJ ⟨he,kn⟩=>⟨he,by rw[kn];exact ci.refl _ _⟩⟩
    ·cases aj
   ·cases aj
  ·cases aj
 ·cases aj
theorem ZZ:∀{rs:List (List I)} {l:List UInt8},C3 rs=j l->rs=jL l
 |[],l,h=>by injection h with h;rw[<-h];rfl
 |[.int .u8 n]::r,l,h=>by
   simp only[C3]at h;split at h
   ·rename_i aq;obtain⟨q,aE,rfl⟩:=dl.1 h;rw[ZZ aE];have:((q2 n.toNat).toNat:Int)=n:=by rw[UInt8.toNat_ofNat'];omega
    simp only[jL,gP,this]
   ·cases h
theorem Z0:∀l:List UInt8,C3 (jL l)=j l
 |[]=>rfl
 |c::l=>by
   have F:(0:Int)<=(c.toNat:Int)/\(c.toNat:Int)<256:=by have:=c.toNat_lt;omega
   simp only[jL,gP,C3];rw[if_pos F];have:=Z0 l;simp only[jL]at this;rw[this];simp
theorem anY{args:List I}{h:ad}(aj:C4 args h=j r):AC ak 12 args h r:=by
 unfold C4 at aj;split at aj
 ·rename_i cb b;split at aj
  ·rename_i a0 row al;injection aj with aj;subst aj;refine xt λm w bl hw U=>?_;obtain⟨u,rfl,bE⟩:=AR U;cases bE with
   |cF _ _ ag JL=>obtain⟨cs,a6,c2,c3,c4,c5⟩:=hw.live b _ al;obtain⟨v,v1,v2⟩:=c5 0 (by simp) 1 (by simp);simp only[Nat.zero_mul,gH]at v1;simp only[List.getElem_cons_succ,List.getElem_cons_zero]at v2;cases v2;exact⟨_,.str [],anR ZU xr (m.b1 b) w (by rw[a6.cell];exact v1)⟩
  ·rename_i a0 c1 n e row al;split at aj
   ·rename_i bz;obtain⟨rfl,AS⟩:=bz;obtain⟨rs,rP,aj⟩:=dt.1 aj;split at aj
    ·rename_i hlen;obtain⟨l,ai,aj⟩:=dl.1 aj;subst aj;obtain rfl:=ZZ ai;intro m w bl hw U;obtain⟨u,rfl,bE⟩:=AR U;cases bE with
     |cF _ _ ag JL=>
       obtain⟨cs,a6,c2,c3,c4,c5⟩:=hw.live b _ al;obtain⟨v,v1,v2⟩:=c5 0 (by simp) 1 (by simp);simp only[Nat.zero_mul,gH]at v1;simp only[List.getElem_cons_succ,List.getElem_cons_zero]at v2;cases v2 with
       |br _ _ _ _ cap i1 n0 jt tQ ju=>
         obtain⟨hP,d1,d2,d3,d4,d5⟩:=hw.live c1 _ rP;have JM:(ak).cellsOf 5=1:=xr.cellsByte;rw[n0,JM]at d3 d4 d5;rw[n0]at d1;rw[JM,gH,Nat.mul_one]at jt;have uu:l.length=n:=by simpa using hlen
         have am:w.cell? ⟨m.b1 b,1,Z⟩=j (.slice (j ⟨m.b1 c1,0,Z⟩) l.length cap):=by rw[a6.cell,v1,uu];simp
         refine(anM ZU xr (m.b1 b) (m.b1 c1) cap hP l w (λe=>AS (by rw[<-uu,e];rfl)) am d1 (by omega) ju (by omega) (λD x aa=>?_)).mono λe aJ ⟨he,au⟩=>?_
         ·obtain⟨di,rfl⟩:=fR.1 aa;obtain⟨u,u1,u2⟩:=d5 D (by simpa using di) 0 (by simp);have ny:(jL l)[D]'(by simpa using di)=[.int .u8 l[D].toNat]:=by simp[jL]
          simp only[ny,List.getElem_cons_zero]at u2;cases u2;simpa using u1
         ·obtain⟨bY,db⟩:=hw.drop rP au;have n3:m.base<=m.b1 c1:=(hw.lt c1 _ rP).2;exact⟨m,bY,db,ci.below au (λk ab=>by rw[ab];exact n3) hw.size,_,he,.str l⟩
    ·cases aj
   ·cases aj
  ·cases aj
 ·cases aj
open Go Go.Proofs Go.RowKit
theorem Z1:UV ak=["strconv.ErrSyntax", "strconv.ErrRange"]:=by kernel_rfl
theorem anZ{P:cu}{g:cH}{args:List I}{h:ad}{v:I}(k:∀(m:dq) (w:cd) (bl:List bH),bW P m h w->dV P m h args bl->Calls P g bl.toArray w λe aJ=>∃u,e= .returned u/\bF P m h v u/\hL w aJ):AC P g args h (.inl v,h):=by intro m w bl hw U;refine(k m w bl hw U).mono λe aJ ⟨u,he,bE,au⟩=>⟨m,Ext.refl m h,hw.new au,ci.below au (λ_ h=>h.elim) hw.size,u,he,bE⟩
theorem an0{P:cu}{h:ad}{a b c:I}(U:dV P m h [a,b,c] bl):∃u v x,bl=[u,v,x]/\bF P m h a u/\bF P m h b v/\bF P m h c x:=by
 obtain⟨F,J⟩:=U
 match bl,F with
 |[u,v,x],_=>exact⟨u,v,x,rfl,J 0 (by simp) (by simp),J 1 (by simp) (by simp),J 2 (by simp) (by simp)⟩
theorem JN{P:cu}{h:ad}{a b:I}{u v:bH}(F:bF P m h a u)(J:bF P m h b v):bF P m h (.bx [a,b]) (.tuple #[u,v]):=by
 refine bF.bx [a,b] [u,v] rfl λD aa di=>?_
 match D,aa with
 |0,_=>exact F
 |1,_=>exact J
theorem an1(s:ByteArray)(az:s.size<=1000000000)(w:cd)(n:Int)(hp:Lib.parseIntB 64 s.data.toList= .ok n):Calls ak 24 #[.string s,.int o 10,.int o 64] w λe aJ=>e= .returned (.tuple #[.int o n,.nilIface])/\hL w aJ:=by
 refine(Any.strconv_ParseInt_10_at64_ok Pd s (by omega) n hp w).mono λe aJ ⟨he,hw⟩=>⟨he,?_⟩;rcases hw with rfl|⟨t,rfl⟩
 ·exact ci.refl _ _
 ·exact hL.zZ (Lib.bytesWorld_below _ _ _)
theorem Z2(s:ByteArray)(az:s.size<=1000000000)(w:cd)(gJ:∃cZ p,w.var? ak "strconv.ErrSyntax"=j #[.iface cZ p])(oa:∃cZ p,w.var? ak "strconv.ErrRange"=j #[.iface cZ p])(hp:∀n,Lib.parseIntB 64 s.data.toList≠.ok n):Calls ak 24 #[.string s,.int o 10,.int o 64] w λe aJ=>∃u v,e= .returned (.tuple #[u,.iface 134 v])/\hL w aJ:=by
 obtain⟨t1,dU,av⟩:=gJ;obtain⟨t2,g8,ax⟩:=oa;rcases aE:Lib.parseIntB 64 s.data.toList with n|_|_
 ·exact absurd aE (hp n)
 ·refine(Any.strconv_ParseInt_10_at64_syntax_var Pd s (by omega) aE t1 dU w av).mono λe aJ ⟨N,he,_,_,ag⟩=>?_;exact⟨_,_,he,hL.zZ ag⟩
 ·refine(Any.strconv_ParseInt_10_at64_range_var Pd s (by omega) aE t2 g8 w ax).mono λe aJ ⟨N,he,_,_,ag⟩=>?_;exact⟨_,_,he,hL.zZ ag⟩
theorem an2{args:List I}{h:ad}(aj:C5 args h=j r):AC ak 24 args h r:=by
 unfold C5 at aj;split at aj
 ·rename_i s b z;split at aj
  ·rename_i bz;obtain⟨rfl,rfl,ai⟩:=bz;injection aj with aj;subst aj;refine anZ λm w bl hw U=>?_;obtain⟨u,v,x,rfl,bE,ag,aR⟩:=an0 U;have a7:=hw.dg.U4;rw[Z1]at a7;have g1:=(a7 "strconv.ErrSyntax" (by simp)).1;have cK:=(a7 "strconv.ErrRange" (by simp)).1;cases bE;cases ag;cases aR;have dY:(ByteArray.mk s.toArray).size<=1000000000:=by show s.toArray.size<=_;simpa using ai
   rcases aE:Lib.parseIntB 64 s with n|_|_
   ·refine(an1 ⟨s.toArray⟩ dY w n (by simpa using aE)).mono λe aJ ⟨he,au⟩=>⟨_,he,JN (.int _ _) .fC,au⟩
   ·refine(Z2 ⟨s.toArray⟩ dY w g1 cK (by intro n aq;simp[aE]at aq)).mono λe aJ ⟨u,v,he,au⟩=>⟨_,he,JN (.aD _) (.iface _ _ _ (.aD _)),au⟩
   ·refine(Z2 ⟨s.toArray⟩ dY w g1 cK (by intro n aq;simp[aE]at aq)).mono λe aJ ⟨u,v,he,au⟩=>⟨_,he,JN (.aD _) (.iface _ _ _ (.aD _)),au⟩
  ·cases aj
 ·cases aj
open Go Go.Proofs Go.RowKit
theorem Z3:∀{rows:List (List I)} {xs:List (List UInt8)},AQ rows=j xs->rows=xs.map λx=>[.str x]
 |[],xs,h=>by simp only[AQ]at h;injection h with h;subst h;rfl
 |r::rows,xs,h=>by
   match r,h with
   |[.str s],h=>simp only[AQ]at h;obtain⟨dR,F,rfl⟩:=dl.1 h;rw[Z3 F];rfl
theorem an3{args:List I}{h:ad}(aj:CZ args h=j r):AC ak 27 args h r:=by
 unfold CZ at aj;split at aj
 ·rename_i s;injection aj with aj;subst aj;refine xt λm w bl hw U=>?_;obtain⟨u,v,rfl,bE,aR⟩:=FK U;cases bE;cases aR;exact⟨_,.str _,(Any.strings_Join_none JK xr Z 0 ⟨s.toArray⟩ w).mono λe aJ an=>⟨an.1,by rw[an.2];exact ci.refl _ _⟩⟩
 ·rename_i id e rows s;split at aj
  ·rename_i an4;obtain⟨xs,sI,aj⟩:=dt.1 aj;split at aj
   ·rename_i n2;injection aj with aj;subst aj;obtain rfl:=Z3 sI;refine xt λm w bl hw U=>?_;obtain⟨u,v,rfl,bE,aR⟩:=FK U;clear U;cases aR;refine⟨_,.str _,?_⟩;by_cases z':xs=[]
    ·subst z';cases bE with
     |bN _ _ _ g O cap ah ai ae qa al aO=>exact(Any.strings_Join_none JK xr _ _ ⟨s.toArray⟩ w).mono λe aJ an=>⟨an.1,by rw[an.2];exact ci.refl _ _⟩
     |mB _ a cap=>exact(Any.strings_Join_none JK xr _ _ ⟨s.toArray⟩ w).mono λe aJ an=>⟨an.1,by rw[an.2];exact ci.refl _ _⟩
    ·generalize rP:(xs.map λx=>[I.str x])=rs at bE;cases bE with
     |mB _ a cap=>exact absurd (by simpa using rP) z'
     |bN _ _ _ g O cap ah ai ae qa al aO=>
       subst rP;have aq:0<xs.length:=List.length_pos_iff.2 z';have cell:∀D (aa:D<xs.length),w.cell? ⟨g,O+D,Z⟩=j (.string ⟨xs[D].toArray⟩)/\g<w.heap.size:=λD aa=>by have F:=ae D (by simpa using aa) 0 (by omega);have J:=qa D (by simpa using aa) 0 (by simp);rw[an4,show O+(D*1+0)=O+D by omega]at F;have af:=hw.dI _ _ _ F;have aB:=hw.p9 F;simp only[List.getElem_map,List.getElem_cons_zero]at J;generalize ah D 0=f at J af;cases J;exact⟨af,aB⟩
       have hlen:(xs.map λx=>[I.str x]).length=(xs.map λx=>(⟨x.toArray⟩:ByteArray)).length:=by simp
       have back:(xs.map λx=>(⟨x.toArray⟩:ByteArray)).map (·.data.toList)=xs:=by simp[List.map_map,Function.comp_def]
       have c:=Any.strings_Join JK xr g O cap (xs.map λx=>(⟨x.toArray⟩:ByteArray)) ⟨s.toArray⟩ w (λD x an=>by
        obtain⟨y,bq,rfl⟩:=by simpa using an
        obtain⟨aa,rfl⟩:=fR.1 bq;exact(cell D aa).1) (cell 0 aq).2 (by rw[<-hlen];simp;omega) (by rw[<-hlen];exact al) (by rw[back];show(jv xs s).length<=_;omega)
       rw[<-hlen,back]at c;exact c.mono λe aJ an=>⟨an.1,hL.zZ an.2⟩
   ·cases aj
  ·cases aj
 ·cases aj
open Go Go.Proofs Go.RowKit
theorem an5{args:List I}{h:ad}(aj:JI args h=j r):AC ak 55 args h r:=by
 unfold JI at aj;split at aj
 ·rename_i a;injection aj with aj;subst aj;refine xt λm w bl hw U=>?_;obtain⟨u,rfl,bE⟩:=AR U;cases bE;exact⟨_,.str _,(am8 a w).mono λe aJ an=>an⟩
 ·cases aj
theorem an6{args:List I}{h:ad}(aj:C6 args h=j r):AC ak 23 args h r:=by
 unfold C6 at aj;split at aj
 ·rename_i s;split at aj
  ·rename_i az;injection aj with aj;subst aj;refine xt λm w bl hw U=>?_;obtain⟨u,rfl,bE⟩:=AR U;cases bE;exact⟨_,JN (.int _ _) (.bool _),(anc s w az).mono λe aJ an=>⟨an.1,by rw[<-an.2];exact ci.refl _ _⟩⟩
  ·cases aj
 ·cases aj
theorem an7{args:List I}{h:ad}(aj:JJ args h=j r):AC ak 9 args h r:=by
 unfold JJ at aj;split at aj
 ·rename_i s c;injection aj with aj;subst aj;refine xt λm w bl hw U=>?_;obtain⟨u,v,rfl,bE,aR⟩:=FK U;cases bE;cases aR;exact⟨_,.bool _,(Any.strings_Contains_one anE ⟨s.toArray⟩ c w).mono λe aJ an=>⟨by rw[an.1],by rw[an.2];exact ci.refl _ _⟩⟩
 ·cases aj
open Go Go.Proofs Go.RowKit
theorem an8(w:cd):PredGrows ak 16 #[] (λr=>r==32) w:=by
 intro W x an ag;show Calls ak 16 #[.int .i32 (x:Int)] W _;by_cases h:x=32
 ·subst h
  go_enter Tryz.func16,Tryz.ntmps16
  go_wp2
  go_ret
  exact⟨rfl,kZ _ _⟩
 ·have J:((x:Int)==32)=R:=by simp;omega
  have af:(x==32)=R:=by simp[h]
  go_enter Tryz.func16,Tryz.ntmps16
  go_wp2
  go_ret
  exact⟨by simp[af],kZ _ _⟩
section
variable{P:cu}{m:dq}{h:ad}{w aJ:cd}
theorem bW.rows(hw:bW P m h w)(ag:Below w.heap.size w aJ){A:Nat}(e7:w.heap.size<=A){e:aU}(he:P.cellsOf e=1){xs:List (List UInt8)}(e1:bl=xs.map λx=>.string ⟨x.toArray⟩)(al:∀D v,bl[D]? =j v->aJ.cell? ⟨A,D,Z⟩=j v):∃aZ,Ext m h aZ h/\bW P aZ h aJ/\bF P aZ h (.bN Z e (xs.map λx=>[.str x])) (.slice (j ⟨A,0,Z⟩) bl.length bl.length):=by
 have E1:∀O,m.dI A O=Z:=λO=>by
  rcases ae:m.dI A O with _|v
  ·rfl
  ·have:=hw.p9 ae;omega
 have an:Ext m h {m with dI:=λg O=>if g=A then bl[O]? else m.dI g O} h:=by
  refine⟨rfl,bS _,bS _,λb ag=>⟨rfl,rfl,rfl⟩,λg O v ae=>?_,λk ab=>⟨rfl,bS _,λ_=>⟨rfl,rfl⟩⟩,λ_ _ h=>h⟩;have:g≠A:=λe=>by rw[e,E1]at ae;cases ae
  simpa[this]using ae
 have ft:=hw.new (hL.zZ ag);refine⟨_,an,?_,?_⟩
 ·refine⟨ft.size,λb x ag=>ft.lt b x ag,λb x ag=>?_,λb c1 x hV F J he=>ft.inj b c1 x hV F J he,λg O v ae=>?_,λb x ag O=>?_,ft.oP,λk ab O qe=>?_,ft.l9,ft.nY,ft.dg,λg x aa=>?_⟩
  ·obtain⟨c2,F,J,af,aB,bw⟩:=ft.live b x ag;refine⟨c2,F,J,af,aB,λi ae D aa=>?_⟩;obtain⟨v,cc,cQ⟩:=bw i ae D aa;exact⟨v,cc,cQ.ext an⟩
  ·by_cases a7:g=A
   ·subst a7;simp only[if_true]at ae;exact al O v ae
   ·simp only[a7,if_false]at ae;exact ft.dI g O v ae
  ·have:=hw.below ag;have cP:m.b1 b≠A:=by omega
   simp only[cP,if_false];exact ft.sep b x ag O
  ·have:=(hw.qO ab).2;simp only[show ¬m.iB k=A by omega,if_false];exact ft.nw k ab O qe
  ·have bt:=hw.tU aa;obtain⟨aP,a2,a3,a4,a5⟩:=ft.fo g x aa;refine⟨aP,a2,a3,a4,λO=>?_⟩;simp only[show ¬g=A by omega,if_false];exact a5 O
 ·have hlen:bl.length=(xs.map λx=>[I.str x]).length:=by rw[e1];simp
  rw[hlen];refine .bN Z e _ A 0 _ (λi _=>(bl[i]?).getD fy) (λr aj=>?_) (λi ae D aa=>?_) (λi ae D aa=>?_) (bS _) (λk ab=>by cases ab)
  ·obtain⟨x,_,rfl⟩:=lR.1 aj;rw[he];rfl
  ·have ev:i<bl.length:=by rw[hlen];exact ae
   simp only[if_true];rw[he,show 0+(i*1+D)=i by rw[he]at aa;omega];simp[ev]
  ·have ev:i<xs.length:=by simpa using ae
   have qf:D=0:=by simpa using aa
   subst qf;simp only[List.getElem_map,List.getElem_cons_zero];have:bl[i]? =j (.string ⟨xs[i].toArray⟩):=by rw[e1];simp[ev]
   rw[this];exact .str _
end
theorem an9{args:List I}{h:ad}(aj:C7 args h=j r):AC ak 15 args h r:=by
 unfold C7 at aj;split at aj
 ·rename_i s g;split at aj
  ·rename_i bz;obtain⟨rfl,az⟩:=bz;injection aj with aj;subst aj;intro m w bl hw U;obtain⟨u,f,rfl,bE,bn⟩:=FK U;cases bE;cases bn with
   |fn _ _ _ b8 gy F J af aB=>
   obtain rfl:b8=[]:=mF.1 F;obtain rfl:gy=[]:=mF.1 J;have c:=Any.strings_FieldsFunc_grows anF 16 #[] (enters_of Tryz.func16 (by kernel_rfl) rfl) (λr=>r==32) ⟨s.toArray⟩ w (by show s.toArray.size<=_;simp;omega) (an8 w) (by kernel_rfl) (by kernel_rfl);refine c.mono λe aJ ⟨A,he,e7,au,ag⟩=>?_;have e1:(Lib.goFieldsP (λr=>r==32) ⟨s.toArray⟩).map Value.string=(s6 s).map λx=>.string ⟨x.toArray⟩:=by unfold s6;rw[List.map_map];exact List.map_congr_left λb _=>by simp
   generalize sL:(Lib.goFieldsP (λr=>r==32) ⟨s.toArray⟩).map Value.string=bl at e1 au;have aq:(Lib.goFieldsP (λr=>r==32) ⟨s.toArray⟩).length=bl.length:=by rw[<-sL];simp
   rw[aq]at au he;have al:∀D v,bl[D]? =j v->aJ.cell? ⟨A,D,Z⟩=j v:=by
    intro D v aa;obtain⟨bO,bC⟩:=au;rcases bC with⟨bC,_⟩|⟨g,cap,cur,bC,dj,eQ,jj,rL,pC,Oj⟩
    ·injection bC with bC;cases bC
    ·injection bC with bC _ _;injection bC with bC;injection bC with bC;subst bC;have:cur[D]? =j v:=by
      rw[<-Oj]at aa;rw[List.getElem?_take]at aa;split at aa
      ·simpa using aa
      ·cases aa
     simp[World.cell?,eQ,this]
   obtain⟨aZ,bY,db,e3⟩:=hw.rows ag e7 (e:=9) (by kernel_rfl) e1 al;exact⟨aZ,bY,db,ag.mono hw.size,_,he,e3⟩
  ·cases aj
 ·cases aj
theorem Z4{P:cu}{p:gZ}(n:Nat)(l:List cH)(F:xi P p (l.take n)=Q)(J:xi P p (l.drop n)=Q):xi P p l=Q:=by rw[<-List.take_append_drop n l];unfold xi at F J ⊢;rw[List.all_append,F,J];rfl
theorem an':xi ak T (JE.take 55)=Q:=by kernel_rfl
theorem aoa:xi ak T ((JE.drop 55).take 55)=Q:=by kernel_rfl
theorem aob:xi ak T ((JE.drop 55).drop 55)=Q:=by kernel_rfl
theorem cC:ky ak T:=am1 (am0 (by kernel_rfl)) (by kernel_rfl) (Z4 55 _ an' (Z4 55 _ aoa aob)) (λg ah h=>by
 unfold i8 at h;by_cases e:g=148
 ·rw[if_pos e]at h;subst e;injection h with h;subst h;refine⟨_,Tryz.func148,⟨by kernel_rfl,by kernel_rfl⟩,λargs h r aj=>?_⟩;unfold FG at aj;split at aj
  ·rename_i H;injection aj with aj;rw[<-aj];exact(Classical.choose_spec H).1
  ·cases aj
 rw[if_neg e]at h;by_cases e:g=149
 ·rw[if_pos e]at h;subst e;injection h with h;subst h;refine⟨_,Tryz.func149,⟨by kernel_rfl,by kernel_rfl⟩,λargs h r aj=>?_⟩;unfold JF at aj;split at aj
  ·split at aj
   ·rename_i H;injection aj with aj;rw[<-aj];exact H
   ·cases aj
  ·cases aj
 rw[if_neg e]at h;by_cases e:g=125
 ·rw[if_pos e]at h;subst e;injection h with h;subst h;refine⟨_,Tryz.func125,⟨by kernel_rfl,by kernel_rfl⟩,λargs h r aj=>?_⟩;unfold JG at aj;split at aj
  ·rename_i H;injection aj with aj;rw[<-aj];exact(Classical.choose_spec H).2
  ·cases aj
 rw[if_neg e]at h;by_cases e:g=56
 ·rw[if_pos e]at h;subst e;injection h with h;subst h;refine⟨_,Tryz.func56,⟨by kernel_rfl,by kernel_rfl⟩,λargs h r aj=>?_⟩;unfold JH at aj;split at aj
  ·rename_i H;injection aj with aj;rw[<-aj];exact(Classical.choose_spec H).2
  ·cases aj
 rw[if_neg e]at h;by_cases e:g=128
 ·rw[if_pos e]at h;subst e;injection h with h;subst h;refine⟨_,Tryz.func128,⟨by kernel_rfl,by kernel_rfl⟩,λargs h r aj=>?_⟩;unfold FH at aj;split at aj
  ·rename_i H;injection aj with aj;rw[<-aj];exact(Classical.choose_spec H).1
  ·cases aj
 rw[if_neg e]at h;by_cases e:g=48
 ·rw[if_pos e]at h;subst e;injection h with h;subst h;refine⟨_,Tryz.func48,⟨by kernel_rfl,by kernel_rfl⟩,λargs h r aj=>?_⟩;unfold FI at aj;split at aj
  ·split at aj
   ·rename_i H;injection aj with aj;rw[<-aj];exact H
   ·cases aj
  ·cases aj
 rw[if_neg e]at h;by_cases e:g=25
 ·rw[if_pos e]at h;subst e;injection h with h;subst h;refine⟨_,Tryz.func25,⟨by kernel_rfl,by kernel_rfl⟩,λargs h r aj=>?_⟩;exact anI aj
 rw[if_neg e]at h;by_cases e:g=27
 ·rw[if_pos e]at h;subst e;injection h with h;subst h;refine⟨_,Tryz.func27,⟨by kernel_rfl,by kernel_rfl⟩,λargs h r aj=>?_⟩;exact an3 aj
 rw[if_neg e]at h;by_cases e:g=75
 ·rw[if_pos e]at h;subst e;injection h with h;subst h;refine⟨_,Tryz.func75,⟨by kernel_rfl,by kernel_rfl⟩,λargs h r aj=>?_⟩;exact anT aj
 rw[if_neg e]at h;by_cases e:g=46
 ·rw[if_pos e]at h;subst e;injection h with h;subst h;refine⟨_,Tryz.func46,⟨by kernel_rfl,by kernel_rfl⟩,λargs h r aj=>?_⟩;exact anX aj
 rw[if_neg e]at h;by_cases e:g=12
 ·rw[if_pos e]at h;subst e;injection h with h;subst h;refine⟨_,Tryz.func12,⟨by kernel_rfl,by kernel_rfl⟩,λargs h r aj=>?_⟩;exact anY aj
 rw[if_neg e]at h;by_cases e:g=24
 ·rw[if_pos e]at h;subst e;injection h with h;subst h;refine⟨_,Tryz.func24,⟨by kernel_rfl,by kernel_rfl⟩,λargs h r aj=>?_⟩;exact an2 aj
 rw[if_neg e]at h;by_cases e:g=55
 ·rw[if_pos e]at h;subst e;injection h with h;subst h;refine⟨_,Tryz.func55,⟨by kernel_rfl,by kernel_rfl⟩,λargs h r aj=>?_⟩;exact an5 aj
 rw[if_neg e]at h;by_cases e:g=23
 ·rw[if_pos e]at h;subst e;injection h with h;subst h;refine⟨_,Tryz.func23,⟨by kernel_rfl,by kernel_rfl⟩,λargs h r aj=>?_⟩;exact an6 aj
 rw[if_neg e]at h;by_cases e:g=9
 ·rw[if_pos e]at h;subst e;injection h with h;subst h;refine⟨_,Tryz.func9,⟨by kernel_rfl,by kernel_rfl⟩,λargs h r aj=>?_⟩;exact an7 aj
 rw[if_neg e]at h;by_cases e:g=15
 ·rw[if_pos e]at h;subst e;injection h with h;subst h;refine⟨_,Tryz.func15,⟨by kernel_rfl,by kernel_rfl⟩,λargs h r aj=>?_⟩;exact an9 aj
 rw[if_neg e]at h;cases h)
def dc:ef->ef
 |.seq a _=>a
 |c=>c
def fj:ef->ef
 |.seq _ b=>b
 |c=>c
def jk:ef->Array bb
 |.region _ ops _=>ops
 |_=> #[]
section
variable{P:cu}{T:gZ}{f:cH}{n aI:Nat}{aT:List Nat}{h E:ad}{t V cv:List I}
theorem ig{a:Nat}(cQ:rQ a n (T.aI f) aI aT=Q):aT.Nodup/\∀D s,aT[D]? =j s->(D<aI↔s<T.aI f):=by
 unfold rQ at cQ;simp only[h8,decide_eq_true_eq,iC,j8,beq_iff_eq,bne_iff_ne,ne_eq]at cQ;obtain⟨⟨aP,a2⟩,a3⟩:=cQ;have get:∀D s,aT[D]? =j s->D<aT.length/\aT.getD D 0=s:=λD s aa=>⟨(fR.1 aa).1,by simp[dm,aa]⟩;refine⟨?_,λD s aa=>?_⟩
 ·rw[List.nodup_iff_pairwise_ne,List.pairwise_iff_getElem];intro i D ae aa gR e;have:=(a3 D aa).2 i gR;apply this;simp[dm,ae,aa,e]
 ·obtain⟨g1,cK⟩:=get D s aa;have:=(a3 D g1).1.1.2;rw[cK]at this;exact decide_eq_decide.1 this
theorem wn(cC:ky P T){c:ef}{l:List bj}{K:List Item}{x:h4}(nE:aT.Nodup/\∀D s,aT[D]? =j s->(D<aI↔s<T.aI f))(hR:ga P (T.ba f) (T.ch f) n aT c []=j l)(uv:ht (T.ch f) (T.eu f) c=Q)(aj:bu (aM P T) aI [.bQ l,.halt K] V [] h=j (x,cv,E))(b6:gb n aT [] t V []):∃cM,(∀(m:dq) (w:cd) (a:Act) (b:eO) (cs:List eO),bW P m h w->dF P m h t a.tmps->a.defers=b.defers->eA P (T.eu f) m h w b cs (ew (b.at a (.code c::K)) cs w) (x,cM,E))/\gb n aT [] cM cv []:=by obtain⟨cM,e,o3⟩:=(Jt (n:=n) (f:=f) nE.1 nE.2 _ _ _ _ _ aj).1 [.code c,.halt K] t (.bQ [c] l [.halt K] [.halt K] (by simp[mi,hR]) (.halt K [] [])) b6;refine⟨cM,λm w a b cs hw aO a1=>?_,o3⟩;exact(Ji cC f _ t h _ e).dg (.code c::K) (.code c _ _ uv (.halt K [])) b cs m w a hw aO a1
theorem JO{g:cH}{fn:Func}{c:ef}(bn:P.funcs[g]? =j fn)(ag:fn.body=j c)(bl:List bH)(fq:CallKind):(jO P g bl.toArray fq).at {tmps:=(bl++ar (fn.ntmps - bl.length) fy).toArray,defers:=[]} [.code c]=jO P g bl.toArray fq:=by simp[jO,Frame.at,bn,ag]
theorem JP{k:Nat}{args:List I}(U:dV P m h args bl):dF P m h (args++ar (k - args.length) .aD) (bl++ar (k - bl.length) fy).toArray:=by
 have ai:=U.1;have J:dV P m h (args++ar (k - args.length) .aD) (bl++ar (k - bl.length) fy):=by rw[ai];exact dV.append U ⟨by simp,λD aa di=>by simp only[List.getElem_replicate];exact .aD _⟩
 refine⟨by simpa using J.1,λi ae=>?_⟩;have hN:i<(bl++ar (k - bl.length) fy).length:=by rw[J.1];exact ae
 have:=J.2 i ae hN;simp only[h9,List.getElem?_toArray,gd hN,ns];exact this
theorem Pg{bX:Array bH}(aO:dF P m h t bX){i:Nat}(ae:i<t.length):bF P m h (t.getD i .aD) (bX.getD i fy):=by have:=aO.2 i ae;simpa[dm,ae]using this
end
end Go.Proofs.YtaodiaofbeblbaaGreatDoor
