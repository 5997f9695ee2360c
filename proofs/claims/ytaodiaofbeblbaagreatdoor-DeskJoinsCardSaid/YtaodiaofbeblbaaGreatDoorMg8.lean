/- A desk: a line. -/
import Derived.Test.YtaodiaofbeblbaaGreatDoorMg7
import Derived.SizedLaws
import Derived.LaidSub
import Derived.Lay
import Derived.Stop.LaidErr
set_option linter.unusedSimpArgs false
set_option linter.unusedVariables false
set_option maxHeartbeats 4000000
set_option maxRecDepth 1000000
open List renaming replicate→ar,length_append→dy,length_cons→dw,getElem?_eq_getElem→gd,length_singleton→fS,length_nil→ey,getD→dm,length_map→gG,getElem_mem→hf,map_cons→gP,mem_cons→gW,all_eq_true→iC,append_assoc→jA,getElem?_eq_none→lN,nil_append→j6,mem_range→j8,range→iO,append_nil→me,map_nil→kK,mem_map→lR,mem_cons_of_mem→qk,mem_of_getElem?→qV,mem_append→pq,length_drop→sK,mem_cons_self→uq,mem_singleton→vp
open Option renaming some→j,none→Z,bind_eq_some_iff→dt,map_eq_some_iff→dl,bind_some→da,getD_some→ns,isSome_iff_exists→w0
open Nat renaming reduceAdd→aw,reduceSub→aA,reduceLeDiff→ct,le_refl→bS,zero_le→hK,reduceLT→oo
open Go.IntKind renaming i64→o,wrap→hq
open Go.Proofs.Tryz renaming prog→ak
open Bool renaming false→R,true→Q
open Go renaming TypeId→aU,Program→cu,Value→bH,World→cd
open Int renaming natCast_zero→mn
open Go.Lib renaming join→jv
open Go.Addr renaming add_lit→nW
open String renaming singleton→tS
open Iff renaming rfl→mN
namespace Go.Proofs.YtaodiaofbeblbaaGreatDoor
open Go
variable{dz:I}{laid:List (String×DataW Unit)}{W:cd}
structure pX(n:Nat)(K:eM):Prop where
 O:∃k,k<=n/\l5 k K
 t:K.text.length<=n
structure Ik(k:Nat)(K:eM)(q:eM×List UInt8):Prop where
 O:∃dn,dn<=k+1/\l5 dn q.1
 len:q.2.length<=200000000
 text:q.1.text=K.text
theorem l5.stays{k:Nat}{K:eM}(O:l5 k K){l:List UInt8}(ai:l.length<=200000000):Ik k K (K,l):=⟨⟨k,Nat.le_succ _,O⟩,ai,rfl⟩
theorem Cb{k:Nat}{K:eM}(O:l5 k K)(ab:k<=199){x:iU}(aq:bL x.n)(hm:∀y∈x.m,y.mx)(an:x.kind=1->bL (fw x.m).1):Ik k K (K.qy x):=by obtain⟨bC,zO,tz,MS⟩:=O.step (x:=x) (by omega) aq hm an;have U:=(O.w.h.dg.step x).val;rw[<-(To K.W x).2]at U;have:=ayE (kind:=x.kind) U zO tz MS;exact⟨⟨k+1,bS _,bC⟩,by show(x8 x.kind (K.W.step x)).length<=_;omega,rfl⟩
theorem ay3{k:Nat}{K:eM}(O:l5 k K)(ab:k<=199)(p:Int):Ik k K (K.load p):=by
 unfold eM.load;have f:=afZ (jv K.text [10]);split
 ·have a:=nl f.1;have b:=nl f.2;refine O.stays ?_;simp only[iV,dy,EA,dw,ey];omega
 ·exact Cb O ab fQ (afR _) λ_=>(SL _).1
theorem Ut{at':Int}(aN:at'= -1):∀(l:List (List UInt8)) (i:Nat) (cL:List Int),nN at' i l=j cL->∀n∈cL,bL n
 |[],i,cL,h,n,aq=>by simp only[nN]at h;injection h with h;subst h;cases aq
 |s::l,i,cL,h,n,aq=>by
   rw[ajM]at h;obtain⟨m,F,J⟩:=dt.1 h;obtain⟨q,af,rfl⟩:=dl.1 J;unfold B' at F;rw[if_neg (by omega)]at F;rcases gW.1 aq with rfl|aq
   ·exact afM F
   ·exact Ut aN l (i+1) q af n aq
theorem ay4{cL:List Int}(h:∀n∈cL,bL n)(i:Nat):bL (cL.getD i 0):=by
 by_cases ae:i<cL.length
 ·rw[dm,gd ae,ns];exact h _ (hf ae)
 ·rw[dm,lN (by omega),Option.getD_none];exact fQ
theorem EF:∀y∈([]:List bk),y.mx:=λy bq=>by cases bq
theorem ay5{k:Nat}{K:eM}(O:l5 k K)(ab:k<=199){w:List UInt8}{cL:List Int}(wJ:(iA w).1= -1->∀n∈cL,bL n):Ik k K (K.ask w cL):=by
 have l4:=O.w.h.ok (by omega);unfold eM.ask;simp only;split
 ·exact ay3 O ab _
 split
 ·exact Cb O ab fQ EF (λh=>by cases h)
 split
 ·exact Cb O ab fQ EF (λh=>by cases h)
 split
 ·exact Cb O ab fQ EF (λh=>by cases h)
 split
 ·exact Cb O ab fQ EF (λh=>by cases h)
 split
 ·exact Cb O ab fQ EF (λh=>by cases h)
 split
 ·rename_i hw;exact Cb O ab (ay4 (wJ (by rw[hw];decide)) 2) EF (λh=>by cases h)
 split
 ·refine O.stays ?_;have hw:=ajP O.wf (cL.getD 0 0);have M1:∀x∈K.W.H.si (cL.getD 0 0),x.code=0:=λx an=>by obtain⟨n,rfl,AS⟩:=agx l4.dg _ x an;exact Cn AS
  have hle:=agy l4 (cL.getD 0 0);have bn:=Us hw M1;unfold eM.hand;simp only[iV,dy,Lib.join_one,dw,ey];omega
 split
 ·refine O.stays ?_;have:=(Ey (agz l4.dg (cL.getD 0 0)) (Up O.wf (cL.getD 0 0))).2.2;unfold eM.kept;simp only[iV,dy,Ez,dw,ey];omega
 split
 ·refine O.stays ?_;have bn:=Ul O.wf.s.log;have ai:=O.w.h.log;unfold eM.log;simp only[iV,dy,Lib.join_one,dw,ey];omega
 split
 ·refine O.stays ?_;have bn:=Uo O.wf.s.cells;have Mf:=l4.dg.st.cells;unfold eM.cells;simp only[iV,dy,Lib.join_one,dw,ey];omega
 ·exact O.stays (by simp)
theorem Il(p:Nat->Bool)(s:ByteArray):∀(f pos:Nat) (st:Option Nat) (acc:List (Nat×Nat)),(Lib.spansFromP p s f pos st acc).1.length<=acc.length+f
 |0,_,_,_=>bS _
 |f+1,pos,st,acc=>by
   unfold Lib.spansFromP;split
   ·split
    ·cases st with
     |some a=>have:=Il p s f (pos+(Utf8.decode s pos).2) Z (acc++[(a,pos)]);simp only[dy,fS]at this;simp only;omega
     |none=>have:=Il p s f (pos+(Utf8.decode s pos).2) Z acc;simp only;omega
    ·cases st with
     |some a=>have:=Il p s f (pos+(Utf8.decode s pos).2) (j a) acc;simp only;omega
     |none=>have:=Il p s f (pos+(Utf8.decode s pos).2) (j pos) acc;simp only;omega
   ·simp only;omega
theorem ay6(s:List UInt8):(s6 s).length<=s.length+1/\∀x∈s6 s,x.length<=s.length:=by
 refine⟨?_,λx an=>?_⟩
 ·unfold s6 Lib.goFieldsP Lib.spansOfP;rw[gG,gG];have h:=Il (λr=>r==32) ⟨s.toArray⟩ (ByteArray.mk s.toArray).size 0 Z [];have aR:(ByteArray.mk s.toArray).size=s.length:=by show s.toArray.size=_;simp
  rw[aR]at h ⊢;unfold Lib.closeSpans;split
  ·simp only[dy,fS];simp only[ey]at h;omega
  ·simp only[ey]at h;omega
 ·unfold s6 Lib.goFieldsP at an;obtain⟨b,ag,rfl⟩:=lR.1 an;obtain⟨q,_,rfl⟩:=lR.1 ag;have aR:(ByteArray.mk s.toArray).size=s.length:=by show s.toArray.size=_;simp
  show((ByteArray.mk s.toArray).extract q.1 q.2).data.toList.length<=_;rw[Array.length_toList];show((ByteArray.mk s.toArray).extract q.1 q.2).size<=_;rw[ByteArray.size_extract,aR];omega
theorem ajQ{K:eM}{s:List UInt8}(h:∀r,s≠124::r):K.line s=K.words (s6 s):=by
 unfold eM.line;split
 ·rename_i r;exact absurd rfl (h r)
 ·rfl
theorem ajR(K:eM)(w:List UInt8)(l:List (List UInt8)):K.words (w::l)=if l=[]/\w=Me then({K with text:=[]},[]) else match nN (iA w).1 0 l with
   |some n=>if(n.length:Int)=(iA w).2 then K.ask w n else(K,iV [Eh])
   |none=>(K,iV [Eh]):=rfl
theorem ay7{k:Nat}{K:eM}(O:l5 k K)(ab:k<=199)(l:List (List UInt8)):(∃dn,dn<=k+1/\l5 dn (K.words l).1)/\(K.words l).2.length<=200000000/\(K.words l).1.text.length<=K.text.length:=by
 have st:∀q,Ik k K q->(∃dn,dn<=k+1/\l5 dn q.1)/\q.2.length<=200000000/\q.1.text.length<=K.text.length:=λq h=>⟨h.O,h.len,by rw[h.text];exact bS _⟩;cases l with
 |nil=>exact st _ (O.stays (by simp))
 |cons w l=>
   rw[ajR];split
   ·exact⟨⟨k,Nat.le_succ _,O.w,O.wf,O.fd,O.at',hK _,λx an=>by cases an⟩,by simp,by show([]:List (List UInt8)).length<=_;exact hK _⟩
   ·split
    ·rename_i cL Ar;split
     ·exact st _ (ay5 O ab λaN n aq=>Ut aN l 0 cL Ar n aq)
     ·exact st _ (O.stays (by simp[iV,Lib.join_one]))
    ·exact st _ (O.stays (by simp[iV,Lib.join_one]))
theorem pX.line{n:Nat}{K:eM}(O:pX n K)(aq:n<=199){s:List UInt8}(az:s.length<=20000):pX (n+1) (K.line s).1/\(K.line s).2.length<=200000000:=by
 obtain⟨k,ab,wK⟩:=O.O;have aO:=O.t;by_cases h:∃r,s=124::r
 ·obtain⟨r,rfl⟩:=h;refine⟨⟨⟨k,by omega,wK.w,wK.wf,wK.fd,wK.at',?_,λx an=>?_⟩,?_⟩,hK _⟩
  ·show(K.text++[r]).length<=200;simp;omega
  ·rcases pq.1 an with an|an
   ·exact wK.bX x an
   ·obtain rfl:x=r:=by simpa using an
    simp at az;omega
  ·show(K.text++[r]).length<=n+1;simp;omega
 ·rw[ajQ λr e=>h ⟨r,e⟩];obtain⟨⟨dn,F,J⟩,af,aB⟩:=ay7 wK (by omega) (s6 s);exact⟨⟨⟨dn,by omega,J⟩,by omega⟩,af⟩
section
variable{h E am:ad}{ah ao aL aF:Nat->Prop}{L:List b2}{b q:Nat}{c:pS}{K:eM}{told:List UInt8}
theorem ay8{s:List UInt8}(az:s.length<=1000000):aM ak T 15 [.str s,.fn 16 [] []] h=j (.inl (.bN Z gF ((s6 s).map λx=>[.str x])),h):=by unfold aM;rw[anA];show C7 _ _=_;unfold C7;exact if_pos ⟨rfl,az⟩
theorem ay9{il:I}(s:aQ am aL aF h (B8 b c il K told))(ai:K.text.length<=1000)(r:List UInt8):∃bg F J,e0 R gF il (.bN (j h.ids) gF [[.str r]]) (h.fresh 1)=j (bg,F)/\bg.one=Q/\bg.cells=[bg]/\eN 1 F (.ptr b 0 2) bg=j J/\aQ am aL aF J (B8 b c bg {K with text:=K.text++[r]} told):=by
 obtain⟨F,bg,⟨av,ax,bs,cq⟩,aY⟩:=s.uF (cn:=λF (bg:I)=>e0 R gF il (.bN (j h.ids) gF [[.str r]]) (h.fresh 1)=j (bg,F)/\bg.one=Q/\bg.cells=[bg]/\F.cell=h.cell) 1 rfl (Y:=λbg=>k6 gF bg ((K.text.map λx=>[.str x])++[[.str r]])) λah ao x=>by obtain⟨bg,F,aP,a2,a3,a4,_,a5⟩:=GU x (row:=[.str r]) rfl (by simp;omega);exact⟨F,bg,⟨aP,a2,a3,a5⟩,a4⟩
 obtain⟨eH,eI,bY⟩:=aY.get 0 rfl;obtain⟨a0,v,tG,ag⟩:=Uj bY;obtain⟨J,rfl,bf⟩:=aY.call (cn:=λJ=>J=F.set b (j [a0::v::[bg,.ptr c.wt 0 0]])) 0 rfl (Y:=nR fW b [bg,.ptr c.wt 0 0] told) λah ao x=>⟨_,rfl,ajC x tG⟩;refine⟨bg,F,F.set b (j [a0::v::[bg,.ptr c.wt 0 0]]),av,ax,bs,?_,?_⟩
 ·rw[lV (n:=1) (off:=2) (x:=bg) tG rfl (by rw[bs];simp[ax]) (by rw[bs];rfl) (by simp)];rw[bs];rfl
 ·have:(K.text.map λx=>[I.str x])++[[.str r]]=(K.text++[r]).map λx=>[.str x]:=by simp
  rw[this]at bf;exact bf
theorem ay'{il:I}(s:aQ am aL aF h (B8 b c il K told)):∃J,eN 1 h (.ptr b 0 2) .aC=j J/\aQ am aL aF J (B8 b c .aC {K with text:=[]} told):=by obtain⟨eH,eI,bY⟩:=s.get 0 rfl;obtain⟨a0,v,tG,ag⟩:=Uj bY;obtain⟨J,rfl,bf⟩:=s.call (cn:=λJ=>J=h.set b (j [a0::v::[.aC,.ptr c.wt 0 0]])) 0 rfl (Y:=nR fW b [.aC,.ptr c.wt 0 0] told) λah ao x=>⟨_,rfl,ajC x tG⟩;obtain⟨af,rfl,bP⟩:=bf.call (cn:=λaf=>af=h.set b (j [a0::v::[.aC,.ptr c.wt 0 0]])) 1 rfl (Y:=k6 gF .aC []) λah ao x=>⟨_,rfl,λ_=>False,λ_=>False,Mt,lA.refl _ _ _,λ_ h=>h.elim,λ_ h=>h.elim⟩;refine⟨h.set b (j [a0::v::[.aC,.ptr c.wt 0 0]]),?_,bP⟩;rw[lV (n:=1) (off:=2) (x:=.aC) tG rfl rfl rfl (by simp)];rfl
theorem aza{k:Nat}(x:(kI b c K told).A h ah ao)(O:l5 k K)(ab:k<=199)(aO:told.length<=900000000000)(s:List UInt8)(az:s.length<=20000):∃E,aM ak T 11 [.cF fW b,.str s] h=j (.inl (.bx []),E)/\en h ah ao E (kI b c (K.line s).1 (told++(K.line s).2)):=by
 have kT:∀k:Nat,b9 k (.cF fW b)=j (if k=0 then .cF fW b else .ptr b 0 k):=λ_=>rfl;obtain⟨il,sp⟩:=zM x;by_cases ag:∃r,s=124::r
 ·obtain⟨r,rfl⟩:=ag;obtain⟨bg,F,J,av,ax,bs,cq,bf⟩:=ay9 sp (by have:=O.j2;omega) r;have lt:=(yh sp 0 rfl).2;have azb:=(yh (sp.hS (aK.fresh h 1)) 0 rfl).2;have bR:sY Q Z (.str (124::r)) (.int o 0)=j (.int .u8 124):=rfl;have fB:ku (.str (124::r)) (j (.int o 1)) Z=j (.str r):=by simp[ku,p5,qM,gY,oO];omega
  have zm:gY (.str (124::r))=j (r.length+1):=rfl;have d1:decide ((0:Int)<((r.length+1:Nat):Int))=Q:=decide_eq_true (by omega);have d2:decide ((124:Int)=124)=Q:=rfl;refine⟨J,?_,by show en h ah ao J (kI b c {K with text:=K.text++[r]} (told++[]));rw[me];exact wI bf⟩;refine bd pf rfl ?_;unfold oF;simp only[ap,aw,aA,ar,reduceCtorEq,kT,zm,d1,bR,lt,azb,fB,av,cq]
 ·rw[ajQ λr e=>ag ⟨r,e⟩];have cond:(s=[]\/∃fe r,s=fe::r/\fe≠124):=by
   cases s with
   |nil=>exact .inl rfl
   |cons fe r=>exact .inr ⟨fe,r,rfl,λe=>ag ⟨r,by rw[e]⟩⟩
  have a8:=ay8 (h:=h) (s:=s) (by omega);obtain⟨BA,ajS⟩:=ay6 s;generalize s6 s=ws at a8 BA ajS ⊢;have d0:(decide ((0:Int)<(s.length:Int))=R)\/∃fe r,s=fe::r/\fe≠124:=by
   rcases cond with rfl|h
   ·exact .inl rfl
   ·exact .inr h
  cases ws with
  |nil=>
    refine⟨h,?_,by show en h ah ao h (kI b c K (told++[]));rw[me];exact en.same x⟩;rcases d0 with d0|⟨fe,r,rfl,ru⟩
    ·refine bd pf rfl ?_;unfold oF;simp only[ap,aw,aA,ar,d0,a8,eq_self];rfl
    ·have bR:sY Q Z (.str (fe::r)) (.int o 0)=j (.int .u8 (fe.toNat:Int)):=rfl;have d1:decide ((0:Int)<((r.length+1:Nat):Int))=Q:=decide_eq_true (by omega);have d2:decide ((fe.toNat:Int)=124)=R:=decide_eq_false λe=>ru (by
      have:fe.toNat=124:=by omega
      exact UInt8.toNat_inj.1 (by rw[this];rfl))
     refine bd pf rfl ?_;unfold oF;simp only[ap,aw,aA,ar,d1,bR,d2,a8,eq_self];rfl
  |cons w l=>
    have jX:=rT Z gF ((w::l).map λx=>[I.str x]);have fB:ku (.bN Z gF ((w::l).map λx=>[I.str x])) (j (.int o 1)) Z=j (.bN Z gF (l.map λx=>[I.str x])):=by simp[ku,p5,qM,gY,oO];exact⟨by omega,List.take_of_length_le (by simp)⟩
    generalize I.bN Z gF ((w::l).map λx=>[I.str x])=bV at a8 jX fB;have rv:fg (j gF) Z bV (.int o 0)=j (.ip [.str w] 0):=jX.bR o 0 [.str w] rfl;have z0:decide (((l.length+1:Nat):Int)=0)=R:=decide_eq_false (by omega);have qF:=jX.len;rw[gG,dw]at qF;simp only[dw]at BA;have azc:∀x∈l,x.length<=1000000:=λx an=>by have:=ajS x (qk _ an);omega
    have rp:=λh=>ayQ (h:=h) w;have ir:∀(E:ad) (m:eM×List UInt8),(∀(S:List RK->Prop),True)->True:=λ_ _ _=>trivial;have two:∀(P:Prop),(decide ((0:Int)<(s.length:Int))=R->P)->(∀fe r,s=fe::r->fe≠124->P)->P:=λP a b=>by
     rcases d0 with d0|⟨fe,r,F,J⟩
     ·exact a d0
     ·exact b fe r F J
    have Cc:∀(fe:UInt8),fe≠124->decide ((fe.toNat:Int)=124)=R:=λfe ru=>decide_eq_false λe=>ru (by
     have:fe.toNat=124:=by omega
     exact UInt8.toNat_inj.1 (by rw[this];rfl))
    have Cd:∀r:List UInt8,decide ((0:Int)<((r.length+1:Nat):Int))=Q:=λr=>decide_eq_true (by omega);have Ce:∀(fe:UInt8) (r:List UInt8),sY Q Z (.str (fe::r)) (.int o 0)=j (.int .u8 (fe.toNat:Int)):=λ_ _=>rfl;rw[ajR];by_cases Af:l=[]/\w=Me
    ·rw[if_pos Af];obtain⟨rfl,rfl⟩:=Af;obtain⟨J,ax,bf⟩:=ay' sp;refine⟨J,?_,by show en h ah ao J (kI b c {K with text:=[]} (told++[]));rw[me];exact wI bf⟩;have cJ:decide (((([]:List (List UInt8)).length+1:Nat):Int)=1)=Q:=rfl;have rg:decide (Me=[110,101,119])=Q:=rfl;have ajT:decide (((1:Nat):Int)=0)=R:=rfl;have Ff:decide (((1:Nat):Int)=1)=Q:=rfl;refine two _ (λd0=>?_) λfe r e ru=>?_
     ·refine bd pf rfl ?_;unfold oF;simp only[ap,aw,aA,ar,reduceCtorEq,d0,a8,qF,jX.fits,ajT,Ff,rv,kT,ax]
     ·subst e;refine bd pf rfl ?_;unfold oF;simp only[ap,aw,aA,ar,reduceCtorEq,Cd,Ce,Cc fe ru,a8,qF,jX.fits,ajT,Ff,rv,kT,ax]
    ·rw[if_neg Af];have EG:(decide (((l.length+1:Nat):Int)=1)=Q/\decide (w=[110,101,119])=R)\/decide (((l.length+1:Nat):Int)=1)=R:=by
      by_cases qd:l=[]
      ·subst qd;exact .inl ⟨rfl,decide_eq_false λe=>Af ⟨rfl,e⟩⟩
      ·have:=List.length_pos_iff.2 qd;exact .inr (decide_eq_false (by omega))
     obtain⟨v,oc,U⟩:=ayX (h:=h) (at':=(iA w).1) (rT Z gF (l.map λx=>[I.str x])) azc (by omega);have ajU:∃E,aM ak T 19 [.cF fW b,.bN (j h.ids) gF [[.str [119,104,97,116]]]] (h.fresh 1)=j (.inl (.bx []),E)/\en h ah ao E (kI b c K (told++iV [Eh])):=by obtain⟨E,e,eD⟩:=zN (sp.hS (aK.fresh h 1)) 0 rfl (ws:=[Eh]) (id:=j h.ids) (by simp) (by omega) (by rw[Lib.join_one];simp);exact⟨E,e,wI eD⟩
     cases Ar:nN (iA w).1 0 l with
     |none=>
       rw[Ar]at U;subst U;obtain⟨E,e,mb⟩:=ajU;refine⟨E,?_,mb⟩;refine two _ (λd0=>?_) λfe r e ru=>?_
       ·rcases EG with⟨cJ,rg⟩|cJ
        ·refine bd pf rfl ?_;unfold oF;simp only[ap,aw,aA,ar,d0,a8,qF,jX.fits,z0,cJ,rv,rg,rp,fB,oc,e]
        ·refine bd pf rfl ?_;unfold oF;simp only[ap,aw,aA,ar,d0,a8,qF,jX.fits,z0,cJ,rv,rp,fB,oc,e]
       ·rename_i av;subst e;rcases EG with⟨cJ,rg⟩|cJ
        ·refine bd pf rfl ?_;unfold oF;simp only[ap,aw,aA,ar,Cd,Ce,Cc fe ru,a8,qF,jX.fits,z0,cJ,rv,rg,rp,fB,oc,av]
        ·refine bd pf rfl ?_;unfold oF;simp only[ap,aw,aA,ar,Cd,Ce,Cc fe ru,a8,qF,jX.fits,z0,cJ,rv,rp,fB,oc,av]
     |some cL=>
       rw[Ar]at U;obtain⟨aI,rfl,Bj⟩:=U;have yj:=Bj.iH.len;simp only[qE,gG]at yj;have zP:=Bj.iH.fits;simp only;by_cases aR:(cL.length:Int)=(iA w).2
       ·have iz:decide ((cL.length:Int)=(iA w).2)=Q:=decide_eq_true aR;rw[if_pos aR];obtain⟨E,gI,mb⟩:=ay0 x O ab aO w Bj aR λaN=>Ut aN l 0 cL Ar;refine⟨E,?_,mb⟩;refine two _ (λd0=>?_) λfe r e ru=>?_
        ·rcases EG with⟨cJ,rg⟩|cJ
         ·refine bd pf rfl ?_;unfold oF;simp only[ap,aw,aA,ar,d0,a8,qF,jX.fits,z0,cJ,rv,rg,rp,fB,oc,yj,zP,iz,gI]
         ·refine bd pf rfl ?_;unfold oF;simp only[ap,aw,aA,ar,d0,a8,qF,jX.fits,z0,cJ,rv,rp,fB,oc,yj,zP,iz,gI]
        ·subst e;rcases EG with⟨cJ,rg⟩|cJ
         ·refine bd pf rfl ?_;unfold oF;simp only[ap,aw,aA,ar,Cd,Ce,Cc fe ru,a8,qF,jX.fits,z0,cJ,rv,rg,rp,fB,oc,yj,zP,iz,gI]
         ·refine bd pf rfl ?_;unfold oF;simp only[ap,aw,aA,ar,Cd,Ce,Cc fe ru,a8,qF,jX.fits,z0,cJ,rv,rp,fB,oc,yj,zP,iz,gI]
       ·have iz:decide ((cL.length:Int)=(iA w).2)=R:=decide_eq_false aR;rw[if_neg aR];obtain⟨E,gI,mb⟩:=ajU;refine⟨E,?_,mb⟩;refine two _ (λd0=>?_) λfe r e ru=>?_
        ·rcases EG with⟨cJ,rg⟩|cJ
         ·refine bd pf rfl ?_;unfold oF;simp only[ap,aw,aA,ar,d0,a8,qF,jX.fits,z0,cJ,rv,rg,rp,fB,oc,yj,zP,iz,gI]
         ·refine bd pf rfl ?_;unfold oF;simp only[ap,aw,aA,ar,d0,a8,qF,jX.fits,z0,cJ,rv,rp,fB,oc,yj,zP,iz,gI]
        ·subst e;rcases EG with⟨cJ,rg⟩|cJ
         ·refine bd pf rfl ?_;unfold oF;simp only[ap,aw,aA,ar,Cd,Ce,Cc fe ru,a8,qF,jX.fits,z0,cJ,rv,rg,rp,fB,oc,yj,zP,iz,gI]
         ·refine bd pf rfl ?_;unfold oF;simp only[ap,aw,aA,ar,Cd,Ce,Cc fe ru,a8,qF,jX.fits,z0,cJ,rv,rp,fB,oc,yj,zP,iz,gI]
end
def ajV:List bj:=[.ops [aX,b7,dB,.i .n (.store 1 (.l 0) (.c .fx))],.ops [aX,b7,hB,ahV]]
theorem azd:cw ak T 10 1 1 [0] ajV [] R:=by refine⟨_,_,Tryz.func10,rfl,rfl,?_,?_,?_,?_,?_⟩<;>kernel_rfl
def Uu(cb b:Nat)(rest:List I):b2:=AO (C1.contains cb=Q) (s5 λp:I×I=>bm b [p.1::p.2::rest])
def su(b:Nat)(c:pS)(K:eM):b2:=s5 λil:I=>cX (Uu fW b [il,.ptr c.wt 0 0]::k6 gF il (K.text.map λx=>[.str x])::sm c K.W)
def nn(s:List UInt8):Bool:=decide (0<=Lib.indexByte s 10)
section
variable{h E am:ad}{ah ao aL aF:Nat->Prop}{L:List b2}{cb b q:Nat}{rest:List I}{l:List UInt8}{c:pS}{K:eM}{told:List UInt8}{bV:I}{ls:List (List UInt8)}
theorem aze(x:(nR cb b rest l).A h ah ao):∃E,aM ak T 12 [.cF cb b] h=j (.inl (.str l),E)/\en h ah ao E (Uu cb b rest):=by
 obtain⟨aG,B,f,D⟩:=x;obtain⟨E,e,al,aq,ae,hw⟩:=awZ B;obtain⟨a0,v,a6,_,c3⟩:=B.mem;have ag:aG≠j b:=by
  rcases c3 with⟨rfl,_⟩|⟨c1,rfl,_,_,aB,_⟩
  ·intro e;cases e
  ·intro e;injection e with e;exact aB e
 refine⟨E,e,λk=>k=b,λ_=>False,⟨B.ty,(a0,v),λ_=>mN,λ_ h=>h,by rw[aq];exact B.lt,(al b ag).trans a6⟩,⟨by rw[aq];exact bS _,by rw[ae];exact bS _,λk _ ab=>al k λe=>ab ((f k).2 (.inr e)),λk _ _=>by rw[hw]⟩,λk ab=>.inl ((f k).2 (.inl ab)),λ_ h=>h.elim⟩
theorem azf(x:(Uu cb b rest).A h ah ao):∃E,aM ak T 10 [.cF cb b] h=j (.inl (.bx []),E)/\en h ah ao E (nR cb b rest []):=by obtain⟨ty,⟨a0,v⟩,f,D,bt,al⟩:=x;refine⟨h.set b (j [.fx::.aC::rest]),?_,λk=>k=b,λ_=>False,⟨Z,⟨ty,bt,.fx,.aC,i7,.inl rfl,.inl ⟨rfl,rfl,rfl⟩⟩,λk=>by simp,λ_ h=>h⟩,⟨bS _,bS _,λk _ ab=>dL λe=>ab ((f k).2 e),λ_ _ _=>rfl⟩,λk ab=>.inl ((f k).2 ab),λ_ h=>h.elim⟩;refine bd azd rfl ?_;unfold ajV;simp only[ap,aw,aA,ar,ct,al]
theorem azg:C1.contains fW=Q:=by kernel_rfl
theorem M3(s:aQ am aL aF h L):∃E b c,aM ak T 6 [] h=j (.inl (.cF fW b),E)/\aQ am aL aF E (su b c pe::L):=by
 obtain⟨F,c,av,aY⟩:=awI s;have bf:=aY.add (X:=k6 gF .aC []) (aK.refl F) Mt (λ_ h=>h.elim) (λ_ h=>h.elim);have bP:=bf.push [[.fx,.aC,.aC,.ptr c.wt 0 0]];refine⟨_,F.n,c,?_,bP.imp λh ah ao x=>?_⟩
 ·refine bd aw0 rfl ?_;unfold ahz;simp only[ap,aw,aA,ar,av]
 ·have db:=cX.app (A:=bm F.n [[.fx,.aC,.aC,.ptr c.wt 0 0]]::k6 gF .aC []::sm c Ee) (B:=L) |>.1 x;refine tf (λh ah ao y=>?_) (λ_ _ _ y=>y) db;exact⟨.aC,tf (λh ah ao z=>⟨azg,(.fx,.aC),z⟩) (λ_ _ _ z=>z) y⟩
theorem azh(x:(su b c K).A h ah ao):∃E,aM ak T 10 [.cF fW b] h=j (.inl (.bx []),E)/\en h ah ao E (kI b c K []):=by obtain⟨il,x⟩:=x;obtain⟨E,e,s⟩:=(aQ.start x).call 0 rfl λah ao x=>azf x;exact⟨E,e,wI s⟩
theorem azi(x:(kI b c K told).A h ah ao):∃E,aM ak T 12 [.cF fW b] h=j (.inl (.str told),E)/\en h ah ao E (su b c K):=by obtain⟨il,s⟩:=zM x;obtain⟨E,e,s⟩:=s.call 0 rfl λah ao x=>aze x;exact⟨E,e,en.imp (λ_ _ _ x=>⟨il,x⟩) s⟩
theorem ajW(s:List UInt8):aM ak T 9 [.str s,.str [10]] h=j (.inl (.bool (nn s)),h):=by unfold aM;rw[anz];rfl
theorem azj(U:hY gF bV (ls.map λx=>[.str x]))(ai:ls.length<=200){d nO Hh v6 ix iK nm mU:I}(K:List RK):∀(r pre:List (List UInt8)) (v4 v5 v11 v12:I),ls=pre++r->(∀s∈r,nn s=R)->∃hk ij ve wD,bu (aM ak T) 17 (.ff BR::.bQ []::.b1 0::K) [d,bV,nO,Hh,v4,v5,v6,dz,bV,.int o (ls.length:Int),.int o (pre.length:Int),v11,v12,ix,iK,nm,mU] [] h=bu (aM ak T) 17 K [d,bV,nO,Hh,hk,ij,v6,dz,bV,.int o (ls.length:Int),ve,.bool R,wD,ix,iK,nm,mU] [] h:=by
 intro r;induction r with
 |nil=>intro pre v4 v5 v11 v12 e aj;have d1:decide ((pre.length:Int)<(ls.length:Int))=R:=decide_eq_false (by rw[e];simp);refine⟨v4,v5,.int o (pre.length:Int),v12,?_⟩;rw[dd BR.eq_1];simp only[ap,aw,aA,ar,cz,d1]
 |cons s r aW=>
   intro pre v4 v5 v11 v12 e aj;have i6:pre.length<ls.length:=by rw[e];simp
   have d1:decide ((pre.length:Int)<(ls.length:Int))=Q:=decide_eq_true (by omega);have ae:(ls.map λx=>[I.str x])[pre.length]? =j [.str s]:=by rw[e];simp
   have bR:=U.bR o pre.length _ ae;have w:=gD (n:=(pre.length:Int)+1) (by omega) (by omega);have dN:((pre++[s]).length:Int)=(pre.length:Int)+1:=by simp
   have kH:=ajW (h:=h) s;rw[aj s (uq ..)]at kH;obtain⟨hk,ij,ve,wD,b0⟩:=aW (pre++[s]) (.int o (pre.length:Int)) (.str s) (.bool Q) (.bool R) (by simp[e]) (λx an=>aj x (qk _ an));refine⟨hk,ij,ve,wD,?_⟩;rw[<-b0,dN]
   conv=>lhs;rw[dd BR.eq_1]
   simp only[ap,aw,aA,ar,ct,cz,d1,bR,kH,w]
theorem azk(U:hY gF bV (ls.map λx=>[.str x]))(ai:ls.length<=200){z:List I}(aE:h.cell q=j [z])(aR:z.length=2){d nO v6 ix iK nm mU:I}(K:List RK):∀(r pre:List (List UInt8)) (v4 v5 v11 v12:I),ls=pre++r->(∃s∈r,nn s=Q)->∃W,∃i:Int,bu (aM ak T) 17 (.ff BR::.bQ []::.b1 0::K) [d,bV,nO,.ptr q 0 0,v4,v5,v6,dz,bV,.int o (ls.length:Int),.int o (pre.length:Int),v11,v12,ix,iK,nm,mU] [] h=j (.ret,d::bV::.str []::.ptr q 0 0::W,h.set q (j [[.int o 13,.int o i]])):=by
 intro r;induction r with
 |nil=>intro pre v4 v5 v11 v12 e aj;obtain⟨s,az,_⟩:=aj;cases az
 |cons s r aW=>
   intro pre v4 v5 v11 v12 e aj;have i6:pre.length<ls.length:=by rw[e];simp
   have d1:decide ((pre.length:Int)<(ls.length:Int))=Q:=decide_eq_true (by omega);have ae:(ls.map λx=>[I.str x])[pre.length]? =j [.str s]:=by rw[e];simp
   have bR:=U.bR o pre.length _ ae;have w:=gD (n:=(pre.length:Int)+1) (by omega) (by omega);have dN:((pre++[s]).length:Int)=(pre.length:Int)+1:=by simp
   have kH:=ajW (h:=h) s
   match z,aR with
   |[cJ,z2],_=>
     cases al:nn s with
     |true=>
       rw[al]at kH;refine⟨[.int o (pre.length:Int),.str s,v6,dz,bV,.int o (ls.length:Int),.int o (pre.length:Int),.bool Q,.bool Q,ix,iK,nm,mU],(pre.length:Int),?_⟩
       conv=>lhs;rw[dd BR.eq_1]
       simp only[ap,aw,aA,ar,ct,cz,d1,bR,kH,aE]
     |false=>
       rw[al]at kH;obtain⟨W,i,b0⟩:=aW (pre++[s]) (.int o (pre.length:Int)) (.str s) (.bool Q) (.bool R) (by simp[e]) (by
        obtain⟨x,an,F⟩:=aj;rcases gW.1 an with rfl|an
        ·rw[al]at F;cases F
        ·exact⟨x,an,F⟩)
       refine⟨W,i,?_⟩;rw[<-b0,dN]
       conv=>lhs;rw[dd BR.eq_1]
       simp only[ap,aw,aA,ar,ct,cz,d1,bR,kH,w]
theorem azl(U:hY gF bV (ls.map λx=>[.str x]))(ai:ls.length<=200)(az:∀s∈ls,s.length<=20000){es:List (List I)}{v1 v2 v3 v4 v5 gM v9 v10 v11 v12:I}(oY:List RK):∀(r pre:List (List UInt8)) (E:ad) (n:Nat) (K:eM) (told:List UInt8) (v6 mU:I),ls=pre++r->pX n K->n+r.length<=200->told.length+200000000*r.length<=900000000000->aQ am aL aF E [bm q es,kI b c K told]->∃eT hZ H4,bu (aM ak T) 17 (.ff Ep::.bQ []::.b1 2::oY) [.cF fW b,v1,v2,v3,v4,v5,v6,dz,gM,v9,v10,v11,v12,bV,.int o (ls.length:Int),.int o (pre.length:Int),mU] [] E=bu (aM ak T) 17 oY [.cF fW b,v1,v2,v3,v4,v5,hZ,dz,gM,v9,v10,v11,v12,bV,.int o (ls.length:Int),H4,.bool R] [] eT/\pX (n+r.length) (K.lines r).1/\(K.lines r).2.length<=200000000*r.length/\aQ am aL aF eT [bm q es,kI b c (K.lines r).1 (told++(K.lines r).2)]:=by
 intro r;induction r with
 |nil=>intro pre E n K told v6 mU e O aq aO s;have d1:decide ((pre.length:Int)<(ls.length:Int))=R:=decide_eq_false (by rw[e];simp);refine⟨E,v6,.int o (pre.length:Int),?_,O,hK _,by show aQ am aL aF E [bm q es,kI b c K (told++[])];rw[me];exact s⟩;rw[dd Ep.eq_1];simp only[ap,aw,aA,ar,cz,d1]
 |cons x r aW=>
   intro pre E n K told v6 mU e O aq aO s;simp only[dw]at aq aO;have i6:pre.length<ls.length:=by rw[e];simp
   have d1:decide ((pre.length:Int)<(ls.length:Int))=Q:=decide_eq_true (by omega);have ae:(ls.map λx=>[I.str x])[pre.length]? =j [.str x]:=by rw[e];simp
   have bR:=U.bR o pre.length _ ae;have w:=gD (n:=(pre.length:Int)+1) (by omega) (by omega);have dN:((pre++[x]).length:Int)=(pre.length:Int)+1:=by simp
   have an:=az x (by rw[e];simp);obtain⟨k,ab,wK⟩:=O.O;obtain⟨J,ax,bf⟩:=s.call 1 rfl λah ao z=>aza z wK (by omega) (by omega) x an;obtain⟨bC,ca⟩:=O.line (by omega) an;obtain⟨af,hZ,H4,gl,dj,dK,bP⟩:=aW (pre++[x]) J (n+1) (K.line x).1 (told++(K.line x).2) (.str x) (.bool Q) (by simp[e]) bC (by omega) (by rw[dy];omega) bf;refine⟨af,hZ,H4,?_,by rw[dw,show n+(r.length+1)=n+1+r.length by omega];exact dj,?_,?_⟩
   ·rw[<-gl,dN]
    conv=>lhs;rw[dd Ep.eq_1]
    simp only[ap,aw,aA,ar,cz,d1,bR,ax,w]
   ·show((K.line x).2++((K.line x).1.lines r).2).length<=_;rw[dy,dw];omega
   ·show aQ am aL aF af [bm q es,kI b c ((K.line x).1.lines r).1 (told++((K.line x).2++((K.line x).1.lines r).2))];rw[<-jA];exact bP
theorem azm(x:(su b c K).A h ah ao)(U:hY gF bV (ls.map λx=>[.str x]))(ai:ls.length<=200)(ag:∃s∈ls,nn s=Q):∃E,∃i:Int,aM ak T 7 [.cF fW b,bV] h=j (.inl (.bx [.str [],.agg [.int o 13,.int o i]]),E)/\en h ah ao E (su b c K):=by have eR:aQ h ah ao h [su b c K]:=aQ.start (cX.one x);have aY:=eR.push [[.int o 0,.int o 0]];obtain⟨W,i,b0⟩:=azk (h:=h.push [[.int o 0,.int o 0]]) (q:=h.n) U ai fU rfl (d:=.cF fW b) (nO:=.str []) (v6:=.aD) (dz:=.bool R) (ix:=.aD) (iK:=.aD) (nm:=.aD) (mU:=.aD) [.bQ [(.ops [aX,b7,dB,(.i .l (.call (.c (.fn 10 [] [])) [(.l 0)]))]),(.ops [(.i (.v 13) xw),(.i (.v 14) (.len R (j 9) (.v 13))),(.i (.v 15) AX)]),(.block 2 [(.loop Ep)]),(.ops [aX,b7,dB,(.i .l (.call (.c (.fn 12 [] [])) [(.l 0)])),xK,(.i (.v 2) tj),xJ]),.ret]] ls [] .aD .aD .aD .aD rfl ag;have bf:=aY.set 0 rfl [[.int o 13,.int o i]];have hlen:=U.len;rw[gG]at hlen;have d1:decide ((ls.length:Int)>200)=R:=decide_eq_false (by omega);refine⟨_,i,?_,ge bf.drop⟩;simp only[ey,mn]at b0;refine bd ahY rfl ?_;unfold TB;simp only[ap,aw,aA,ar,ct,hlen,U.fits,d1];rw[b0];simp only[ap,aw]
theorem azn{n:Nat}(x:(su b c K).A h ah ao)(O:pX n K)(aq:n+ls.length<=200)(az:∀s∈ls,s.length<=20000)(U:hY gF bV (ls.map λx=>[.str x]))(ag:∀s∈ls,nn s=R):∃E,aM ak T 7 [.cF fW b,bV] h=j (.inl (.bx [.str (K.lines ls).2,.agg [.int o 0,.int o 0]]),E)/\pX (n+ls.length) (K.lines ls).1/\(K.lines ls).2.length<=40000000000/\en h ah ao E (su b c (K.lines ls).1):=by have eR:aQ h ah ao h [su b c K]:=aQ.start (cX.one x);have aY:=eR.push [[.int o 0,.int o 0]];have hlen:=U.len;rw[gG]at hlen;have d1:decide ((ls.length:Int)>200)=R:=decide_eq_false (by omega);obtain⟨hk,ij,ve,wD,b0⟩:=azj (h:=h.push [[.int o 0,.int o 0]]) U (by omega) (d:=.cF fW b) (nO:=.str []) (Hh:=.ptr h.n 0 0) (v6:=.aD) (dz:=.bool R) (ix:=.aD) (iK:=.aD) (nm:=.aD) (mU:=.aD) [.bQ [(.ops [aX,b7,dB,(.i .l (.call (.c (.fn 10 [] [])) [(.l 0)]))]),(.ops [(.i (.v 13) xw),(.i (.v 14) (.len R (j 9) (.v 13))),(.i (.v 15) AX)]),(.block 2 [(.loop Ep)]),(.ops [aX,b7,dB,(.i .l (.call (.c (.fn 12 [] [])) [(.l 0)])),xK,(.i (.v 2) tj),xJ]),.ret]] ls [] .aD .aD .aD .aD rfl ag;obtain⟨J,ax,bf⟩:=aY.call 1 rfl λah ao x=>azh x;obtain⟨af,hZ,H4,gl,dj,dK,bP⟩:=azl (am:=h) (q:=h.n) U (by omega) az (v1:=bV) (v2:=.str []) (v3:=.ptr h.n 0 0) (v4:=hk) (v5:=ij) (dz:=.bool R) (gM:=bV) (v9:=.int o (ls.length:Int)) (v10:=ve) (v11:=.bool R) (v12:=wD) [.bQ [(.ops [aX,b7,dB,(.i .l (.call (.c (.fn 12 [] [])) [(.l 0)])),xK,(.i (.v 2) tj),xJ]),.ret]] ls [] J n K [] .aD .aD rfl O aq (by simp;omega) bf;rw[j6]at bP;obtain⟨aB,cq,cj⟩:=bP.call 1 rfl λah ao x=>azi x;have c4:=(cj.cell 0 rfl).1;have cT:=cj.set 0 rfl [[.int o 0,.int o 0]];refine⟨_,?_,dj,by omega,ge cT.drop⟩;simp only[ey,mn]at b0 gl;refine bd ahY rfl ?_;unfold TB;simp only[ap,aw,aA,ar,ct,hlen,U.fits,d1];rw[b0];simp only[ap,ax,hlen,U.fits];rw[gl];simp only[ap,aw,cq,c4]
end
open Go Go.ChangeShapes Go.WideShapes Go.ChangeAt Go.RowKit Go.Deep
section
variable{H:Type}{enc:aU×bH->H}{P:cu}{W:cd}
theorem ajX{e:aU}{n:Nat}:∀{l:List (DataW H)} {d:DataW H},d∈l->n∈d.weights P e->n∈DataW.weightsAll P e l
 |d0::l,d,a1,aq=>by
   unfold DataW.weightsAll;rcases gW.1 a1 with rfl|a1
   ·exact pq.2 (.inl aq)
   ·exact pq.2 (.inr (ajX a1 aq))
theorem azo{t e:aU}(bE:P.underlying t=j (.slice e))(he:P.underlying e=j .string)(al:P.cellsOf e=1){v:bH}{d:DataW H}{p:List MemPlace}{r:Reach}{lf:Nat}(qW:Value.okWide P W r lf t v)(h:DataW.Trod enc P W 0 (λ_=>Q) Q t v d p):∃bV,∃ls:List (List UInt8),fH e bV (ls.map λx=>[.str x])/\(∀s∈ls,s.length∈d.weights P t)/\bF P (AZ W) v' bV v:=by
 obtain⟨a,len,cap,rfl⟩:=okWide_slice bE qW;obtain⟨fuel,bn⟩:=h;rcases DataW.trod_slice bE bn with⟨U,a1⟩|⟨a,len,cap,elems,rest,n,aq,U,a1,ag,ai,hm,hlen,Hi, -, -⟩
 ·obtain⟨rfl,rfl,rfl⟩:a=Z/\len=0/\cap=0:=by simpa[Value.cells]using U
  exact⟨.aC,[],.inl ⟨rfl,rfl⟩,λs az=>(by cases az),.aC⟩
 ·obtain⟨rfl,rfl,rfl⟩:_=j a/\_=len/\_=cap:=by simpa[Value.cells]using U
  have key:∀i,i<len->∃s:ByteArray,W.cell? (a.add i)=j (.string s)/\elems[i]? =j (.lit (.string s.data.toList),[]):=by intro i ae;have F:=Hi i ae;rw[gd (by omega)]at F ⊢;obtain⟨gA,J,af⟩:=dt.1 F;obtain⟨s,rfl,an, -⟩:=DataW.trod_string he af;refine⟨s,?_,by rw[an]⟩;rw[al,Nat.mul_one]at J;have:=(World.cells?_some J).2.2 0 (by omega);simpa[Addr.add]using this
  obtain⟨V,q0⟩:=choose_lt key;refine⟨.bN Z e (((iO len).map λi=>(V i).data.toList).map λx=>[I.str x]),(iO len).map λi=>(V i).data.toList,.inr ⟨Z,rfl⟩,λs az=>?_,?_⟩
  ·obtain⟨i,ae,rfl⟩:=lR.1 az;have F:=(q0 i (j8.1 ae)).2;have J:d= .slice (elems.map (·.1)) (rest.map (·.1)):=congrArg Prod.fst a1;rw[J];simp only[DataW.weights,bE];refine qk _ (pq.2 (.inl (ajX (d:=.lit (.string (V i).data.toList)) ?_ (by simp[DataW.weights]))));exact lR.2 ⟨_,qV F,rfl⟩
  ·by_cases aR:len=0
   ·subst aR;exact .mB e a cap
   ·have aN:a=⟨a.block,a.off,Z⟩:=by have ajY:=World.cell?_spot (q0 0 (by omega)).1;obtain⟨b,O,wY⟩:=a;simp[Addr.add]at ajY;subst ajY;rfl
    have:=bF.bN (P:=P) (m:=AZ W) (h:=v') Z e (((iO len).map λi=>(V i).data.toList).map λx=>[I.str x]) a.block a.off cap (λi D=>.string (V i)) (λr aj=>?_) (λi ae D aa=>?_) (λi ae D aa=>?_) (by simpa using ai) (λq aE=>by cases aE)
    ·rw[<-aN]at this;simpa using this
    ·obtain⟨i,ae,rfl⟩:=lR.1 aj;exact al.symm
    ·simp only[gG,List.length_range]at ae;have F:=(q0 i ae).1;obtain rfl:D=0:=by omega
     rw[aN,nW]at F;rw[al,Nat.mul_one,Nat.add_zero];exact F
    ·simp only[gG,List.length_range]at ae;simp only[List.getElem_map,List.getElem_range,fS]at aa ⊢;obtain rfl:D=0:=by omega
     exact aoO (V i)
end
open Go Go.RowKit
theorem azp:((ak).globals[(3:Nat)]?).map (·.type)=j 167:=by kernel_rfl
theorem azq:(ak).globalNamed ("internal"++tS (Char.ofNat 47)++ "strconv.uint64pow10")=j 3:=by kernel_rfl
theorem ajZ{P:cu}{w:cd}(h:(laid.all λx=>x.2.handleName?.isNone)=Q):laidMetH P laid w=laidMet P laid w:=by
 have e:(laid.filter λx=>x.2.handleName?.isSome)=[]:=by
  rw[List.filter_eq_nil_iff];intro x an az;have:=iC.1 h x an;cases aq:x.2.handleName? with
  |none=>rw[aq]at az;cases az
  |some s=>rw[aq]at this;cases this
 unfold laidMetH;rw[e]
def Uv:String:=tS (Char.ofNat 42)++ "errors.errorString"
def Uw(text:List UInt8):DataW Unit:=.iface Uv (.ptr (.agg [.lit (.string text)]))
def azr:List UInt8:=[105,110,118,97,108,105,100,32,115,121,110,116,97,120]
def azs:List UInt8:=[118,97,108,117,101,32,111,117,116,32,111,102,32,114,97,110,103,101]
theorem aj0:tS (Char.ofNat 42)= "*":=by decide
theorem azt(u:aU)(h:(ak).typeName? 3 u=j Uv):u=200:=by unfold Uv at h;rw[aj0]at h;exact @typeName_ptr_named _ "errors.errorString" _ (by rw[<-aj0];kernel_rfl) (by kernel_rfl) (by decide) u h
theorem aj1{P:cu}{n:String}{cs:Array bH}(h:W.var? P n=j cs)(g:Nat)(a7:P.globalNamed n=j g):g<W.heap.size:=by
 simp only[World.var?,a7,da]at h;have az:(W.heap[g]?).isSome:=by
  cases bz:W.heap[g]? with
  |none=>rw[bz]at h;simp at h
  |some O=>rfl
 obtain⟨O,au⟩:=w0.1 az;exact(Array.getElem?_eq_some_iff.1 au).1
theorem aj2{n:String}{g:Nat}{text:List UInt8}(h:laidMet ak laid W)(bn:(laid.filter λx=>x.1==n)=[(n,Uw text)])(aq:(ak).globalNamed n=j g)(aO:((ak).globals[g]?).map (·.type)=j 73):(∃cZ p,W.var? ak n=j #[.iface cZ p])/\∀k,(ak).globalNamed n=j k->k<W.heap.size:=by have J:=h.filter λx=>x.1==n;rw[bn]at J;obtain⟨a,s,U,_⟩:=laid_sentinel J aq aO Tryz.underlying73 azt Tryz.underlying200 Tryz.underlying202 rfl rfl Tryz.underlying9 (by kernel_rfl) (by kernel_rfl);exact⟨⟨_,_,U⟩,λk ab=>aj1 U k ab⟩
theorem azu(h:laidMetH ak laid W)(hp:(laid.all λx=>x.2.handleName?.isNone)=Q)(bn:(laid.filter λx=>x.1== "internal"++tS (Char.ofNat 47)++ "strconv.uint64pow10")=[("internal"++tS (Char.ofNat 47)++ "strconv.uint64pow10",Lib.tabData .u64 Lib.pow10Tab)])(az:(laid.filter λx=>x.1== "strconv.ErrSyntax")=[("strconv.ErrSyntax",Uw azr)])(aj:(laid.filter λx=>x.1== "strconv.ErrRange")=[("strconv.ErrRange",Uw azs)]):wZ ak W.heap.size W:=by
 rw[ajZ hp]at h;refine⟨λq aE=>?_,λn aq=>?_⟩
 ·have J:=h.filter λx=>x.1== "internal"++tS (Char.ofNat 47)++ "strconv.uint64pow10";rw[bn]at J;rw[Pe]at aE;obtain rfl:=vp.1 aE;have aO:=Lib.tabIs_of_head (rest:=[]) azq azp Tryz.underlying167 Tryz.underlying131 (by kernel_rfl) (by kernel_rfl) J;exact⟨aO,λg a7=>aj1 aO g a7⟩
 ·rw[Z1]at aq;rcases gW.1 aq with rfl|aq
  ·exact aj2 h az (g:=1) (by kernel_rfl) (by kernel_rfl)
  ·obtain rfl:=vp.1 aq;exact aj2 h aj (g:=2) (by kernel_rfl) (by kernel_rfl)
def Im:List (List UInt8):=[[124,102,117,110,32,40,114,101,97,100,32,40,97,114,103,41,41],[108,111,97,100,32,49],[103,114,97,110,116,32,49,32,51,32,114,32,45,49],[99,97,108,108,32,49,32,48,32,48],[118,97,108,117,101,32,49,32,48,32,53],[108,111,103],[104,97,110,100,32,49],[120]]
def Ux:List UInt8:=[121,101,115,32,110,105,108,10,121,101,115,32,35,48,10,121,101,115,32,48,32,50,10,110,111,32,50,10,49,32,114,32,51,32,35,48,10,101,110,100,10,104,97,110,100,32,35,48,10,119,104,97,116,10]
theorem azv:(pe.lines Im).2=Ux:=by kernel_rfl
def kU(K:eM)(ls:List (List UInt8)):eM×List UInt8×Int:=if(ls.all λs=> !nn s)=Q then((K.lines ls).1,(K.lines ls).2,0)else(K,[],13)
theorem M4:pX 0 pe:=⟨⟨0,bS _,awG,avp,fQ,fQ,hK _,λx an=>by cases an⟩,hK _⟩
section
variable{h E am:ad}{ah ao aL aF:Nat->Prop}{L:List b2}{cb b q:Nat}{rest:List I}{l:List UInt8}{c:pS}{K:eM}{told:List UInt8}{bV:I}{ls:List (List UInt8)}
theorem pX.more{n m:Nat}(O:pX n K)(h:n<=m):pX m K:=by obtain⟨k,ab,wK⟩:=O.O;exact⟨⟨k,by omega,wK⟩,by have:=O.t;omega⟩
theorem azw{n:Nat}(x:(su b c K).A h ah ao)(O:pX n K)(aq:n+ls.length<=200)(az:∀s∈ls,s.length<=20000)(U:hY gF bV (ls.map λx=>[.str x])):∃E,∃i:Int,aM ak T 7 [.cF fW b,bV] h=j (.inl (.bx [.str (kU K ls).2.1,.agg [.int o (kU K ls).2.2,.int o i]]),E)/\pX (n+ls.length) (kU K ls).1/\(kU K ls).2.1.length<=40000000000/\en h ah ao E (su b c (kU K ls).1):=by
 unfold kU;by_cases a7:(ls.all λs=> !nn s)=Q
 ·rw[if_pos a7];obtain⟨E,e,r⟩:=azn x O aq az U λs az=>by have:=iC.1 a7 s az;simpa using this
  exact⟨E,0,e,r⟩
 ·rw[if_neg a7];obtain⟨E,i,e,d⟩:=azm x U (by omega) (by
   rw[iC]at a7;refine Classical.byContradiction λaq=>a7 λs az=>?_;cases h:nn s with
   |false=>rfl
   |true=>exact absurd ⟨s,az,h⟩ aq)
  exact⟨E,i,e,O.more (by omega),hK _,d⟩
theorem Io{n:Nat}(s:aQ am aL aF h L)(i:Nat)(ae:L[i]? =j (su b c K))(O:pX n K)(aq:n+ls.length<=200)(az:∀s∈ls,s.length<=20000)(U:hY gF bV (ls.map λx=>[.str x])):∃E,∃h6:Int,aM ak T 7 [.cF fW b,bV] h=j (.inl (.bx [.str (kU K ls).2.1,.agg [.int o (kU K ls).2.2,.int o h6]]),E)/\pX (n+ls.length) (kU K ls).1/\(kU K ls).2.1.length<=40000000000/\aQ am aL aF E (L.set i (su b c (kU K ls).1)):=by
 obtain⟨E,⟨h6,e,e6,b8⟩,eD⟩:=s.call (cn:=λE=>∃h6:Int,aM ak T 7 [.cF fW b,bV] h=j (.inl (.bx [.str (kU K ls).2.1,.agg [.int o (kU K ls).2.2,.int o h6]]),E)/\pX (n+ls.length) (kU K ls).1/\(kU K ls).2.1.length<=40000000000) i ae λah ao x=>by obtain⟨E,i,e,e6,b8,d⟩:=azw x O aq az U;exact⟨E,⟨i,e,e6,b8⟩,d⟩
 exact⟨E,h6,e,e6,b8,eD⟩
theorem azx:(kU pe Im).2=(Ux,0):=by
 have:(Im.all λs=> !nn s)=Q:=by kernel_rfl
 unfold kU;rw[if_pos this,azv]
theorem Ip:aM ak T 4 [] h=j (.inl (.bool Q),h):=by have eR:aQ h (λ_=>False) (λ_=>False) h []:=aQ.start (cX.nil _ _ _ (λ_ h=>h) (λ_ h=>h));obtain⟨F,b,c,av,aY⟩:=M3 eR;obtain⟨J,i,ax,_,_,bf⟩:=Io (aY.hS (aK.fresh F 8)) 0 rfl M4 (by decide) (by decide) (rT (j F.ids) gF (Im.map λx=>[I.str x]));rw[azx]at ax;have bP:=(bf.push [[.int o 0,.int o i]]);have ob:=bP.SC;simp only[Im,gP,kK]at ax;have iz:decide ((0:Int)=0)=Q:=rfl;have azy:decide (Ux=[121,101,115,32,110,105,108,10,121,101,115,32,35,48,10,121,101,115,32,48,32,50,10,110,111,32,50,10,49,32,114,32,51,32,35,48,10,101,110,100,10,104,97,110,100,32,35,48,10,119,104,97,116,10])=Q:=rfl;refine bd aw7 rfl ?_;unfold ahZ;simp only[ap,aw,aA,ar,oo,av,ax,azy];exact e8 ob rfl
theorem azz(U:hY gF bV (ls.map λx=>[.str x]))(ai:ls.length<=200)(az:∀s∈ls,s.length<=9000000000000000)(K:List RK):∀(r pre:List (List UInt8)) (n:Nat) (v4 v5:I),ls=pre++r->n<=12000->(∃V,bu (aM ak T) 6 (.ff f8::.bQ []::.b1 0::K) [bV,.bool R,.int o (n:Int),.int o (pre.length:Int),v4,v5] [] h=j (.ret,bV::.bool Q::V,h))\/∃V,bu (aM ak T) 6 (.ff f8::.bQ []::.b1 0::K) [bV,.bool R,.int o (n:Int),.int o (pre.length:Int),v4,v5] [] h=bu (aM ak T) 6 K (bV::.bool R::V) [] h/\V.length=4/\∀s∈r,s.length<=12000:=by
 intro r;induction r with
 |nil=>intro pre n v4 v5 e aq;have d1:decide ((pre.length:Int)<(ls.length:Int))=R:=decide_eq_false (by rw[e];simp);have hlen:=U.len;rw[gG]at hlen;refine .inr ⟨[.int o (n:Int),.int o (pre.length:Int),.bool R,v5],?_,rfl,λs az=>(by cases az)⟩;rw[dd f8.eq_1];simp only[ap,aw,aA,ar,cz,hlen,U.fits,d1]
 |cons s r aW=>
   intro pre n v4 v5 e aq;have i6:pre.length<ls.length:=by rw[e];simp
   have d1:decide ((pre.length:Int)<(ls.length:Int))=Q:=decide_eq_true (by omega);have ae:(ls.map λx=>[I.str x])[pre.length]? =j [.str s]:=by rw[e];simp
   have bR:=U.bR o pre.length _ ae;have w:=gD (n:=(pre.length:Int)+1) (by omega) (by omega);have dN:((pre++[s]).length:Int)=(pre.length:Int)+1:=by simp
   have hlen:=U.len;rw[gG]at hlen;have gp:=az s (by rw[e];simp);have dS:hq o ((n:Int)+(s.length:Int))=(n:Int)+(s.length:Int):=gD (by omega) (by omega);by_cases a7:n+s.length<=12000
   ·have d2:decide ((n:Int)+(s.length:Int)>12000)=R:=decide_eq_false (by omega);have D5:((n+s.length:Nat):Int)=(n:Int)+(s.length:Int):=by omega
    rcases aW (pre++[s]) (n+s.length) (.bool Q) (.bool R) (by simp[e]) a7 with⟨V,b0⟩|⟨V,b0,q0,aj⟩
    ·refine .inl ⟨V,?_⟩;rw[<-b0,dN,D5]
     conv=>lhs;rw[dd f8.eq_1]
     simp only[ap,aw,aA,ar,cz,hlen,U.fits,d1,bR,dS,d2,w]
    ·refine .inr ⟨V,?_,q0,λx an=>?_⟩
     ·rw[<-b0,dN,D5]
      conv=>lhs;rw[dd f8.eq_1]
      simp only[ap,aw,aA,ar,cz,hlen,U.fits,d1,bR,dS,d2,w]
     ·rcases gW.1 an with rfl|an
      ·omega
      ·exact aj x an
   ·have d2:decide ((n:Int)+(s.length:Int)>12000)=Q:=decide_eq_true (by omega);refine .inl ⟨[.int o ((n:Int)+(s.length:Int)),.int o (pre.length:Int),.bool Q,.bool Q],?_⟩
    conv=>lhs;rw[dd f8.eq_1]
    simp only[ap,aw,aA,ar,cz,hlen,U.fits,d1,bR,dS,d2]
theorem azA(U:hY gF bV (ls.map λx=>[.str x]))(ai:ls.length<=200)(az:∀s∈ls,s.length<=9000000000000000):∃M5,aM ak T 5 [bV] h=j (.inl (.bool M5),h)/\(M5=R->∀s∈ls,s.length<=12000):=by
 rcases azz (h:=h) U ai az [.bQ [xC,.ret]] ls [] 0 .aD .aD rfl (hK _)with⟨V,b0⟩|⟨V,b0,q0,aj⟩
 ·refine⟨Q,?_,λh=>by cases h⟩;simp only[ey,mn]at b0;refine bd ah0 rfl ?_;unfold TD;simp only[ap,aw,aA,ar];rw[b0];simp only[ap]
 ·refine⟨R,?_,λ_=>aj⟩;simp only[ey,mn]at b0
  match V,q0 with
  |[bY,db,e3,f'],_=>refine bd ah0 rfl ?_;unfold TD;simp only[ap,aw,aA,ar];rw[b0];simp only[ap]
end
section
variable{h E am:ad}{ah ao aL aF:Nat->Prop}{L:List b2}{K:eM}{bV:I}{ls:List (List UInt8)}
theorem M6(h:(ls.all λs=> !nn s)=Q):kU K ls=((K.lines ls).1,(K.lines ls).2,0):=by unfold kU;rw[if_pos h]
theorem M7(h:(ls.all λs=> !nn s)=R):kU K ls=(K,[],13):=by unfold kU;rw[if_neg (by rw[h];decide)]
theorem azB(U:fH gF bV (ls.map λx=>[.str x])){k:Nat}(ab:k<=ls.length):∃v,ku bV Z (j (.int o k))=j v/\hY gF v ((ls.take k).map λx=>[.str x]):=by
 rcases U with⟨F,rfl⟩|⟨id,rfl⟩
 ·obtain rfl:ls=[]:=by simpa using F
  obtain rfl:k=0:=by simpa using ab
  exact⟨.aC,rfl,yW gF⟩
 ·refine⟨.bN Z gF ((ls.take k).map λx=>[.str x]),?_,rT Z gF _⟩;simp[ku,p5,qM,gY,oO];omega
theorem azC(U:fH gF bV (ls.map λx=>[.str x])){k:Nat}(ab:k<=ls.length):∃v,ku bV (j (.int o k)) Z=j v/\hY gF v ((ls.drop k).map λx=>[.str x]):=by
 rcases U with⟨F,rfl⟩|⟨id,rfl⟩
 ·obtain rfl:ls=[]:=by simpa using F
  obtain rfl:k=0:=by simpa using ab
  exact⟨.aC,rfl,yW gF⟩
 ·refine⟨.bN Z gF ((ls.drop k).map λx=>[.str x]),?_,rT Z gF _⟩;simp[ku,p5,qM,gY,oO];refine⟨by omega,?_⟩;rw[List.take_of_length_le (by simp)]
theorem azD(U:fH gF bV (ls.map λx=>[.str x]))(az:∀s∈ls,s.length<=9000000000000000)(cut:Int):aM ak T 3 [bV,.int o cut] h=j (.inl (.bool Q),h):=by
 have eR:aQ h (λ_=>False) (λ_=>False) h []:=aQ.start (cX.nil _ _ _ (λ_ h=>h) (λ_ h=>h));have hlen:=U.iH.len;rw[gG]at hlen;have ra:=U.iH.fits;by_cases ai:200<ls.length
 ·have d1:decide ((ls.length:Int)>200)=Q:=decide_eq_true (by omega);refine bd HU rfl ?_;unfold Er;simp only[ap,aw,aA,ar,Ip,hlen,ra,d1]
 have d1:decide ((ls.length:Int)>200)=R:=decide_eq_false (by omega);obtain⟨M5,fB,azE⟩:=azA (h:=h) U.iH (by omega) az;cases M5 with
 |true=>refine bd HU rfl ?_;unfold Er;simp only[ap,aw,aA,ar,Ip,hlen,ra,d1,fB]
 |false=>
   have zU:∀s∈ls,s.length<=20000:=λs h=>by have:=azE rfl s h;omega
   obtain⟨k,ab,dN⟩:∃k:Nat,k<=ls.length/\hq o ((hq .u64 cut).tmod ((ls.length:Int)+1))=(k:Int):=by
    have F:0<=hq .u64 cut:=by rw[IntKind.wrap_u64];omega
    have J:0<=(hq .u64 cut).tmod ((ls.length:Int)+1):=Int.tmod_nonneg _ F;have af:(hq .u64 cut).tmod ((ls.length:Int)+1)<(ls.length:Int)+1:=Int.tmod_lt_of_pos _ (by omega);refine⟨((hq .u64 cut).tmod ((ls.length:Int)+1)).toNat,by omega,?_⟩;rw[gD (by omega) (by omega)];omega
   have cg:hq o ((ls.length:Int)+1)=(ls.length:Int)+1:=gD (by omega) (by omega);have dS:hq .u64 ((ls.length:Int)+1)=(ls.length:Int)+1:=by rw[IntKind.wrap_u64];omega
   have DS:(((ls.length:Int)+1)=0)=False:=by simp only[eq_iff_iff,iff_false];omega
   obtain⟨lt,st,azF⟩:=azB U ab;obtain⟨ja,Uy,azG⟩:=azC U ab;have aBx:(ls.take k).length=k:=by rw[List.length_take];omega
   have aBy:(ls.drop k).length=ls.length - k:=sK;obtain⟨F,dk,a6,av,aY⟩:=M3 eR;obtain⟨J,dH,c2,ax,bf⟩:=M3 aY;obtain⟨af,i3,bs,dj,dK,bP⟩:=Io (bV:=lt) (ls:=ls.take k) bf 1 rfl M4 (by omega) (λs h=>zU s (List.mem_of_mem_take h)) azF;have DT:=bP.push [[.int o (kU pe (ls.take k)).2.2,.int o i3]];obtain⟨aB,i4,cq,eQ,kM,cj⟩:=Io (bV:=bV) (ls:=ls) DT 1 rfl M4 (by omega) zU U.iH;have Hc:=cj.push [[.int o (kU pe ls).2.2,.int o i4]];obtain⟨bw,i5,eX,jj,jN,cT⟩:=Io (bV:=ja) (ls:=ls.drop k) Hc 3 rfl dj (by omega) (λs h=>zU s (List.mem_of_mem_drop h)) azG;have qt:=cT.push [[.int o (kU (kU pe (ls.take k)).1 (ls.drop k)).2.2,.int o i5]];obtain⟨cc,Hl,fp,jG,eo⟩:=M3 qt;obtain⟨cQ,azH,kS,pC,uP,jb⟩:=Io (bV:=bV) (ls:=ls) eo 0 rfl M4 (by omega) zU U.iH;have zE:=jb.push [[.int o (kU pe ls).2.2,.int o azH]];have n9:=(qt.cell 0 rfl).1;have hF:=(qt.cell 1 rfl).1;have km:=(qt.cell 2 rfl).1;have z5:=(zE.cell 2 rfl).1;have z3:=(zE.cell 4 rfl).1;have p4:=qt.SC;have Bz:=zE.SC;clear eR aY bf bP DT cj Hc cT qt eo jb zE;have split:(ls.all λs=> !nn s)=(((ls.take k).all λs=> !nn s)&&((ls.drop k).all λs=> !nn s)):=by rw[<-List.all_append,List.take_append_drop]
   have gv:decide ((13:Int)=0)=R:=rfl;have z0:decide ((0:Int)=0)=Q:=rfl;cases e7:(ls.take k).all λs=> !nn s with
   |false=>
     have sF:(ls.all λs=> !nn s)=R:=by rw[split,e7];rfl
     simp only[M7 e7,M7 sF]at*;refine bd HU rfl ?_;unfold Er;simp only[ap,aw,aA,ar,Ip,hlen,ra,d1,fB,cg,dS,DS,dN,av,ax,st,bs,cq,Uy,eX,hF,km,gv];exact e8 p4 rfl
   |true=>
     cases DP:(ls.drop k).all λs=> !nn s with
     |false=>
       have sF:(ls.all λs=> !nn s)=R:=by rw[split,e7,DP];rfl
       simp only[M6 e7,M7 DP,M7 sF]at*;refine bd HU rfl ?_;unfold Er;simp only[ap,aw,aA,ar,Ip,hlen,ra,d1,fB,cg,dS,DS,dN,av,ax,st,bs,cq,Uy,eX,n9,hF,km,gv,z0];exact e8 p4 rfl
     |true=>
       have sF:(ls.all λs=> !nn s)=Q:=by rw[split,e7,DP];rfl
       have app:=agv (ls.take k) (ls.drop k) pe;rw[List.take_append_drop]at app;have azI:(pe.lines (ls.take k)).2++((pe.lines (ls.take k)).1.lines (ls.drop k)).2=(pe.lines ls).2:=by rw[app]
       simp only[M6 e7,M6 DP,M6 sF]at*;have Um:dC .str .add (.str (pe.lines (ls.take k)).2) (.str ((pe.lines (ls.take k)).1.lines (ls.drop k)).2)=j (.str (pe.lines ls).2):=qA azI (by omega);have aBz:decide ((pe.lines ls).2=(pe.lines ls).2)=Q:=decide_eq_true rfl;refine bd HU rfl ?_;unfold Er;simp only[ap,aw,aA,ar,Ip,hlen,ra,d1,fB,cg,dS,DS,dN,av,ax,st,bs,cq,Uy,eX,jG,kS,n9,hF,km,z5,z3,z0,Um];exact e8 Bz rfl
end
theorem azJ(cut:Int)(W:cd){Uz:bH}{cL:List Nat}{bV:I}{ls:List (List UInt8)}(aP:fH gF bV (ls.map λx=>[.str x]))(a2:∀s∈ls,s.length∈cL)(u0:bF ak (AZ W) v' bV Uz)(aj:∀n∈cL,n<=reachBytes)(_:bL cut)(a7:wZ ak W.heap.size W):Wz ak 3 #[Uz,.int o cut] W:=aoM (bl:=[Uz,.int o cut]) (azD aP (λs az=>by have:=aj _ (a2 s az);have:=reachBytes_lt;omega) cut) (dV.cons u0 (dV.cons (aoN cut) dV.nil)) a7
end Go.Proofs.YtaodiaofbeblbaaGreatDoor
