/- Run does what is said. -/
import Derived.Test.YtkdbjfncchmmpaaMg5
set_option linter.unusedSimpArgs false
set_option linter.unusedVariables false
set_option maxHeartbeats 4000000
set_option maxRecDepth 1000000
open Option renaming some→j,none→ab,bind_some→c7,map_some→hj,getD_some→pf
open List renaming replicate→ax,getElem?_eq_getElem→fz,getElem?_eq_some_iff→gg,length_append→eP,length_singleton→gp,getD→cK,length_cons→gT,length_nil→gK,getElem_mem→h2,all_eq_true→iR,length_map→iX,append_assoc→kv,getElem?_append_left→mJ,getElem?_eq_none→lU,map_cons→jU,length_set→kK,nil_append→k5,cons_append→l0,length_eq_zero_iff→p4,mem_of_getElem?→p6,mem_map→n0,getD_cons_zero→rB,append_nil→q9,getElem?_set→sv,map_nil→qQ,getElem?_set_ne→s'
open Go.IntKind renaming i64→o,wrap→jN
open Nat renaming reduceAdd→aD,reduceSub→aO,le_refl→bV,reduceLeDiff→dI,zero_add→hk,le_of_eq→pg
open Go.Proofs.Try renaming prog→ar
open Bool renaming false→T,true→Q,and_eq_true→gS,and_true→r9
open Go renaming TypeId→aT,Value→bK,World→cQ,IntKind→jC
open Option.some renaming inj→nW
open Int renaming toNat_natCast→n9,natCast_zero→oU
open Classical renaming not_not→la
open SizeOf renaming sizeOf→lB
open Ne renaming symm→kw
open Iff renaming rfl→mY
namespace Go.Proofs.Ytkdbjfncchmmpaa
variable{f:Int}{w:ak}{es:List (List I)}{dy fF g' v10 iv iw hY hO hP v20 gQ g2 g3 ix:I}
open Go Go.RowKit
section
variable{h J ae:ad}{ag ap aH aA:Nat->Prop}{L:List cd}{az b6 ca:Nat}{ms:dz}{S:bp}{p f fuel:Int}{v:ak}{r:List I}
theorem akg{a' a5:Nat}{left:Int}{top:hH}{a:List I}{g:I}(aM:b1 top.arg a)(aX:fE 3 g (jY top.ec))(av:top.stack=[])(au:top.names=[])(x:(c4 (a9 a' [[.ptr az 0 0,.bd a5 0 1 eM,.int o left]]::a9 a5 [fP top a .aF .aF g]::L)).A h ag ap):(c4 (hV a' az a5 left [] top::L)).A h ag ap:=by refine tu (λh ag ap x=>?_) (λ_ _ _ y=>y) (J8 x);obtain⟨eQ,eR,dQ,dT,b2,ds,r⟩:=x;refine⟨⟨[],fP top a .aF .aF g,[]⟩,eQ,eR,dQ,dT,b2,⟨dQ,dT,λ_=>False,λ_=>False,ds,⟨λ_=>False,λ_=>False,λ_=>False,λ_=>False,Tv aM aX av au,⟨trivial,λ_ h=>h,λ_ h=>h⟩,λk=>by simp,λD=>by simp,λ_ h=>h.elim,λ_ h=>h.elim⟩,λk=>by simp,λD=>by simp,λ_ _ h=>h,λ_ _ h=>h⟩,r⟩
abbrev wA(p f:Int)(v:ak):hH:=⟨p,f,0,v,[],[],T,[]⟩
abbrev vd(h:ad)(az:Nat)(r:List I)(fuel:Int):ad:=((jt h r fuel).push [[.ptr az 0 0,.aF,.int o fuel]]).push [[.ptr (h.n+1+1+1+1+1) 0 0]]
abbrev yg(h:ad):Nat:=h.n+1+1+1+1+1+1+1
abbrev z1(h:ad)(az:Nat)(p f:Int)(v:ak)(r bQ:List I)(fuel:Int):ad:=((vd h az r fuel).push [fP (wA p f v) bQ .aF .aF .aF]).set (h.n+1+1+1+1+1) (j [[.ptr az 0 0,.bd (yg h) 0 1 eM,.int o fuel]])
theorem akh(a4:aQ ae aH aA (jt h r fuel) (kl h.n 0 0 bt fuel r L)):bo oq 18 [.bO EB,.halt [.code va]] (rJ az h.n p f r fuel (.int o 0) (.bool T) (.bool T) (.bool T)) [] (jt h r fuel)=j (.halt [.code va],tO az h.n p f r fuel .aP .aP .aP,vd h az r fuel):=by have du:=(a4.cell 3 rfl).1;have fk:((((jt h r fuel).push [[.ptr az 0 0,.aF,.int o fuel]]).push [[.gd]]).cell (h.n+1+1+1+1+1+1))=j [[.gd]]:=kd (h:=(jt h r fuel).push [[.ptr az 0 0,.aF,.int o fuel]]);have hW:∀x,(((jt h r fuel).push [[.ptr az 0 0,.aF,.int o fuel]]).push [[.gd]]).set (h.n+1+1+1+1+1+1) (j x)=((jt h r fuel).push [[.ptr az 0 0,.aF,.int o fuel]]).push x:=λx=>vN (h:=(jt h r fuel).push [[.ptr az 0 0,.aF,.int o fuel]]);unfold EB;simp only[ay,aD,dI,du,fk,hW]
theorem U6(a4:aQ ae aH aA (jt h r fuel) (kl h.n 0 0 bt fuel r L)):aQ ae aH aA (vd h az r fuel) (a9 (h.n+1+1+1+1+1+1) [[.ptr (h.n+1+1+1+1+1) 0 0]]::a9 (h.n+1+1+1+1+1) [[.ptr az 0 0,.aF,.int o fuel]]::kl h.n 0 0 bt fuel r L):=(a4.push _).push _
theorem aki(a4:aQ ae aH aA (jt h r fuel) (kl h.n 0 0 bt fuel r L))(R:b1 v r)(e6:v.size<=100000):∃bQ,b1 v bQ/\bo oq 18 [.bO EC,.halt [.code o6]] (tO az h.n p f r fuel .aP .aP .aP) [] (vd h az r fuel)=j (.halt [.code o6],tO az h.n p f r fuel .aP .aP .aP,z1 h az p f v r bQ fuel):=by
 obtain⟨bQ,aq,hd⟩:=UA _ v (bV _) e6 r (vd h az r fuel) R;have hd:b1 v bQ:=by rw[id_eq]at hd;exact hd
 refine⟨bQ,hd,?_⟩;obtain⟨bG,bD⟩:=R.cZ;obtain⟨dE,fl⟩:=hd.cZ;have jS:aQ ae aH aA (vd h az r fuel) (a9 (h.n+1+1+1+1+1+1) [[.ptr (h.n+1+1+1+1+1) 0 0]]::a9 (h.n+1+1+1+1+1) [[.ptr az 0 0,.aF,.int o fuel]]::kl h.n 0 0 bt fuel r L):=U6 a4;have hr:=(jS.cell 0 rfl).1;have hW:=(jS.cell 6 rfl).1;have j1:=jS.push [fP (wA p f v) bQ .aF .aF .aF];have d0:=(j1.cell 1 rfl).1;have d1:=(j1.cell 2 rfl).1;have f1:cf 1 (.ptr (h.n+1+1+1+1+1) 0 0)=j (.ptr (h.n+1+1+1+1+1) 0 1):=rfl;obtain⟨T8,fT,jf,rfl⟩:∃a b c,bQ=[a,b,c]:=by match bQ,dE with|[a,b,c],_=>exact⟨a,b,c,rfl⟩
 simp only[List.all_cons,List.all_nil,r9,gS]at fl;obtain⟨ho,nt,q6⟩:=fl;have akj:(vd h az r fuel).n=yg h:=rfl;unfold z1;generalize vd h az r fuel=an at*;simp only[fP,oU,l0,k5]at d0 d1 ⊢;unfold EC;simp only[ay,aD,ax,dI,ct,hr,hW,bG,aq,d0,d1,f1,ho,nt,q6,akj]
abbrev qz(h:ad):Nat:=h.n+1+1+1+1+1
abbrev GJ(h:ad)(az b6 ca:Nat)(ms:dz)(S:bp)(p f:Int)(v:ak):List cd:=[hV (qz h) az (yg h) (S.left:Int) [] (wA p f v),gZ az b6 ca ms S.kept,hM b6 S.G,gY ca S.cells S.log]
theorem akk{bQ:List I}(a4:aQ ae aH aA (jt h r fuel) (kl h.n 0 0 bt fuel r [gZ az b6 ca ms S.kept,hM b6 S.G,gY ca S.cells S.log]))(hd:b1 v bQ)(bc:(S.left:Int)=fuel):aQ ae aH aA (z1 h az p f v r bQ fuel) (qy h.n (qz h) 0 0 bt fuel r (GJ h az b6 ca ms S p f v)):=by have jS:aQ ae aH aA (vd h az r fuel) (a9 (h.n+1+1+1+1+1+1) [[.ptr (h.n+1+1+1+1+1) 0 0]]::a9 (h.n+1+1+1+1+1) [[.ptr az 0 0,.aF,.int o fuel]]::kl h.n 0 0 bt fuel r [gZ az b6 ca ms S.kept,hM b6 S.G,gY ca S.cells S.log]):=U6 a4;have j1:=jS.push [fP (wA p f v) bQ .aF .aF .aF];have kX:=j1.set 2 rfl [[.ptr az 0 0,.bd (yg h) 0 1 eM,.int o fuel]];have CB:=kX.front 2 rfl;have u9:aQ ae aH aA (z1 h az p f v r bQ fuel) (hV (qz h) az (yg h) (S.left:Int) [] (wA p f v)::([a9 (h.n+1+1+1+1+1+1) [[.ptr (qz h) 0 0]],a9 (h.n+1+1+1+1) [[.int o 0]],a9 (h.n+1+1+1) [[.int o 0]],a9 (h.n+1+1) [bt],a9 (h.n+1) [[.int o fuel]],a9 h.n [r]]++[gZ az b6 ca ms S.kept,hM b6 S.G,gY ca S.cells S.log])):=CB.imp λ_ _ _ x=>akg (top:=wA p f v) hd (.inl ⟨rfl,rfl⟩) rfl rfl (by rw[bc];exact x);exact u9.imp λ_ _ _=>aQ.perm List.perm_middle.symm
theorem akl(R:b1 v r)(e6:v.size<=100000)(x:(c4 [gZ az b6 ca ms S.kept,hM b6 S.G,gY ca S.cells S.log]).A h ag ap)(aw:ms.length=4)(aX:vR ms)(hm:uH ms)(cl:S.Good)(CI:S.log.length<=900000)(ah:¬(fuel<0\/2000<fuel\/p<0\/4<=p))(au:¬((ms.getD p.toNat ab).isNone\/f<0\/((hG ms p).length:Int)<=f))(aj:v.code=0):GH ag ap az b6 ca ms S h (pM az p f r fuel) (match dL ms fuel.toNat p (fp ms p f) v [] 1 {S with left:=fuel.toNat}with
  |(bx,w,c)=>({bx with left:=S.left},if c=0 then w else bE,fuel - (bx.left:Int),c)):=by
 have a4:aQ h ag ap (jt h r fuel) (kl h.n 0 0 bt fuel r [gZ az b6 ca ms S.kept,hM b6 S.G,gY ca S.cells S.log]):=CH (aQ.start x);have nA:=U3 (p:=p) (f:=f) a4 aw cl ah au;have qa:=U5 (az:=az) (p:=p) (f:=f) a4 R;rw[if_pos aj]at qa;have bT:=akh (az:=az) (p:=p) (f:=f) a4;obtain⟨bQ,hd,U7⟩:=aki (az:=az) (p:=p) (f:=f) a4 R e6;have IA:((fuel.toNat:Nat):Int)=fuel:=Int.toNat_of_nonneg (by omega);have j1:aQ h ag ap (z1 h az p f v r bQ fuel) (qy h.n (qz h) 0 0 bt fuel r (GJ h az b6 ca ms {S with left:=fuel.toNat} p f v)):=akk (S:={S with left:=fuel.toNat}) a4 hd IA;have ed:=GI (az:=az) (p:=p) (f:=f) (fuel:=fuel) (h:=h) R;have gJ:=ed.next (aI:=18) cX GC (l5 sK) GD GF nA;have jy:=gJ.next (aI:=18) cX UK (l5 sK) UL UN qa;have q8:=jy.next (aI:=18) cX ajK (l5 sK) ajO ajR bT;have ur:=q8.next (aI:=18) cX ajL (l5 sK) ajP ajS U7;have cY:∀q,GG (pM az p f r fuel) h (bo oq 18 [.bO Bg,.halt []] (tO az h.n p f r fuel .aP .aP .aP) [] (z1 h az p f v r bQ fuel))=j q->zZ (pM az p f r fuel) h=j q:=λq aG=>by unfold zZ;rw[CG R];simp only[vc];rw[nA];simp only;rw[qa];simp only;rw[bT];simp only;rw[U7];simp only;exact aG
 have GK:({S with left:=fuel.toNat}:bp).Good:=⟨cl.wf,cl.cells,cl.kept,cl.rj⟩;have xn:0<=p:=by omega
 have x9:(ms.getD p.toNat ab).isSome=Q:=by
  cases hm:ms.getD p.toNat ab with
  |none=>rw[hm]at au;exact absurd (.inl rfl) au
  |some l=>rfl
 have akm:0<=f:=by
  rcases Int.lt_or_le f 0 with h|h
  ·exact absurd (.inr (.inl h)) au
  ·exact h
 have rx:f.toNat<(hG ms p).length:=by
  rcases Int.lt_or_le f ((hG ms p).length:Int)with h|h
  ·omega
  ·exact absurd (.inr (.inr h)) au
 have runs:=ajV aX (p:=p) (f:=f) (v:=v) (N:=fuel.toNat) GK (by unfold bp.a2;simp only;omega) (by simp only;omega) aj xn x9 akm rx (bV _);have kk:=rk ms fuel.toNat p (fp ms p f) v [] 1 _ GK aj (by simp);have hle:=ze ms fuel.toNat p (fp ms p f) v [] 1 {S with left:=fuel.toNat};generalize dL ms fuel.toNat p (fp ms p f) v [] 1 {S with left:=fuel.toNat}=akn at runs kk hle ⊢;obtain⟨bx,w,c⟩:=akn;simp only at runs kk hle ⊢;have al:∀V J,bo oq 18 [.bO Bg,.halt []] V [] J=bo oq 18 [.fI zk,.bO [],.cb 1,.bO [],.halt []] V [] J:=λV J=>by unfold Bg;rw[O2,O3]
 rw[al]at cY;have Eu:∃nB,(ar).funcs[(pL:Nat)]? =j nB/\(nB.body.isNone=T/\(nB.name== "runtime.NumGoroutine")=T):=⟨_,Md,by kernel_rfl,by kernel_rfl⟩;have ne:∀{a b:Nat},a<b->¬(b=a):=λh e=>by omega
 by_cases aN:c=0
 ·subst aN;rw[if_neg (by simp)]at runs;obtain⟨e,fB,af,bm,⟨b2,fT,e8,rfl⟩,rfl,gq,bM,lr,kX⟩:=UW (c:=⟨qz h,az,b6,ca,ms⟩) (L:=GJ h az b6 ca ms {S with left:=fuel.toNat} p f v) (b:=h.n) (p:=p) (f:=f) (r:=r) (fuel:=fuel) (show 3<4 by decide) aw hm (by omega) runs ⟨by omega,by have:=(xo (kk.1.val rfl)).1;simp only at this;omega⟩ ⟨yg h,{S with left:=fuel.toNat},[],wA p f v⟩ _ .aP .aP .aP rfl j1;have jW:=Mj (V:=tO az h.n p f r fuel b2 fT e8) rfl rfl rfl (kX.cell 3 rfl).1 lr.cZ.1 (kX.cell 2 rfl).1 (kX.cell 1 rfl).1;refine⟨_,cY _ ?_,PA (aI:=18) (ij:=[9,14,10,11,12]) (rm:=[6,11,7,8,9]) cX ur zY Eu (by decide) rfl (by decide) UR (l5 sK) UM UO ((al _ _).trans bm) US (.ret λm w f' hw vJ=>ajW hw vJ) CE jW,bM,af,rfl,lr,?_⟩
  ·rw[bm];simp only[GG,wz];rw[jW];rfl
  ·exact kX.drop.drop.drop.drop.drop.drop.drop
 ·rw[if_pos aN]at runs;obtain⟨e,fB,af,bm,⟨b2,fT,e8,rfl⟩,rfl,bS,q2,kX⟩:=UW (c:=⟨qz h,az,b6,ca,ms⟩) (L:=GJ h az b6 ca ms {S with left:=fuel.toNat} p f v) (b:=h.n) (p:=p) (f:=f) (r:=r) (fuel:=fuel) (show 3<4 by decide) aw hm (by omega) runs (show bx.left<=2000 by omega) ⟨yg h,{S with left:=fuel.toNat},[],wA p f v⟩ _ .aP .aP .aP rfl j1;subst q2;have kX:aQ h ag ap af (qy h.n (qz h) 0 0 bt fuel r [hV (qz h) az bS.a5 (bS.S.left:Int) bS.below bS.top,gZ az b6 ca ms bS.S.kept,hM b6 bS.S.G,gY ca bS.S.cells bS.S.log]):=kX;have ia:=(kX.cell 0 rfl).1;have dc:=(kX.cell 1 rfl).1;have dr:=(kX.cell 2 rfl).1;have g6:=(kX.cell 3 rfl).1;have fA:=(kX.cell 4 rfl).1;obtain⟨hs,dv,aI,g,ba⟩:=nK kX 6 rfl;have CB:aQ h ag ap _ (qy h.n (qz h) 0 0 bt fuel r _):=kX.set 3 rfl [bt];have u9:aQ h ag ap _ (qy h.n (qz h) 0 (fuel - (bS.S.left:Int)) bt fuel r _):=CB.set 2 rfl [[.int o (fuel - (bS.S.left:Int))]];have GL:aQ h ag ap _ (qy h.n (qz h) c (fuel - (bS.S.left:Int)) bt fuel r [hV (qz h) az bS.a5 (bS.S.left:Int) bS.below bS.top,gZ az b6 ca ms bS.S.kept,hM b6 bS.S.G,gY ca bS.S.cells bS.S.log]):=u9.set 1 rfl [[.int o c]];have jW:=Mj (V:=tO az h.n p f r fuel b2 fT e8) rfl rfl rfl (GL.cell 3 rfl).1 rfl (GL.cell 2 rfl).1 (GL.cell 1 rfl).1;refine⟨_,cY _ ?_,PA (aI:=18) (ij:=[9,14,10,11,12]) (rm:=[6,11,7,8,9]) cX ur zY Eu (by decide) rfl (by decide) UR (l5 sK) UM UO ((al _ _).trans bm) US (.panic _ λm w f' u hw vJ bH=>ajY hw vJ bH fA ia ba.m g6 rfl dr dc (ne (by omega)) (ne (by omega)) (ne (by omega)) (ht (by omega) (by omega))) CE jW,bt,((af.set (h.n+1+1) (j [bt])).set (h.n+1+1+1) (j [[.int o (fuel - (bS.S.left:Int))]])).set (h.n+1+1+1+1) (j [[.int o c]]),rfl,?_,?_⟩
  ·rw[bm];simp only[GG,ba.m,wz];rw[jW];rfl
  ·simp only;rw[if_neg aN];exact pG
  ·exact GL.drop.drop.drop.drop.drop.drop.drop
theorem U8(R:b1 v r)(e6:v.size<=100000)(x:(c4 [gZ az b6 ca ms S.kept,hM b6 S.G,gY ca S.cells S.log]).A h ag ap)(aw:ms.length=4)(aX:vR ms)(hm:uH ms)(cl:S.Good)(CI:S.log.length<=900000):GH ag ap az b6 ca ms S h (pM az p f r fuel) (fu ms p f v fuel S):=by
 unfold fu;by_cases F:fuel<0\/2000<fuel\/p<0\/4<=p
 ·rw[if_pos F];exact ake R x F
 rw[if_neg F];by_cases O:(ms.getD p.toNat ab).isNone\/f<0\/((hG ms p).length:Int)<=f
 ·rw[if_pos O];exact akf R x aw cl F O
 rw[if_neg O];by_cases af:v.code=0
 ·rw[if_neg (λe=>e af)];exact akl R e6 x aw aX hm cl CI F O af
 ·rw[if_pos af];have a4:aQ h ag ap (jt h r fuel) (kl h.n 0 0 bt fuel r [gZ az b6 ca ms S.kept,hM b6 S.G,gY ca S.cells S.log]):=CH (aQ.start x);have nA:=U3 (p:=p) (f:=f) a4 aw cl F O;have qa:=U5 (az:=az) (p:=p) (f:=f) a4 R;rw[if_neg af]at qa;have ed:=GI (az:=az) (p:=p) (f:=f) (fuel:=fuel) (h:=h) R;have gJ:=ed.next (aI:=18) cX GC (l5 sK) GD GF nA;refine⟨_,?_,(gJ.next (aI:=18) cX UK (l5 sK) UL UN qa).ret zY CE (z0 rfl rfl rfl (aQ.start x) v.code),Mk x v.code⟩;unfold zZ;rw[CG R];simp only[vc];rw[nA];simp only;rw[qa];simp only[wz];rw[z0 rfl rfl rfl (aQ.start x) v.code];rfl
theorem ako(R:b1 v r)(e6:v.size<=100000)(x:(c4 [gZ az b6 ca ms S.kept,hM b6 S.G,gY ca S.cells S.log]).A h ag ap)(aw:ms.length=4)(aX:vR ms)(hm:uH ms)(cl:S.Good)(CI:S.log.length<=900000):∃J,(∃bM,a3 ar W iG (pM az p f r fuel) h=j (.inl (.bW [.agg bM,.int o (fu ms p f v fuel S).2.2.1,.int o (fu ms p f v fuel S).2.2.2]),J)/\b1 (fu ms p f v fuel S).2.1 bM)/\gx h ag ap J (c4 [gZ az b6 ca ms (fu ms p f v fuel S).1.kept,hM b6 (fu ms p f v fuel S).1.G,gY ca (fu ms p f v fuel S).1.cells (fu ms p f v fuel S).1.log]):=by
 obtain⟨q,aG,ac,_⟩:=U8 (p:=p) (f:=f) (fuel:=fuel) R e6 x aw aX hm cl CI;have dk:I' (pM az p f r fuel) h q:=by intro dQ dT anv anw anx Ml ld gJ f2 anz cW bQ pF hd akp akq mK JO akr wW ds;injection pF with ao pF;injection pF with aq pF;injection pF with bm pF;injection pF with ck pF;injection pF with eB pF;injection ao with ao;injection aq with _ aq;injection bm with _ bm;injection ck with ck;injection eB with _ eB;subst ao aq bm ck eB;obtain⟨bL,rc,_,bM,J,ed,gJ,jy⟩:=U8 (p:=p) (f:=f) (fuel:=fuel) hd akp ds akq mK JO akr wW;rw[aG]at rc;injection rc with rc;exact⟨bM,J,rc.trans ed,gJ,jy⟩
 have H:∃q,AC ar iG (pM az p f r fuel) h q/\I' (pM az p f r fuel) h q:=⟨q,ac,dk⟩;obtain⟨bM,J,e,lr,d⟩:=(Classical.choose_spec H).2 ag ap az b6 ca ms S p f fuel v r rfl R e6 aw aX hm cl CI x;refine⟨J,⟨bM,?_,lr⟩,d⟩;unfold a3;rw[acT];show A7 _ _=_;unfold A7;rw[dif_pos H,e]
end
section
variable{h J ae:ad}{ag ap aH aA:Nat->Prop}{L A B:List cd}{X Y cq:cd}
theorem aks(y:Y.A h ag ap):(hv (uD True) Y).A h ag ap:=⟨λ_=>False,λ_=>False,ag,ap,⟨trivial,λ_ h=>h,λ_ h=>h⟩,y,λk=>by simp,λD=>by simp,λ_ h=>h.elim,λ_ h=>h.elim⟩
theorem akt(x:(hv (uD True) Y).A h ag ap):Y.A h ag ap:=by
 obtain⟨eQ,eR,dQ,dT,⟨_,a,b⟩,y,cR,fD,_,_⟩:=x;have ao:ag=dQ:=by funext k;exact propext ⟨λh=>((cR k).1 h).resolve_left (a k),λh=>(cR k).2 (.inr h)⟩
 have aq:ap=dT:=by funext k;exact propext ⟨λh=>((fD k).1 h).resolve_left (b k),λh=>(fD k).2 (.inr h)⟩
 rw[ao,aq];exact y
theorem c4.app:∀{A B:List cd} {h:ad} {ag ap:Nat->Prop},(c4 (A++B)).A h ag ap↔(hv (c4 A) (c4 B)).A h ag ap
 |[],B,h,ag,ap=>⟨aks,akt⟩
 |X::A,B,h,ag,ap=>⟨λx=>J8 (tu (λ_ _ _ y=>y) (λ_ _ _ y=>c4.app.1 y) x),λx=>tu (λ_ _ _ y=>y) (λ_ _ _ y=>c4.app.2 y) (Bx x)⟩
theorem aQ.GM{M u2:List cd}{dG:ad->Prop}(s:aQ ae aH aA h (A++M++B))(c:∀ag ap,(c4 M).A h ag ap->∃J,dG J/\gx h ag ap J (c4 u2)):∃J,dG J/\aQ ae aH aA J (A++u2++B):=by
 have p:∀M:List cd,List.Perm (A++M++B) (M++(A++B)):=λM=>by have:=(List.perm_append_comm (l₁:=A) (l₂:=M)).append_right B;simpa[kv]using this
 obtain⟨ag,ap,x,kb,a,b⟩:=s;have ds:=c4.app.1 (aQ.perm (p M) x);obtain⟨J,r,d⟩:=QP ds c;exact⟨J,r,gx.chain kb a b (d.imp λ_ _ _ y=>aQ.perm (p u2).symm (c4.app.2 y))⟩
end
theorem U9:∀{ms:dz} {kept:List ak} {aZ:List (List I)} {p:Nat} {M:List bk} {v:ak} {r:List I},eF kept aZ->ms.length=kept.length->p<ms.length->b1 v r->∃oZ,eF (kept.set p v) oZ/\dt (l3 ms aZ) (p*5) (.bool Q::kE M::r)=l3 (ms.set p (j M)) oZ
 |[],kept,aZ,p,_,_,_,_,_,aB,_=>by simp at aB
 |m::ms,[],aZ,p,_,_,_,_,al,_,_=>by simp at al
 |m::ms,k::kept,aZ,p,M,v,r,h,al,aB,R=>by
   obtain⟨gv,rs,rfl,F,O⟩:=h;have af:=F.cZ.1;have aw:=R.cZ.1
   match gv,af,r,aw with
   |[a,b,c],_,[x,y,z],_=>
     cases p with
     |zero=>exact⟨[x,y,z]::rs,⟨_,_,rfl,R,O⟩,rfl⟩
     |succ p=>
       obtain⟨oZ,bN,bL⟩:=U9 (ms:=ms) (p:=p) (M:=M) O (by simpa using al) (by simpa using aB) R;refine⟨[a,b,c]::oZ,⟨_,_,rfl,F,bN⟩,?_⟩;have:(p+1)*5=p*5+5:=by omega
       rw[this];unfold dt at bL ⊢;simp only[l3,List.set_cons_succ,l0,k5,List.take_succ_cons,gT,gK];rw[show p*5+5+(0+1+1+1+1+1)=p*5+5+5 by omega];simp only[List.drop_succ_cons];rw[<-bL];simp
section
variable{h J ae:ad}{ag ap aH aA:Nat->Prop}{L:List cd}
theorem akw{b b6 ca:Nat}{ms:dz}{kept:List ak}(s:aQ ae aH aA h L)(i:Nat)(aa:L[i]? =j (gZ b b6 ca ms kept))(al:ms.length=kept.length){p:Nat}(aB:p<ms.length){M:List bk}{v:ak}{r:List I}(R:b1 v r):∃J,ew 5 h (.ptr b 0 (2+p*5)) (.agg (.bool Q::kE M::r))=j J/\aQ ae aH aA J (L.set i (gZ b b6 ca (ms.set p (j M)) (kept.set p v))):=by
 refine s.call (dG:=λJ=>ew 5 h (.ptr b 0 (2+p*5)) (.agg (.bool Q::kE M::r))=j J) i aa λag ap x=>?_;obtain⟨aZ,Z,aJ,a1,bf,cv⟩:=x;obtain⟨oZ,bN,bL⟩:=U9 (M:=M) Z al aB R;have hlen:=B' Z al;have am:(I.bool Q::kE M::r).all I.one=Q:=by simp only[List.all_cons,(x5 M).2.2,R.cZ.2,r9];rfl
 refine⟨_,lW (es:=[l4 b6 ca ms aZ]) (e:=l4 b6 ca ms aZ) cv rfl am (by simp[I.cells,R.cZ.1]) (by simp only[l4,gT,hlen];omega),ag,ap,⟨oZ,bN,aJ,a1,bf,?_⟩,⟨bV _,bV _,λk _ nn=>gB λe=>nn ((aJ k).2 e),λ_ _ _=>rfl⟩,λ_=>.inl,λ_=>.inl⟩;rw[lz,List.set_cons_zero];have:dt (l4 b6 ca ms aZ) (2+p*5) (.bool Q::kE M::r)=l4 b6 ca (ms.set p (j M)) oZ:=by unfold l4;rw[<-bL];unfold dt;rw[show 2+p*5=p*5+1+1 by omega];simp only[List.take_succ_cons,l0];rw[show p*5+1+1+(I.bool Q::kE M::r).length=p*5+(I.bool Q::kE M::r).length+1+1 by omega];simp only[List.drop_succ_cons]
 simp only[I.cells,this]
abbrev yh:dz:=[ab,ab,ab,ab]
abbrev CJ:List ak:=[bE,bE,bE,bE]
abbrev sL:List Int:=[0,0,0,0,0,0,0,0,0,0,0,0]
abbrev z2:aC:=⟨[],[]⟩
def ve(l:Nat):bp:=⟨z2,sL,[],CJ,l⟩
theorem U'(l:Nat):(ve l).Good:=⟨acG,rfl,rfl,λv R=>by
 have:v=bE:=by simpa[ve]using R
 rw[this];exact d7⟩
theorem akx:(hM h.n z2).A (h.push [[.aF,.aF]]) (λk=>k=h.n) (λ_=>False):=agP h
theorem GT{b:Nat}(ai:b=h.n):(gY b sL []).A (h.push [sL.map (I.int o)++[I.aF]]) (λk=>k=b) (λ_=>False):=by subst ai;exact⟨.aF,λk=>k=h.n,λ_=>False,λ_=>False,λ_=>False,⟨λ_=>mY,λ_ h=>h,Nat.lt_succ_self _,kd⟩,.inl ⟨⟨rfl,rfl⟩,λ_ h=>h,λ_ h=>h⟩,λk=>by simp,λD=>by simp,λ_ _ h=>h,λ_ h=>h.elim⟩
theorem aky{b b6 ca:Nat}(ai:b=h.n):(gZ b b6 ca yh CJ).A (h.push [l4 b6 ca yh [bt,bt,bt,bt]]) (λk=>k=b) (λ_=>False):=by subst ai;exact⟨[bt,bt,bt,bt],⟨_,_,rfl,pG,_,_,rfl,pG,_,_,rfl,pG,_,_,rfl,pG,rfl⟩,λ_=>mY,λ_ h=>h,Nat.lt_succ_self _,kd⟩
theorem akz(s:aQ ae aH aA h L):∃J az b6 ca,a3 ar W 39 [] h=j (.inl (.ptr az 0 0),J)/\aQ ae aH aA J (gZ az b6 ca yh CJ::hM b6 z2::gY ca sL []::L):=by
 have a4:aQ ae aH aA _ (hM h.n z2::L):=s.add (aK.push h _) akx (λk Z=>pg Z.symm) (λ_ h=>h.elim);have bn:aQ ae aH aA _ (gY (h.n+1) sL []::hM h.n z2::L):=a4.add (X:=gY (h.n+1) sL []) (J:=(h.push [[.aF,.aF]]).push [sL.map (I.int o)++[I.aF]]) (eQ:=λk=>k=h.n+1) (eR:=λ_=>False) (aK.push _ _) (GT (h:=h.push [[.aF,.aF]]) rfl) (λk Z=>pg Z.symm) (λ_ h=>h.elim);have b0:aQ ae aH aA _ (gZ (h.n+1+1) h.n (h.n+1) yh CJ::gY (h.n+1) sL []::hM h.n z2::L):=bn.add (X:=gZ (h.n+1+1) h.n (h.n+1) yh CJ) (J:=((h.push [[.aF,.aF]]).push [sL.map (I.int o)++[I.aF]]).push [l4 h.n (h.n+1) yh [bt,bt,bt,bt]]) (eQ:=λk=>k=h.n+1+1) (eR:=λ_=>False) (aK.push _ _) (aky (h:=(h.push [[.aF,.aF]]).push [sL.map (I.int o)++[I.aF]]) rfl) (λk Z=>pg Z.symm) (λ_ h=>h.elim);have cc:=b0.imp λ_ _ _ x=>aQ.perm (List.Perm.cons _ (List.Perm.swap _ _ _)) x;obtain⟨F,ao,rfl⟩:=agO (h:=h);have aq:a3 ar W 69 [] (h.push [[.aF,.aF]])=j (.inl (.ptr (h.n+1) 0 0),(h.push [[.aF,.aF]]).push [sL.map (I.int o)++[I.aF]]):=by refine bC aee rfl ?_;unfold RF;simp only[ay,aD,aO,ax]
 refine⟨_,h.n+1+1,h.n,h.n+1,?_,cc⟩;refine bC aea rfl ?_;unfold Q0;simp only[ay,aD,aO,ax,dI,ct,ao,aq];rfl
variable{b6 akA i D:Nat}{G H:aC}
end
theorem yi:(ar).underlying 3=j (.int o):=by kernel_rfl
theorem akB{ms:dz}{S:bp}(cl:S.Good){p fuel:Int}{v:ak}:(fu ms p f v fuel S).1.Good/\(fu ms p f v fuel S).1.log.length<=S.log.length+2000/\((fu ms p f v fuel S).2.2.2=0->(fu ms p f v fuel S).2.1.code=0)/\(fu ms p f v fuel S).2.1.size<=100000:=by
 unfold fu;have z:bE.size<=100000:=by decide
 split
 ·exact⟨cl,by simp only;omega,λh=>by simp at h,z⟩
 ·split
  ·exact⟨cl,by simp only;omega,λh=>by simp at h,z⟩
  ·split
   ·rename_i F;exact⟨cl,by simp only;omega,λh=>absurd h F,z⟩
   ·rename_i F O af;have GK:({S with left:=fuel.toNat}:bp).Good:=⟨cl.wf,cl.cells,cl.kept,cl.rj⟩;have kk:=rk ms fuel.toNat p (fp ms p f) v [] 1 _ GK (by simpa using af) (by simp);generalize dL ms fuel.toNat p (fp ms p f) v [] 1 {S with left:=fuel.toNat}=q at kk;obtain⟨bx,w,c⟩:=q;have g:=kk.1.dk;have m:=kk.1.a2;unfold bp.a2 at m;simp only at g m ⊢;refine⟨⟨g.wf,g.cells,g.kept,g.rj⟩,by omega,λaj=>?_,?_⟩
    ·rw[if_pos aj];exact kk.1.val aj
    ·by_cases aj:c=0
     ·rw[if_pos aj];have:=(xo (kk.1.val aj)).1;simp only at this;omega
     ·rw[if_neg aj];exact z
def tP(ms:dz):Prop:=∀M,j M∈ms->(hE M).1=0
theorem tP.fun{ms:dz}(h:tP ms){p:Int}:∀x∈hG ms p,x.fault (hG ms p).length 0=0/\x.size<=120:=by
 intro x an;unfold hG at an ⊢;cases hm:ms.getD p.toNat ab with
 |none=>rw[hm]at an;simp at an
 |some M=>
   rw[hm]at an;have gj:j M∈ms:=by
    rw[cK]at hm;cases aX:ms[p.toNat]? with
    |none=>rw[aX]at hm;simp at hm
    |some E=>rw[aX]at hm;simp only[pf]at hm;subst hm;exact p6 aX
   exact(Lb (h M gj)).2.2 x an
theorem tP.dk{ms:dz}(h:tP ms):vR ms:=λ_ x an=>(h.fun x an).1
theorem tP.sized{ms:dz}(h:tP ms):uH ms:=λp f=>by
 unfold kg;have F:=uy _ (fp ms p f) (bV _) 0;have O:(fp ms p f).size<=120:=by
  unfold fp;by_cases Z:f.toNat<(hG ms p).length
  ·have e:(hG ms p).getD f.toNat il=(hG ms p)[f.toNat]:=by simp[cK,Z]
   rw[e];exact(h.fun _ (h2 Z)).2
  ·have e:(hG ms p).getD f.toNat il=il:=by simp[cK,lU (Nat.le_of_not_lt Z)]
   rw[e];decide
 simp only[eP,gp];omega
section
variable{h:ad}
theorem aQ.Mm{J:ad}{L:List cd}(s:aQ h (λ_=>False) (λ_=>False) J L):aK h J:=by obtain⟨_,_,_,c,_⟩:=s;exact⟨c.n,c.ids,λk Z=>c.cell k Z (λh=>h),λD U=>c.hw D U (λh=>h)⟩
end
structure hX where
 (kind p q k h r g n:Int)
 m:List bk
structure m9 where
 (code fuel:Int)
 v:ak
structure c5 where
 ms:dz
 S:bp
 b3:List (List ak)
def m9.no(c:Int):m9:=⟨c,0,bE⟩
def m9.ok(v:ak):m9:=⟨0,0,v⟩
def j2(p:Int):Bool:=decide (0<=p)&&decide (p<4)
theorem sM{p:Int}:j2 p=Q↔0<=p/\p<4:=by simp[j2]
def c5.hand(H:c5)(p:Int):List ak:=H.b3.getD p.toNat []
def c5.load(H:c5)(p:Int)(m:List bk):c5×Int:=
 if j2 p=T then(H,1)
 else if(hE m).1≠0 then(H,(hE m).1)
 else({H with ms:=H.ms.set p.toNat (j m),S:={H.S with kept:=H.S.kept.set p.toNat bE}},0)
def c5.graph(H:c5)(G:aC):c5:={H with S:={H.S with G:=G}}
def c5.ot(H:c5)(p n c:Int):c5×m9:=
 if c≠0 then(H,.no c)else({H with b3:=H.b3.set p.toNat (H.hand p++[jO n])},.ok (jO n))
def c5.call(H:c5)(x:hX):c5×m9:=
 if 0<=x.h/\(j2 x.p=T\/((H.hand x.p).length:Int)<=x.h)then(H,.no 8)
 else match fu H.ms x.p x.k (if 0<=x.h then(H.hand x.p).getD x.h.toNat bE else iC x.n) 2000 H.S with
  |(bx,v,n,c)=>({H with S:=bx},⟨c,n,v⟩)
def c5.step(H:c5)(x:hX):c5×m9:=
 if x.kind=1 then((H.load x.p x.m).1,.no (H.load x.p x.m).2)
 else if x.kind=2\/x.kind=3 then
  (if j2 x.p=T then(H,.no 1)
  else if x.kind=2 then(H.graph (H.S.G.eh x.k x.r x.g).1).ot x.p (H.S.G.eh x.k x.r x.g).2.1 (H.S.G.eh x.k x.r x.g).2.2
  else(H.graph (H.S.G.l1 x.q x.k x.r x.g).1).ot x.p (H.S.G.l1 x.q x.k x.r x.g).2.1 (H.S.G.l1 x.q x.k x.r x.g).2.2)
 else if x.kind=4 then H.call x
 else if x.kind=5 then(H.graph (H.S.G.cut x.g).1,.no (H.S.G.cut x.g).2)
 else if x.kind=6 then(H.graph H.S.G.gate.1,if H.S.G.gate.2.2≠0 then .no H.S.G.gate.2.2 else .ok (iC H.S.G.gate.2.1))
 else(H,.no 2)
def j3:c5:=⟨yh,ve 0,[[],[],[],[]]⟩
structure c5.Good(H:c5):Prop where
 ms:H.ms.length=4
 ok:tP H.ms
 st:H.S.Good
 b3:H.b3.length=4
 cap:∀l∈H.b3,∀v∈l,∃n:Int,v=jO n/\0<=n
theorem akC:j3.Good:=⟨rfl,λM wl=>by simp[j3]at wl,U' 0,rfl,λl al v R=>by
 have:l=[]:=by simpa[j3]using al
 rw[this]at R;cases R⟩
theorem tP.set{ms:dz}(h:tP ms){p:Nat}{M:List bk}(aN:(hE M).1=0):tP (ms.set p (j M)):=by
 intro N eZ;rcases List.mem_or_eq_of_mem_set eZ with F|F
 ·exact h N F
 ·injection F with F;rw[F];exact aN
theorem bp.Good.fH{S:bp}(h:S.Good){p:Nat}{v:ak}(R:v.code=0):({S with kept:=S.kept.set p v}:bp).Good:=⟨h.wf,h.cells,by simpa using h.kept,λw hw=>by
  rcases List.mem_or_eq_of_mem_set hw with F|F
  ·exact h.rj w F
  ·rw[F];exact R⟩
theorem c5.Good.hand{H:c5}(g:H.Good){p:Int}:∀v∈H.hand p,∃n:Int,v=jO n/\0<=n:=by
 intro v R;unfold c5.hand at R;by_cases aB:p.toNat<H.b3.length
 ·rw[cK,fz aB]at R;exact g.cap _ (h2 aB) v R
 ·rw[cK,lU (by omega)]at R;cases R
theorem c5.Good.graph{H:c5}(g:H.Good){G:aC}(dR:G.cz):(H.graph G).Good:=⟨g.ms,g.ok,⟨dR,g.st.cells,g.st.kept,g.st.rj⟩,g.b3,g.cap⟩
theorem c5.Good.ot{H:c5}(g:H.Good){p n c:Int}(au:0<=n):(H.ot p n c).1.Good:=by
 unfold c5.ot;split
 ·exact g
 ·refine⟨g.ms,g.ok,g.st,by simpa using g.b3,λl al v R=>?_⟩;rcases List.mem_or_eq_of_mem_set al with F|F
  ·exact g.cap l F v R
  ·rw[F]at R;rcases List.mem_append.1 R with O|O
   ·exact g.hand v O
   ·exact⟨n,by simpa using O,au⟩
theorem Va{G:aC}{n:er}:0<=(G.add n).2.1:=by
 unfold aC.add;split
 ·exact Int.le_refl _
 ·split
  ·exact Int.le_refl _
  ·split
   ·exact Int.le_refl _
   ·exact Int.natCast_nonneg _
theorem akD{G:aC}{c r g:Int}:0<=(G.eh c r g).2.1:=by
 unfold aC.eh;split
 ·exact Va
 ·exact Int.le_refl _
theorem akE{G:aC}{p r g:Int}:0<=(G.l1 p f r g).2.1:=by
 unfold aC.l1;split
 ·exact Va
 ·exact Int.le_refl _
theorem Vb(n:Int):(jO n).size<=100000:=by simp[jO,ak.size,hU]
theorem Vc(n:Int):(iC n).size<=100000:=by simp[iC,ak.size,hU]
theorem c5.Good.arg{H:c5}(g:H.Good)(x:hX):(if 0<=x.h then(H.hand x.p).getD x.h.toNat bE else iC x.n).code=0/\(if 0<=x.h then(H.hand x.p).getD x.h.toNat bE else iC x.n).size<=100000:=by
 split
 ·by_cases aa:x.h.toNat<(H.hand x.p).length
  ·have e:(H.hand x.p).getD x.h.toNat bE=(H.hand x.p)[x.h.toNat]:=by simp[cK,aa]
   rw[e];obtain⟨n,F,O⟩:=g.hand _ (h2 aa);rw[F];exact⟨Ek O,Vb n⟩
  ·have e:(H.hand x.p).getD x.h.toNat bE=bE:=by simp[cK,lU (Nat.le_of_not_lt aa)]
   rw[e];exact⟨d7,by decide⟩
 ·exact⟨A4 _,Vc _⟩
structure GN(H:c5)(q:c5×m9):Prop where
 dk:q.1.Good
 log:q.1.S.log.length<=H.S.log.length+2000
 val:q.2.code=0->q.2.v.code=0
 size:q.2.v.size<=100000
 hand:∀l∈q.1.b3,l.length<=1000\/∃bJ∈H.b3,l.length<=bJ.length+1
theorem vf(c:Int):(m9.no c).v.size<=100000:=(by decide:bE.size<=100000)
theorem GN.same{H o7:c5}{e:m9}(g:o7.Good)(al:o7.S.log=H.S.log)(bP:o7.b3=H.b3)(F:e.code=0->e.v.code=0)(O:e.v.size<=100000):GN H (o7,e):=⟨g,by rw[al];exact Nat.le_add_right _ _,F,O,λl hm=>.inr ⟨l,by rw[<-bP];exact hm,Nat.le_succ _⟩⟩
theorem Vd{H o7:c5}(g:o7.Good)(al:o7.S.log=H.S.log)(bP:o7.b3=H.b3){p n c:Int}(au:0<=n):GN H (o7.ot p n c):=by
 refine⟨g.ot au,?_,?_,?_,?_⟩
 ·unfold c5.ot;split
  ·rw[al];exact Nat.le_add_right _ _
  ·show o7.S.log.length<=_;rw[al];exact Nat.le_add_right _ _
 ·unfold c5.ot;split
  ·rename_i h;exact λJ=>absurd J h
  ·exact λ_=>Ek au
 ·unfold c5.ot;split
  ·exact vf _
  ·exact Vb _
 ·unfold c5.ot;split
  ·exact λl hm=>.inr ⟨l,by rw[<-bP];exact hm,Nat.le_succ _⟩
  ·intro l hm;rcases List.mem_or_eq_of_mem_set hm with F|F
   ·exact .inr ⟨l,by rw[<-bP];exact F,Nat.le_succ _⟩
   ·unfold c5.hand at F;by_cases aB:p.toNat<o7.b3.length
    ·rw[cK,fz aB,pf]at F;exact .inr ⟨o7.b3[p.toNat],by rw[<-bP];exact h2 aB,by rw[F];simp⟩
    ·rw[cK,lU (by omega),Option.getD_none]at F;exact .inl (by rw[F];simp)
theorem c5.Good.step{H:c5}(g:H.Good)(x:hX):GN H (H.step x):=by
 unfold c5.step;by_cases dc:x.kind=1
 ·rw[if_pos dc];unfold c5.load;by_cases F:j2 x.p=T
  ·rw[if_pos F];exact .same g rfl rfl (λh=>absurd h (by simp[m9.no])) (vf _)
  ·rw[if_neg F];by_cases O:(hE x.m).1≠0
   ·rw[if_pos O];exact .same g rfl rfl (λh=>absurd h O) (vf _)
   ·rw[if_neg O];exact .same ⟨by simpa using g.ms,g.ok.set (la.1 O),g.st.fH d7,g.b3,g.cap⟩ rfl rfl (λ_=>d7) (vf _)
 rw[if_neg dc];by_cases dr:x.kind=2\/x.kind=3
 ·rw[if_pos dr];by_cases F:j2 x.p=T
  ·rw[if_pos F];exact .same g rfl rfl (λh=>absurd h (by simp[m9.no])) (vf _)
  ·rw[if_neg F];split
   ·exact Vd (H:=H) (o7:=H.graph (H.S.G.eh x.k x.r x.g).1) (g.graph (g.st.wf.eh _ _ _)) rfl rfl akD
   ·exact Vd (H:=H) (o7:=H.graph (H.S.G.l1 x.q x.k x.r x.g).1) (g.graph (g.st.wf.l1 _ _ _ _)) rfl rfl akE
 rw[if_neg dr];by_cases fA:x.kind=4
 ·rw[if_pos fA];unfold c5.call;by_cases F:0<=x.h/\(j2 x.p=T\/((H.hand x.p).length:Int)<=x.h)
  ·rw[if_pos F];exact .same g rfl rfl (λh=>absurd h (by simp[m9.no])) (vf _)
  ·rw[if_neg F];have:=akB (ms:=H.ms) (p:=x.p) (f:=x.k) (fuel:=2000) (v:=if 0<=x.h then(H.hand x.p).getD x.h.toNat bE else iC x.n) g.st;generalize fu H.ms x.p x.k (if 0<=x.h then(H.hand x.p).getD x.h.toNat bE else iC x.n) 2000 H.S=q at this;obtain⟨bx,v,n,c⟩:=q;obtain⟨O,af,aw,bg⟩:=this;exact⟨⟨g.ms,g.ok,O,g.b3,g.cap⟩,af,aw,bg,λl hm=>.inr ⟨l,hm,Nat.le_succ _⟩⟩
 rw[if_neg fA];by_cases g7:x.kind=5
 ·rw[if_pos g7];exact .same (g.graph (g.st.wf.cut _)) rfl rfl (λ_=>d7) (vf _)
 rw[if_neg g7];by_cases ji:x.kind=6
 ·rw[if_pos ji];refine .same (g.graph g.st.wf.gate) rfl rfl ?_ ?_
  ·split
   ·rename_i h;exact λJ=>absurd J h
   ·exact λ_=>A4 _
  ·split
   ·exact vf _
   ·exact Vc _
 ·rw[if_neg ji];exact .same g rfl rfl (λh=>absurd h (by simp[m9.no])) (vf _)
def Ve:List bl:=[EP,.ops [.i .l (.call (.c (.fn 39 [] [])) []),.i .l (.build [.gd,.aF,.aF,.aF,.aF] [(0,1),(1,4)] [(0,(.l 0))]),.i .l (.box 5 (.l 0)),Bo],.ret]
theorem akF:c3 ar W 22 0 1 [0] Ve [(.v 0)] T:=by refine⟨_,_,Try.func22,rfl,rfl,?_,?_,?_,?_,?_⟩<;>kernel_rfl
def Vf:List bl:=[.ops [JN],.ops [bj,qh,di,xw,.g (.l 1) Q .l (.bin (.int o) .lss (.l 0) (.c (.int o 4))),ER,ge],.ret]
theorem akG:c3 ar W 52 1 2 [0,2] Vf [(.v 1)] Q:=by refine⟨_,_,Try.func52,rfl,rfl,?_,?_,?_,?_,?_⟩<;>kernel_rfl
def GO:List bl:=[.ops [.i (.v 3) (.box 1 (.v 2)),sk],.ops [en,GP,.i (.v 7) vV],.cond (.v 7) [.ops [Jv],.ret] [],.ops [.i .l (.load Q 1 (.v 3)),.i .l (.call (.c (.fn 40 [] [])) [.l 0]),di,lg,lh,.i (.v 6) FH,Bk,.i .n (.store 2 (.v 6) (.l 0))],.ops [.i .l (.cy 0 (.v 6)),bb,KZ],.cond (.v 8) [.ops [.i .l (.cy 0 (.v 6)),bb,oi],.ret] [],.ops [bj,cM,eT,bb,en,h5,.i .l (.build [.bool T,.aF,.int o 0,.int o 0,.aF] [(0,1),(1,1),(2,3)] [(0,(.c (.bool Q))),(1,(.l 0))]),.i .l (.k9 (.l 3)),mW,.i .l (.ga ab (j (4,5)) (.l 0) (.l 4)),.i .n (.store 5 (.l 0) (.l 3))],BS,.ret]
theorem Mn:c3 ar W 51 3 9 [0,1,2,5,6,7,8,11,19] GO [(.v 4)] T:=by refine⟨_,_,Try.func51,rfl,rfl,?_,?_,?_,?_,?_⟩<;>kernel_rfl
def Mo:List bl:=[.ops [Vg],.ops [eY,Sn],.cond (.v 6) [.ops [eY,GQ,Mp],.ret] [],.ops [iY,LT,wb,zA],.ops [bj,en,Ba,iD,Mq,bb,sj,RB,Jx,iD,RC,.bX [⟨ab,T,1,.l 6,(.l 5)⟩,⟨ab,Q,3,.v 5,(.l 4)⟩],.i .l (.app Q 29 (.l 5) (.l 0)),.i .l (.ga (j 29) ab (.l 0) (.l 4)),.i .l (.ga ab (j (4,1)) (.l 3) (.l 11)),.i .n (.store 3 (.l 1) (.l 7)),mA,.bX [⟨ab,Q,3,.l 1,(.l 7)⟩]],.ops [sj,Vh,Mp],.ret]
theorem Vi:c3 ar W 54 4 7 [0,1,2,3,8,9,11] Mo [(.cell Q 5 4)] T:=by refine⟨_,_,Try.func54,rfl,rfl,?_,?_,?_,?_,?_⟩<;>kernel_rfl
def CK:List bl:=[Vj,.ops [.i .l (.cy 7 (.v 2)),bb,Ka,v9,uM],.ops [.i .l (.cy 4 (.v 2)),bb,.i (.v 8) Bn],.cond (.v 8) [.ops [oT,bb,GP,ts,di,.g (.l 0) T .l (.cy 4 (.v 2)),m0,FP,.g (.l 3) T .l (.cy 1 (.v 2)),.g (.l 4) T .l rp,.g (.l 5) T .l (.k9 (.l 2)),PI,.g (.l 7) T .l (.ga ab (j (4,1)) (.l 0) (.l 2)),.g (.l 8) T .l rp,.g (.l 9) T .l KC,.g (.l 10) T .l PJ,.i (.v 9) (.pick (.l 11) (.c (.bool Q)) (.l 0))],.cond (.v 9) [.ops [.i .l (.build [.int o 0,.int o 0,.int o 0,.int o 0,.aF] [(0,1),(1,1),(2,3)] [(0,(.c (.int o 8)))]),rK],.ret] [],.ops [bj,oT,bb,BL,iD,Mq,bb,.i .l (.cy 4 (.v 2)),bb,.i .l (.ga (j 29) ab (.l 2) (.l 0)),mZ,uM]] [],.ops [bj,cM,eT,bb,oT,bb,sy,bb,qm,.i .l (.call (.c (.fn 17 [] [])) [.l 5,.l 3,.l 1,.l 0,.c (.int o 2000)]),di,lg,lh,.i .l (.ext (.l 2) 2),wb,.bX [⟨ab,T,1,.l 11,(.l 10)⟩,⟨ab,T,1,.l 9,(.l 8)⟩,⟨ab,T,1,.l 7,(.l 6)⟩,⟨ab,Q,3,.v 4,(.l 5)⟩],.i .n (.store 3 (.v 5) (.l 2)),ED,l6],.ops [mX,pz,sj,.i .l (.build [.int o 0,.int o 0,.int o 0,.int o 0,.aF] [(0,1),(1,1),(2,3)] [(0,(.l 2)),(1,(.l 1)),(2,(.l 0))]),rK],.ret]
theorem GR:c3 ar W 56 2 10 [0,1,3,4,5,6,7,8,14,31] CK [(.cell Q 5 3)] T:=by refine⟨_,_,Try.func56,rfl,rfl,?_,?_,?_,?_,?_⟩<;>kernel_rfl
def sN:List bl:=[Vj,.ops [sr,Rn],.block 0 [.ops [Ro,BM],.cond (.v 11) [.ops [bj,oT,bb,.i .l (.cy 8 (.v 2)),.i .l (.load Q 1 (.l 0)),.i .l (.call (.c (.fn 51 [] [])) [.l 4,.l 2,.l 0]),GQ,rK],.ret] [.ops [Rp,xM],.cond (.v 12) [] [.ops [Rq,xM]],.cond (.v 12) [.ops [oT,bb,GP,.i (.v 13) vV],.cond (.v 13) [.ops [.i .l (.build [.int o 0,.int o 0,.int o 0,.int o 0,.aF] [(0,1),(1,1),(2,3)] [(0,(.c (.int o 1)))]),rK],.ret] [],.ops [sr,bb,.i (.v 14) BW],.cond (.v 14) [.ops [bj,cM,eT,bb,cM,eT,bb,sy,bb,.i .l (.cy 5 (.v 2)),bb,Mr,bb,.i .l (.call (.c (.fn 53 [] [])) [.l 6,.l 4,.l 2,.l 0]),di,lg,lh,Bj,oh],.ops [bj,oT,bb,jo,h5,Vk,rK],.ret] [],.ops [bj,cM,eT,bb,cM,eT,bb,vW,bb,sy,bb,.i .l (.cy 5 (.v 2)),bb,Mr,bb,.i .l (.call (.c (.fn 55 [] [])) [.l 8,.l 6,.l 4,.l 2,.l 0]),di,lg,lh,ED,l6],.ops [bj,oT,bb,pz,mX,Vk,rK],.ret] [.ops [Rs,Ey],.cond (.v 15) [.ops [bj,.i .l (.load Q 9 (.v 2)),.i .l (.call (.c (.fn 56 [] [])) [.l 1,.l 0]),rK],.ret] [.ops [.i .l (.bin (.int o) .eql (.v 10) (.c (.int o 5))),Km],.cond (.v 16) [.ops [bj,cM,eT,bb,cM,eT,bb,Mr,bb,.i .l (.call (.c (.fn 57 [] [])) [.l 2,.l 0]),GQ,rK],.ret] [.ops [Rt,Kn],.cond (.v 17) [.ops [bj,cM,eT,bb,cM,eT,bb,LE,di,lg,lh,.i (.v 8) (.ba (.l 1)),BF],.ops [zB,.i (.v 18) Bd],.cond (.v 18) [.ops [zB,GQ,rK],.ret] [],.ops [EM,Ka,Vh,rK],.ret] []]]]]],.ops [.i .l (.build [.int o 0,.int o 0,.int o 0,.int o 0,.aF] [(0,1),(1,1),(2,3)] [(0,(.c (.int o 2)))]),rK],.ret]
theorem tQ:c3 ar W 23 2 19 [0,1,3,4,5,6,7,8,9,10,12,13,22,28,32,81,86,99,113] sN [(.cell Q 5 3)] T:=by refine⟨_,_,Try.func23,rfl,rfl,?_,?_,?_,?_,?_⟩<;>kernel_rfl
def GS:List bl:=[EL,.ops [en,GP,.i (.v 3) vV],.cond (.v 3) [EL,.ret] [],.ops [bj,en,Ba,iD,Mq,bb,.i .l (.call (.c (.fn 61 [] [])) [.l 0]),lj],.ret]
theorem Ms:c3 ar W 27 2 4 [0,1,4,7] GS [(.v 2)] Q:=by refine⟨_,_,Try.func27,rfl,rfl,?_,?_,?_,?_,?_⟩<;>kernel_rfl
def Mt:List bl:=[vX,JM,.cond (.v 2) [vX,.ret] [],.ops [.i .l (.kC T 29 [.int o 0,.int o 0,.aF] 3 0 []),bj,.i .l (.app T 29 (.l 1) (.l 0)),ge],.ret]
theorem Vl:c3 ar W 61 1 3 [0,2,4] Mt [(.v 1)] Q:=by refine⟨_,_,Try.func61,rfl,rfl,?_,?_,?_,?_,?_⟩<;>kernel_rfl
def Vm:List bl:=[.ops [Vn],.ops [Mu,ge],.ops [en,.i (.v 5) (.bin .ptr .eql (.l 0) (.c .gd))],.cond (.v 5) [.ops [Vn],.ret] [],.ops [en,.i .l (.build [.int o 0,.int o 0,.int o 0,.aF] [(0,1),(1,1),(2,1),(3,1)] [(0,(.c (.int o 3)))]),Vo,.i .l (.build [.int o 0,.int o 0,.int o 0,.aF] [(0,1),(1,1),(2,1),(3,1)] [(0,(.c (.int o 13))),(3,(.l 0))]),Vo,.i .l (.build [.aF] [(0,1)] [(0,(.l 0))]),.i .l (.build [.int o 0,.int o 0,.int o 0,.int o 0,.int o 0,.int o 0,.int o 0,.int o 0,.aF] [(0,1),(1,1),(2,1),(3,1),(4,1),(5,1),(6,1),(7,1),(8,1)] [(0,(.c (.int o 1))),(1,(.c (.int o 1))),(8,(.l 0))]),.i .l (.call (.c (.fn 23 [] [])) [.l 6,.l 0]),.i (.v 2) (.alloc [.int o 0,.int o 0,.int o 0,.int o 0,.aF]),.i .n (.store 5 (.v 2) (.l 0))],.ops [en,.i .l (.build [.int o 0,.int o 0,.int o 0,.int o 0,.int o 0,.int o 0,.int o 0,.int o 0,.aF] [(0,1),(1,1),(2,1),(3,1),(4,1),(5,1),(6,1),(7,1),(8,1)] [(0,(.c (.int o 2))),(1,(.c (.int o 1))),(3,(.c (.int o 3))),(5,(.c (.int o 1))),(6,(.c (.int o (-1))))]),GU,Vp,rK],.ops [en,.i .l (.build [.int o 0,.int o 0,.int o 0,.int o 0,.int o 0,.int o 0,.int o 0,.int o 0,.aF] [(0,1),(1,1),(2,1),(3,1),(4,1),(5,1),(6,1),(7,1),(8,1)] [(0,(.c (.int o 4))),(1,(.c (.int o 1)))]),GU,Vg,Mp],.ops [sr,bb,E',di,.g (.l 0) Q .l (.cy 2 (.v 3)),Vq,zn,.g (.l 3) Q .l Fq,Mv,di,.g (.l 0) Q .l (.cy 0 (.v 4)),m3,.g (.l 2) Q .l Bm,tz,di,.g (.l 0) Q .l (.cy 2 (.v 4)),Vq,zn,Vr,Mv,di,.g (.l 0) Q .l (.cy 1 (.v 4)),m3,.g (.l 2) Q .l BW,tz,di,Bh,.g (.l 1) Q .l (.call (.c (.fn 27 [] [])) [.l 0,.c (.int o 1)]),.g (.l 2) Q .l KC,Vr,Mv,Bo],.ret]
theorem akH:c3 ar W 20 0 6 [0,1,2,3,4,7] Vm [(.v 0)] Q:=by refine⟨_,_,Try.func20,rfl,rfl,?_,?_,?_,?_,?_⟩<;>kernel_rfl
def vg:List bl:=[.ops [eY,bj,CL,.i .l wg,di,.g (.l 0) Q .l (.ba (.v 3)),SR,.g (.l 2) Q .l Q9,.i (.v 4) zE],.cond (.v 4) [] [.exit 0],.block 1 [.ops [bj,eY,Mw,.i .l (.cy 8 (.l 0)),.i .l (.load Q 1 (.l 0)),.i (.v 5) (.call (.c (.fn 26 [] [])) [.l 0])],.cond (.v 5) [uR,.ret] []],KE]
def Mx:List bl:=[nC,xz,.block 0 [.loop vg],.ops [bj,CL,en,.i .l (.bin (.int o) .gtr (.l 1) (.l 0)),lj],.ret]
theorem Vs:c3 ar W 21 2 6 [0,1,4,5,14,22] Mx [(.v 2)] Q:=by refine⟨_,_,Try.func21,rfl,rfl,?_,?_,?_,?_,?_⟩<;>kernel_rfl
def GV:List bl:=[.ops [jo,zD,bb,uL,.i (.v 6) SU],.cond (.v 6) [] [.exit 0],.block 1 [.ops [zF,bb,zD,bb,jo,xL,mZ,.i .l (.call (.c (.fn 24 [] [])) [.l 0]),.bX [⟨ab,T,1,.l 7,(.l 6)⟩],E8,.bX [⟨ab,T,1,.l 8,(.l 7)⟩],.i .l (.app T 29 (.l 7) (.l 0)),zF,zG]],Kx]
def Vt:List bl:=[Ke,R4,.ops [qp,bb,.i .l Fq,di,Fk,m0,.g (.l 2) T .l (.bin (.int o) .eql (.l 0) (.c (.int o 5))),.i (.v 5) RZ],.cond (.v 5) [.ops [nG,.i .n (.store 1 (.l 0) (.c (.int o 0)))]] [],BS,.block 0 [.loop GV],.ops [qn,zy],.ret]
theorem akI:c3 ar W 24 1 7 [0,1,2,3,4,17,23] Vt [(.cell Q 3 2)] Q:=by refine⟨_,_,Try.func24,rfl,rfl,?_,?_,?_,?_,?_⟩<;>kernel_rfl
def z3:List bl:=[.ops [My,.i .l (.ba (.v 11)),Vu,.i (.v 25) wg],.cond (.v 25) [] [.exit 4],.block 5 [.ops [h5,My,Vv,bb,en,EZ,di,FQ,Vw,.g (.l 2) Q .l (.ga (j 3) ab (.l 1) (.l 0)),zm,.g (.l 4) Q .l Bn,Bi,di,.g (.l 0) Q .l (.ba (.v 11)),Vw,.g (.l 2) Q .l Vx,zm,.g (.l 4) Q .l (.ba (.v 12)),.g (.l 5) Q .l (.ba (.v 13)),.g (.l 6) Q .l Vx,.g (.l 7) Q .l rp,.g (.l 8) Q .l RA,.i (.v 26) (.pick (.l 9) (.l 0) (.c (.bool T)))],.cond (.v 26) [nC,.ret] []],.ops [My,rv,Bf]]
def yj:List bl:=[.ops [mX,bj,CL,.i (.v 17) wg],.cond (.v 17) [] [.exit 2],.block 3 [.ops [bj,mX,Mw,.i .l (.load Q 9 (.l 0)),.i (.v 8) (.alloc [.int o 0,.int o 0,.int o 0,.int o 0,.int o 0,.int o 0,.int o 0,.int o 0,.aF]),.i .n (.store 9 (.v 8) (.l 0))],.ops [.i .l (.cy 6 (.v 8)),Mz],.ops [.i .l (.cy 0 (.v 8)),bb,.i .l (.bin (.int o) .neq (.l 0) (.c (.int o 1))),di,GW,m3,FN,tz,di,GW,m3,.g (.l 2) Q .l (.bin (.int o) .neq (.l 0) (.c (.int o 4))),.i (.v 18) zE],.cond (.v 18) [.exit 3] [],.ops [.i .l (.cy 0 (.v 8)),bb,.i .l BW,di,GX,m3,.g (.l 2) Q .l Bn,tz,di,GX,m3,.g (.l 2) Q .l (.ba (.v 5)),.g (.l 3) Q .l (.len T (j 3) (.l 0)),.g (.l 4) Q .l wg,.i (.v 19) EN],.cond (.v 19) [.ops [h5,.i .l (.cy 3 (.v 8)),bb,Kz,bb,qh,di,FQ,.g (.l 1) Q .l (.cy 3 (.v 8)),zn,.g (.l 3) Q .l (.ga (j 3) ab (.l 2) (.l 0)),EF,.g (.l 5) Q .l (.cy 1 (.v 8)),Jt,.g (.l 7) Q .l KG,.i (.v 20) Ju],.cond (.v 20) [.exit 3] [],.ops [h5,.i .l (.cy 3 (.v 8)),bb,MA,bb,.i .l (.ga (j 3) ab (.l 4) (.l 2)),zG]] [],Vy,Vz,.cond (.v 21) [.exit 3] [],VA,VB,.cond (.v 22) [uR,.ret] [],VC,.cond (.v 23) [nC,.ret] []],.ops [mX,rv,l6]]
def GY:List bl:=[.ops [pz,h5,VD,.i (.v 16) wg],.cond (.v 16) [] [.exit 0],.block 1 [.ops [h5,pz,Vv,Mz]],.ops [pz,rv,tt]]
def MB:List bl:=[nC,.ops [.i .l (.call (.c (.fn 20 [] [])) []),.i (.v 14) vV],.cond (.v 14) [nC,.ret] [],.ops [bj,.i (.v 15) (.call (.c (.fn 21 [] [])) [.l 0,.c (.int o 100)])],.cond (.v 15) [uR,.ret] [],.ops [en,.i .l (.conv (.int .u64) (.l 0)),.i .l (.bin (.int .u64) .rem (.l 0) (.c (.int .u64 4))),.i .l (.conv (.int o) (.l 0)),ge],.ops [Mu,Mu,E3,oi],.ops [.i .l (.DX 3 [.int o 0] (.c (.int o 12)) (.c (.int o 12))),oh],.ops [P6],.block 0 [.loop GY],.ops [JJ],.block 2 [.loop yj],.ops [eY,cM,eT,bb,cM,iD,bb,jo,cM,eT,bb,cM,iD,bb,.i .l (.call (.c (.fn 25 [] [])) [.l 7]),.bX [⟨ab,T,1,.l 5,(.l 4)⟩,⟨ab,T,1,.l 2,(.l 1)⟩],.i .l (.call (.c (.fn 25 [] [])) [.l 1]),.i (.v 11) (.ba (.l 1)),xM],.ops [.i .l (.ba (.v 11)),Vu,h5,VD,VE,di,.g (.l 0) T .l (.ba (.v 12)),.g (.l 1) T .l (.len T (j 2) (.l 0)),.g (.l 2) T .l (.ba (.v 5)),.g (.l 3) T .l (.len T (j 3) (.l 0)),VF,.i (.v 24) (.pick (.l 5) (.c (.bool Q)) (.l 0))],.cond (.v 24) [nC,.ret] [],.ops [.i (.v 13) (.ba (.c (.int o 0)))],.block 4 [.loop z3],uR,.ret]
theorem VG:c3 ar W 6 2 27 [0,1,4,5,6,7,8,9,10,11,12,13,14,15,17,19,30,39,59,74,90,103,114,136,164,168,194] MB [(.v 2)] Q:=by refine⟨_,_,Try.func6,rfl,rfl,?_,?_,?_,?_,?_⟩<;>kernel_rfl
def lo(b az:Nat)(b3:List (List ak)):cd:=vP λbr:List I=>zd (br.length=b3.length) (hv (a9 b [.ptr az 0 0::br]) (c4 (List.zipWith it br b3)))
section
variable{h J ae:ad}{ag ap aH aA:Nat->Prop}{L:List cd}{ai az:Nat}{b3:List (List ak)}
theorem VH(x:(lo ai az b3).A h ag ap):∃br,br.length=b3.length/\aQ h ag ap h (a9 ai [.ptr az 0 0::br]::List.zipWith it br b3):=by obtain⟨br,al,x⟩:=x;exact⟨br,al,aQ.start x⟩
theorem akJ{br:List I}(al:br.length=b3.length)(s:aQ ae aH aA h (a9 ai [.ptr az 0 0::br]::List.zipWith it br b3)):gx ae aH aA h (lo ai az b3):=gx.imp (λ_ _ _ x=>⟨br,al,x⟩) s
theorem VI{br:List I}(al:br.length=b3.length){p:Nat}(aB:p<b3.length):∃v,br[p]? =j v/\(List.zipWith it br b3)[p]? =j (it v (b3.getD p [])):=by
 have R:p<br.length:=by omega
 refine⟨br[p],fz R,?_⟩;rw[List.getElem?_zipWith,fz R,fz aB];simp[cK,aB]
theorem akK{br:List I}{p:Nat}{v:I}{l:List ak}:(List.zipWith it br b3).set p (it v l)=List.zipWith it (br.set p v) (b3.set p l):=by
 refine List.ext_getElem? λD=>?_;by_cases e:p=D
 ·subst e;rw[List.getElem?_zipWith,sv,sv,sv];simp only[if_true,List.length_zipWith];by_cases F:p<br.length
  ·by_cases O:p<b3.length
   ·simp[F,O,show p<min br.length b3.length by omega]
   ·simp[F,O,show ¬p<min br.length b3.length by omega]
  ·simp[F,show ¬p<min br.length b3.length by omega]
 ·rw[s' e,List.getElem?_zipWith,List.getElem?_zipWith,s' e,s' e]
structure CM(h:ad)(v:I)(l:List ak):Prop where
 one:v.one=Q
 cells:v.cells=[v]
 len:h0 v=j l.length
 fits:∀s,jL s (j cg) v=Q
 b8:∀(q:jC) (i:Nat) (y:ak),l[i]? =j y->∃p r,ft (j cg) ab v (.int q (i:Int))=j p/\c0 Q 3 h p=j (.agg r)/\b1 y r
 ry:(l=[]/\v= .aF)\/∃b rows,v= .bd b 0 l.length cg/\eF l rows/\iO h cg v=j rows
theorem akL{v:I}{l:List ak}(x:(it v l).A h ag ap):CM h v l:=by
 obtain⟨aJ,a1,bf,cv,ez⟩:=xK x;refine⟨aJ,a1,bf,cv,ez,?_⟩;obtain⟨rows,al,x⟩:=x;have hlen:=al.len;rcases x with⟨⟨rfl,rfl⟩,_⟩|⟨⟨b,es⟩,⟨rfl,F,O⟩,_,_,_,aj⟩
 ·exact .inl ⟨p4.1 (by simpa using hlen.symm),rfl⟩
 ·simp only at F O aj;refine .inr ⟨b,rows,by rw[hlen],al,?_⟩;simp only[iO,if_true,aj,c7,hk,F,List.drop_zero];rw[<-O]
structure vh(h:ad)(ai az:Nat)(b3:List (List ak))(br:List I):Prop where
 c:h.cell ai=j [.ptr az 0 0::br]
 lt:ai<h.n
 len:br.length=b3.length
 v:∀p:Nat,p<b3.length->∃v,br[p]? =j v/\CM h v (b3.getD p [])
theorem vi(s:aQ ae aH aA h L)(i:Nat)(aa:L[i]? =j (lo ai az b3)):∃br,vh h ai az b3 br:=by obtain⟨ag,ap,x⟩:=s.get i aa;obtain⟨br,al,a4⟩:=VH x;have c:=a4.cell 0 rfl;refine⟨br,c.1,c.2,al,λp aB=>?_⟩;obtain⟨v,F,O⟩:=VI al aB;obtain⟨eQ,eR,b2⟩:=a4.get (p+1) O;exact⟨v,F,akL b2⟩
theorem vh.push{br:List I}{es:List (List I)}(v:vh h ai az b3 br)(s:aQ ae aH aA (h.push es) L)(i:Nat)(aa:L[i]? =j (lo ai az b3)):vh (h.push es) ai az b3 br:=by
 obtain⟨pN,bu⟩:=vi s i aa;have e:=bu.c;rw[bi v.lt,v.c]at e;obtain rfl:br=pN:=by simpa using e
 exact bu
theorem vh.box{br:List I}(v:vh h ai az b3 br)(n:Nat):c0 T n h (.ptr ai 0 0)=j (.ptr az 0 0):=by rw[hD,v.c];rfl
theorem vh.hx{br:List I}(v:vh h ai az b3 br){p:Nat}{w:I}(hw:br[p]? =j w)(n:Nat):c0 T n h (.ptr ai 0 (1+p))=j w:=by rw[hD,v.c];show(I.ptr az 0 0::br)[1+p]? =j w;rw[Nat.add_comm,List.getElem?_cons_succ];exact hw
theorem VJ{b p:Nat}(q:jC)(aB:p<4):ft ab (j (4,1)) (.ptr b 0 1) (.int q (p:Int))=j (.ptr b 0 (1+p)):=by simp[ft,aB]
theorem akM(fq:aQ ae aH aA h L)(i:Nat)(aa:L[i]? =j (lo ai az b3)){p:Nat}(aB:p<b3.length){v:ak}{r:List I}(R:b1 v r)(al:(b3.getD p []).length<=1000000){kT:Nat}(aN:h.cell kT=j [bt]){br:List I}{w:I}(e6:vh h ai az b3 br)(hw:br[p]? =j w):∃q F O af,fx Q cg w (.bd kT 0 1 cg) h=j (.bd q 0 ((b3.getD p []).length+1) cg,F)/\ew 3 F (.ptr q (b3.getD p []).length 0) (.agg r)=j O/\ew 1 O (.ptr ai 0 (1+p)) (.bd q 0 ((b3.getD p []).length+1) cg)=j af/\c0 Q 3 af (.ptr q (b3.getD p []).length 0)=j (.agg r)/\aQ ae aH aA af (L.set i (lo ai az (b3.set p (b3.getD p []++[v])))):=by
 have wY:b1 bE bt:=pG;obtain⟨af,⟨q,F,O⟩,⟨ao,aq,bm,ck⟩,dW⟩:=fq.zw (dG:=λaf (q:Nat×ad×ad)=>fx Q cg w (.bd kT 0 1 cg) h=j (.bd q.1 0 ((b3.getD p []).length+1) cg,q.2.1)/\ew 3 q.2.1 (.ptr q.1 (b3.getD p []).length 0) (.agg r)=j q.2.2/\ew 1 q.2.2 (.ptr ai 0 (1+p)) (.bd q.1 0 ((b3.getD p []).length+1) cg)=j af/\c0 Q 3 af (.ptr q.1 (b3.getD p []).length 0)=j (.agg r)) i aa (Y:=λ_=>lo ai az (b3.set p (b3.getD p []++[v]))) λag ap x=>by
  obtain⟨pN,hl,s⟩:=VH x;have hr:=s.cell 0 rfl;have Iq:pN=br:=by have:=e6.c;rw[hr.1]at this;simpa using this
  subst Iq;obtain⟨aV,kA,p7⟩:=VI hl aB;rw[hw]at kA;injection kA with kA;subst kA;have eb:(a9 ai [.ptr az 0 0::pN]::List.zipWith it pN b3)[p+1]? =j (it w (b3.getD p [])):=p7;generalize b3.getD p []=l at*;obtain⟨F,ao,a4⟩:=s.app (p+1) eb aN wY al;have bh:p+1<(a9 ai [.ptr az 0 0::pN]::List.zipWith it pN b3).length:=(gg.1 eb).1;obtain⟨O,aq,bn⟩:=a4.call (dG:=λO=>ew 3 F (.ptr h.n l.length 0) (.agg r)=j O) (X:=it (.bd h.n 0 (l.length+1) cg) (l++[bE])) (Y:=it (.bd h.n 0 (l.length+1) cg) ((l++[bE]).set l.length v)) (p+1) (by rw[sv];simp only[if_true,bh]) λag ap x=>Ts x (i:=l.length) (by simp) R;rw[List.set_set,show(l++[bE]).set l.length v=l++[v] from JW l [] bE v rfl]at bn;have bn:aQ h ag ap O (a9 ai [.ptr az 0 0::pN]::List.zipWith it (pN.set p (.bd h.n 0 (l.length+1) cg)) (b3.set p (l++[v]))):=by rw[<-akK];exact bn
  have bZ:=bn.cell 0 rfl;have b0:=bn.set 0 rfl [.ptr az 0 0::pN.set p (.bd h.n 0 (l.length+1) cg)];have ky:p<pN.length:=by omega
  refine⟨_,(h.n,F,O),⟨ao,aq,lW bZ.1 rfl rfl rfl (by simp;omega),?_⟩,?_⟩
  ·have cO:ai≠h.n:=by have:=hr.2;omega
   rw[hD,gB (kw cO),<-hD (agg:=Q) (n:=3)];exact Tt aq
  ·refine akJ (br:=pN.set p (.bd h.n 0 (l.length+1) cg)) (by simp[hl]) ?_;have e:dt (I.ptr az 0 0::pN) (1+p) (I.bd h.n 0 (l.length+1) cg).cells= .ptr az 0 0::pN.set p (.bd h.n 0 (l.length+1) cg):=by rw[Nat.add_comm];unfold dt;simp only[I.cells,List.take_succ_cons,gp,List.drop_succ_cons,l0];rw[List.set_eq_take_append_cons_drop,if_pos ky];simp
   simp only[List.set_cons_zero];rw[e];exact b0
 exact⟨q,F,O,af,ao,aq,bm,ck,dW⟩
end
structure rL where
 (ai az b6 ca:Nat)
abbrev fK(c:rL)(H:c5):List cd:=[lo c.ai c.az H.b3,gZ c.az c.b6 c.ca H.ms H.S.kept,hM c.b6 H.S.G,gY c.ca H.S.cells H.S.log]
structure qA(H:c5):Prop where
 dk:H.Good
 log:H.S.log.length<=800000
 b3:∀l∈H.b3,l.length<=90000
theorem qA.len{H:c5}(E:qA H):H.ms.length=H.S.kept.length:=E.dk.ms.trans E.dk.st.kept.symm
section
variable{h J ae:ad}{ag ap aH aA:Nat->Prop}{L:List cd}{ai az:Nat}{b3:List (List ak)}{c:rL}{H:c5}
theorem pO(p:Int):a3 ar W 52 [.int o p] h=j (.inl (.bool (j2 p)),h):=by refine bC akG rfl ?_;unfold Vf;unfold j2;cases F:decide (0<=p)<;>simp only[ay,aD,aO,ax,F]
abbrev fh(c f:Int)(r:List I):List I:=.int o c::.int o f::r
theorem akN(x:(lo ai az b3).A h ag ap){k:Int}(Z:k≠0)(p n:Int):∃J,a3 ar W 54 [.ptr ai 0 0,.int o p,.int o n,.int o k] h=j (.inl (.agg (fh k 0 bt)),J)/\gx h ag ap J (lo ai az b3):=by have fq:aQ h ag ap h [lo ai az b3]:=aQ.start (c4.one x);have a4:=fq.push [fh k 0 bt];have d1:decide (k=0)=T:=decide_eq_false Z;refine⟨_,?_,gx.imp (λ_ _ _=>c4.zu) a4.drop⟩;refine bC Vi rfl ?_;unfold Mo;simp only[ay,aD,aO,ax,dI,d1]
theorem akO(x:(lo ai az b3).A h ag ap)(aw:b3.length=4)(al:∀l∈b3,l.length<=90000){p:Int}(aB:0<=p/\p<4)(n:Int):∃J,a3 ar W 54 [.ptr ai 0 0,.int o p,.int o n,.int o 0] h=j (.inl (.agg (fh 0 0 [.int o 4,.int o n,.aF])),J)/\gx h ag ap J (lo ai az (b3.set p.toNat (b3.getD p.toNat []++[jO n]))):=by
 obtain⟨D,rfl⟩:∃D:Nat,p=(D:Int):=⟨p.toNat,by omega⟩;have U:D<4:=by omega
 have fq:aQ h ag ap h [lo ai az b3]:=aQ.start (c4.one x);have a4:=fq.push [fh 0 0 bt];have bn:=a4.push [[.int o 4,.int o n,.aF]];have b0:=bn.push [bt];have hr:=(b0.cell 0 rfl).1;have a8:=(b0.cell 1 rfl).1;have bZ:=(b0.cell 2 rfl).1;obtain⟨br,hd⟩:=vi bn 2 rfl;have R:=hd.push b0 3 rfl;obtain⟨w,hw,bP⟩:=R.v D (by omega);have hx:=R.hx hw;have akP:=hd.hx hw;have c9:=(bn.cell 0 rfl).1;have akQ:(b3.getD D []).length<=1000000:=by
  have:b3.getD D []∈b3:=by rw[cK,fz (by omega),pf];exact h2 _
  have:=al _ this;omega
 obtain⟨q,F,O,af,aJ,a1,bf,cv,cc⟩:=akM b0 3 rfl (p:=D) (by omega) (F6 n) akQ hr R hw;have cc:aQ h ag ap af [a9 (h.n+1+1) [bt],a9 (h.n+1) [[.int o 4,.int o n,.aF]],a9 h.n [fh 0 0 bt],lo ai az (b3.set D (b3.getD D []++[jO n]))]:=cc;have aJ:fx Q cg w (.bd (h.n+1+1) 0 1 cg) _=_:=aJ;have ao:=(cc.cell 1 rfl).1;have aq:=(cc.cell 2 rfl).1;have cE:=cc.set 2 rfl [fh 0 0 [.int o 4,.int o n,.aF]];have f1:cf 1 (.ptr ai 0 0)=j (.ptr ai 0 1):=rfl;have b8:∀q,ft ab (j (4,1)) (.ptr ai 0 1) (.int q (D:Int))=j (.ptr ai 0 (1+D)):=λq=>VJ q U;have akR:∀k,ft (j cg) ab (.bd q 0 ((b3.getD D []).length+1) cg) (.int k ((b3.getD D []).length:Int))=j (.ptr q (b3.getD D []).length 0):=λk=>by rw[y5 rfl (Nat.lt_succ_self _),hk]
 obtain⟨dh,cC,iL,uk⟩:=bP.fits |> λf=>And.intro bP.len (And.intro f (And.intro bP.one bP.cells));rw[n9];generalize b3.getD D []=l at*;refine⟨_,?_,gx.imp (λ_ _ _=>c4.zu) cE.drop.drop.drop⟩;have ed:∀x,(h.push [fh 0 0 bt]).push x=(h.push [fh 0 0 bt]).push x:=λ_=>rfl;refine bC Vi rfl ?_;unfold Mo;simp only[ay,aD,aO,ax,dI,f1,b8,akR,hx,akP,dh,cC,aJ,a1,bf,cv,ao,aq]
theorem akS{az p:Nat}(q:jC)(aB:p<4):ft ab (j (4,5)) (.ptr az 0 2) (.int q (p:Int))=j (.ptr az 0 (2+p*5)):=by simp[ft];omega
theorem akT(x:(c4 (fK c H)).A h ag ap)(E:qA H)(p:Int){M:List bk}{v:I}(c2:fE hu v es)(fm:ih M es)(dH:M.length<=100000)(av:∀x∈M,x.size<=100000):∃J,a3 ar W 51 [.ptr c.ai 0 0,.int o p,.agg [v]] h=j (.inl (.int o (H.load p M).2),J)/\gx h ag ap J (c4 (fK c (H.load p M).1)):=by
 have fq:aQ h ag ap h (fK c H):=aQ.start x;have a4:=fq.push [[v]];have jG:∀h,lK h v M:=λh=>lK.of c2 fm;have wi:=(jG h).one;have a8:=(a4.cell 0 rfl).1;unfold c5.load;cases aB:j2 p with
 |false=>refine⟨_,?_,a4.drop⟩;refine bC Mn rfl ?_;unfold GO;simp only[ay,aD,aO,ax,pO,aB,wi]
 |true=>
   obtain⟨gN,ed⟩:=sM.1 aB;rw[if_neg (by decide)];have mk:=λ(h:ad)=>agA (h:=h) c2 fm jG dH av;unfold xq at mk;have bn:=a4.push [[.int o (hE M).1,.int o (hE M).2]];have bZ:=(bn.cell 0 rfl).1;by_cases aN:(hE M).1=0
   ·have o5:decide ((hE M).1=0)=Q:=decide_eq_true aN;rw[if_neg (λh=>h aN)];obtain⟨D,rfl⟩:∃D:Nat,p=(D:Int):=⟨p.toNat,by omega⟩;obtain⟨f1,f2,f3⟩:=x5 M;have f4:(kE M).cells=[kE M]:=by unfold kE;rfl
    have U:D<4:=by omega
    obtain⟨br,R⟩:=vi bn 2 rfl;have F0:=R.box 1;obtain⟨af,bm,b0⟩:=akw bn 3 rfl E.len (p:=D) (by rw[E.dk.ms];exact U) (M:=M) pG;have b8:∀q,ft ab (j (4,5)) (.ptr c.az 0 2) (.int q (D:Int))=j (.ptr c.az 0 (2+D*5)):=λq=>akS q U;have c1:cf 2 (.ptr c.az 0 0)=j (.ptr c.az 0 2):=rfl;have xb:cf 0 (.ptr c.ai 0 0)=j (.ptr c.ai 0 0):=rfl;refine⟨af,?_,b0.drop.drop⟩;rw[if_pos aN]at mk;rw[n9];generalize kE M=anA at*;refine bC Mn rfl ?_;unfold GO;simp only[ay,aD,aO,ax,dI,ct,pO,aB,wi,a8,mk,o5,F0,b8,xb,c1,f3,f4,bm]
   ·have o5:decide ((hE M).1=0)=T:=decide_eq_false aN;rw[if_pos aN];rw[if_neg aN]at mk;refine⟨_,?_,bn.drop.drop⟩;refine bC Mn rfl ?_;unfold GO;simp only[ay,aD,aO,ax,ct,pO,aB,wi,a8,mk,o5]
def dN(x:hX)(m:I):List I:=[.int o x.kind,.int o x.p,.int o x.q,.int o x.k,.int o x.h,.int o x.r,.int o x.g,.int o x.n,m]
def ou(e:m9)(r:List I):Prop:=∃q,r=fh e.code e.fuel q/\b1 e.v q
theorem ou.no{c:Int}:ou (m9.no c) (fh c 0 bt):=⟨bt,rfl,pG⟩
theorem MC{b:Nat}{p:Int}(q:jC)(ae:0<=p)(F:p<4):ft ab (j (4,1)) (.ptr b 0 1) (.int q p)=j (.ptr b 0 (1+p.toNat)):=by obtain⟨D,rfl⟩:=Int.eq_ofNat_of_zero_le ae;rw[n9];exact VJ q (by omega)
abbrev GZ(gE:Nat)(y:hX)(m:I)(fv:List I)(c:rL)(H:c5):List cd:=[a9 (gE+1+1) [fv],a9 (gE+1) [fh 0 0 bt],a9 gE [dN y m],lo c.ai c.az H.b3,gZ c.az c.b6 c.ca H.ms H.S.kept,hM c.b6 H.S.G,gY c.ca H.S.cells H.S.log]
structure akU(ae:ad)(aH aA:Nat->Prop)(gE:Nat)(dD:ad)(y:hX)(m:I)(fv:List I)(c:rL)(H:c5)(bx:bp)(v:ak)(n k:Int)(bg:ad)(bM:List I):Prop where
 e:a3 ar W iG (pM c.az y.p y.k fv 2000) dD=j (.inl (.bW [.agg bM,.int o n,.int o k]),bg)
 MD:b1 v bM
 hT:dD.cell (gE+1+1)=j [fv]
 a1:dD.cell gE=j [dN y m]
 wB:c0 T 1 dD (.ptr c.ai 0 0)=j (.ptr c.az 0 0)
 lk:(bg.push [bt]).cell (gE+1+1)=j [fv]
 dx:(bg.push [bt]).cell gE=j [dN y m]
 az:c0 T 1 (bg.push [bt]) (.ptr c.ai 0 0)=j (.ptr c.az 0 0)
 d1:(bg.push [bM]).cell (gE+1)=j [fh 0 0 bt]
 s:aQ ae aH aA ((bg.push [bM]).set (gE+1) (j [fh k n bM])) (fK c {H with S:=bx})
theorem VK{gE:Nat}{dD:ad}{y:hX}{m:I}{fv:List I}{arg:ak}(s:aQ ae aH aA dD (GZ gE y m fv c H))(E:qA H)(R:b1 arg fv)(ey:arg.size<=100000):∃bg bM,akU ae aH aA gE dD y m fv c H (fu H.ms y.p y.k arg 2000 H.S).1 (fu H.ms y.p y.k arg 2000 H.S).2.1 (fu H.ms y.p y.k arg 2000 H.S).2.2.1 (fu H.ms y.p y.k arg 2000 H.S).2.2.2 bg bM:=by
 obtain⟨bg,⟨bM,eB,da⟩,cE⟩:=s.GM (A:=[a9 (gE+1+1) [fv],a9 (gE+1) [fh 0 0 bt],a9 gE [dN y m],lo c.ai c.az H.b3]) (M:=[gZ c.az c.b6 c.ca H.ms H.S.kept,hM c.b6 H.S.G,gY c.ca H.S.cells H.S.log]) (B:=[]) (u2:=[gZ c.az c.b6 c.ca H.ms (fu H.ms y.p y.k arg 2000 H.S).1.kept,hM c.b6 (fu H.ms y.p y.k arg 2000 H.S).1.G,gY c.ca (fu H.ms y.p y.k arg 2000 H.S).1.cells (fu H.ms y.p y.k arg 2000 H.S).1.log])
  λag ap x=>ako (p:=y.p) (f:=y.k) (fuel:=2000) R ey x E.dk.ms E.dk.ok.dk E.dk.ok.sized E.dk.st (by have:=E.log;omega)
 have cE:aQ ae aH aA bg (GZ gE y m fv c {H with S:=(fu H.ms y.p y.k arg 2000 H.S).1}):=cE;obtain⟨br,pa⟩:=vi s 3 rfl;have ee:=cE.push [bt];obtain⟨anB,akV⟩:=vi ee 4 rfl;have jS:=cE.push [bM];have j1:=jS.set 2 rfl [fh (fu H.ms y.p y.k arg 2000 H.S).2.2.2 (fu H.ms y.p y.k arg 2000 H.S).2.2.1 bM];exact⟨bg,bM,eB,da,(s.cell 0 rfl).1,(s.cell 2 rfl).1,pa.box 1,(ee.cell 1 rfl).1,(ee.cell 3 rfl).1,akV.box 1,(jS.cell 2 rfl).1,j1.drop.drop.drop.drop⟩
theorem akW(x:(c4 (fK c H)).A h ag ap)(E:qA H)(y:hX){m:I}(hm:m.one=Q):∃J,(∃r,a3 ar W 56 [.ptr c.ai 0 0,.agg (dN y m)] h=j (.inl (.agg r),J)/\ou (H.call y).2 r)/\gx h ag ap J (c4 (fK c (H.call y).1)):=by
 have fq:aQ h ag ap h (fK c H):=aQ.start x;have a4:=fq.push [dN y m];have bn:=a4.push [fh 0 0 bt];have b0:aQ h ag ap _ (GZ h.n y m [.int o 1,.int o y.n,.aF] c H):=bn.push [[.int o 1,.int o y.n,.aF]];have hr:=(b0.cell 0 rfl).1;have a8:=(b0.cell 1 rfl).1;have bZ:=(b0.cell 2 rfl).1;have d2:=(bn.cell 1 rfl).1;obtain⟨br,R⟩:=vi b0 3 rfl;have km:∀x,(((h.push [dN y m]).push [fh 0 0 bt]).push [bt]).set (h.n+1+1) (j x)=((h.push [dN y m]).push [fh 0 0 bt]).push x:=λx=>vN;have kn:(((h.push [dN y m]).push [fh 0 0 bt]).push [bt]).cell (h.n+1+1)=j [bt]:=kd (h:=(h.push [dN y m]).push [fh 0 0 bt]);have f4:∀b E k,cf E (.ptr b 0 k)=j (.ptr b 0 (k+E)):=λ_ _ _=>rfl;simp only[dN]at bZ d2 km kn;unfold c5.call;by_cases aj:0<=y.h/\(j2 y.p=T\/((H.hand y.p).length:Int)<=y.h)
 ·rw[if_pos aj];obtain⟨ni,jx⟩:=aj;have z4:decide (0<=y.h)=Q:=decide_eq_true ni;have cc:=b0.set 1 rfl [fh 8 0 bt];refine⟨_,⟨_,?_,ou.no⟩,cc.drop.drop.drop⟩;cases aB:j2 y.p with
  |false=>refine bC GR rfl ?_;unfold CK;simp only[ay,aD,aO,ax,dI,dN,pO,aB,hm,z4,bZ,d2,kn,km]
  |true=>obtain⟨gN,ed⟩:=sM.1 aB;have al:((H.hand y.p).length:Int)<=y.h:=jx.resolve_left (by simp[aB]);have sH:decide (((H.hand y.p).length:Int)<=y.h)=Q:=decide_eq_true al;obtain⟨w,hw,bP⟩:=R.v y.p.toNat (by rw[E.dk.b3];omega);have hx:=R.hx hw;simp only[dN]at hx;have b8:=λq=>MC (b:=c.ai) q gN ed;have bP:CM _ w (H.hand y.p):=bP;have dh:=bP.len;have cC:=bP.fits;refine bC GR rfl ?_;unfold CK;simp only[ay,aD,aO,ax,dI,dN,pO,aB,hm,z4,bZ,d2,kn,km,b8,hx,dh,cC,sH]
 ·rw[if_neg aj];have G0:=E.dk.arg y;by_cases F:0<=y.h
  ·have aB:j2 y.p=Q:=by
    cases aB:j2 y.p with
    |true=>rfl
    |false=>exact absurd ⟨F,.inl aB⟩ aj
   have al:¬((H.hand y.p).length:Int)<=y.h:=λh=>aj ⟨F,.inr h⟩;obtain⟨gN,ed⟩:=sM.1 aB;have sH:decide (((H.hand y.p).length:Int)<=y.h)=T:=decide_eq_false al;have z4:decide (0<=y.h)=Q:=decide_eq_true F;obtain⟨w,hw,bP⟩:=R.v y.p.toNat (by rw[E.dk.b3];omega);have hx:=R.hx hw;simp only[dN]at hx;have b8:=λq=>MC (b:=c.ai) q gN ed;have bP:CM _ w (H.hand y.p):=bP;have dh:=bP.len;have cC:=bP.fits;rw[if_pos F]at G0 ⊢;have aa:y.h.toNat<(H.hand y.p).length:=by omega
   have akX:(H.hand y.p)[y.h.toNat]? =j ((H.hand y.p).getD y.h.toNat bE):=by simp[cK,aa]
   generalize (H.hand y.p).getD y.h.toNat bE=arg at*;obtain⟨anC,fv,dJ,hp,MD⟩:=bP.b8 o _ _ akX;rw[Int.toNat_of_nonneg F]at dJ;have VL:=hp;simp only[dN]at VL;have cc:aQ h ag ap _ (GZ h.n y m fv c H):=bn.push [fv];obtain⟨bT,bQ⟩:=MD.cZ;have Ml:((((h.push [dN y m]).push [fh 0 0 bt]).push [[.int o 1,.int o y.n,.aF]]).set (h.n+1+1) (j [fv]))=((h.push [dN y m]).push [fh 0 0 bt]).push [fv]:=vN;simp only[dN]at Ml;obtain⟨bg,bM,e,bu,hT,a1,wB,lk,dx,az,d1,CN⟩:=VK cc E MD G0.2;generalize fu H.ms y.p y.k arg 2000 H.S=q at*;obtain⟨bx,v,n,k⟩:=q;simp only at e bu hT a1 wB lk dx az d1 CN ⊢;obtain⟨e8,g9⟩:=bu.cZ;refine⟨_,⟨_,?_,⟨bM,rfl,bu⟩⟩,CN⟩;simp only[dN]at e hT a1 wB lk dx;refine bC GR rfl ?_;unfold CK;simp only[ay,aD,aO,ax,dI,dN,pO,aB,hm,z4,bZ,d2,kn,km,b8,hx,dh,cC,sH,Ml,dJ,VL,bT,bQ,e,hT,a1,wB,lk,dx,az,d1,e8,g9]
  ·rw[if_neg F]at G0 ⊢;have z4:decide (0<=y.h)=T:=decide_eq_false F;obtain⟨bg,bM,e,bu,hT,a1,wB,lk,dx,az,d1,CN⟩:=VK b0 E (Ce y.n) G0.2;generalize fu H.ms y.p y.k (iC y.n) 2000 H.S=q at*;obtain⟨bx,v,n,k⟩:=q;simp only at e bu hT a1 wB lk dx az d1 CN ⊢;obtain⟨e8,g9⟩:=bu.cZ;refine⟨_,⟨_,?_,⟨bM,rfl,bu⟩⟩,CN⟩;simp only[dN]at e hT a1 wB lk dx;refine bC GR rfl ?_;unfold CK;simp only[ay,aD,aO,ax,dI,dN,pO,hm,z4,bZ,d2,kn,km,e,hT,wB,lk,dx,az,d1,e8,g9]
end
section
variable{h J ae:ad}{ag ap aH aA:Nat->Prop}{L:List cd}{c:rL}{H:c5}
abbrev wC(gE:Nat)(y:hX)(m:I)(c:rL)(H:c5):List cd:=[a9 (gE+1) [fh 0 0 bt],a9 gE [dN y m],lo c.ai c.az H.b3,gZ c.az c.b6 c.ca H.ms H.S.kept,hM c.b6 H.S.G,gY c.ca H.S.cells H.S.log]
theorem sO{gE:Nat}{dD:ad}{y:hX}{m:I}(s:aQ ae aH aA dD (wC gE y m c H))(q:List I):dD.cell (gE+1)=j [fh 0 0 bt]/\dD.cell gE=j [dN y m]/\aQ ae aH aA (dD.set (gE+1) (j [q])) (fK c H):=⟨(s.cell 0 rfl).1,(s.cell 1 rfl).1,(s.set 0 rfl [q]).drop.drop⟩
theorem G1{gE:Nat}{dD:ad}{y:hX}{m:I}(s:aQ ae aH aA dD (wC gE y m c H))(E:qA H){dG:ad->Prop}{cU:aC}(jR:∀ag ap,fO dD ag ap c.b6 H.S.G->∃J,dG J/\hF dD ag ap c.b6 J cU):c0 T 1 dD (.ptr c.ai 0 0)=j (.ptr c.az 0 0)/\c0 T 1 dD (.ptr c.az 0 0)=j (.ptr c.b6 0 0)/\∃J,dG J/\aQ ae aH aA J (wC gE y m c (H.graph cU)):=by obtain⟨br,R⟩:=vi s 2 rfl;have cC:=(F7 s (xY:=3) rfl E.len).1 1;obtain⟨J,r,dW⟩:=s.call (dG:=dG) (Y:=hM c.b6 cU) 4 rfl jR;exact⟨R.box 1,cC,J,r,dW⟩
theorem VM{gE:Nat}{dD:ad}{y:hX}{m:I}(s:aQ ae aH aA dD (wC gE y m c H))(E:qA H){p:Int}(aB:j2 p=Q)(n k:Int):∃J r,a3 ar W 54 [.ptr c.ai 0 0,.int o p,.int o n,.int o k] dD=j (.inl (.agg r),J)/\ou (H.ot p n k).2 r/\aQ ae aH aA J (wC gE y m c (H.ot p n k).1):=by
 unfold c5.ot;by_cases Z:k≠0
 ·rw[if_pos Z];obtain⟨J,e,dW⟩:=s.call (dG:=λJ=>a3 ar W 54 [.ptr c.ai 0 0,.int o p,.int o n,.int o k] dD=j (.inl (.agg (fh k 0 bt)),J)) 2 rfl λag ap x=>akN x Z p n;exact⟨J,_,e,ou.no,dW⟩
 ·rw[if_neg Z];have Z:=la.1 Z;subst Z;obtain⟨J,e,dW⟩:=s.call (dG:=λJ=>a3 ar W 54 [.ptr c.ai 0 0,.int o p,.int o n,.int o 0] dD=j (.inl (.agg (fh 0 0 [.int o 4,.int o n,.aF])),J)) 2 rfl λag ap x=>akO x E.dk.b3 E.b3 (sM.1 aB) n;exact⟨J,_,e,⟨_,rfl,F6 n⟩,dW⟩
theorem ou.all{e:m9}{r:List I}(h:ou e r):r.length=5/\r.all I.one=Q:=by obtain⟨q,rfl,aG⟩:=h;obtain⟨bN,bL⟩:=aG.cZ;refine⟨by simp[bN],?_⟩;simp only[List.all_cons,bL,r9];rfl
theorem akY(x:(c4 (fK c H)).A h ag ap)(E:qA H)(y:hX){m:I}(c2:fE hu m es)(fm:ih y.m es)(dH:y.m.length<=100000)(av:∀x∈y.m,x.size<=100000):∃J,(∃r,a3 ar W 23 [.ptr c.ai 0 0,.agg (dN y m)] h=j (.inl (.agg r),J)/\ou (H.step y).2 r)/\gx h ag ap J (c4 (fK c (H.step y).1)):=by
 have fq:aQ h ag ap h (fK c H):=aQ.start x;have a4:=fq.push [dN y m];have bn:aQ h ag ap _ (wC h.n y m c H):=a4.push [fh 0 0 bt];have hm:m.one=Q:=(lK.of (h:=h) c2 fm).one;have a8:((h.push [dN y m]).push [fh 0 0 bt]).cell h.n=j [dN y m]:=(bn.cell 1 rfl).1;have km:∀x,((h.push [dN y m]).push [fh 0 0 bt]).set (h.n+1) (j x)=(h.push [dN y m]).push x:=λx=>vN;have kn:∀x,((h.push [dN y m]).push x).cell (h.n+1)=j x:=λx=>kd (h:=h.push [dN y m]);unfold c5.step;by_cases dc:y.kind=1
 ·have d1:decide (y.kind=1)=Q:=decide_eq_true dc;rw[if_pos dc];obtain⟨bg,eB,cE⟩:=bn.GM (A:=[a9 (h.n+1) [fh 0 0 bt],a9 h.n [dN y m]]) (M:=fK c H) (B:=[]) (u2:=fK c (H.load y.p y.m).1) (dG:=λJ=>a3 ar W 51 [.ptr c.ai 0 0,.int o y.p,.agg [m]] _=j (.inl (.int o (H.load y.p y.m).2),J)) λag ap x=>akT x E y.p c2 fm dH av;have cE:aQ h ag ap bg (wC h.n y m c (H.load y.p y.m).1):=cE;obtain⟨c9,dx,ee⟩:=sO cE (fh (H.load y.p y.m).2 0 bt);refine⟨_,⟨_,?_,ou.no⟩,ee⟩;have lm:gG Q 1 (dN y m) 8=j (.agg [m]):=rfl;simp only[dN]at a8 km kn eB lm;refine bC tQ rfl ?_;unfold sN;simp only[ay,aD,aO,ax,dI,dN,hm,d1,a8,kn,km,lm,eB,c9]
 have d1:decide (y.kind=1)=T:=decide_eq_false dc;rw[if_neg dc];by_cases z5:y.kind=2\/y.kind=3
 ·rw[if_pos z5];cases aB:j2 y.p with
  |false=>
    have ee:=(sO bn (fh 1 0 bt)).2.2;refine⟨_,⟨_,?_,ou.no⟩,ee⟩;simp only[dN]at a8 km kn;rcases z5 with dr|g6
    ·have d2:decide (y.kind=2)=Q:=decide_eq_true dr;refine bC tQ rfl ?_;unfold sN;simp only[ay,aD,aO,ax,dI,dN,pO,aB,hm,d1,d2,a8,kn,km]
    ·have d2:decide (y.kind=2)=T:=decide_eq_false (by omega);have d3:decide (y.kind=3)=Q:=decide_eq_true g6;refine bC tQ rfl ?_;unfold sN;simp only[ay,aD,aO,ax,dI,dN,pO,aB,hm,d1,d2,d3,a8,kn,km]
  |true=>
    rw[if_neg (by decide)];by_cases dr:y.kind=2
    ·have d2:decide (y.kind=2)=Q:=decide_eq_true dr;rw[if_pos dr];obtain⟨dh,cC,af,bm,b0⟩:=G1 bn E (λag ap g=>agL g E.dk.st.wf y.k y.r y.g);have eO:qA (H.graph (H.S.G.eh y.k y.r y.g).1):=⟨E.dk.graph (E.dk.st.wf.eh _ _ _),E.log,E.b3⟩;obtain⟨bg,sA,eB,da,cE⟩:=VM b0 eO aB (H.S.G.eh y.k y.r y.g).2.1 (H.S.G.eh y.k y.r y.g).2.2;obtain⟨aJ,a1,_⟩:=sO b0 sA;obtain⟨c9,dx,ee⟩:=sO cE sA;obtain⟨e8,g9⟩:=da.all;refine⟨_,⟨_,?_,da⟩,ee⟩;simp only[dN]at a8 km kn dh cC bm a1;refine bC tQ rfl ?_;unfold sN;simp only[ay,aD,aO,ax,dI,dN,pO,aB,hm,d1,d2,a8,kn,km,dh,cC,bm,a1,eB,c9,e8,g9]
    ·have d2:decide (y.kind=2)=T:=decide_eq_false dr;have d3:decide (y.kind=3)=Q:=decide_eq_true (z5.resolve_left dr);rw[if_neg dr];obtain⟨dh,cC,af,bm,b0⟩:=G1 bn E (λag ap g=>agN g E.dk.st.wf y.q y.k y.r y.g);have eO:qA (H.graph (H.S.G.l1 y.q y.k y.r y.g).1):=⟨E.dk.graph (E.dk.st.wf.l1 _ _ _ _),E.log,E.b3⟩;obtain⟨bg,sA,eB,da,cE⟩:=VM b0 eO aB (H.S.G.l1 y.q y.k y.r y.g).2.1 (H.S.G.l1 y.q y.k y.r y.g).2.2;obtain⟨aJ,a1,_⟩:=sO b0 sA;obtain⟨c9,dx,ee⟩:=sO cE sA;obtain⟨e8,g9⟩:=da.all;refine⟨_,⟨_,?_,da⟩,ee⟩;simp only[dN]at a8 km kn dh cC bm a1;refine bC tQ rfl ?_;unfold sN;simp only[ay,aD,aO,ax,dI,dN,pO,aB,hm,d1,d2,d3,a8,kn,km,dh,cC,bm,a1,eB,c9,e8,g9]
 rw[if_neg z5];have d2:decide (y.kind=2)=T:=decide_eq_false λh=>z5 (.inl h);have d3:decide (y.kind=3)=T:=decide_eq_false λh=>z5 (.inr h);by_cases fA:y.kind=4
 ·have d4:decide (y.kind=4)=Q:=decide_eq_true fA;rw[if_pos fA];obtain⟨bg,⟨sA,eB,da⟩,cE⟩:=bn.GM (A:=[a9 (h.n+1) [fh 0 0 bt],a9 h.n [dN y m]]) (M:=fK c H) (B:=[]) (u2:=fK c (H.call y).1) (dG:=λJ=>∃r,a3 ar W 56 [.ptr c.ai 0 0,.agg (dN y m)] _=j (.inl (.agg r),J)/\ou (H.call y).2 r) λag ap x=>akW x E y hm;have cE:aQ h ag ap bg (wC h.n y m c (H.call y).1):=cE;obtain⟨c9,dx,ee⟩:=sO cE sA;obtain⟨e8,g9⟩:=da.all;refine⟨_,⟨_,?_,da⟩,ee⟩;simp only[dN]at a8 km kn eB;refine bC tQ rfl ?_;unfold sN;simp only[ay,aD,aO,ax,dI,dN,hm,d1,d2,d3,d4,a8,kn,km,eB,c9,e8,g9]
 have d4:decide (y.kind=4)=T:=decide_eq_false fA;rw[if_neg fA];by_cases g7:y.kind=5
 ·have d5:decide (y.kind=5)=Q:=decide_eq_true g7;rw[if_pos g7];obtain⟨dh,cC,af,bm,b0⟩:=G1 bn E (λag ap g=>QO g y.g);obtain⟨c9,dx,ee⟩:=sO b0 (fh (H.S.G.cut y.g).2 0 bt);refine⟨_,⟨_,?_,ou.no⟩,ee⟩;simp only[dN]at a8 km kn dh cC bm;refine bC tQ rfl ?_;unfold sN;simp only[ay,aD,aO,ax,dI,dN,hm,d1,d2,d3,d4,d5,a8,kn,km,dh,cC,bm,c9]
 have d5:decide (y.kind=5)=T:=decide_eq_false g7;rw[if_neg g7];by_cases ji:y.kind=6
 ·have d6:decide (y.kind=6)=Q:=decide_eq_true ji;rw[if_pos ji];obtain⟨dh,cC,af,bm,b0⟩:=G1 bn E (λag ap g=>QN g E.dk.st.wf);by_cases aN:H.S.G.gate.2.2=0
  ·have o5:decide (H.S.G.gate.2.2=0)=Q:=decide_eq_true aN;obtain⟨c9,dx,ee⟩:=sO b0 (fh 0 0 [.int o 1,.int o H.S.G.gate.2.1,.aF]);refine⟨_,⟨fh 0 0 [.int o 1,.int o H.S.G.gate.2.1,.aF],?_,?_⟩,ee⟩
   rotate_left
   ·simp only[if_neg (λh:H.S.G.gate.2.2≠0=>h aN)];exact⟨_,rfl,Ce _⟩
   simp only[dN]at a8 km kn dh cC bm;refine bC tQ rfl ?_;unfold sN;simp only[ay,aD,aO,ax,dI,dN,hm,d1,d2,d3,d4,d5,d6,a8,kn,km,dh,cC,bm,c9,o5]
  ·have o5:decide (H.S.G.gate.2.2=0)=T:=decide_eq_false aN;obtain⟨c9,dx,ee⟩:=sO b0 (fh H.S.G.gate.2.2 0 bt);refine⟨_,⟨fh H.S.G.gate.2.2 0 bt,?_,?_⟩,ee⟩
   rotate_left
   ·simp only[if_pos (show H.S.G.gate.2.2≠0 from aN)];exact ou.no
   simp only[dN]at a8 km kn dh cC bm;refine bC tQ rfl ?_;unfold sN;simp only[ay,aD,aO,ax,dI,dN,hm,d1,d2,d3,d4,d5,d6,a8,kn,km,dh,cC,bm,c9,o5]
 have d6:decide (y.kind=6)=T:=decide_eq_false ji;rw[if_neg ji];have ee:=(sO bn (fh 2 0 bt)).2.2;refine⟨_,⟨_,?_,ou.no⟩,ee⟩;simp only[dN]at a8 km kn;refine bC tQ rfl ?_;unfold sN;simp only[ay,aD,aO,ax,dI,dN,hm,d1,d2,d3,d4,d5,d6,a8,kn,km]
end
abbrev CO:aT:=56
section
variable{h J ae:ad}{ag ap aH aA:Nat->Prop}{L:List cd}{c:rL}{H:c5}{ai az:Nat}{b3:List (List ak)}
theorem akZ:(it .aF []).A h (λ_=>False) (λ_=>False):=⟨[],rfl,.inl ⟨⟨rfl,rfl⟩,λ_ h=>h,λ_ h=>h⟩⟩
theorem c4.VN:∀n:Nat,(c4 (List.zipWith it (ax n .aF) (ax n []))).A h (λ_=>False) (λ_=>False)
 |0=>⟨trivial,λ_ h=>h,λ_ h=>h⟩
 |n+1=>⟨λ_=>False,λ_=>False,λ_=>False,λ_=>False,akZ,c4.VN n,λk=>by simp,λD=>by simp,λ_ h=>h.elim,λ_ h=>h.elim⟩
theorem ak0{b:Nat}(ai:b=h.n):(lo b az [[],[],[],[]]).A (h.push [[.ptr az 0 0,.aF,.aF,.aF,.aF]]) (λk=>k=b) (λ_=>False):=by subst ai;exact⟨[.aF,.aF,.aF,.aF],rfl,λk=>k=h.n,λ_=>False,λ_=>False,λ_=>False,⟨λ_=>mY,λ_ h=>h,Nat.lt_succ_self _,kd⟩,c4.VN 4,λk=>by simp,λD=>by simp,λ_ _ h=>h,λ_ h=>h.elim⟩
theorem ME(s:aQ ae aH aA h L):∃J c,a3 ar W 22 [] h=j (.inl (.ptr c.ai 0 0),J)/\aQ ae aH aA J (fK c j3++L):=by obtain⟨F,az,b6,ca,ao,a4⟩:=akz s;have bn:=a4.add (X:=lo F.n az [[],[],[],[]]) (J:=F.push [[.ptr az 0 0,.aF,.aF,.aF,.aF]]) (eQ:=λk=>k=F.n) (eR:=λ_=>False) (aK.push _ _) (ak0 rfl) (λk Z=>pg Z.symm) (λ_ h=>h.elim);refine⟨_,⟨F.n,az,b6,ca⟩,?_,bn⟩;refine bC akF rfl ?_;unfold Ve;simp only[ay,aD,aO,ax,dI,ao]
theorem ak1(b:Nat)(n:Nat){l:List ak}{rows:List (List I)}(al:eF l rows)(he:iO h cg (.bd b 0 n cg)=j rows)(au:l.length<=1000000):∃es,a3 ar W 61 [.bd b 0 n cg] h=j (.inl (.bR ab cg es),h)/\eF l es:=by
 have hlen:=al.len;have AQ:∀m,iO (h.fresh m) cg (.bd b 0 n cg)=j rows:=λm=>he;have am:∀r∈rows,r.all I.one=Q:=by
  intro r ah;obtain⟨i,aa⟩:=List.mem_iff_getElem?.1 ah;have F:i<l.length:=by rw[<-hlen];exact(gg.1 aa).1
  obtain⟨bM,bN,bL⟩:=al.get (fz F);rw[aa]at bN;injection bN with bN;rw[bN];exact bL.cZ.2
 have ao:fx T cg (.bR (j h.ids) cg []) (.bd b 0 n cg) (h.fresh 0)=j (.bR (j h.ids) cg rows,if rows.length=0 then h.fresh 0 else(h.fresh 0).grow h.ids rows.length):=by
  simp only[fx,AQ,c7];by_cases aN:rows.length=0
  ·simp[qL,p4.1 aN]
  ·rw[if_neg aN,if_neg aN];unfold kr;rw[if_pos ⟨by omega,by omega,by rw[iR];exact am⟩];simp[pu]
 have aX:aK h (if rows.length=0 then h.fresh 0 else(h.fresh 0).grow h.ids rows.length):=by
  split
  ·exact aK.fresh h 0
  ·exact(aK.fresh h 0).grow (bV _)
 obtain⟨es,dm,gu⟩:=EV al;have hw:dA (.bR (j h.ids) cg rows)=j (.bR ab cg es):=by simp only[dA,dm,hj]
 refine⟨es,?_,gu⟩;refine bC Vl rfl ?_;unfold Mt;simp only[ay,aD,aO,ax,ao,fR aX hw]
theorem ak2:a3 ar W 61 [.aF] h=j (.inl .aF,h):=by refine bC Vl rfl ?_;unfold Mt;simp only[ay,aD,aO,ax];exact fR (aK.refl h) rfl
def c5.sP(H:c5)(p:Int):List ak:=if j2 p then H.hand p else[]
theorem ak3(s:aQ ae aH aA h L)(i:Nat)(aa:L[i]? =j (lo ai az H.b3))(aw:H.b3.length=4)(hlen:∀l∈H.b3,l.length<=90000)(p:Int):∃v es,a3 ar W 27 [.ptr ai 0 0,.int o p] h=j (.inl v,h)/\fE cg v es/\eF (H.sP p) es:=by
 unfold c5.sP;cases aB:j2 p with
 |false=>refine⟨.aF,[],?_,.inl ⟨rfl,rfl⟩,by simp[eF]⟩;refine bC Ms rfl ?_;unfold GS;simp only[ay,aD,aO,ax,pO,aB];exact fR (aK.refl h) rfl
 |true=>
   obtain⟨gN,ed⟩:=sM.1 aB;obtain⟨br,R⟩:=vi s i aa;obtain⟨w,hw,bP⟩:=R.v p.toNat (by omega);have hx:=R.hx hw;have b8:=λq=>MC (b:=ai) q gN ed;have f1:cf 1 (.ptr ai 0 0)=j (.ptr ai 0 1):=rfl;have al:(H.hand p).length<=1000000:=by
    have:H.hand p∈H.b3:=by unfold c5.hand;rw[cK,fz (by omega),pf];exact h2 _
    have:=hlen _ this;omega
   have bP:CM h w (H.hand p):=bP;rw[if_pos rfl];rcases bP.ry with⟨ao,rfl⟩|⟨b,rows,rfl,aq,bm⟩
   ·refine⟨.aF,[],?_,.inl ⟨rfl,rfl⟩,by rw[ao];simp[eF]⟩;refine bC Ms rfl ?_;unfold GS;simp only[ay,aD,aO,ax,pO,aB,f1,b8,hx,ak2];exact fR (aK.refl h) rfl
   ·obtain⟨es,ck,eB⟩:=ak1 b _ aq bm al;obtain⟨fL,dm,gu⟩:=EV eB;refine⟨.bR ab cg fL,fL,?_,.inr ⟨_,rfl⟩,gu⟩;have wj:dA (.bR ab cg es)=j (.bR ab cg fL):=by simp only[dA,dm,hj]
    refine bC Ms rfl ?_;unfold GS;simp only[ay,aD,aO,ax,pO,aB,f1,b8,hx,ck];exact fR (aK.refl h) wj
def rM:List hX->List (List I)->Prop
 |[],es=>es=[]
 |x::xs,es=>∃m ms rs,es=dN x m::rs/\fE hu m ms/\ih x.m ms/\rM xs rs
theorem rM.len:∀{xs:List hX} {es:List (List I)},rM xs es->es.length=xs.length
 |[],es,h=>by simp only[rM]at h;subst h;rfl
 |x::xs,es,h=>by obtain⟨m,ms,rs,rfl,_,_,O⟩:=h;simp[O.len]
theorem rM.get:∀{xs:List hX} {es:List (List I)} {i:Nat} {x:hX},rM xs es->xs[i]? =j x->∃m ms,es[i]? =j (dN x m)/\fE hu m ms/\ih x.m ms
 |[],es,i,x,h,aa=>by simp at aa
 |y::xs,es,i,x,h,aa=>by
   obtain⟨m,ms,rs,rfl,F,O,af⟩:=h;cases i with
   |zero=>
        obtain rfl:y=x:=by simpa using aa
        exact⟨m,ms,rfl,F,O⟩
   |succ i=>exact af.get (by simpa using aa)
def CP(xs:List hX)(eU:Nat):Bool:=(xs.take eU).any (λx=>pr x.m)||decide (eU<xs.length)
theorem ak4{xs:List hX}{eU:Nat}(h:CP xs eU=T):xs.length<=eU/\∀x∈xs,x.m.length<=100000/\∀e∈x.m,e.size<=100000:=by
 unfold CP at h;simp only[Bool.or_eq_false_iff,decide_eq_false_iff_not,Nat.not_lt]at h;obtain⟨F,O⟩:=h;rw[List.take_of_length_le O]at F;refine⟨O,λx an=>?_⟩;have aX:pr x.m=T:=by
  cases aX:pr x.m with
  |false=>rfl
  |true=>have:xs.any (λx=>pr x.m)=Q:=List.any_eq_true.2 ⟨x,an,aX⟩;rw[this]at F;cases F
 obtain⟨bN,bL⟩:=af9 aX;exact⟨by omega,λe he=>by have:=bL e he;omega⟩
theorem ak5{rows:List (List I)}{xs:List hX}(av:fE CO dy rows)(al:rM xs rows)(qX:xs.length<=9223372036854775807){eU:Nat}(hm:eU<=1000)(K:List ic):∀(d k:Nat) (J:ad) (v4 da:I),k+d=eU->aK h J->(((xs.take eU).drop k).any (λx=>pr x.m)=Q->∃V,bo (a3 ar W) 6 (.fI vg::.bO []::.cb 0::K) [dy,.int o (eU:Int),.bool T,.int o (k:Int),v4,da] [] J=j (.ret,V,J)/\V.getD 2 .aP= .bool Q)/\(((xs.take eU).drop k).any (λx=>pr x.m)=T->∃jA ir kh,bo (a3 ar W) 6 (.fI vg::.bO []::.cb 0::K) [dy,.int o (eU:Int),.bool T,.int o (k:Int),v4,da] [] J=bo (a3 ar W) 6 K [dy,.int o (eU:Int),.bool T,jA,ir,kh] [] J):=by
 have lJ:=al.len;have end_:∀(k:Nat) (J:ad) (v4 da:I),(xs.length<=k\/eU<=k)->∃jA ir kh,bo (a3 ar W) 6 (.fI vg::.bO []::.cb 0::K) [dy,.int o (eU:Int),.bool T,.int o (k:Int),v4,da] [] J=bo (a3 ar W) 6 K [dy,.int o (eU:Int),.bool T,jA,ir,kh] [] J:=by
  intro k J v4 da Z;by_cases F:k<xs.length
  ·have d1:decide ((k:Int)<(xs.length:Int))=Q:=decide_eq_true (by omega);have d2:decide ((k:Int)<(eU:Int))=T:=decide_eq_false (by omega);refine⟨.int o (k:Int),.bool T,da,?_⟩;rw[dP vg.eq_1];simp only[ay,aD,aO,ax,cF,av.e'.len,av.e'.fits,lJ,d1,d2]
  ·have d1:decide ((k:Int)<(xs.length:Int))=T:=decide_eq_false (by omega);refine⟨.int o (k:Int),.bool T,da,?_⟩;rw[dP vg.eq_1];simp only[ay,aD,aO,ax,cF,av.e'.len,av.e'.fits,lJ,d1]
 intro d;induction d with
 |zero=>intro k J v4 da Z aX;refine⟨λh=>?_,λ_=>end_ k J v4 da (.inr (by omega))⟩;rw[List.drop_eq_nil_of_le (by simp;omega)]at h;cases h
 |succ d aW=>
   intro k J v4 da Z aX;by_cases F:k<xs.length
   ·have d1:decide ((k:Int)<(xs.length:Int))=Q:=decide_eq_true (by omega);have d2:decide ((k:Int)<(eU:Int))=Q:=decide_eq_true (by omega);have an:xs[k]? =j xs[k]:=fz F;have qk:k<(xs.take eU).length:=by simp;omega
    have ak6:(xs.take eU).drop k=xs[k]::(xs.take eU).drop (k+1):=by rw[List.drop_eq_getElem_cons qk];simp
    rw[ak6,List.any_cons];generalize xs[k]=x at an;obtain⟨m,ms,bN,c2,fm⟩:=al.get an;have b8:=av.e'.b8 o k _ bN;have jG:∀h,lK h m x.m:=λh=>lK.of c2 fm;have sF:=afL (h:=J) m x.m (jG J);have vj:=(jG J).one;have f8:cf 8 (.ip (dN x m) 0)=j (.ip (dN x m) 8):=rfl;have lm:gG Q 1 (dN x m) 8=j (.agg [m]):=rfl;have w:=ht (n:=(k:Int)+1) (by omega) (by omega);obtain⟨dJ,hp⟩:=aW (k+1) J (.bool Q) (.bool (pr x.m)) (by omega) aX;have eA:((k+1:Nat):Int)=(k:Int)+1:=by omega
    cases VO:pr x.m with
    |true=>rw[VO]at sF;refine⟨λ_=>⟨[dy,.int o (eU:Int),.bool Q,.int o (k:Int),.bool Q,.bool Q],?_,rfl⟩,λh=>by simp at h⟩;rw[dP vg.eq_1];simp only[ay,aD,aO,ax,cF,ct,av.e'.len,av.e'.fits,lJ,d1,d2,b8,f8,lm,sF]
    |false=>
      rw[VO]at sF dJ hp;rw[Bool.false_or];refine⟨λh=>?_,λh=>?_⟩
      ·obtain⟨V,bT,bQ⟩:=dJ h;refine⟨V,?_,bQ⟩;rw[<-bT,eA]
       conv=>lhs;rw[dP vg.eq_1]
       simp only[ay,aD,aO,ax,cF,ct,av.e'.len,av.e'.fits,lJ,d1,d2,b8,f8,lm,sF,w]
      ·obtain⟨jA,ir,kh,bT⟩:=hp h;refine⟨jA,ir,kh,?_⟩;rw[<-bT,eA]
       conv=>lhs;rw[dP vg.eq_1]
       simp only[ay,aD,aO,ax,cF,ct,av.e'.len,av.e'.fits,lJ,d1,d2,b8,f8,lm,sF,w]
   ·refine⟨λh=>?_,λ_=>end_ k J v4 da (.inl (by omega))⟩;rw[List.drop_eq_nil_of_le (by simp;omega)]at h;cases h
theorem ak7{rows:List (List I)}{xs:List hX}(av:fE CO dy rows)(al:rM xs rows)(qX:xs.length<=9223372036854775807)(eU:Nat)(hm:eU<=1000):a3 ar W 21 [dy,.int o (eU:Int)] h=j (.inl (.bool (CP xs eU)),h):=by
 obtain⟨dJ,hp⟩:=ak5 (h:=h) av al qX hm [.bO [.ops [bj,CL,en,(.i .l (.bin (.int o) .gtr (.l 1) (.l 0))),lj],.ret]] eU 0 h .aP .aP (hk _) (aK.refl h);rw[List.drop_zero]at dJ hp;simp only[oU]at dJ hp;have lJ:=al.len;unfold CP;cases aX:(xs.take eU).any (λx=>pr x.m)with
 |true=>obtain⟨V,bT,bQ⟩:=dJ aX;refine bC Vs rfl ?_;unfold Mx;simp only[ay,aD,aO,ax];rw[bT];simp only[ay,bQ]
 |false=>
   obtain⟨jA,ir,kh,bT⟩:=hp aX;refine bC Vs rfl ?_;unfold Mx;simp only[ay,aD,aO,ax];rw[bT];simp only[ay,av.e'.len,av.e'.fits,lJ];have e:decide ((eU:Int)<(xs.length:Int))=decide (eU<xs.length):=by rw[decide_eq_decide];omega
   simp only[e]
end
structure kI(n:Nat)(H:c5):Prop where
 dk:H.Good
 log:H.S.log.length<=2000*n
 b3:∀l∈H.b3,l.length<=1000+n
theorem kI.ok{n:Nat}{H:c5}(E:kI n H)(au:n<=400):qA H:=⟨E.dk,by have:=E.log;omega,λl al=>by have:=E.b3 l al;omega⟩
theorem kI.step{n:Nat}{H:c5}(E:kI n H)(x:hX):kI (n+1) (H.step x).1:=by
 have s:=E.dk.step x;refine⟨s.dk,by have:=s.log;have:=E.log;omega,λl al=>?_⟩;rcases s.hand l al with F|⟨bJ,F,O⟩
 ·omega
 ·have:=E.b3 bJ F;omega
theorem G2:kI 0 j3:=⟨akC,by simp[j3,ve],λl al=>by
 have:l=[]:=by simpa[j3]using al
 rw[this];simp⟩
def G3:List bk:=[.mk 13 0 0 [.mk 3 0 0 []]]
def oF:hX:=⟨1,1,0,0,0,0,0,0,G3⟩
def mg:hX:=⟨2,1,0,3,0,1, -1,0,[]⟩
def rU:hX:=⟨4,1,0,0,0,0,0,0,[]⟩
def MF:c5:=(j3.step oF).1
def MG:c5:=(MF.step mg).1
def MH:c5:=(MG.step rU).1
theorem ak8:MH.sP 1=[jO 0]:=by rfl
section
variable{h J ae:ad}{ag ap aH aA:Nat->Prop}{L A B:List cd}{c:rL}{H:c5}
theorem CQ(s:aQ ae aH aA h (A++fK c H++B))(E:qA H)(y:hX){m:I}(c2:fE hu m es)(fm:ih y.m es)(dH:y.m.length<=100000)(av:∀x∈y.m,x.size<=100000):∃J r,a3 ar W 23 [.ptr c.ai 0 0,.agg (dN y m)] h=j (.inl (.agg r),J)/\ou (H.step y).2 r/\aQ ae aH aA J (A++fK c (H.step y).1++B):=by obtain⟨J,⟨r,e,v⟩,dW⟩:=s.GM (u2:=fK c (H.step y).1) λag ap x=>akY x E y c2 fm dH av;exact⟨J,r,e,v,dW⟩
theorem VP:a3 ar W 20 [] h=j (.inl (.bool Q),h):=by
 have fq:aQ h (λ_=>False) (λ_=>False) h []:=aQ.start (c4.nil _ _ _ (λ_ h=>h) (λ_ h=>h));obtain⟨F,c,ao,a4⟩:=ME fq;have cr:aK F ((F.fresh 1).fresh 1):=(aK.fresh F 1).trans (aK.fresh _ 1);have bn:=a4.iZ cr;have b2:ih G3 [[.int o 13,.int o 0,.int o 0,.bR (j F.ids) hu [[.int o 3,.int o 0,.int o 0,.aF]]]]:=⟨_,_,rfl,⟨_,_,rfl,.inr ⟨_,rfl⟩,⟨_,[],rfl,⟨_,_,rfl,.inl ⟨rfl,rfl⟩,rfl⟩,rfl⟩⟩,rfl⟩;have c9:∀x∈G3,x.size<=100000:=λx an=>by
  have:x= .mk 13 0 0 [.mk 3 0 0 []]:=by simpa[G3]using an
  rw[this];decide
 obtain⟨af,gL,bm,gw,b0⟩:=CQ (A:=[]) (B:=[]) (c:=c) bn (G2.ok (by decide)) oF (m:=.bR (j (F.ids+1)) hu [[.int o 13,.int o 0,.int o 0,.bR (j F.ids) hu [[.int o 3,.int o 0,.int o 0,.aF]]]]) (.inr ⟨_,rfl⟩) b2 (by decide) c9;obtain⟨c2,rfl,jA⟩:=gw;have cc:=b0.push [fh 0 0 c2];have bG:kI 1 MF:=G2.step oF;obtain⟨bg,sA,eB,da,cE⟩:=CQ (A:=[a9 af.n [fh 0 0 c2]]) (B:=[]) (c:=c) (H:=MF) cc (bG.ok (by decide)) mg (m:=.aF) (.inl ⟨rfl,rfl⟩) rfl (by decide) (λx an=>by cases an);obtain⟨nu,rfl,kh⟩:=da;have ee:=cE.push [fh 0 0 nu];have bD:kI 2 MG:=bG.step mg;obtain⟨cT,Gr,oV,fF,jS⟩:=CQ (A:=[a9 bg.n [fh 0 0 nu],a9 af.n [fh 0 0 c2]]) (B:=[]) (c:=c) (H:=MG) ee (bD.ok (by decide)) rU (m:=.aF) (.inl ⟨rfl,rfl⟩) rfl (by decide) (λx an=>by cases an);obtain⟨MI,rfl,Ge⟩:=fF;have j1:aQ h (λ_=>False) (λ_=>False) _ (a9 cT.n [fh 0 2 MI]::a9 bg.n [fh 0 0 nu]::a9 af.n [fh 0 0 c2]::fK c MH):=jS.push [fh 0 2 MI];have dE:kI 3 MH:=bD.step rU;have hr:=(j1.cell 0 rfl).1;have a8:=(j1.cell 1 rfl).1;have bZ:=(j1.cell 2 rfl).1;obtain⟨R,i3,oY,ry,tA⟩:=ak3 j1 3 rfl dE.dk.b3 (λl al=>by have:=dE.b3 l al;omega) 1;rw[ak8]at tA;have hlen:i3.length=1:=tA.len;have te:=ry.e'.len;have uQ:=ry.e'.fits;rw[hlen]at te;have ak9:b1 (jO 0) nu:=kh;have ak':b1 (iC 0) MI:=Ge;obtain⟨Aw,rfl,ala⟩:=jA.o0;obtain⟨MJ,rfl,alb⟩:=ak9.o0;obtain⟨tH,rfl,alc⟩:=ak'.o0;have bm:a3 ar W 23 [.ptr c.ai 0 0,.agg [.int o 1,.int o 1,.int o 0,.int o 0,.int o 0,.int o 0,.int o 0,.int o 0,.bR (j (F.ids+1)) hu [[.int o 13,.int o 0,.int o 0,.bR (j F.ids) hu [[.int o 3,.int o 0,.int o 0,.aF]]]]]] ((F.fresh 1).fresh 1)=j (.inl (.agg [.int o 0,.int o 0,.int o 0,.int o 0,Aw]),af):=bm;have eB:a3 ar W 23 [.ptr c.ai 0 0,.agg [.int o 2,.int o 1,.int o 0,.int o 3,.int o 0,.int o 1,.int o (-1),.int o 0,.aF]] (af.push [[.int o 0,.int o 0,.int o 0,.int o 0,Aw]])=j (.inl (.agg [.int o 0,.int o 0,.int o 4,.int o 0,MJ]),bg):=eB;have oV:a3 ar W 23 [.ptr c.ai 0 0,.agg [.int o 4,.int o 1,.int o 0,.int o 0,.int o 0,.int o 0,.int o 0,.int o 0,.aF]] (bg.push [[.int o 0,.int o 0,.int o 4,.int o 0,MJ]])=j (.inl (.agg [.int o 0,.int o 2,.int o 1,.int o 0,tH]),cT):=oV;have ald:=j1.Mm;have hr:(cT.push [[.int o 0,.int o 2,.int o 1,.int o 0,tH]]).cell cT.n=j [[.int o 0,.int o 2,.int o 1,.int o 0,tH]]:=hr;have a8:(cT.push [[.int o 0,.int o 2,.int o 1,.int o 0,tH]]).cell bg.n=j [[.int o 0,.int o 0,.int o 4,.int o 0,MJ]]:=a8;have bZ:(cT.push [[.int o 0,.int o 2,.int o 1,.int o 0,tH]]).cell af.n=j [[.int o 0,.int o 0,.int o 0,.int o 0,Aw]]:=bZ;have oY:a3 ar W 27 [.ptr c.ai 0 0,.int o 1] (cT.push [[.int o 0,.int o 2,.int o 1,.int o 0,tH]])=_:=oY;clear a4 bn b0 cc cE ee jS j1;refine bC akH rfl ?_;unfold Vm;simp only[ay,aD,aO,ax,dI,ao,bm,ala,alb,alc,eB,oV,hr,a8,bZ,oY,te,uQ,eq_self];exact fR ald rfl
end
section
variable{h J ae:ad}{ag ap aH aA:Nat->Prop}{L:List cd}{c:rL}{H:c5}
theorem fE.ale{e:aT}{v:I}(h:fE e v es):v.one=Q/\v.cells=[v]:=by rcases h with⟨_,rfl⟩|⟨id,rfl⟩<;>exact⟨rfl,rfl⟩
section
variable{dy anD:I}{an Cu Gu Uq:Nat}{av aZ:List I}
end
end
section
variable{h J ae:ad}{ag ap aH aA:Nat->Prop}{L:List cd}{c:rL}{H:c5}
theorem VQ{log:List oP}:∀r∈log.map my,r.all I.one=Q/\r.all r8=Q:=λr ah=>by obtain⟨e,_,rfl⟩:=n0.1 ah;exact⟨rfl,rfl⟩
theorem alf(id:Option Nat)(rows:List (List I))(bc:∀r∈rows,r.all I.one=Q/\r.all r8=Q)(al:rows.length<=1000000):a3 ar W 63 [.bR id lE rows] h=j (.inl (.bR ab lE rows),h):=by
 refine bC RM rfl ?_;unfold Kq;have ao:fx T lE (.bR (j h.ids) lE []) (.bR id lE rows) (h.fresh 0)=j (.bR (j h.ids) lE rows,if rows.length=0 then h.fresh 0 else(h.fresh 0).grow h.ids rows.length):=by
  simp only[fx,iO,if_true,c7];by_cases aN:rows.length=0
  ·simp[qL,p4.1 aN]
  ·rw[if_neg aN,if_neg aN];unfold kr;rw[if_pos ⟨by omega,by omega,by rw[iR];exact λr ah=>(bc r ah).1⟩];simp[pu]
 have aX:aK h (if rows.length=0 then h.fresh 0 else(h.fresh 0).grow h.ids rows.length):=by
  split
  ·exact aK.fresh h 0
  ·exact(aK.fresh h 0).grow (bV _)
 have hw:dA (.bR (j h.ids) lE rows)=j (.bR ab lE rows):=by simp only[dA,xj λr ah=>(bc r ah).2,hj]
 simp only[ay,aD,aO,ax,ao,fR aX hw]
theorem alg:a3 ar W 63 [.aF] h=j (.inl .aF,h):=by refine bC RM rfl ?_;unfold Kq;simp only[ay,aD,aO,ax];exact fR (aK.refl h) rfl
theorem alh(s:aQ ae aH aA h L)(i:Nat){ca:Nat}{cells:List Int}{log:List oP}(aa:L[i]? =j (gY ca cells log))(aj:cells.length=12)(au:log.length<=1000000):a3 ar W 31 [.ptr ca 0 0] h=j (.inl (jM lE (log.map my)),h):=by
 obtain⟨ag,ap,x⟩:=s.get i aa;obtain⟨v,a4⟩:=F4 x;have ali:=(a4.cell 0 rfl).1;have alj:=(Ca (v:=v) aj (D:=0) (by decide)).2.1;have hx:∀n,c0 T n h (.ptr ca 0 12)=j v:=λn=>by rw[hD,ali];exact alj
 have f12:cf 12 (.ptr ca 0 0)=j (.ptr ca 0 12):=rfl;obtain⟨eQ,eR,b2⟩:=a4.get 1 rfl;rcases b2 with⟨⟨ao,rfl⟩,_⟩|⟨id,⟨ao,rfl⟩,_⟩
 ·rw[ao];refine bC RL rfl ?_;unfold Kp;simp only[ay,aD,aO,ax,f12,hx,alg];exact fR (aK.refl h) rfl
 ·have jh:=alf (h:=h) (j id) (log.map my) VQ (by simpa using au);have hw:dA (.bR ab lE (log.map my))=j (jM lE (log.map my)):=by simp only[dA,xj λr ah=>(VQ r ah).2,hj,jM,if_neg ao]
  refine bC RL rfl ?_;unfold Kp;simp only[ay,aD,aO,ax,f12,hx,jh,fR (aK.refl h) hw]
theorem alk(s:aQ ae aH aA h L)(i:Nat){ca:Nat}{cells:List Int}{log:List oP}(aa:L[i]? =j (gY ca cells log))(aj:cells.length=12):a3 ar W 25 [.ptr ca 0 0] h=j (.inl (.bR ab zg (cells.map λx=>[.int o x])),h):=by obtain⟨ag,ap,x⟩:=s.get i aa;obtain⟨v,a4⟩:=F4 x;exact agK (a4.cell 0 rfl).1 aj
structure alm(h:ad)(c:rL)(H:c5):Prop where
 F0:c0 T 1 h (.ptr c.ai 0 0)=j (.ptr c.az 0 0)
 anE:c0 T 1 h (.ptr c.az 0 0)=j (.ptr c.b6 0 0)
 lw:c0 T 1 h (.ptr c.az 0 1)=j (.ptr c.ca 0 0)
 no:a3 ar W 30 [.ptr c.b6 0 0] h=j (.inl (jM iB (H.S.G.nodes.map dS)),h)
 anF:a3 ar W 25 [.ptr c.ca 0 0] h=j (.inl (.bR ab zg (H.S.cells.map λx=>[.int o x])),h)
 hg:a3 ar W 31 [.ptr c.ca 0 0] h=j (.inl (jM lE (H.S.log.map my)),h)
theorem VR(s:aQ ae aH aA h L)(i:Nat)(E:qA H)(F:L[i]? =j (lo c.ai c.az H.b3))(O:L[i+1]? =j (gZ c.az c.b6 c.ca H.ms H.S.kept))(af:L[i+1+1]? =j (hM c.b6 H.S.G))(aw:L[i+1+1+1]? =j (gY c.ca H.S.cells H.S.log)):alm h c H:=by obtain⟨br,R⟩:=vi s i F;have VS:=F7 s O E.len;obtain⟨ag,ap,g⟩:=s.get _ af;exact⟨R.box 1,VS.1 1,VS.2 1,adz g E.dk.st.wf,alk s _ aw E.dk.st.cells,alh s _ aw E.dk.st.cells (by have:=E.log;omega)⟩
variable{dy:I}{p9 v2 anG:Nat}{av aZ:List I}
end
theorem aln:(ar).underlying 50=j (.slice 56):=by kernel_rfl
theorem alo:BA ar 56=j [3,3,3,3,3,3,3,2,48]:=by kernel_rfl
theorem alp:(ar).underlying 2=j (.int o):=by kernel_rfl
theorem alq{α:Type}{l:List α}(h:l.length=9):∃a b c d e f g i D,l=[a,b,c,d,e,f,g,i,D]:=by
 match l,h with
 |[a,b,c,d,e,f,g,i,D],_=>exact⟨a,b,c,d,e,f,g,i,D,rfl⟩
theorem alr{n:Nat}{r:List I}(h:lH ar n 56 r):∃(x:hX) (m:I) (ms:List (List I)),r=dN x m/\fE hu m ms/\ih x.m ms:=by obtain⟨cu,rfl,parts,rfl,al,bc⟩:=J6 alo h;obtain⟨gN,hT,_,lk⟩:=bc 0 _ rfl;obtain⟨ed,aJ,_,c9⟩:=bc 1 _ rfl;obtain⟨gJ,a1,_,dx⟩:=bc 2 _ rfl;obtain⟨jy,bf,_,gH⟩:=bc 3 _ rfl;obtain⟨q8,cv,_,p9⟩:=bc 4 _ rfl;obtain⟨ur,ez,_,v2⟩:=bc 5 _ rfl;obtain⟨gl,i8,_,Cu⟩:=bc 6 _ rfl;obtain⟨gm,v0,_,Gu⟩:=bc 7 _ rfl;obtain⟨yM,xF,_,LY⟩:=bc 8 _ rfl;obtain⟨tq,rfl,_⟩:=sp yi lk;obtain⟨e8,rfl,_⟩:=sp yi c9;obtain⟨g9,rfl,_⟩:=sp yi dx;obtain⟨ho,rfl,_⟩:=sp yi gH;obtain⟨nt,rfl,_⟩:=sp yi p9;obtain⟨q6,rfl,_⟩:=sp yi v2;obtain⟨LB,rfl,_⟩:=sp yi Cu;obtain⟨als,rfl,_⟩:=sp alp Gu;obtain⟨M,v,es,rfl,R,wl⟩:=afB LY;obtain⟨hr,a8,bZ,b',du,fk,hW,jT,Ma,rfl⟩:=alq al;obtain rfl:=nW hT;obtain rfl:=nW aJ;obtain rfl:=nW a1;obtain rfl:=nW bf;obtain rfl:=nW cv;obtain rfl:=nW ez;obtain rfl:=nW i8;obtain rfl:=nW v0;obtain rfl:=nW xF;exact⟨⟨tq,e8,g9,ho,nt,q6,LB,als,M⟩,v,es,by simp only[List.flatten_cons,List.flatten_nil,q9,l0,k5];rfl,R,wl⟩
theorem VT:∀{es:List (List I)},(∀r∈es,∃(x:hX) (m:I) (ms:List (List I)),r=dN x m/\fE hu m ms/\ih x.m ms)->∃xs,rM xs es
 |[],_=>⟨[],rfl⟩
 |r::es,h=>by obtain⟨x,m,ms,rfl,F,O⟩:=h r (by simp);obtain⟨xs,an⟩:=VT λq aG=>h q (List.mem_cons_of_mem _ aG);exact⟨x::xs,m,ms,es,rfl,F,O,an⟩
theorem alu{n:Nat}{v5:I}(h:lH ar n 50 [v5]):∃(es:List (List I)) (xs:List hX),fE CO v5 es/\rM xs es/\xs.length<=9223372036854775807:=by
 obtain⟨m,v,es,rfl,e,R,hlen,ah⟩:=J5 aln h;obtain rfl:v5=v:=by simpa using e
 obtain⟨xs,an⟩:=VT (es:=es) λr fZ=>alr (ah r fZ).2;refine⟨es,xs,R.BB,an,?_⟩;rw[<-an.len];unfold maxLen at hlen;omega
def VU:List aT:=[3,2,46,44,48,56,50]
theorem alv:J2 ar VU=Q:=by kernel_rfl
section
variable{α β:Type}{d:Nat}
def ov(z:β)(q:bp×α×Int)(k:bp->α->bp×β×Int):bp×β×Int:=match q with
 |(S,v,c)=>if c≠0 then(S,z,c)else k S v
end
theorem MK(f:bk->bp->bp×ak×Int)(x:bk)(l:List bk)(S:bp)(acc:List ak):iW f (x::l) S acc=ov [] (f x S) λbx v=>iW f l bx (acc++[v]):=rfl
theorem ML(ms:dz)(N:Nat)(p:Int)(x:bk)(arg:ak)(names:List ak)(aU:Nat)(S:bp):dL ms (N+1) p x arg names aU S=if S.left=0 then S.no 12 else match jn p x arg names S.tick with
  |some v=>S.tick.ok v
  |none=>
    if x.op=5 then ov bE (dL ms N p (x.l.getD 0 il) arg names aU S.tick) λbx v=>dL ms N p (x.l.getD 1 il) arg (names++[v]) aU bx
    else if x.op=7 then ov bE (dL ms N p (x.l.getD 0 il) arg names aU S.tick) λbx v=>if v.kind≠1 then bx.no 2 else if v.n≠0 then dL ms N p (x.l.getD 1 il) arg names aU bx else dL ms N p (x.l.getD 2 il) arg names aU bx
    else ov bE (iW (λy S=>dL ms N p y arg names aU S) x.l S.tick []) λbx l=>
     if x.op=18 then(if aU=20 then bx.no 4 else dL ms N p (fp ms p x.k) (l.getD 0 bE) [] (aU+1) bx)
     else if x.op=19 then ov bE (im ms (l.getD 0 bE) (l.getD 1 bE) aU bx) λld q=>ov bE (dL ms N q.bw (fp ms q.bw q.func) q.arg [] (aU+1) ld) λpx v=>mu q.ec v px
     else gC p x.op x.k x.n l bx:=by
 rw[dL];rfl
section
variable{anH:Int->Prop}{A:aC->Int->Int->Prop}{ch:aC->Prop}
theorem CR(G:aC):G.gD G.gate.1:=by have:=G.KN ⟨0,0,0,0,0⟩;exact this
theorem MM(G:aC)(k:Int):G.gD (G.cut k).1:=by have:=G.KN ⟨1,k,0,0,0⟩;exact this
theorem CS(G:aC)(n r g:Int):G.gD (G.derive n r g).1:=by have:=G.KN ⟨4,n,r,g,0⟩;exact this
end
mutual
def de(fd fe:Int->Int->Prop):ak->ak->Prop
 |.mk k n l,w=>w.kind=k/\(if k=4 then fd n w.n else if k=5 then fe n w.n else n=w.n)/\df fd fe l w.l
def df(fd fe:Int->Int->Prop):List ak->List ak->Prop
 |[],m=>m=[]
 |x::l,m=>∃y aR,m=y::aR/\de fd fe x y/\df fd fe l aR
end
mutual
def e1(h8 h9:Int->Prop):ak->Prop
 |.mk k n l=>(k=4->h8 n)/\(k=5->h9 n)/\eJ h8 h9 l
def eJ(h8 h9:Int->Prop):List ak->Prop
 |[]=>True
 |x::l=>e1 h8 h9 x/\eJ h8 h9 l
end
section
variable{fd fe G4 G5:Int->Int->Prop}{h8 h9 G6 G7:Int->Prop}
theorem de.eq{v:ak}:de fd fe v w↔w.kind=v.kind/\(if v.kind=4 then fd v.n w.n else if v.kind=5 then fe v.n w.n else v.n=w.n)/\df fd fe v.l w.l:=by cases v;rw[de];rfl
theorem e1.eq{v:ak}:e1 h8 h9 v↔(v.kind=4->h8 v.n)/\(v.kind=5->h9 v.n)/\eJ h8 h9 v.l:=by cases v;rw[e1];rfl
mutual
theorem de.mono(aw:∀a b,fd a b->G4 a b)(bg:∀a b,fe a b->G5 a b):∀(v w:ak),de fd fe v w->de G4 G5 v w
 |.mk k n l,w,h=>by
   rw[de]at h ⊢;refine⟨h.1,?_,df.mono aw bg l w.l h.2.2⟩;have O:=h.2.1;split
   ·rename_i e;rw[if_pos e]at O;exact aw _ _ O
   ·rename_i e;rw[if_neg e]at O;split
    ·rename_i aq;rw[if_pos aq]at O;exact bg _ _ O
    ·rename_i aq;rw[if_neg aq]at O;exact O
theorem df.mono(aw:∀a b,fd a b->G4 a b)(bg:∀a b,fe a b->G5 a b):∀(l m:List ak),df fd fe l m->df G4 G5 l m
 |[],m,h=>by rw[df]at h ⊢;exact h
 |x::l,m,h=>by rw[df]at h ⊢;obtain⟨y,aR,e,a,b⟩:=h;exact⟨y,aR,e,de.mono aw bg x y a,df.mono aw bg l aR b⟩
end
mutual
theorem e1.mono(aw:∀a,h8 a->G6 a)(bg:∀a,h9 a->G7 a):∀v:ak,e1 h8 h9 v->e1 G6 G7 v
 |.mk k n l,h=>by rw[e1]at h ⊢;exact⟨λe=>aw _ (h.1 e),λe=>bg _ (h.2.1 e),eJ.mono aw bg l h.2.2⟩
theorem eJ.mono(aw:∀a,h8 a->G6 a)(bg:∀a,h9 a->G7 a):∀l:List ak,eJ h8 h9 l->eJ G6 G7 l
 |[],_=>by rw[eJ];trivial
 |x::l,h=>by rw[eJ]at h ⊢;exact⟨e1.mono aw bg x h.1,eJ.mono aw bg l h.2⟩
end
theorem de.zero:de fd fe bE bE:=by rw[de.eq];exact⟨rfl,by rw[if_neg (by decide),if_neg (by decide)],by show df fd fe [] [];rw[df]⟩
theorem de.int(n:Int):de fd fe (iC n) (iC n):=by rw[de.eq];exact⟨rfl,by rw[if_neg (by simp[iC,ak.kind]),if_neg (by simp[iC,ak.kind])],by show df fd fe [] [];rw[df]⟩
theorem de.cap{a b:Int}(h:fd a b):de fd fe (jO a) (jO b):=by rw[de.eq];exact⟨rfl,by rw[if_pos (show(jO a).kind=4 from rfl)];exact h,by show df fd fe [] [];rw[df]⟩
theorem de.gate{a b:Int}(h:fe a b):de fd fe (.mk 5 a []) (.mk 5 b []):=by rw[de.eq];exact⟨rfl,by rw[if_neg (by simp[ak.kind]),if_pos (show(ak.mk 5 a []).kind=5 from rfl)];exact h,by show df fd fe [] [];rw[df]⟩
theorem df.nil:df fd fe [] []:=by rw[df]
theorem df.cons{x y:ak}{l m:List ak}(h:de fd fe x y)(t:df fd fe l m):df fd fe (x::l) (y::m):=by rw[df];exact⟨y,m,rfl,h,t⟩
theorem de.mk{k n:Int}{l m:List ak}(aw:k≠4)(bg:k≠5)(h:df fd fe l m):de fd fe (.mk k n l) (.mk k n m):=by rw[de];exact⟨rfl,by rw[if_neg aw,if_neg bg];rfl,h⟩
theorem df.app:∀{l m bJ aR:List ak},df fd fe l m->df fd fe bJ aR->df fd fe (l++bJ) (m++aR)
 |[],m,bJ,aR,h,J=>by rw[df]at h;subst h;exact J
 |x::l,m,bJ,aR,h,J=>by rw[df]at h;obtain⟨y,cu,rfl,a,b⟩:=h;exact df.cons a (df.app b J)
theorem df.len:∀{l m:List ak},df fd fe l m->l.length=m.length
 |[],m,h=>by rw[df]at h;rw[h]
 |x::l,m,h=>by rw[df]at h;obtain⟨y,cu,rfl,a,b⟩:=h;rw[gT,gT,df.len b]
theorem df.getD:∀{l m:List ak} (i:Nat),df fd fe l m->de fd fe (l.getD i bE) (m.getD i bE)
 |[],m,i,h=>by rw[df]at h;subst h;exact de.zero
 |x::l,m,i,h=>by
   rw[df]at h;obtain⟨y,cu,rfl,a,b⟩:=h;cases i with
   |zero=>exact a
   |succ i=>exact df.getD i b
theorem e1.zero:e1 h8 h9 bE:=by rw[e1.eq];exact⟨λe=>absurd e (by decide),λe=>absurd e (by decide),by show eJ h8 h9 [];rw[eJ];trivial⟩
theorem e1.int(n:Int):e1 h8 h9 (iC n):=by rw[e1.eq];exact⟨λe=>absurd e (by simp[iC,ak.kind]),λe=>absurd e (by simp[iC,ak.kind]),by show eJ h8 h9 [];rw[eJ];trivial⟩
theorem e1.cap{a:Int}(h:h8 a):e1 h8 h9 (jO a):=by rw[e1.eq];exact⟨λ_=>h,λe=>absurd e (by simp[jO,ak.kind]),by show eJ h8 h9 [];rw[eJ];trivial⟩
theorem e1.gate{a:Int}(h:h9 a):e1 h8 h9 (.mk 5 a []):=by rw[e1.eq];exact⟨λe=>absurd e (by simp[ak.kind]),λ_=>h,by show eJ h8 h9 [];rw[eJ];trivial⟩
theorem eJ.nil:eJ h8 h9 []:=by rw[eJ];trivial
theorem eJ.cons{x:ak}{l:List ak}(h:e1 h8 h9 x)(t:eJ h8 h9 l):eJ h8 h9 (x::l):=by rw[eJ];exact⟨h,t⟩
theorem e1.mk{k n:Int}{l:List ak}(aw:k≠4)(bg:k≠5)(h:eJ h8 h9 l):e1 h8 h9 (.mk k n l):=by rw[e1];exact⟨λe=>absurd e aw,λe=>absurd e bg,h⟩
theorem eJ.app:∀{l bJ:List ak},eJ h8 h9 l->eJ h8 h9 bJ->eJ h8 h9 (l++bJ)
 |[],bJ,_,J=>J
 |x::l,bJ,h,J=>by rw[eJ]at h;exact eJ.cons h.1 (eJ.app h.2 J)
theorem eJ.getD:∀{l:List ak} (i:Nat),eJ h8 h9 l->e1 h8 h9 (l.getD i bE)
 |[],i,_=>e1.zero
 |x::l,i,h=>by
   rw[eJ]at h;cases i with
   |zero=>exact h.1
   |succ i=>exact eJ.getD i h.2
mutual
theorem de.size:∀(v w:ak),de fd fe v w->w.size=v.size
 |.mk k n l,.mk cn bS bJ,h=>by rw[de]at h;simp only[ak.size];rw[df.VV l bJ h.2.2]
theorem df.VV:∀(l m:List ak),df fd fe l m->hU m=hU l
 |[],m,h=>by rw[df]at h;rw[h]
 |x::l,m,h=>by rw[df]at h;obtain⟨y,cu,rfl,a,b⟩:=h;simp only[hU];rw[de.size x y a,df.VV l cu b]
end
mutual
theorem de.fault(aw:∀a b,fd a b->0<=a/\0<=b)(bg:∀a b,fe a b->0<=a/\0<=b):∀(v w:ak),de fd fe v w->w.fault=v.fault
 |.mk k n l,.mk cn bS bJ,h=>by
   rw[de]at h;obtain⟨ao,aq,bm⟩:=h;have ao:cn=k:=ao;have bm:df fd fe l bJ:=bm;have aq:if k=4 then fd n bS else if k=5 then fe n bS else n=bS:=aq;subst ao;have bP:iU cn bS bJ.length=iU cn n l.length:=by
    rw[<-bm.len];by_cases fA:cn=4
    ·rw[if_pos fA]at aq;have:=aw _ _ aq;unfold iU;simp[fA];omega
    ·rw[if_neg fA]at aq;by_cases g7:cn=5
     ·rw[if_pos g7]at aq;have:=bg _ _ aq;unfold iU;simp[g7];omega
     ·rw[if_neg g7]at aq;rw[aq]
   simp only[ak.fault];rw[bP,df.VW aw bg l bJ bm]
theorem df.VW(aw:∀a b,fd a b->0<=a/\0<=b)(bg:∀a b,fe a b->0<=a/\0<=b):∀(l m:List ak),df fd fe l m->mq m=mq l
 |[],m,h=>by rw[df]at h;rw[h]
 |x::l,m,h=>by rw[df]at h;obtain⟨y,cu,rfl,a,b⟩:=h;rw[xl,xl,de.fault aw bg x y a,df.VW aw bg l cu b]
end
theorem de.code(aw:∀a b,fd a b->0<=a/\0<=b)(bg:∀a b,fe a b->0<=a/\0<=b){v w:ak}(h:de fd fe v w):w.code=v.code:=by unfold ak.code;rw[de.size v w h,de.fault aw bg v w h]
theorem de.part{v:ak}(i:Nat)(h:de fd fe v w):de fd fe (v.l.getD i bE) (w.l.getD i bE):=(de.eq.1 h).2.2.getD i
theorem de.kind{v w:ak}(h:de fd fe v w):w.kind=v.kind:=(de.eq.1 h).1
theorem de.num{v:ak}(h:de fd fe v w)(aw:v.kind≠4)(bg:v.kind≠5):w.n=v.n:=by have:=(de.eq.1 h).2.1;rw[if_neg aw,if_neg bg]at this;exact this.symm
theorem de.du{v:ak}(h:de fd fe v w)(aw:v.kind=4):fd v.n w.n:=by have:=(de.eq.1 h).2.1;rw[if_pos aw]at this;exact this
theorem de.fk{v:ak}(h:de fd fe v w)(bg:v.kind=5):fe v.n w.n:=by have:=(de.eq.1 h).2.1;rw[if_neg (by omega),if_pos bg]at this;exact this
theorem e1.part{v:ak}(i:Nat)(h:e1 h8 h9 v):e1 h8 h9 (v.l.getD i bE):=(e1.eq.1 h).2.2.getD i
end
mutual
def ko:ak->ak
 |.mk k n l=>.mk k (if k=4\/k=5 then 0 else n) (sQ l)
def sQ:List ak->List ak
 |[]=>[]
 |x::l=>ko x::sQ l
end
mutual
theorem de.bare{fd fe:Int->Int->Prop}:∀(v w:ak),de fd fe v w->ko w=ko v
 |.mk k n l,.mk cn bS bJ,h=>by
   rw[de]at h;obtain⟨ao,aq,bm⟩:=h;have ao:cn=k:=ao;have aq:if k=4 then fd n bS else if k=5 then fe n bS else n=bS:=aq;subst ao;simp only[ko];rw[df.VX l bJ bm];by_cases fA:cn=4
   ·rw[if_pos (.inl fA),if_pos (.inl fA)]
   ·by_cases g7:cn=5
    ·rw[if_pos (.inr g7),if_pos (.inr g7)]
    ·rw[if_neg fA,if_neg g7]at aq;rw[aq]
theorem df.VX{fd fe:Int->Int->Prop}:∀(l m:List ak),df fd fe l m->sQ m=sQ l
 |[],m,h=>by rw[df]at h;rw[h]
 |x::l,m,h=>by rw[df]at h;obtain⟨y,cu,rfl,a,b⟩:=h;simp only[sQ];rw[de.bare x y a,df.VX l cu b]
end
structure ow(bq:Int->Int->Prop)(A B:aC):Prop where
 a:∀i D,bq i D->A.gb i=Q
 b:∀i D,bq i D->B.gb D=Q
 s:∀i D,bq i D->A.shut.getD i.toNat T=B.shut.getD D.toNat T
 inj:∀i D h' nq,bq i D->bq h' nq->(i=h'↔D=nq)
def CT(bq:Int->Int->Prop)(n m:er):Prop:=n.et=m.et/\n.cell=m.cell/\n.bw=m.bw/\(n.gate<0/\m.gate<0\/bq n.gate m.gate)
def sR(bq:Int->Int->Prop):List er->List er->Prop
 |[],q=>q=[]
 |n::p,q=>∃m eH,q=m::eH/\CT bq n m/\sR bq p eH
structure m'(bq:Int->Int->Prop)(cw:Int->Prop)(A B:aC)(a b:Int):Prop where
 aM:A.has a=Q
 ai:B.has b=Q
 p:sR bq (A.path a) (B.path b)
 t:(A.target a).1.bw<0
 E:cw (A.target a).1.cell
structure o8(C:Int->Prop)(A:aC)(a:Int):Prop where
 aM:A.has a=Q
 t:(A.target a).1.bw<0
 E:C (A.target a).1.cell
section
variable{bq cG:Int->Int->Prop}{cw VY C VZ:Int->Prop}{A B dn fQ:aC}{a b:Int}
theorem V0(h:A.has a=Q):0<=a:=by simp[aC.has]at h;exact h.1
theorem ox(h:A.gb a=Q):0<=a/\a<A.shut.length:=by simpa[aC.gb]using h
theorem CT.mono(e:∀i D,bq i D->cG i D){n m:er}(h:CT bq n m):CT cG n m:=⟨h.1,h.2.1,h.2.2.1,h.2.2.2.imp id (e _ _)⟩
theorem sR.mono(e:∀i D,bq i D->cG i D):∀{p q:List er},sR bq p q->sR cG p q
 |[],q,h=>h
 |n::p,q,h=>by obtain⟨m,eH,ao,F,O⟩:=h;exact⟨m,eH,ao,F.mono e,sR.mono e O⟩
theorem gD.G8(l:A.gD dn)(dl:A.cz)(oW:dn.cz)(h:A.has a=Q):dn.path a=A.path a:=l.path dl oW (a.toNat+1) a (by omega) h
theorem gD.wD(l:A.gD dn)(dl:A.cz)(oW:dn.cz)(h:A.has a=Q):dn.target a=A.target a:=by unfold aC.target;rw[gD.G8 l dl oW h]
theorem m'.mono(eu:A.cz)(tR:dn.cz)(g1:B.cz)(CU:fQ.cz)(j0:A.gD dn)(oy:B.gD fQ)(e:∀i D,bq i D->cG i D)(alw:∀k,cw k->VY k)(h:m' bq cw A B a b):m' cG VY dn fQ a b:=⟨(j0.has h.aM).1,(oy.has h.ai).1,by rw[gD.G8 j0 eu tR h.aM,gD.G8 oy g1 CU h.ai];exact h.p.mono e,by rw[gD.wD j0 eu tR h.aM];exact h.t,by rw[gD.wD j0 eu tR h.aM];exact alw _ h.E⟩
theorem o8.mono(eu:A.cz)(tR:dn.cz)(j0:A.gD dn)(alx:∀k,C k->VZ k)(h:o8 C A a):o8 VZ dn a:=⟨(j0.has h.aM).1,by rw[gD.wD j0 eu tR h.aM];exact h.t,by rw[gD.wD j0 eu tR h.aM];exact alx _ h.E⟩
theorem aly(g:ow bq A B){n m:er}(h:CT bq n m):od A n=od B m:=by
 unfold od aC.zb;rcases h.2.2.2 with⟨F,O⟩|F
 ·simp[show ¬(0<=n.gate) by omega,show ¬(0<=m.gate) by omega]
 ·rw[g.a _ _ F,g.b _ _ F,g.s _ _ F];simp[(ox (g.a _ _ F)).1,(ox (g.b _ _ F)).1]
theorem V1(g:ow bq A B):∀{p q:List er},sR bq p q->p.any (od A)=q.any (od B)
 |[],q,h=>by have h:q=[]:=h;rw[h];rfl
 |n::p,q,h=>by obtain⟨m,eH,rfl,F,O⟩:=h;rw[List.any_cons,List.any_cons,aly g F,V1 g O]
theorem V2:∀{p q:List er} (r:Int),sR bq p q->p.foldl (λr n=>ri r n.et) r=q.foldl (λr n=>ri r n.et) r
 |[],q,r,h=>by have h:q=[]:=h;rw[h]
 |n::p,q,r,h=>by obtain⟨m,eH,rfl,F,O⟩:=h;rw[List.foldl_cons,List.foldl_cons,F.1,V2 _ O]
theorem sR.alz{p q:List er}(h:sR bq p q):p=[]↔q=[]:=by
 cases p with
 |nil=>have h:q=[]:=h;simp[h]
 |cons n p=>obtain⟨m,eH,rfl,_⟩:=h;simp
theorem MN:∀{p q:List er},sR bq p q->(p.getLastD ik).cell=(q.getLastD ik).cell/\(p.getLastD ik).bw=(q.getLastD ik).bw
 |[],q,h=>by have h:q=[]:=h;rw[h];exact⟨rfl,rfl⟩
 |[n],q,h=>by obtain⟨m,eH,rfl,F,O⟩:=h;have O:eH=[]:=O;rw[O];exact⟨F.2.1,F.2.2.1⟩
 |n::iA::p,q,h=>by obtain⟨m,eH,rfl,F,O⟩:=h;obtain⟨cu,bL,rfl,af⟩:=id O;have:=MN O;simpa[List.getLastD]using this
theorem m'.et(g:ow bq A B)(h:m' bq cw A B a b):A.et a=B.et b:=by
 unfold aC.et;rw[V1 g h.p,V2 15 h.p];have:=h.p.alz;by_cases e:A.path a=[]
 ·rw[if_pos (.inl e),if_pos (.inl (this.1 e))]
 ·have dC:B.path b≠[]:=λx=>e (this.2 x);simp[e,dC]
theorem m'.wD(h:m' bq cw A B a b):(B.target b).1.cell=(A.target a).1.cell/\(B.target b).1.bw=(A.target a).1.bw:=⟨(MN h.p).1.symm,(MN h.p).2.symm⟩
structure vk(bq cG:Int->Int->Prop)(A:aC):Prop where
 up:∀i D,bq i D->cG i D
 new:∀i D,cG i D->bq i D\/(A.shut.length:Int)<=i
theorem vk.refl:vk bq bq A:=⟨λ_ _=>id,λ_ _=>.inl⟩
theorem vk.trans{yk:Int->Int->Prop}(x:vk bq cG A)(l:A.shut.length<=dn.shut.length)(y:vk cG yk dn):vk bq yk A:=⟨λi D h=>y.up _ _ (x.up _ _ h),λi D h=>by
  rcases y.new i D h with h|h
  ·exact x.new i D h
  ·exact .inr (by omega)⟩
theorem ow.nodes(g:ow bq A B)(dD:dn.shut=A.shut)(kZ:fQ.shut=B.shut):ow bq dn fQ:=by
 refine⟨λi D h=>?_,λi D h=>?_,λi D h=>?_,g.inj⟩
 ·have:=g.a i D h;unfold aC.gb at this ⊢;rw[dD];exact this
 ·have:=g.b i D h;unfold aC.gb at this ⊢;rw[kZ];exact this
 ·rw[dD,kZ];exact g.s i D h
theorem V3{l:List Bool}{i D:Nat}(h:i<l.length):(l.set i Q).getD D T=if i=D then Q else l.getD D T:=by
 by_cases e:i=D
 ·subst e;simp[cK,h]
 ·rw[if_neg e,cK,s' e];rfl
theorem V4(k i:Int):(A.cut k).1.gb i=A.gb i:=by
 unfold aC.cut aC.gb;split
 ·simp
 ·rfl
theorem ow.cut(g:ow bq A B){i D:Int}(h:bq i D):ow bq (A.cut i).1 (B.cut D).1:=by
 have aM:=g.a _ _ h;have ai:=g.b _ _ h;have anI:=ox aM;have akA:=ox ai;have w0:(A.cut i).1.shut=A.shut.set i.toNat Q:=by unfold aC.cut;rw[if_pos aM]
 have MO:(B.cut D).1.shut=B.shut.set D.toNat Q:=by unfold aC.cut;rw[if_pos ai]
 refine⟨λx y an=>by rw[V4];exact g.a x y an,λx y an=>by rw[V4];exact g.b x y an,λx y an=>?_,g.inj⟩;have lp:=ox (g.a x y an);have anJ:=ox (g.b x y an);rw[w0,MO,V3 (by omega),V3 (by omega),g.s x y an];have:=g.inj _ _ _ _ h an;by_cases e:i=x
 ·rw[if_pos (by omega),if_pos (by have:=this.1 e;omega)]
 ·have aq:D≠y:=λq=>e (this.2 q);rw[if_neg (by omega),if_neg (by omega)]
theorem ow.gate(g:ow bq A B)(dD:A.gate.2.2=0)(kZ:B.gate.2.2=0):∃cG,vk bq cG A/\ow cG A.gate.1 B.gate.1/\cG A.gate.2.1 B.gate.2.1:=by
 have w0:A.gate=((⟨A.nodes,A.shut++[T]⟩:aC),(A.shut.length:Int),(0:Int)):=by
  unfold aC.gate at dD ⊢;split
  ·rename_i h;rw[if_pos h]at dD;cases dD
  ·rfl
 have MO:B.gate=((⟨B.nodes,B.shut++[T]⟩:aC),(B.shut.length:Int),(0:Int)):=by
  unfold aC.gate at kZ ⊢;split
  ·rename_i h;rw[if_pos h]at kZ;cases kZ
  ·rfl
 rw[w0,MO];have z6:∀i D,bq i D->0<=i/\i<A.shut.length:=λi D h=>ox (g.a i D h);have tg:∀i D,bq i D->0<=D/\D<B.shut.length:=λi D h=>ox (g.b i D h);have app:∀{l:List Bool} {k:Nat},k<l.length->(l++[T]).getD k T=l.getD k T:=λ{l k} h=>by simp only[cK,mJ h]
 have V5:∀{l:List Bool},(l++[T]).getD l.length T=T:=λ{l}=>by simp[cK]
 refine⟨λi D=>bq i D\/(i=(A.shut.length:Int)/\D=(B.shut.length:Int)),⟨λi D h=>.inl h,λi D h=>?_⟩,?_,.inr ⟨rfl,rfl⟩⟩
 rotate_left
 refine⟨λi D h=>?_,λi D h=>?_,λi D h=>?_,λi D h' nq h J=>?_⟩
 rotate_left 4
 ·rcases h with h|⟨h,_⟩
  ·exact .inl h
  ·exact .inr (by omega)
 ·rcases h with h|⟨h,_⟩
  ·have:=z6 i D h;simp[aC.gb];omega
  ·simp[aC.gb];omega
 ·rcases h with h|⟨_,h⟩
  ·have:=tg i D h;simp[aC.gb];omega
  ·simp[aC.gb];omega
 ·rcases h with h|⟨h,J⟩
  ·have F:=z6 i D h;have O:=tg i D h;show(A.shut++[T]).getD i.toNat T=(B.shut++[T]).getD D.toNat T;rw[app (by omega),app (by omega)];exact g.s i D h
  ·show(A.shut++[T]).getD i.toNat T=(B.shut++[T]).getD D.toNat T;rw[h,J,n9,n9,V5,V5]
 ·rcases h with h|⟨F,O⟩<;>rcases J with J|⟨af,aw⟩
  ·exact g.inj _ _ _ _ h J
  ·have:=z6 i D h;have:=tg i D h;omega
  ·have:=z6 _ _ J;have:=tg _ _ J;omega
  ·omega
theorem MP(A:aC)(n:er):(A.add n).1.shut=A.shut/\((A.add n).2.2=0->(A.add n).1.nodes=A.nodes++[n]/\(A.add n).2.1=A.nodes.length):=by
 refine⟨(KM A n).2,λh=>?_⟩;unfold aC.add at h ⊢;split
 ·rename_i F;rw[if_pos F]at h;cases h
 ·split
  ·rename_i F O;rw[if_neg F,if_pos O]at h;cases h
  ·split
   ·rename_i F O af;rw[if_neg F,if_neg O,if_pos af]at h;cases h
   ·exact⟨rfl,rfl⟩
theorem MQ{n:er}(h:(A.add n).2.2=0):(A.add n).1.has (A.add n).2.1=Q/\(A.add n).1.nodes.getD (A.add n).2.1.toNat ik=n:=by obtain⟨ao,aq⟩:=(MP A n).2 h;rw[aC.has,ao,aq];refine⟨by simp;omega,?_⟩;simp[cK]
theorem G9(h:A.has a=Q)(r k:Int):A.derive a r k=A.add ⟨a,k,r,0, -1,0⟩:=by unfold aC.derive;rw[if_pos h]
theorem V6(n:er):A.gD (A.add n).1:=by obtain⟨⟨ext,F,_⟩,O⟩:=KM A n;exact⟨⟨ext,F⟩,by rw[O];exact bV _,λk Z=>by rw[O];exact Z⟩
theorem MR(eu:A.cz)(h:A.has a=Q){r k:Int}(aN:(A.derive a r k).2.2=0):(A.derive a r k).1.path (A.derive a r k).2.1=⟨a,k,r,0, -1,0⟩::A.path a:=by have MS:=eu.derive a r k;have e:=G9 h r k;rw[e]at aN MS ⊢;obtain⟨ek,iA⟩:=MQ aN;rw[aC.xm MS ek,iA];congr 1;exact gD.G8 (V6 _) eu MS h
theorem alA(eu:A.cz)(h:A.has a=Q):A.path a≠[]:=by rw[aC.xm eu h];simp
theorem G'(eu:A.cz)(h:A.has a=Q){r k:Int}(aN:(A.derive a r k).2.2=0):((A.derive a r k).1.target (A.derive a r k).2.1).1=(A.target a).1:=by
 unfold aC.target;rw[MR eu h aN];have:=alA eu h
 match aB:A.path a,this with
 |n::p,_=>simp[List.getLastD]
theorem MT(h:A.has a=Q){r k:Int}(aN:(A.derive a r k).2.2=0):(A.derive a r k).1.has (A.derive a r k).2.1=Q:=by rw[G9 h]at aN ⊢;exact(MQ aN).1
theorem o8.derive(eu:A.cz)(h:o8 C A a){r k:Int}(aN:(A.derive a r k).2.2=0):o8 C (A.derive a r k).1 (A.derive a r k).2.1:=⟨MT h.aM aN,by rw[G' eu h.aM aN];exact h.t,by rw[G' eu h.aM aN];exact h.E⟩
theorem m'.derive(eu:A.cz)(g1:B.cz)(h:m' bq cw A B a b){r k cn:Int}(Z:k<0/\cn<0\/bq k cn)(aN:(A.derive a r k).2.2=0)(p7:(B.derive b r cn).2.2=0):m' bq cw (A.derive a r k).1 (B.derive b r cn).1 (A.derive a r k).2.1 (B.derive b r cn).2.1:=by refine⟨MT h.aM aN,MT h.ai p7,?_,by rw[G' eu h.aM aN];exact h.t,by rw[G' eu h.aM aN];exact h.E⟩;rw[MR eu h.aM aN,MR g1 h.ai p7];exact⟨_,_,rfl,⟨rfl,rfl,rfl,Z⟩,h.p⟩
theorem V7(h:A.has a=Q)(J:B.has b=Q){r k cn:Int}(Z:k= -1/\cn= -1\/A.gb k=Q/\B.gb cn=Q):(A.derive a r k).2.2=11\/(B.derive b r cn).2.2=11\/(A.derive a r k).2.2=(B.derive b r cn).2.2:=by
 rw[G9 h,G9 J];have c1:¬(k≠ -1/\A.gb k=T):=by rcases Z with⟨F,_⟩|⟨F,_⟩<;>simp[F]
 have cr:¬(cn≠ -1/\B.gb cn=T):=by rcases Z with⟨_,F⟩|⟨_,F⟩<;>simp[F]
 unfold aC.add;simp only;by_cases ah:uz r=T
 ·rw[if_pos ah,if_pos ah];exact .inr (.inr rfl)
 ·rw[if_neg ah,if_neg ah,if_neg c1,if_neg cr];by_cases F:A.nodes.length=80
  ·rw[if_pos F];exact .inl rfl
  ·rw[if_neg F];by_cases O:B.nodes.length=80
   ·rw[if_pos O];exact .inr (.inl rfl)
   ·rw[if_neg O];exact .inr (.inr rfl)
theorem alB{c r:Int}:(A.eh c r (-1)).2.2=11\/(B.eh c r (-1)).2.2=11\/(A.eh c r (-1)).2.2=(B.eh c r (-1)).2.2:=by
 unfold aC.eh;have c1:∀G:aC,¬((-1:Int)≠ -1/\G.gb (-1)=T):=λG h=>h.1 rfl;by_cases aj:mV c=Q
 ·rw[if_pos aj,if_pos aj];unfold aC.add;simp only;by_cases ah:uz r=T
  ·rw[if_pos ah,if_pos ah];exact .inr (.inr rfl)
  ·rw[if_neg ah,if_neg ah,if_neg (c1 A),if_neg (c1 B)];by_cases F:A.nodes.length=80
   ·rw[if_pos F];exact .inl rfl
   ·rw[if_neg F];by_cases O:B.nodes.length=80
    ·rw[if_pos O];exact .inr (.inl rfl)
    ·rw[if_neg O];exact .inr (.inr rfl)
 ·rw[if_neg aj,if_neg aj];exact .inr (.inr rfl)
theorem MU(eu:A.cz){c r:Int}(aN:(A.eh c r (-1)).2.2=0):(A.eh c r (-1)).1.has (A.eh c r (-1)).2.1=Q/\(A.eh c r (-1)).1.path (A.eh c r (-1)).2.1=[⟨-1, -1,r,c, -1,0⟩]/\((A.eh c r (-1)).1.target (A.eh c r (-1)).2.1).1=⟨-1, -1,r,c, -1,0⟩:=by
 have w:=eu.eh c r (-1);have e:A.eh c r (-1)=A.add ⟨-1, -1,r,c, -1,0⟩:=by
  unfold aC.eh at aN ⊢;split
  ·rfl
  ·rename_i h;rw[if_neg h]at aN;cases aN
 rw[e]at aN w ⊢;obtain⟨ek,iA⟩:=MQ aN;have aB:(A.add ⟨-1, -1,r,c, -1,0⟩).1.path (A.add ⟨-1, -1,r,c, -1,0⟩).2.1=[⟨-1, -1,r,c, -1,0⟩]:=by rw[aC.xm w ek,iA,aC.tl (by simp[aC.has])]
 exact⟨ek,aB,by unfold aC.target;rw[aB];rfl⟩
theorem MV(c r k:Int):A.gD (A.eh c r k).1:=by
 unfold aC.eh;split
 ·exact V6 _
 ·exact .refl _
theorem MW(c r k:Int):(A.eh c r k).1.shut=A.shut:=by
 unfold aC.eh;split
 ·exact(MP A _).1
 ·rfl
theorem CV(n r k:Int):(A.derive n r k).1.shut=A.shut:=by
 unfold aC.derive;split
 ·exact(MP A _).1
 ·rfl
theorem V8:A.gate.2.2=11\/A.gate.2.2=0:=by
 unfold aC.gate;split
 ·exact .inl rfl
 ·exact .inr rfl
end
abbrev kp(dg C:Int->Prop)(A:aC):ak->Prop:=e1 (o8 C A) (λg=>A.gb g=Q/\¬dg g)
abbrev nO(dg C:Int->Prop)(A:aC):List ak->Prop:=eJ (o8 C A) (λg=>A.gb g=Q/\¬dg g)
structure j4(dg C:Int->Prop)(E:Int)(S:bp):Prop where
 wf:S.G.cz
 jK:S.cells.length=12
 sS:S.kept.length=4
 gate:∀g,dg g->S.G.gb g=Q
 own:kp dg C S.G (S.kept.getD E.toNat bE)
structure nP(dg C:Int->Prop)(E:Int)(S bx:bp):Prop where
 ok:j4 dg C E bx
 pP:S.G.gD bx.G
 shut:∀i,dg i->bx.G.shut.getD i.toNat T=S.G.shut.getD i.toNat T
 cells:∀k,0<=k->¬C k->bx.cells.getD k.toNat 0=S.cells.getD k.toNat 0
 kept:∀p,0<=p->p≠E->bx.kept.getD p.toNat bE=S.kept.getD p.toNat bE
def na{α:Type}(dg C:Int->Prop)(E:Int)(S:bp)(P:aC->α->Prop)(q:bp×α×Int):Prop:=nP dg C E S q.1/\(q.2.2=0->P q.1.G q.2.1)
section
variable{dg C:Int->Prop}{E:Int}{S bx CW:bp}{α β:Type}{P:aC->α->Prop}{cH:aC->β->Prop}
theorem CX{A B:aC}(l:A.gD B){g:Int}(h:A.gb g=Q):B.gb g=Q:=by have:=ox h;have:=l.shut.1;simp[aC.gb];omega
theorem kp.mono{A B:aC}(eu:A.cz)(g1:B.cz)(l:A.gD B){v:ak}(h:kp dg C A v):kp dg C B v:=e1.mono (λ_ x=>x.mono eu g1 l λ_=>id) (λ_ x=>⟨CX l x.1,x.2⟩) v h
theorem nO.mono{A B:aC}(eu:A.cz)(g1:B.cz)(l:A.gD B){v:List ak}(h:nO dg C A v):nO dg C B v:=eJ.mono (λ_ x=>x.mono eu g1 l λ_=>id) (λ_ x=>⟨CX l x.1,x.2⟩) v h
theorem j4.refl(h:j4 dg C E S):nP dg C E S S:=⟨h,.refl _,λ_ _=>rfl,λ_ _ _=>rfl,λ_ _ _=>rfl⟩
theorem nP.trans(a:nP dg C E S bx)(b:nP dg C E bx CW):nP dg C E S CW:=⟨b.ok,a.pP.trans b.pP,λi h=>(b.shut i h).trans (a.shut i h),λk h J=>(b.cells k h J).trans (a.cells k h J),λp h J=>(b.kept p h J).trans (a.kept p h J)⟩
theorem j4.graph(h:j4 dg C E S){cU:aC}(w:cU.cz)(l:S.G.gD cU)(av:∀i,dg i->cU.shut.getD i.toNat T=S.G.shut.getD i.toNat T):nP dg C E S {S with G:=cU}:=⟨⟨w,h.jK,h.sS,λg aX=>CX l (h.gate g aX),kp.mono h.wf w l h.own⟩,l,av,λ_ _ _=>rfl,λ_ _ _=>rfl⟩
theorem j4.no(h:j4 dg C E S)(c:Int):na dg C E S (λG v=>kp dg C G v) (S.no c):=⟨h.refl,λ_=>e1.zero⟩
theorem j4.yl(h:j4 dg C E S){v:ak}(R:kp dg C S.G v):na dg C E S (λG v=>kp dg C G v) (S.ok v):=⟨h.refl,λ_=>R⟩
theorem na.ite{p:Prop}[Decidable p]{a b:bp×α×Int}(F:p->na dg C E S P a)(O:¬p->na dg C E S P b):na dg C E S P (if p then a else b):=by
 split
 ·rename_i h;exact F h
 ·rename_i h;exact O h
theorem na.bind{q:bp×α×Int}{z:β}{k:bp->α->bp×β×Int}(h:na dg C E S P q)(Z:nP dg C E S q.1->P q.1.G q.2.1->na dg C E q.1 cH (k q.1 q.2.1)):na dg C E S cH (ov z q k):=by
 obtain⟨bz,v,c⟩:=q;unfold ov;simp only;by_cases aj:c≠0
 ·rw[if_pos aj];exact⟨h.1,λe=>absurd e aj⟩
 ·rw[if_neg aj];obtain⟨a,b⟩:=Z h.1 (h.2 (la.1 aj));exact⟨h.1.trans a,b⟩
theorem nb{α:Type}{l:List α}{i D:Nat}{x z:α}(h:i≠D):(l.set i x).getD D z=l.getD D z:=by rw[cK,s' h];rfl
theorem qB{α:Type}{l:List α}{i:Nat}{x z:α}(h:i<l.length):(l.set i x).getD i z=x:=by rw[cK,List.getElem?_set_self h];rfl
theorem alC{l:List Bool}{x:List Bool}{k:Nat}(h:k<l.length):(l++x).getD k T=l.getD k T:=by simp only[cK,mJ h]
theorem j4.alD(h:j4 dg C E S){q:aC×Int×Int}(aG:nP dg C E S {S with G:=q.1})(aj:q.2.2=0->o8 C q.1 q.2.1):na dg C E S (λG v=>kp dg C G v) (sf S q):=by unfold Go.Proofs.Ytkdbjfncchmmpaa.sf;refine .ite (λ_=>⟨aG,λ_=>e1.zero⟩) λaN=>⟨aG,λ_=>e1.cap (aj (la.1 aN))⟩
theorem j4.derive(h:j4 dg C E S)(n r k:Int):nP dg C E S {S with G:=(S.G.derive n r k).1}:=h.graph (h.wf.derive _ _ _) (CS _ _ _ _) λi _=>by rw[CV]
theorem j4.V9(h:j4 dg C E S):nP dg C E S {S with G:=S.G.gate.1}:=h.graph h.wf.gate (CR _) λi aa=>by
 have:=ox (h.gate i aa);unfold aC.gate;split
 ·rfl
 ·exact alC (by omega)
theorem j4.cut(h:j4 dg C E S){k:Int}(Z:¬dg k):nP dg C E S {S with G:=(S.G.cut k).1}:=h.graph (h.wf.cut _) (MM _ _) λi aa=>by
 have:=ox (h.gate i aa);unfold aC.cut;split
 ·rename_i aX;have:=ox aX;have:k.toNat≠i.toNat:=λe=>Z (by
                        have:k=i:=by omega
                        rw[this];exact aa)
  exact nb this
 ·rfl
theorem alE(am:0<=E){op k n:Int}{l:List ak}(h:j4 dg C E S)(al:nO dg C S.G l):na dg C E S (λG v=>kp dg C G v) (gC E op k n l S):=by
 have aM:=al.getD 0;have ai:=al.getD 1;have jr:(l.getD 0 bE).kind=4->o8 C S.G (l.getD 0 bE).n:=(e1.eq.1 aM).1;have z6:(l.getD 0 bE).kind=5->S.G.gb (l.getD 0 bE).n=Q/\¬dg (l.getD 0 bE).n:=(e1.eq.1 aM).2.1;unfold gC;refine .ite (λ_=>.ite (λ_=>h.no _) λ_=>h.yl (e1.int _)) λ_=>?_;refine .ite (λ_=>.ite (λ_=>h.no _) λ_=>h.yl (e1.mk (by decide) (by decide) (eJ.cons aM (eJ.cons ai eJ.nil)))) λ_=>?_;refine .ite (λ_=>.ite (λ_=>h.no _) λ_=>h.yl (aM.part 0)) λ_=>?_;refine .ite (λ_=>.ite (λ_=>h.no _) λ_=>h.yl (aM.part 1)) λ_=>?_;refine .ite (λ_=>.ite (λ_=>h.no _) λ_=>h.yl (e1.mk (by decide) (by decide) (eJ.cons aM eJ.nil))) λ_=>?_;refine .ite (λ_=>.ite (λ_=>h.no _) λ_=>.ite (λ_=>h.no _) λ_=>h.yl (aM.part 0)) λ_=>?_;refine .ite (λ_=>.ite (λ_=>h.no _) λ_=>.ite (λ_=>h.no _) λ_=>.ite (λ_=>h.no _) λ_=>?_) λ_=>?_
 ·exact⟨⟨⟨h.wf,h.jK,h.sS,h.gate,h.own⟩,.refl _,λ_ _=>rfl,λ_ _ _=>rfl,λ_ _ _=>rfl⟩,λ_=>e1.int _⟩
 refine .ite (λ_=>.ite (λ_=>h.no _) λZ=>.ite (λ_=>h.no _) λ_=>.ite (λ_=>h.no _) λ_=>?_) λ_=>?_
 ·have c:=jr (la.1 λe=>Z (.inl e));have hr:0<=(S.G.target (l.getD 0 bE).n).1.cell:=by have:=(aC.FB h.wf c.aM).2.2;have:=c.t;omega
  refine⟨⟨⟨h.wf,kK.trans h.jK,h.sS,h.gate,h.own⟩,.refl _,λ_ _=>rfl,λx ae an=>?_,λ_ _ _=>rfl⟩,λ_=>ai⟩;refine nb λe=>an ?_;have:(S.G.target (l.getD 0 bE).n).1.cell=x:=by omega
  rw[<-this];exact c.E
 refine .ite (λ_=>.ite (λ_=>h.no _) λZ=>h.alD (h.derive _ _ _) λaN=>(jr (la.1 Z)).derive h.wf aN) λ_=>?_;refine .ite (λ_=>.ite (λ_=>h.no _) λZ=>.ite (λ_=>⟨h.V9,λ_=>e1.zero⟩) λaN=>?_) λ_=>?_
 ·have c:=jr (la.1 Z);have g:=h.V9;have k3:S.G.gate.2.2=0:=la.1 aN;have a8:=c.mono h.wf g.ok.wf g.pP λ_=>id;have d:=g.ok.derive (l.getD 0 bE).n 15 S.G.gate.2.1;have pQ:(S.G.gate.1.derive (l.getD 0 bE).n 15 S.G.gate.2.1).2.2=0->_:=λaN=>a8.derive g.ok.wf aN;have V':S.G.gate.1.gb S.G.gate.2.1=Q/\¬dg S.G.gate.2.1:=by
   have bP:∀i,dg i->0<=i/\i<S.G.shut.length:=λi aa=>ox (h.gate i aa);unfold aC.gate at k3 ⊢;split
   ·rename_i e;rw[if_pos e]at k3;cases k3
   ·refine⟨by simp[aC.gb];omega,λaX=>?_⟩;have:=bP _ aX;simp only at this;omega
  have fN:(S.G.gate.1.derive (l.getD 0 bE).n 15 S.G.gate.2.1).1.gb S.G.gate.2.1=Q:=CX d.pP V'.1;rcases aG:S.G.gate.1.derive (l.getD 0 bE).n 15 S.G.gate.2.1 with⟨cU,m,fy⟩;rw[aG]at d pQ fN;exact .ite (λ_=>⟨g.trans d,λ_=>e1.zero⟩) λaN=>⟨g.trans d,λ_=>e1.mk (by decide) (by decide) (eJ.cons (e1.cap (pQ (la.1 aN))) (eJ.cons (e1.gate ⟨fN,V'.2⟩) eJ.nil))⟩
 refine .ite (λ_=>.ite (λ_=>h.no _) λZ=>⟨h.cut (z6 (la.1 Z)).2,λ_=>e1.zero⟩) λ_=>?_;refine .ite (λ_=>⟨⟨⟨h.wf,h.jK,kK.trans h.sS,h.gate,?_⟩,.refl _,λ_ _=>rfl,λ_ _ _=>rfl,λp aB au=>?_⟩,λ_=>h.own⟩) λ_=>h.no _
 ·show kp dg C S.G ((S.kept.set E.toNat (l.getD 0 bE)).getD E.toNat bE);by_cases bh:E.toNat<S.kept.length
  ·rw[qB bh];exact aM
  ·rw[cK,lU (by simpa using bh)];exact e1.zero
 ·exact nb (by omega)
theorem alF{ms:dz}{v x:ak}{aU:Nat}(h:j4 dg C E S)(R:kp dg C S.G v):na dg C E S (λ_ _=>False) (im ms v x aU S):=by have no:∀{c:Int} (aj:c≠0) (z:tn),na dg C E S (λ_ _=>False) (S,z,c):=λaj z=>⟨h.refl,λe=>aj e⟩;unfold im;refine .ite (λ_=>no (by decide) _) λF=>.ite (λ_=>no (by decide) _) λ_=>.ite (λ_=>no (by decide) _) λaf=>?_;exact absurd ((e1.eq.1 R).1 (la.1 F)).t af
theorem Fr{f:bk->bp->bp×ak×Int}{z7:bp}(bc:∀x S,nP dg C E z7 S->na dg C E S (λG v=>kp dg C G v) (f x S)):∀(l:List bk) (S:bp) (acc:List ak),nP dg C E z7 S->nO dg C S.G acc->na dg C E S (λG l=>nO dg C G l) (iW f l S acc)
 |[],S,acc,ae,aM=>⟨ae.ok.refl,λ_=>aM⟩
 |x::l,S,acc,ae,aM=>by rw[MK];exact(bc x S ae).bind λf1 R=>Fr bc l _ _ (ae.trans f1) (eJ.app (nO.mono ae.ok.wf f1.ok.wf f1.pP aM) (eJ.cons R eJ.nil))
theorem alG{x:bk}{arg:ak}{names:List ak}{v:ak}(h:j4 dg C E S)(aM:kp dg C S.G arg)(au:nO dg C S.G names)(e:jn E x arg names S=j v):kp dg C S.G v:=by
 unfold jn at e;split at e
 ·injection e with e;subst e;exact e1.zero
 split at e
 ·injection e with e;subst e;exact e1.int _
 split at e
 ·injection e with e;subst e;exact aM
 split at e
 ·injection e with e;subst e;exact au.getD _
 split at e
 ·injection e with e;subst e;exact h.own
 ·cases e
theorem Wa(am:0<=E)(ms:dz):∀(N:Nat) (x:bk) (arg:ak) (names:List ak) (aU:Nat) (S:bp),j4 dg C E S->kp dg C S.G arg->nO dg C S.G names->na dg C E S (λG v=>kp dg C G v) (dL ms N E x arg names aU S)
 |0,x,arg,names,aU,S,h,aM,au=>h.no _
 |N+1,x,arg,names,aU,S,h,aM,au=>by
   have aW:=Wa am ms N;rw[ML];refine .ite (λ_=>h.no _) λ_=>?_;have aL:j4 dg C E S.tick:=⟨h.wf,h.jK,h.sS,h.gate,h.own⟩;suffices bP:na dg C E S.tick (λG v=>kp dg C G v) (match jn E x arg names S.tick with
    |some v=>S.tick.ok v
    |none=>
      if x.op=5 then ov bE (dL ms N E (x.l.getD 0 il) arg names aU S.tick) λbx v=>dL ms N E (x.l.getD 1 il) arg (names++[v]) aU bx
      else if x.op=7 then ov bE (dL ms N E (x.l.getD 0 il) arg names aU S.tick) λbx v=>if v.kind≠1 then bx.no 2 else if v.n≠0 then dL ms N E (x.l.getD 1 il) arg names aU bx else dL ms N E (x.l.getD 2 il) arg names aU bx
      else ov bE (iW (λy S=>dL ms N E y arg names aU S) x.l S.tick []) λbx l=>
       if x.op=18 then(if aU=20 then bx.no 4 else dL ms N E (fp ms E x.k) (l.getD 0 bE) [] (aU+1) bx)
       else if x.op=19 then ov bE (im ms (l.getD 0 bE) (l.getD 1 bE) aU bx) λld q=>ov bE (dL ms N q.bw (fp ms q.bw q.func) q.arg [] (aU+1) ld) λpx v=>mu q.ec v px
       else gC E x.op x.k x.n l bx) from⟨⟨bP.1.ok,bP.1.pP,bP.1.shut,bP.1.cells,bP.1.kept⟩,bP.2⟩
   have aM:kp dg C S.tick.G arg:=aM;have au:nO dg C S.tick.G names:=au;generalize S.tick=bz at aL aM au;cases sI:jn E x arg names bz with
   |some v=>exact aL.yl (alG aL aM au sI)
   |none=>
     have up:∀{j5:bp},nP dg C E bz j5->kp dg C j5.G arg/\nO dg C j5.G names:=λf=>⟨kp.mono aL.wf f.ok.wf f.pP aM,nO.mono aL.wf f.ok.wf f.pP au⟩;refine .ite (λ_=>?_) λ_=>.ite (λ_=>?_) λ_=>?_
     ·exact(aW _ arg names aU bz aL aM au).bind λf R=>aW _ _ _ _ _ f.ok (up f).1 (eJ.app (up f).2 (eJ.cons R eJ.nil))
     ·refine(aW _ arg names aU bz aL aM au).bind λf R=>.ite (λ_=>f.ok.no _) λ_=>.ite (λ_=>aW _ _ _ _ _ f.ok (up f).1 (up f).2) λ_=>aW _ _ _ _ _ f.ok (up f).1 (up f).2
     ·refine(Fr (f:=λy S=>dL ms N E y arg names aU S) (z7:=bz) (λy bx f=>aW y arg names aU bx f.ok (up f).1 (up f).2) x.l bz [] aL.refl eJ.nil).bind λf al=>?_;refine .ite (λ_=>.ite (λ_=>f.ok.no _) λ_=>aW _ _ _ _ _ f.ok (al.getD 0) eJ.nil) λ_=>.ite (λ_=>?_) λ_=>alE am f.ok al;exact(alF (x:=_) (aU:=aU) f.ok (al.getD 0)).bind λ_ aG=>aG.elim
end
theorem alH{dg C:Int->Prop}{E:Int}(am:0<=E){ms:dz}{S:bp}{fuel:Int}{v:ak}(h:j4 dg C E S)(R:kp dg C S.G v):nP dg C E S (fu ms E f v fuel S).1:=by
 unfold fu;split
 ·exact h.refl
 ·split
  ·exact h.refl
  ·split
   ·exact h.refl
   ·have aL:j4 dg C E {S with left:=fuel.toNat}:=⟨h.wf,h.jK,h.sS,h.gate,h.own⟩;have:=(Wa am ms fuel.toNat (fp ms E f) v [] 1 {S with left:=fuel.toNat} aL R eJ.nil).1;generalize dL ms fuel.toNat E (fp ms E f) v [] 1 {S with left:=fuel.toNat}=q at this;obtain⟨bx,w,c⟩:=q;have k:=this.ok;exact⟨⟨k.wf,k.jK,k.sS,k.gate,k.own⟩,this.pP,this.shut,this.cells,this.kept⟩
abbrev ju(bq:Int->Int->Prop)(cw:Int->Prop)(A B:aC):ak->ak->Prop:=de (m' bq cw A B) bq
abbrev oz(bq:Int->Int->Prop)(cw:Int->Prop)(A B:aC):List ak->List ak->Prop:=df (m' bq cw A B) bq
structure mE(bq:Int->Int->Prop)(cw bY:Int->Prop)(E:Int)(S bz:bp):Prop where
 eu:S.G.cz
 g1:bz.G.cz
 j6:ow bq S.G bz.G
 cells:∀k,0<=k->bY k->S.cells.getD k.toNat 0=bz.cells.getD k.toNat 0
 jr:S.cells.length=12
 qC:bz.cells.length=12
 kept:∀p,0<=p->p≠E->ju bq cw S.G bz.G (S.kept.getD p.toNat bE) (bz.kept.getD p.toNat bE)
 qD:S.kept.length=4
 qE:bz.kept.length=4
structure ma(cw bY:Int->Prop)(E:Int)(bq cG:Int->Int->Prop)(S bz bx j5:bp):Prop where
 lp:vk bq cG S.G
 j0:S.G.gD bx.G
 oy:bz.G.gD j5.G
 st:mE cG cw bY E bx j5
 left:S.left=bz.left->bx.left=j5.left
 CY:bx.kept.getD E.toNat bE=S.kept.getD E.toNat bE
def mF{α:Type}(cw bY:Int->Prop)(E:Int)(bq:Int->Int->Prop)(S bz:bp)(P:(Int->Int->Prop)->aC->aC->α->α->Prop)(q r:bp×α×Int):Prop:=q.2.2=11\/r.2.2=11\/∃cG,ma cw bY E bq cG S bz q.1 r.1/\q.2.2=r.2.2/\(q.2.2=0->P cG q.1.G r.1.G q.2.1 r.2.1)
section
variable{bq cG yk:Int->Int->Prop}{cw bY:Int->Prop}{E:Int}{S bz bx j5 CW Wb:bp}{α β:Type}
 {P:(Int->Int->Prop)->aC->aC->α->α->Prop} {cH:(Int->Int->Prop)->aC->aC->β->β->Prop}
theorem MZ{A B:aC}:∀a b,m' bq cw A B a b->0<=a/\0<=b:=λ_ _ h=>⟨V0 h.aM,V0 h.ai⟩
theorem Wc{A B:aC}(g:ow bq A B):∀a b,bq a b->0<=a/\0<=b:=λ_ _ h=>⟨(ox (g.a _ _ h)).1,(ox (g.b _ _ h)).1⟩
theorem ju.mono{A B dn fQ:aC}(eu:A.cz)(tR:dn.cz)(g1:B.cz)(CU:fQ.cz)(j0:A.gD dn)(oy:B.gD fQ)(e:∀i D,bq i D->cG i D){v w:ak}(h:ju bq cw A B v w):ju cG cw dn fQ v w:=de.mono (λ_ _ x=>x.mono eu tR g1 CU j0 oy e λ_=>id) e v w h
theorem oz.mono{A B dn fQ:aC}(eu:A.cz)(tR:dn.cz)(g1:B.cz)(CU:fQ.cz)(j0:A.gD dn)(oy:B.gD fQ)(e:∀i D,bq i D->cG i D){v w:List ak}(h:oz bq cw A B v w):oz cG cw dn fQ v w:=df.mono (λ_ _ x=>x.mono eu tR g1 CU j0 oy e λ_=>id) e v w h
theorem ma.up(h:mE bq cw bY E S bz)(r:ma cw bY E bq cG S bz bx j5){v w:ak}(x:ju bq cw S.G bz.G v w):ju cG cw bx.G j5.G v w:=ju.mono h.eu r.st.eu h.g1 r.st.g1 r.j0 r.oy r.lp.up x
theorem ma.z8(h:mE bq cw bY E S bz)(r:ma cw bY E bq cG S bz bx j5){v w:List ak}(x:oz bq cw S.G bz.G v w):oz cG cw bx.G j5.G v w:=oz.mono h.eu r.st.eu h.g1 r.st.g1 r.j0 r.oy r.lp.up x
theorem mE.refl(h:mE bq cw bY E S bz):ma cw bY E bq bq S bz S bz:=⟨.refl,.refl _,.refl _,h,id,rfl⟩
theorem ma.trans(a:ma cw bY E bq cG S bz bx j5)(b:ma cw bY E cG yk bx j5 CW Wb):ma cw bY E bq yk S bz CW Wb:=⟨a.lp.trans a.j0.shut.1 b.lp,a.j0.trans b.j0,a.oy.trans b.oy,b.st,λh=>b.left (a.left h),b.CY.trans a.CY⟩
theorem mE.graph(h:mE bq cw bY E S bz){G H:aC}(Wd:G.cz)(We:H.cz)(Wf:S.G.gD G)(Wg:bz.G.gD H)(n:vk bq cG S.G)(g:ow cG G H):ma cw bY E bq cG S bz {S with G:=G} {bz with G:=H}:=⟨n,Wf,Wg,⟨Wd,We,g,h.cells,h.jr,h.qC,λp aB au=>ju.mono h.eu Wd h.g1 We Wf Wg n.up (h.kept p aB au),h.qD,h.qE⟩,id,rfl⟩
abbrev wE(cw:Int->Prop):(Int->Int->Prop)->aC->aC->ak->ak->Prop:=λbq A B v w=>ju bq cw A B v w
theorem mE.no(h:mE bq cw bY E S bz)(c:Int):mF cw bY E bq S bz (wE cw) (S.no c) (bz.no c):=.inr (.inr ⟨bq,h.refl,rfl,λ_=>de.zero⟩)
theorem mE.ok(h:mE bq cw bY E S bz){v w:ak}(x:ju bq cw S.G bz.G v w):mF cw bY E bq S bz (wE cw) (S.ok v) (bz.ok w):=.inr (.inr ⟨bq,h.refl,rfl,λ_=>x⟩)
theorem mF.ite{p gy:Prop}[Decidable p][Decidable gy]{a b dO e5:bp×α×Int}(aB:p↔gy)(F:p->mF cw bY E bq S bz P a dO)(O:¬p->mF cw bY E bq S bz P b e5):mF cw bY E bq S bz P (if p then a else b) (if gy then dO else e5):=by
 by_cases h:p
 ·rw[if_pos h,if_pos (aB.1 h)];exact F h
 ·rw[if_neg h,if_neg (λx=>h (aB.2 x))];exact O h
theorem mF.bind{q r:bp×α×Int}{z:β}{k cn:bp->α->bp×β×Int}(h:mF cw bY E bq S bz P q r)(Z:∀cG,ma cw bY E bq cG S bz q.1 r.1->P cG q.1.G r.1.G q.2.1 r.2.1->mF cw bY E cG q.1 r.1 cH (k q.1 q.2.1) (cn r.1 r.2.1)):mF cw bY E bq S bz cH (ov z q k) (ov z r cn):=by
 obtain⟨A,v,c⟩:=q;obtain⟨B,w,d⟩:=r;unfold ov;simp only;rcases h with h|h|⟨cG,fv,aj,R⟩
 ·have h:c=11:=h;rw[if_pos (by omega)];exact .inl h
 ·have h:d=11:=h;refine .inr (.inl ?_);rw[if_pos (by omega)];exact h
 ·have aj:c=d:=aj;subst aj;by_cases e:c≠0
  ·rw[if_pos e,if_pos e];exact .inr (.inr ⟨cG,fv,rfl,λx=>absurd x e⟩)
  ·rw[if_neg e,if_neg e];rcases Z cG fv (R (la.1 e))with h|h|⟨yk,M0,h⟩
   ·exact .inl h
   ·exact .inr (.inl h)
   ·exact .inr (.inr ⟨yk,fv.trans M0,h⟩)
theorem Ha{α:Type}{l:List α}{i D:Nat}{x z:α}(h:l.length<=D):(l.set i x).getD D z=z:=by rw[cK,lU (by rw[kK];exact h)];rfl
theorem alI(am:0<=E)(eo:∀k,cw k->bY k){p:Int}(ae:0<=p)(aB:p≠E){op k n:Int}{l m:List ak}(h:mE bq cw bY E S bz)(al:oz bq cw S.G bz.G l m):mF cw bY E bq S bz (wE cw) (gC p op k n l S) (gC p op k n m bz):=by
 have aM:=al.getD 0;have ai:=al.getD 1;have vl:=aM.kind;have Wh:=ai.kind;have Wi:=Wc h.j6;have jr:(l.getD 0 bE).kind=4->m' bq cw S.G bz.G (l.getD 0 bE).n (m.getD 0 bE).n:=aM.du;unfold gC;refine .ite .rfl (λ_=>.ite (by rw[vl,Wh]) (λ_=>h.no _) λe=>?_) λ_=>?_
 ·rw[aM.num (by omega) (by omega),ai.num (by omega) (by omega)];exact h.ok (de.int _)
 refine .ite .rfl (λ_=>?_) λ_=>?_
 ·have v:=de.mk (k:=2) (n:=0) (by decide) (by decide) (df.cons aM (df.cons ai df.nil));exact .ite (by rw[de.code MZ Wi v]) (λ_=>h.no _) λ_=>h.ok v
 refine .ite .rfl (λ_=>.ite (by rw[vl]) (λ_=>h.no _) λ_=>h.ok (aM.part 0)) λ_=>?_;refine .ite .rfl (λ_=>.ite (by rw[vl]) (λ_=>h.no _) λ_=>h.ok (aM.part 1)) λ_=>?_;refine .ite .rfl (λ_=>?_) λ_=>?_
 ·have v:=de.mk (k:=3) (n:=p) (by decide) (by decide) (df.cons aM df.nil);exact .ite (by rw[de.code MZ Wi v]) (λ_=>h.no _) λ_=>h.ok v
 refine .ite .rfl (λ_=>.ite (by rw[vl]) (λ_=>h.no _) λe=>.ite (by rw[aM.num (by omega) (by omega)]) (λ_=>h.no _) λ_=>h.ok (aM.part 0)) λ_=>?_;refine .ite .rfl (λ_=>.ite (by rw[vl]) (λ_=>h.no _) λe=>?_) λ_=>?_
 ·have c:=jr (la.1 e);have alJ:=c.t;have CZ:=c.wD;refine .ite (by rw[c.et h.j6]) (λ_=>h.no _) λ_=>.ite (by rw[CZ.2]) (λ_=>h.no _) λ_=>?_;have hr:0<=(S.G.target (l.getD 0 bE).n).1.cell:=by have:=(aC.FB h.eu c.aM).2.2;omega
  refine .inr (.inr ⟨bq,⟨.refl,.refl _,.refl _,⟨h.eu,h.g1,h.j6,h.cells,h.jr,h.qC,h.kept,h.qD,h.qE⟩,id,rfl⟩,rfl,λ_=>?_⟩);show ju bq cw S.G bz.G (iC (S.cells.getD _ 0)) (iC (bz.cells.getD _ 0));rw[CZ.1,h.cells _ hr (eo _ c.E)];exact de.int _
 refine .ite .rfl (λ_=>.ite (by rw[vl,Wh]) (λ_=>h.no _) λe=>?_) λ_=>?_
 ·have c:=jr (la.1 λx=>e (.inl x));have alJ:=c.t;have CZ:=c.wD;refine .ite (by rw[c.et h.j6]) (λ_=>h.no _) λ_=>.ite (by rw[CZ.2]) (λ_=>h.no _) λ_=>?_;have Cj:(m.getD 1 bE).n=(l.getD 1 bE).n:=ai.num (by omega) (by omega);refine .inr (.inr ⟨bq,⟨.refl,.refl _,.refl _,⟨h.eu,h.g1,h.j6,λx an he=>?_,kK.trans h.jr,kK.trans h.qC,h.kept,h.qD,h.qE⟩,id,rfl⟩,rfl,λ_=>ai⟩);show(S.cells.set _ _).getD x.toNat 0=(bz.cells.set _ _).getD x.toNat 0;rw[CZ.1,Cj];by_cases e:(S.G.target (l.getD 0 bE).n).1.cell.toNat=x.toNat
  ·rw[e];by_cases an:x.toNat<12
   ·rw[qB (by rw[h.jr];exact an),qB (by rw[h.qC];exact an)]
   ·rw[Ha (by rw[h.jr];omega),Ha (by rw[h.qC];omega)]
  ·rw[nb e,nb e];exact h.cells x an he
 have alK:∀{cG:Int->Int->Prop} {A B:bp} {q r:aC×Int×Int},q.2.2=11\/r.2.2=11\/q.2.2=r.2.2->ma cw bY E bq cG S bz {A with G:=q.1} {B with G:=r.1}->(q.2.2=0->r.2.2=0->m' cG cw q.1 r.1 q.2.1 r.2.1)->mF cw bY E bq S bz (wE cw) (sf A q) (sf B r):=by
  intro cG A B q r aj fv R;unfold sf;rcases aj with aj|aj|aj
  ·rw[if_pos (by omega)];exact .inl aj
  ·refine .inr (.inl ?_);rw[if_pos (by omega)];exact aj
  ·by_cases e:q.2.2≠0
   ·rw[if_pos e,if_pos (by rw[<-aj];exact e)];exact .inr (.inr ⟨cG,fv,aj,λx=>absurd x e⟩)
   ·have gM:q.2.2=0:=la.1 e;rw[if_neg e,if_neg (by rw[<-aj];exact e)];exact .inr (.inr ⟨cG,fv,rfl,λ_=>de.cap (R gM (by rw[<-aj];exact gM))⟩)
 refine .ite .rfl (λ_=>.ite (by rw[vl]) (λ_=>h.no _) λe=>?_) λ_=>?_
 ·have c:=jr (la.1 e);exact alK (V7 c.aM c.ai (.inl ⟨rfl,rfl⟩)) (h.graph (h.eu.derive _ _ _) (h.g1.derive _ _ _) (CS _ _ _ _) (CS _ _ _ _) .refl (h.j6.nodes (CV _ _ _) (CV _ _ _))) λaN p7=>c.derive h.eu h.g1 (.inl ⟨by decide,by decide⟩) aN p7
 refine .ite .rfl (λ_=>.ite (by rw[vl]) (λ_=>h.no _) λe=>?_) λ_=>?_
 ·have c:=jr (la.1 e);rcases V8 (A:=S.G)with c1|c1
  ·rw[if_pos (by rw[c1];decide)];exact .inl c1
  rcases V8 (A:=bz.G)with cr|cr
  ·refine .inr (.inl ?_);rw[if_pos (by rw[cr];decide)];exact cr
  rw[if_neg (by rw[c1];decide),if_neg (by rw[cr];decide)];obtain⟨sT,lp,j6,n7⟩:=h.j6.gate c1 cr;have bT:=h.graph h.eu.gate h.g1.gate (CR _) (CR _) lp j6;have a8:=c.mono h.eu h.eu.gate h.g1 h.g1.gate (CR _) (CR _) lp.up λ_=>id;have pQ:=V7 (r:=15) a8.aM a8.ai (.inr ⟨j6.a _ _ n7,j6.b _ _ n7⟩);have bQ:=bT.st.graph (bT.st.eu.derive (l.getD 0 bE).n 15 S.G.gate.2.1) (bT.st.g1.derive (m.getD 0 bE).n 15 bz.G.gate.2.1) (CS _ _ _ _) (CS _ _ _ _) .refl (j6.nodes (CV _ _ _) (CV _ _ _));have hI:=λaN p7=>a8.derive (r:=15) bT.st.eu bT.st.g1 (.inr n7) aN p7;have gL:=bT.trans bQ;rcases aG:S.G.gate.1.derive (l.getD 0 bE).n 15 S.G.gate.2.1 with⟨cU,x,fy⟩;rcases ah:bz.G.gate.1.derive (m.getD 0 bE).n 15 bz.G.gate.2.1 with⟨o7,y,k7⟩;rw[aG]at gL pQ hI;rw[ah]at gL pQ hI;have pQ:fy=11\/k7=11\/fy=k7:=pQ;rcases pQ with pQ|pQ|pQ
  ·simp only;rw[if_pos (by omega)];exact .inl pQ
  ·simp only;refine .inr (.inl ?_);rw[if_pos (by omega)];exact pQ
  ·subst pQ;by_cases e:fy≠0
   ·simp only;rw[if_pos e,if_pos e];exact .inr (.inr ⟨sT,gL,rfl,λx=>absurd x e⟩)
   ·have gM:fy=0:=la.1 e;simp only;rw[if_neg e,if_neg e];exact .inr (.inr ⟨sT,gL,rfl,λ_=>de.mk (by decide) (by decide) (df.cons (de.cap (hI gM gM)) (df.cons (de.gate n7) df.nil))⟩)
 refine .ite .rfl (λ_=>.ite (by rw[vl]) (λ_=>h.no _) λe=>?_) λ_=>?_
 ·have n7:=aM.fk (la.1 e);exact .inr (.inr ⟨bq,h.graph (h.eu.cut _) (h.g1.cut _) (MM _ _) (MM _ _) .refl (h.j6.cut n7),rfl,λ_=>de.zero⟩)
 refine .ite .rfl (λ_=>?_) λ_=>h.no _;refine .inr (.inr ⟨bq,⟨.refl,.refl _,.refl _,⟨h.eu,h.g1,h.j6,h.cells,h.jr,h.qC,λx an au=>?_,kK.trans h.qD,kK.trans h.qE⟩,id,?_⟩,rfl,λ_=>h.kept p ae aB⟩)
 ·show ju bq cw S.G bz.G ((S.kept.set p.toNat _).getD x.toNat bE) ((bz.kept.set p.toNat _).getD x.toNat bE);by_cases e:p.toNat=x.toNat
  ·rw[e];by_cases an:x.toNat<4
   ·rw[qB (by rw[h.qD];exact an),qB (by rw[h.qE];exact an)];exact aM
   ·rw[Ha (by rw[h.qD];omega),Ha (by rw[h.qE];omega)];exact de.zero
  ·rw[nb e,nb e];exact h.kept x an au
 ·exact nb (by omega)
theorem alL{ms nQ:dz}{v x bu iI:ak}{aU:Nat}(h:mE bq cw bY E S bz)(R:ju bq cw S.G bz.G v bu):mF cw bY E bq S bz (λ_ _ _ _ _=>False) (im ms v x aU S) (im nQ bu iI aU bz):=by have no:∀{c:Int} (aj:c≠0) (z Wj:tn),mF cw bY E bq S bz (λ_ _ _ _ _=>False) (S,z,c) (bz,Wj,c):=λaj z Wj=>.inr (.inr ⟨bq,h.refl,rfl,λe=>aj e⟩);unfold im;refine .ite (by rw[R.kind]) (λ_=>no (by decide) _ _) λe=>?_;have c:=R.du (la.1 e);refine .ite (by rw[c.et h.j6]) (λ_=>no (by decide) _ _) λ_=>.ite (by rw[c.wD.2]) (λ_=>no (by decide) _ _) λaf=>absurd c.t af
theorem Wk{f M1:bk->bp->bp×ak×Int}{z7 Wl:bp}(bc:∀x cG S bz,ma cw bY E bq cG z7 Wl S bz->mF cw bY E cG S bz (wE cw) (f x S) (M1 x bz)):∀(l:List bk) (cG:Int->Int->Prop) (S bz:bp) (acc Hb:List ak),ma cw bY E bq cG z7 Wl S bz->oz cG cw S.G bz.G acc Hb->mF cw bY E cG S bz (λbq A B l m=>oz bq cw A B l m) (iW f l S acc) (iW M1 l bz Hb)
 |[],cG,S,bz,acc,Hb,ae,aM=>.inr (.inr ⟨cG,ae.st.refl,rfl,λ_=>aM⟩)
 |x::l,cG,S,bz,acc,Hb,ae,aM=>by rw[MK,MK];exact(bc x cG S bz ae).bind λalM f1 R=>Wk bc l alM _ _ _ _ (ae.trans f1) (df.app (f1.z8 ae.st aM) (df.cons R df.nil))
theorem alN{p:Int}(ae:0<=p)(aB:p≠E){x:bk}{arg qF:ak}{names qG:List ak}(h:mE bq cw bY E S bz)(aM:ju bq cw S.G bz.G arg qF)(au:oz bq cw S.G bz.G names qG):(jn p x arg names S=ab/\jn p x qF qG bz=ab)\/∃v w,jn p x arg names S=j v/\jn p x qF qG bz=j w/\ju bq cw S.G bz.G v w:=by
 unfold jn;by_cases F:x.op=1
 ·rw[if_pos F,if_pos F];exact .inr ⟨_,_,rfl,rfl,de.zero⟩
 rw[if_neg F,if_neg F];by_cases O:x.op=2
 ·rw[if_pos O,if_pos O];exact .inr ⟨_,_,rfl,rfl,de.int _⟩
 rw[if_neg O,if_neg O];by_cases af:x.op=3
 ·rw[if_pos af,if_pos af];exact .inr ⟨_,_,rfl,rfl,aM⟩
 rw[if_neg af,if_neg af];by_cases aw:x.op=4
 ·rw[if_pos aw,if_pos aw];refine .inr ⟨_,_,rfl,rfl,?_⟩;rw[<-au.len];exact au.getD _
 rw[if_neg aw,if_neg aw];by_cases bg:x.op=21
 ·rw[if_pos bg,if_pos bg];exact .inr ⟨_,_,rfl,rfl,h.kept p ae aB⟩
 rw[if_neg bg,if_neg bg];exact .inl ⟨rfl,rfl⟩
theorem Wm(am:0<=E)(eo:∀k,cw k->bY k){p:Int}(ae:0<=p)(aB:p≠E){ms nQ:dz}(hm:∀k,fp ms p k=fp nQ p k):∀(N:Nat) (bq:Int->Int->Prop) (x:bk) (arg qF:ak) (names qG:List ak) (aU:Nat) (S bz:bp),mE bq cw bY E S bz->S.left=bz.left->ju bq cw S.G bz.G arg qF->oz bq cw S.G bz.G names qG->mF cw bY E bq S bz (wE cw) (dL ms N p x arg names aU S) (dL nQ N p x qF qG aU bz)
 |0,bq,x,arg,qF,names,qG,aU,S,bz,h,al,aM,au=>h.no _
 |N+1,bq,x,arg,qF,names,qG,aU,S,bz,h,al,aM,au=>by
   have aW:=Wm am eo ae aB hm N;rw[ML,ML];refine .ite (by rw[al]) (λ_=>h.no _) λ_=>?_;have aL:mE bq cw bY E S.tick bz.tick:=⟨h.eu,h.g1,h.j6,h.cells,h.jr,h.qC,h.kept,h.qD,h.qE⟩;have hl:S.tick.left=bz.tick.left:=by show S.left - 1=bz.left - 1;rw[al]
   have Ct:∀{q r:bp×ak×Int},mF cw bY E bq S.tick bz.tick (wE cw) q r->mF cw bY E bq S bz (wE cw) q r:=by
    intro q r x;rcases x with x|x|⟨cG,fv,x⟩
    ·exact .inl x
    ·exact .inr (.inl x)
    ·exact .inr (.inr ⟨cG,⟨fv.lp,fv.j0,fv.oy,fv.st,λ_=>fv.left hl,fv.CY⟩,x⟩)
   refine Ct ?_;have aM:ju bq cw S.tick.G bz.tick.G arg qF:=aM;have au:oz bq cw S.tick.G bz.tick.G names qG:=au;generalize S.tick=S at aL aM au hl;generalize bz.tick=bz at aL aM au hl;rcases alN ae aB aL aM au (x:=x)with⟨ao,aq⟩|⟨v,w,ao,aq,R⟩
   ·rw[ao,aq];simp only;have up:∀{cG:Int->Int->Prop} {bx j5:bp},ma cw bY E bq cG S bz bx j5->bx.left=j5.left/\ju cG cw bx.G j5.G arg qF/\oz cG cw bx.G j5.G names qG:=λf=>⟨f.left hl,f.up aL aM,f.z8 aL au⟩;refine .ite .rfl (λ_=>?_) λ_=>.ite .rfl (λ_=>?_) λ_=>?_
    ·exact(aW bq _ arg qF names qG aU S bz aL hl aM au).bind λsT f R=>aW sT _ _ _ _ _ _ _ _ f.st (up f).1 (up f).2.1 (df.app (up f).2.2 (df.cons R df.nil))
    ·refine(aW bq _ arg qF names qG aU S bz aL hl aM au).bind λsT f R=>.ite (by rw[de.kind R]) (λ_=>f.st.no _) λZ=>.ite (by rw[de.num R (by omega) (by omega)]) (λ_=>aW sT _ _ _ _ _ _ _ _ f.st (up f).1 (up f).2.1 (up f).2.2) λ_=>aW sT _ _ _ _ _ _ _ _ f.st (up f).1 (up f).2.1 (up f).2.2
    ·refine(Wk (f:=λy S=>dL ms N p y arg names aU S) (M1:=λy S=>dL nQ N p y qF qG aU S) (λy sT bx j5 f=>aW sT y _ _ _ _ aU bx j5 f.st (up f).1 (up f).2.1 (up f).2.2) x.l bq S bz [] [] aL.refl df.nil).bind λsT f al=>?_;refine .ite .rfl (λ_=>.ite .rfl (λ_=>f.st.no _) λ_=>?_) λ_=>.ite .rfl (λ_=>?_) λ_=>alI am eo ae aB f.st al
     ·rw[hm];exact aW sT _ _ _ _ _ _ _ _ f.st (up f).1 (al.getD 0) df.nil
     ·exact(alL f.st (al.getD 0)).bind λ_ _ aG=>aG.elim
   ·rw[ao,aq];exact aL.ok R
end
theorem alO{bq:Int->Int->Prop}{cw bY:Int->Prop}{E:Int}(am:0<=E)(eo:∀k,cw k->bY k){p:Int}(aB:p≠E){ms nQ:dz}(hm:0<=p->ms.getD p.toNat ab=nQ.getD p.toNat ab){S bz:bp}{fuel:Int}{v:ak}(h:mE bq cw bY E S bz)(R:ju bq cw S.G bz.G v w):(fu ms p f v fuel S).2.2.2=11\/(fu nQ p f w fuel bz).2.2.2=11\/((fu ms p f v fuel S).2.2=(fu nQ p f w fuel bz).2.2/\∃cG,ma cw bY E bq cG S bz (fu ms p f v fuel S).1 (fu nQ p f w fuel bz).1/\ju cG cw (fu ms p f v fuel S).1.G (fu nQ p f w fuel bz).1.G (fu ms p f v fuel S).2.1 (fu nQ p f w fuel bz).2.1):=by
 have same:∀(n c:Int),((n,c):Int×Int)=(n,c)/\∃cG,ma cw bY E bq cG S bz S bz/\ju cG cw S.G bz.G bE bE:=λn c=>⟨rfl,bq,h.refl,de.zero⟩;unfold fu;by_cases F:fuel<0\/2000<fuel\/p<0\/4<=p
 ·rw[if_pos F,if_pos F];exact .inr (.inr (same _ _))
 rw[if_neg F,if_neg F];have Wn:=hm (by omega);have bc:hG ms p=hG nQ p:=by unfold hG;rw[Wn]
 have Z:∀k,fp ms p k=fp nQ p k:=λk=>by unfold fp;rw[bc]
 rw[Wn,bc];by_cases O:(nQ.getD p.toNat ab).isNone=Q\/f<0\/((hG nQ p).length:Int)<=f
 ·rw[if_pos O,if_pos O];exact .inr (.inr (same _ _))
 rw[if_neg O,if_neg O,de.code MZ (Wc h.j6) R];by_cases af:v.code≠0
 ·rw[if_pos af,if_pos af];exact .inr (.inr (same _ _))
 rw[if_neg af,if_neg af];have aL:mE bq cw bY E {S with left:=fuel.toNat} {bz with left:=fuel.toNat}:=⟨h.eu,h.g1,h.j6,h.cells,h.jr,h.qC,h.kept,h.qD,h.qE⟩;have q:=Wm am eo (by omega) aB Z fuel.toNat bq (fp ms p f) v w [] [] 1 _ _ aL rfl R df.nil;rw[<-Z];generalize dL ms fuel.toNat p (fp ms p f) v [] 1 {S with left:=fuel.toNat}=a at q;generalize dL nQ fuel.toNat p (fp ms p f) w [] 1 {bz with left:=fuel.toNat}=b at q;obtain⟨bx,x,c⟩:=a;obtain⟨j5,y,d⟩:=b;rcases q with q|q|⟨cG,fv,aj,an⟩
 ·exact .inl q
 ·exact .inr (.inl q)
 ·have aj:c=d:=aj;subst aj;have al:bx.left=j5.left:=fv.left rfl;refine .inr (.inr ⟨by simp only;rw[al],cG,⟨fv.lp,fv.j0,fv.oy,?_,?_,fv.CY⟩,?_⟩)
  ·have k:=fv.st;exact⟨k.eu,k.g1,k.j6,k.cells,k.jr,k.qC,k.kept,k.qD,k.qE⟩
  ·exact λh=>h
  ·show ju cG cw bx.G j5.G (if c=0 then x else bE) (if c=0 then y else bE);by_cases e:c=0
   ·rw[if_pos e,if_pos e];exact an e
   ·rw[if_neg e,if_neg e];exact de.zero
def gF(b9:List Int)(k:Int):Int:=b9.getD k.toNat (-1)
def nR(b9:List Int)(E k:Int):Prop:=0<=gF b9 k/\gF b9 k≠E
def C0(b9:List Int)(E k:Int):Prop:=gF b9 k≠E
def qH(b9:List Int)(E k:Int):Prop:=gF b9 k=E
def wF(bq:Int->Int->Prop)(i:Int):Prop:=∃D,bq i D
structure j7(bq:Int->Int->Prop)(b9:List Int)(E:Int)(A B:c5):Prop where
 st:mE bq (nR b9 E) (C0 b9 E) E A.S B.S
 own:j4 (wF bq) (qH b9 E) E A.S
 pR:A.ms.length=4
 vm:B.ms.length=4
 ms:∀p,0<=p->p≠E->A.ms.getD p.toNat ab=B.ms.getD p.toNat ab
 dD:A.b3.length=4
 kZ:B.b3.length=4
 b3:∀p,0<=p->p≠E->oz bq (nR b9 E) A.S.G B.S.G (A.hand p) (B.hand p)
 sP:nO (wF bq) (qH b9 E) A.S.G (A.hand E)
def Wo(b9:List Int)(E:Int)(a b:c5×m9):Prop:=a.2.code=11\/b.2.code=11\/((∃bq,j7 bq b9 E a.1 b.1)/\a.2.code=b.2.code/\a.2.fuel=b.2.fuel/\ko a.2.v=ko b.2.v)
section
variable{bq cG:Int->Int->Prop}{b9 kq:List Int}{E:Int}{A B dn fQ:c5}
theorem j7.owner(am:0<=E)(h:j7 bq b9 E A B)(u:∀k,0<=gF b9 k->gF kq k=gF b9 k):j7 bq kq E A B:=by
 have alP:∀k,nR b9 E k->nR kq E k:=λk x=>by unfold nR;rw[u k x.1];exact x
 have alQ:∀k,C0 kq E k->C0 b9 E k:=λk x e=>x (by rw[u k (by omega)];exact e);have alR:∀k,qH b9 E k->qH kq E k:=λk x=>by have x:gF b9 k=E:=x;show gF kq k=E;rw[u k (by omega)];exact x
 have s:=h.st;have w:=h.own;have gf:∀a b,m' bq (nR b9 E) A.S.G B.S.G a b->m' bq (nR kq E) A.S.G B.S.G a b:=λa b x=>x.mono s.eu s.eu s.g1 s.g1 (.refl _) (.refl _) (λ_ _=>id) alP;have C1:∀a,o8 (qH b9 E) A.S.G a->o8 (qH kq E) A.S.G a:=λa x=>x.mono s.eu s.eu (.refl _) alR;exact⟨⟨s.eu,s.g1,s.j6,λk Z he=>s.cells k Z (alQ k he),s.jr,s.qC,λp aB au=>de.mono gf (λ_ _=>id) _ _ (s.kept p aB au),s.qD,s.qE⟩,⟨w.wf,w.jK,w.sS,w.gate,e1.mono C1 (λ_=>id) _ w.own⟩,h.pR,h.vm,h.ms,h.dD,h.kZ,λp aB au=>df.mono gf (λ_ _=>id) _ _ (h.b3 p aB au),eJ.mono C1 (λ_=>id) _ h.sP⟩
theorem j7.alone(h:j7 bq b9 E A B)(f:nP (wF bq) (qH b9 E) E A.S dn.S)(pR:dn.ms.length=4)(ms:∀p,0<=p->p≠E->dn.ms.getD p.toNat ab=A.ms.getD p.toNat ab)(dD:dn.b3.length=4)(bP:∀p,0<=p->p≠E->dn.hand p=A.hand p)(h3:nO (wF bq) (qH b9 E) dn.S.G (dn.hand E)):j7 bq b9 E dn B:=by
 have s:=h.st;have w:=f.ok;have g:ow bq dn.S.G B.S.G:=⟨λi D x=>w.gate i ⟨D,x⟩,s.j6.b,λi D x=>(f.shut i ⟨D,x⟩).trans (s.j6.s i D x),s.j6.inj⟩;have up:∀{v u:ak},ju bq (nR b9 E) A.S.G B.S.G v u->ju bq (nR b9 E) dn.S.G B.S.G v u:=λx=>ju.mono s.eu w.wf s.g1 s.g1 f.pP (.refl _) (λ_ _=>id) x;refine⟨⟨w.wf,s.g1,g,λk Z he=>(f.cells k Z he).trans (s.cells k Z he),w.jK,s.qC,λp aB au=>?_,w.sS,s.qE⟩,w,pR,h.vm,λp aB au=>(ms p aB au).trans (h.ms p aB au),dD,h.kZ,λp aB au=>?_,h3⟩
 ·rw[f.kept p aB au];exact up (s.kept p aB au)
 ·rw[bP p aB au];exact oz.mono s.eu w.wf s.g1 s.g1 f.pP (.refl _) (λ_ _=>id) (h.b3 p aB au)
theorem j7.both(h:j7 bq b9 E A B)(r:ma (nR b9 E) (C0 b9 E) E bq cG A.S B.S dn.S fQ.S)(pR:dn.ms.length=4)(vm:fQ.ms.length=4)(ms:∀p,0<=p->p≠E->dn.ms.getD p.toNat ab=fQ.ms.getD p.toNat ab)(dD:dn.b3.length=4)(kZ:fQ.b3.length=4)(bP:∀p,0<=p->p≠E->oz cG (nR b9 E) dn.S.G fQ.S.G (dn.hand p) (fQ.hand p))(h3:dn.hand E=A.hand E):j7 cG b9 E dn fQ:=by
 have s:=r.st;have Bs:∀g,A.S.G.gb g=Q/\¬wF bq g->dn.S.G.gb g=Q/\¬wF cG g:=λg x=>⟨CX r.j0 x.1,λ⟨D,y⟩=>by
  rcases r.lp.new g D y with y|y
  ·exact x.2 ⟨D,y⟩
  ·have:=ox x.1;omega⟩
 have C1:∀a,o8 (qH b9 E) A.S.G a->o8 (qH b9 E) dn.S.G a:=λa x=>x.mono h.st.eu s.eu r.j0 λ_=>id;refine⟨s,⟨s.eu,s.jr,s.qD,λg ⟨D,x⟩=>s.j6.a g D x,?_⟩,pR,vm,ms,dD,kZ,bP,?_⟩
 ·rw[r.CY];exact e1.mono C1 Bs _ h.own.own
 ·rw[h3];exact eJ.mono C1 Bs _ h.sP
theorem C2{H:c5}{l:List ak}{S:bp}{ms:dz}{p q:Int}(al:H.b3.length=4)(aB:0<=p)(vy:p<4)(aG:0<=q):(⟨ms,S,H.b3.set p.toNat l⟩:c5).hand q=if q=p then l else H.hand q:=by
 unfold c5.hand;by_cases e:q=p
 ·subst e;rw[if_pos rfl];exact qB (by rw[al];omega)
 ·rw[if_neg e];exact nb (by omega)
theorem j7.alS(am:0<=E)(h:j7 bq b9 E A B){x:hX}(aB:x.p=E)(aX:x.g= -1)(Z:x.kind=1\/x.kind=2\/x.kind=4)(hw:x.kind=2->mV x.k=Q->gF b9 x.k=x.p):j7 bq b9 E (A.step x).1 B:=by
 have w:=h.own;unfold c5.step;rcases Z with k|k|k
 ·rw[if_pos k];show j7 bq b9 E (A.load x.p x.m).1 B;unfold c5.load;split
  ·exact h
  ·split
   ·exact h
   ·rename_i F _;have aa:0<=x.p/\x.p<4:=sM.1 (by simpa using F);have ok:j4 (wF bq) (qH b9 E) E {A.S with kept:=A.S.kept.set x.p.toNat bE}:=⟨w.wf,w.jK,kK.trans w.sS,w.gate,by
     show kp _ _ _ ((A.S.kept.set x.p.toNat bE).getD E.toNat bE);rw[aB,qB (by rw[w.sS];omega)];exact e1.zero⟩
    exact h.alone ⟨ok,.refl _,λ_ _=>rfl,λ_ _ _=>rfl,λp ae au=>nb (by omega)⟩ (kK.trans h.pR) (λp ae au=>nb (by omega)) h.dD (λ_ _ _=>rfl) h.sP
 ·rw[if_neg (by omega),if_pos (.inl k)];split
  ·exact h
  ·rename_i F;have aa:0<=x.p/\x.p<4:=sM.1 (by simpa using F);rw[aX];have f:=w.graph (cU:=(A.S.G.eh x.k x.r (-1)).1) (w.wf.eh _ _ _) (MV _ _ _) λi _=>by rw[MW]
   unfold c5.ot;split
   ·exact h.alone f h.pR (λ_ _ _=>rfl) h.dD (λ_ _ _=>rfl) (nO.mono w.wf f.ok.wf f.pP h.sP)
   ·rename_i aN;have aN:(A.S.G.eh x.k x.r (-1)).2.2=0:=la.1 aN;obtain⟨ek,_,og⟩:=MU w.wf aN;have aj:mV x.k=Q:=by
     unfold aC.eh at aN;split at aN
     ·assumption
     ·cases aN
    have c:o8 (qH b9 E) (A.S.G.eh x.k x.r (-1)).1 (A.S.G.eh x.k x.r (-1)).2.1:=⟨ek,by rw[og];exact(by decide:(-1:Int)<0),by rw[og];exact(hw k aj).trans aB⟩;refine h.alone (dn:=⟨A.ms,{A.S with G:=(A.S.G.eh x.k x.r (-1)).1},A.b3.set x.p.toNat (A.hand x.p++[jO (A.S.G.eh x.k x.r (-1)).2.1])⟩) f h.pR (λ_ _ _=>rfl) (kK.trans h.dD) (λp ae au=>?_) ?_
    ·rw[C2 h.dD aa.1 aa.2 ae,if_neg (by omega)]
    ·rw[C2 h.dD aa.1 aa.2 am,if_pos aB.symm,aB];exact eJ.app (nO.mono w.wf f.ok.wf f.pP h.sP) (eJ.cons (e1.cap c) eJ.nil)
 ·rw[if_neg (by omega),if_neg (by omega),if_pos k];unfold c5.call;split
  ·exact h
  ·have R:kp (wF bq) (qH b9 E) A.S.G (if 0<=x.h then(A.hand x.p).getD x.h.toNat bE else iC x.n):=by
    split
    ·rw[aB];exact h.sP.getD _
    ·exact e1.int _
   have f:=alH (ms:=A.ms) (f:=x.k) (fuel:=2000) am w R;rw[aB]at f ⊢;generalize fu A.ms E x.k (if 0<=x.h then(A.hand E).getD x.h.toNat bE else iC x.n) 2000 A.S=q at f;obtain⟨bx,v,n,c⟩:=q;exact h.alone (dn:={A with S:=bx}) f h.pR (λ_ _ _=>rfl) h.dD (λ_ _ _=>rfl) (nO.mono w.wf f.ok.wf f.pP h.sP)
theorem j7.same(h:j7 bq b9 E A B)(c:Int):Wo b9 E (A,.no c) (B,.no c):=.inr (.inr ⟨⟨bq,h⟩,rfl,rfl,rfl⟩)
theorem j7.alT(am:0<=E)(h:j7 bq b9 E A B){x:hX}(aB:x.p≠E)(aX:x.g= -1)(Z:x.kind=1\/x.kind=2\/x.kind=4)(hw:x.kind=2->mV x.k=Q->gF b9 x.k=x.p):Wo b9 E (A.step x) (B.step x):=by
 have s:=h.st;unfold c5.step;rcases Z with k|k|k
 ·rw[if_pos k,if_pos k];unfold c5.load;by_cases F:j2 x.p=T
  ·rw[if_pos F,if_pos F];exact h.same _
  rw[if_neg F,if_neg F];by_cases O:(hE x.m).1≠0
  ·rw[if_pos O,if_pos O];exact h.same _
  rw[if_neg O,if_neg O];have aa:0<=x.p/\x.p<4:=sM.1 (by simpa using F);have fv:ma (nR b9 E) (C0 b9 E) E bq bq A.S B.S {A.S with kept:=A.S.kept.set x.p.toNat bE} {B.S with kept:=B.S.kept.set x.p.toNat bE}:=⟨.refl,.refl _,.refl _,⟨s.eu,s.g1,s.j6,s.cells,s.jr,s.qC,λp ae au=>by
   show ju bq (nR b9 E) A.S.G B.S.G ((A.S.kept.set x.p.toNat bE).getD p.toNat bE) ((B.S.kept.set x.p.toNat bE).getD p.toNat bE);by_cases e:x.p.toNat=p.toNat
   ·rw[e,qB (by rw[s.qD];omega),qB (by rw[s.qE];omega)];exact de.zero
   ·rw[nb e,nb e];exact s.kept p ae au,kK.trans s.qD,kK.trans s.qE⟩,id,nb (by omega)⟩
  refine .inr (.inr ⟨⟨bq,h.both fv (kK.trans h.pR) (kK.trans h.vm) (λp ae au=>?_) h.dD h.kZ (λp ae au=>h.b3 p ae au) rfl⟩,rfl,rfl,rfl⟩);by_cases e:x.p.toNat=p.toNat
  ·rw[e,qB (by rw[h.pR];omega),qB (by rw[h.vm];omega)]
  ·rw[nb e,nb e];exact h.ms p ae au
 ·have ek:¬x.kind=1:=by omega
  have gJ:x.kind=2\/x.kind=3:=.inl k;rw[if_neg ek,if_neg ek,if_pos gJ,if_pos gJ];by_cases F:j2 x.p=T
  ·rw[if_pos F,if_pos F];exact h.same _
  rw[if_neg F,if_neg F,if_pos k,if_pos k,aX];have aa:0<=x.p/\x.p<4:=sM.1 (by simpa using F);have fv:=s.graph (G:=(A.S.G.eh x.k x.r (-1)).1) (H:=(B.S.G.eh x.k x.r (-1)).1) (s.eu.eh _ _ _) (s.g1.eh _ _ _) (MV _ _ _) (MV _ _ _) .refl (s.j6.nodes (MW _ _ _) (MW _ _ _));unfold c5.ot;have aj:(A.S.G.eh x.k x.r (-1)).2.2=0->mV x.k=Q:=λaN=>by
   unfold aC.eh at aN;split at aN
   ·assumption
   ·cases aN
  rcases alB (A:=A.S.G) (B:=B.S.G) (c:=x.k) (r:=x.r)with e|e|e
  ·rw[if_pos (by rw[e];decide)];exact .inl e
  ·refine .inr (.inl ?_);rw[if_pos (by rw[e];decide)];exact e
  ·by_cases aN:(A.S.G.eh x.k x.r (-1)).2.2≠0
   ·rw[if_pos aN,if_pos (by rw[<-e];exact aN)];exact .inr (.inr ⟨⟨bq,h.both fv h.pR h.vm h.ms h.dD h.kZ (λp ae au=>fv.z8 s (h.b3 p ae au)) rfl⟩,e,rfl,rfl⟩)
   ·rw[if_neg aN,if_neg (by rw[<-e];exact aN)];have aN:(A.S.G.eh x.k x.r (-1)).2.2=0:=la.1 aN;obtain⟨aJ,a1,bf⟩:=MU s.eu aN;obtain⟨c9,dx,gH⟩:=MU s.g1 (e ▸ aN);have kq:=hw k (aj aN);have c:m' bq (nR b9 E) (A.S.G.eh x.k x.r (-1)).1 (B.S.G.eh x.k x.r (-1)).1 (A.S.G.eh x.k x.r (-1)).2.1 (B.S.G.eh x.k x.r (-1)).2.1:=by refine⟨aJ,c9,?_,by rw[bf];exact(by decide:(-1:Int)<0),by rw[bf];show 0<=gF b9 x.k/\gF b9 x.k≠E;omega⟩;rw[a1,dx];exact⟨_,_,rfl,⟨rfl,rfl,rfl,.inl ⟨(by decide:(-1:Int)<0),(by decide:(-1:Int)<0)⟩⟩,rfl⟩
    have b4:ju bq (nR b9 E) (A.S.G.eh x.k x.r (-1)).1 (B.S.G.eh x.k x.r (-1)).1 (jO (A.S.G.eh x.k x.r (-1)).2.1) (jO (B.S.G.eh x.k x.r (-1)).2.1):=de.cap c;refine .inr (.inr ⟨⟨bq,h.both (dn:=⟨A.ms,{A.S with G:=(A.S.G.eh x.k x.r (-1)).1},A.b3.set x.p.toNat (A.hand x.p++[jO (A.S.G.eh x.k x.r (-1)).2.1])⟩) (fQ:=⟨B.ms,{B.S with G:=(B.S.G.eh x.k x.r (-1)).1},B.b3.set x.p.toNat (B.hand x.p++[jO (B.S.G.eh x.k x.r (-1)).2.1])⟩) fv h.pR h.vm h.ms (kK.trans h.dD) (kK.trans h.kZ) (λp ae au=>?_) ?_⟩,rfl,rfl,(de.bare _ _ b4).symm⟩)
    ·rw[C2 h.dD aa.1 aa.2 ae,C2 h.kZ aa.1 aa.2 ae];by_cases e:p=x.p
     ·rw[if_pos e,if_pos e];exact df.app (fv.z8 s (h.b3 x.p aa.1 aB)) (df.cons b4 df.nil)
     ·rw[if_neg e,if_neg e];exact fv.z8 s (h.b3 p ae au)
    ·rw[C2 h.dD aa.1 aa.2 am,if_neg (λe=>aB e.symm)]
 ·have ek:¬x.kind=1:=by omega
  have iA:¬(x.kind=2\/x.kind=3):=by omega
  rw[if_neg ek,if_neg ek,if_neg iA,if_neg iA,if_pos k,if_pos k];unfold c5.call;have gi:(0<=x.h/\(j2 x.p=T\/((A.hand x.p).length:Int)<=x.h))↔(0<=x.h/\(j2 x.p=T\/((B.hand x.p).length:Int)<=x.h)):=by
   by_cases F:j2 x.p=T
   ·simp[F]
   ·have aa:0<=x.p/\x.p<4:=sM.1 (by simpa using F);rw[(h.b3 x.p aa.1 aB).len]
  by_cases F:0<=x.h/\(j2 x.p=T\/((A.hand x.p).length:Int)<=x.h)
  ·rw[if_pos F,if_pos (gi.1 F)];exact h.same _
  ·rw[if_neg F,if_neg (λe=>F (gi.2 e))];have R:ju bq (nR b9 E) A.S.G B.S.G (if 0<=x.h then(A.hand x.p).getD x.h.toNat bE else iC x.n) (if 0<=x.h then(B.hand x.p).getD x.h.toNat bE else iC x.n):=by
    by_cases e:0<=x.h
    ·rw[if_pos e,if_pos e];have aa:0<=x.p/\x.p<4:=sM.1 (by
      cases q:j2 x.p with
      |true=>rfl
      |false=>exact absurd ⟨e,.inl q⟩ F)
     exact(h.b3 x.p aa.1 aB).getD _
    ·rw[if_neg e,if_neg e];exact de.int _
   have f:=alO (f:=x.k) (fuel:=2000) am (λk (x:nR b9 E k)=>x.2) aB (λae=>h.ms x.p ae aB) s R;generalize fu A.ms x.p x.k (if 0<=x.h then(A.hand x.p).getD x.h.toNat bE else iC x.n) 2000 A.S=q at f;generalize fu B.ms x.p x.k (if 0<=x.h then(B.hand x.p).getD x.h.toNat bE else iC x.n) 2000 B.S=r at f;obtain⟨bx,v,n,c⟩:=q;obtain⟨j5,u,m,d⟩:=r;rcases f with f|f|⟨f,cG,fv,b4⟩
   ·exact .inl f
   ·exact .inr (.inl f)
   ·injection f with f1 f2;exact .inr (.inr ⟨⟨cG,h.both (dn:={A with S:=bx}) (fQ:={B with S:=j5}) fv h.pR h.vm h.ms h.dD h.kZ (λp ae au=>fv.z8 s (h.b3 p ae au)) rfl⟩,f2,f1,(de.bare _ _ b4).symm⟩)
end
theorem alU{E:Int}:j7 (λ_ _=>False) (ax 12 (-1)) E j3 j3:=by
 have g:=U' 0;have ia:∀p:Int,(ve 0).kept.getD p.toNat bE=bE:=λp=>by
  have:∀i:Nat,(ve 0).kept.getD i bE=bE:=λi=>by
   match i with
   |0|1|2|3=>rfl
   |i+4=>rfl
  exact this _
 have ae:∀p:Int,j3.hand p=[]:=λp=>by
  have:∀i:Nat,j3.b3.getD i []=[]:=λi=>by
   match i with
   |0|1|2|3=>rfl
   |i+4=>rfl
  exact this _
 refine⟨⟨g.wf,g.wf,⟨λ_ _ h=>h.elim,λ_ _ h=>h.elim,λ_ _ h=>h.elim,λ_ _ _ _ h=>h.elim⟩,λ_ _ _=>rfl,g.cells,g.cells,λp _ _=>?_,g.kept,g.kept⟩,⟨g.wf,g.cells,g.kept,λ_ h=>h.elim λ_ h=>h.elim,?_⟩,rfl,rfl,λ_ _ _=>rfl,rfl,rfl,λp _ _=>?_,?_⟩
 ·show ju _ _ _ _ ((ve 0).kept.getD p.toNat bE) ((ve 0).kept.getD p.toNat bE);rw[ia];exact de.zero
 ·show kp _ _ _ ((ve 0).kept.getD E.toNat bE);rw[ia];exact e1.zero
 ·rw[ae];exact df.nil
 ·rw[ae];exact eJ.nil
theorem Wp(x:ak):(ko x).kind=x.kind:=by cases x;simp only[ko,ak.kind]
theorem Hc(x:ak):(ko x).n=if x.kind=4\/x.kind=5 then 0 else x.n:=by cases x;simp only[ko,ak.n,ak.kind];rfl
theorem M3:∀l:List ak,sQ l=l.map ko
 |[]=>by simp only[sQ,qQ]
 |x::l=>by simp only[sQ,jU,M3 l]
theorem Wq(x:ak):(ko x).l=x.l.map ko:=by cases x;simp only[ko,ak.l,M3]
mutual
theorem Wr:∀v:ak,de (λ_ _=>True) (λ_ _=>True) v (ko v)
 |.mk k n l=>by
   rw[de.eq];refine⟨Wp _,?_,by rw[Wq,<-M3];exact Ws l⟩;rw[Hc];by_cases fA:(ak.mk k n l).kind=4
   ·rw[if_pos fA];trivial
   rw[if_neg fA];by_cases g7:(ak.mk k n l).kind=5
   ·rw[if_pos g7];trivial
   rw[if_neg g7,if_neg (λh=>h.elim fA g7)]
theorem Ws:∀l:List ak,df (λ_ _=>True) (λ_ _=>True) l (sQ l)
 |[]=>by simp only[sQ];exact df.nil
 |x::l=>by simp only[sQ];exact df.cons (Wr x) (Ws l)
end
theorem alV(v:ak):(ko v).size=v.size:=(Wr v).size
theorem Wt:∀(N:Nat) (x:ak),lB x<=N->x.size<=100000->∀(r:List I) (h:ad),b1 x r->∃bM,a3 ar W 24 [.agg r] h=j (.inl (.agg bM),h)/\b1 (ko x) bM:=by
 intro N;induction N with
 |zero=>intro x an;have:=x.n';omega
 |succ N aW=>
   intro x an ey r h he;obtain⟨v,es,rfl,gc,R,au,gt⟩:=he.facts;have hlen:=x.r';suffices key:∃bu,a3 ar W 24 [.agg [.int o x.kind,.int o x.n,v]] h=j (.inl bu,h)/\∃bM,bu= .agg bM/\b1 (ko x) bM by obtain⟨_,e,bM,rfl,O⟩:=key;exact⟨bM,e,O⟩
   have rest:∀(cH:kD->Prop) (ae:ad) (kh nI:I) (z:Int),ae=((h.push [[.int o x.kind,.int o x.n,v]]).push [[.int o 0,.int o 0,.aF]]).push [[.int o x.kind,.int o z,.aF]]->z=(ko x).n->(∀V J v bu,(ie V J [.cell Q 3 2]).map iH=j v->aK h J->dA v=j bu->(∃bM,bu= .agg bM/\b1 (ko x) bM)->cH (j (.ret,V,J)))->cH (bo (a3 ar W) 7 (.fI GV::.bO []::.cb 0::[.bO [.ops [qn,zy],.ret]]) [.agg [.int o x.kind,.int o x.n,v],.ptr h.n 0 0,.ptr (h.n+1) 0 0,.ptr (h.n+1+1) 0 0,.int o 0,kh,nI] [] ae):=by
    intro cH ae kh nI z BY aN cY;subst BY;refine ru (λi V J=>∃kh nI acc rows,V=[.agg [.int o x.kind,.int o x.n,v],.ptr h.n 0 0,.ptr (h.n+1) 0 0,.ptr (h.n+1+1) 0 0,.int o (i:Nat),kh,nI]/\aK h J/\h.n+1+1<J.n/\J.cell h.n=j [[.int o x.kind,.int o x.n,v]]/\J.cell (h.n+1)=j [[.int o 0,.int o 0,.aF]]/\J.cell (h.n+1+1)=j [[.int o x.kind,.int o z,acc]]/\Acc h J cg acc rows/\eF ((x.l.take i).map ko) rows) x.l.length ⟨_,_,_,[],rfl,(by repeat (first|exact aK.refl _|refine aK.trans ?_ (aK.push _ _)|refine aK.trans ?_ (aK.fresh _ _))),by simp only[fo];omega,th,xk,vO,xi _ _ _,rfl⟩ ?_ ?_
    ·rintro i V J aa ⟨kh,nI,acc,rows,rfl,g,hm,a8,bZ,b',aM,ah⟩ next
     have bh:(i:Int)<(es.length:Int):=by rw[au];omega
     obtain⟨y,bF⟩:=uS aa;obtain⟨q,dJ,d1,b2⟩:=gt i y bF;have hw:=ht (n:=(i:Int)+1) (by omega) (by omega);obtain⟨eH,ao,ds⟩:=aW y (by have:=ak.oN (qq bF);omega) (by have:=ak.sb (qq bF);omega) q J b2;obtain⟨ed,gJ⟩:=b2.one;obtain⟨bG,bD⟩:=ds.one;have fU:rows.length<=1000000:=by rw[ah.len,iX,List.length_take];omega
     obtain⟨pE,O,aq,aJ,a1,bf,cv⟩:=y6 aM g (row:=eH) bG fU;have c9:(O.set (h.n+1+1) (j [[.int o x.kind,.int o z,pE]])).cell h.n=j [[.int o x.kind,.int o x.n,v]]:=by rw[gB (by omega),bf];exact a8
     have dx:(O.set (h.n+1+1) (j [[.int o x.kind,.int o z,pE]])).cell (h.n+1)=j [[.int o 0,.int o 0,.aF]]:=by rw[gB (by omega),bf];exact bZ
     have kj:pE.one=Q:=by rcases aJ with⟨_,rfl⟩|⟨id,_,_,_,_,rfl⟩<;>rfl
     have jr:pE.cells=[pE]:=by rcases aJ with⟨_,rfl⟩|⟨id,_,_,_,_,rfl⟩<;>rfl
     rw[dP GV.eq_1];simp only[ay,aD,aO,ax,cF,a8,bZ,b',gc.len,gc.fits,bh,dJ,d1,ao,bG,bD,aq,bf,kj,jr,hw];refine next _ _ ⟨_,_,_,_,rfl,a1.set (by omega),by rw[lA,cv];exact hm,c9,dx,lz,aJ,?_⟩
     rw[xD bF,List.map_append];exact ah.append ds
    ·rintro V J ⟨kh,nI,acc,rows,rfl,g,hm,a8,bZ,b',aM,ah⟩;have bh:¬((x.l.length:Int)<(es.length:Int)):=by rw[au];omega
     rw[List.take_length]at ah;have kj:acc.one=Q:=by rcases aM with⟨_,rfl⟩|⟨id,_,_,_,_,rfl⟩<;>rfl
     have B9:fE cg acc rows:=by
      rcases aM with⟨bN,bL⟩|⟨id,_,_,_,_,bL⟩
      ·exact .inl ⟨bN,bL⟩
      ·exact .inr ⟨_,bL⟩
     have sY:b1 (ko x) [.int o x.kind,.int o z,acc]:=by rw[aN];have:=b1.mk (x:=ko x) B9 (by rw[Wq];exact ah);rw[Wp]at this;exact this
     obtain⟨bM,hw,fZ⟩:=BC sY;have uT:dA (.agg [.int o x.kind,.int o z,acc])=j (.agg bM):=by simp only[dA,hw,hj]
     rw[dP GV.eq_1];simp only[ay,aD,aO,ax,cF,a8,bZ,b',gc.len,gc.fits,bh,kj];exact cY _ _ _ _ (by simp only[ay,gT,gK,hj,c7,rB,List.getD_cons_succ]) (g.set (by omega)) uT ⟨bM,rfl,fZ⟩
   have gN:= @th;have gJ:= @vO;refine ET akI rfl λcH cY=>?_;unfold Vt;by_cases fA:x.kind=4
   ·have d4:decide (x.kind=4)=Q:=decide_eq_true fA;simp only[ay,aD,aO,ax,dI,R,d4];exact rest _ _ _ _ 0 (by simp only) (by rw[Hc,if_pos (.inl fA)]) cY
   ·have d4:decide (x.kind=4)=T:=decide_eq_false fA;by_cases g7:x.kind=5
    ·have d5:decide (x.kind=5)=Q:=decide_eq_true g7;simp only[ay,aD,aO,ax,dI,R,d4,d5];exact rest _ _ _ _ 0 (by simp only) (by rw[Hc,if_pos (.inr g7)]) cY
    ·have d5:decide (x.kind=5)=T:=decide_eq_false g7;simp only[ay,aD,aO,ax,dI,R,d4,d5];exact rest _ _ _ _ x.n rfl (by rw[Hc,if_neg (λh=>h.elim fA g7)]) cY
abbrev jb(b9:List Int):List (List I):=b9.map λx=>[.int o x]
section
variable{h J ae:ad}{ag ap aH aA:Nat->Prop}{L:List cd}{b9:List Int}{b:Nat}{dy:I}
theorem Wu(c:h.cell b=j (jb b9)){k:Nat}(Z:k<b9.length):c0 T 1 h (.ptr b k 0)=j (.int o (gF b9 k)):=by rw[hD,c];simp[gF,cK,gG,Z]
theorem Wv(c:h.cell b=j (jb b9)){k:Nat}(Z:k<b9.length)(x:Int):ew 1 h (.ptr b k 0) (.int o x)=j (h.set b (j (jb (b9.set k x)))):=by
 have e:=lW (n:=1) (i:=k) (off:=0) (x:=.int o x) (es:=jb b9) (e:=[.int o (b9[k])]) c (by simp[fz Z]) rfl rfl (by simp);rw[e];have:(jb b9).set k [.int o x]=jb (b9.set k x):=by simp only[jb,List.map_set]
 rw[<-this];rfl
theorem M4{k:Int}(q:jC)(ae:0<=k)(F:k<12):ft (j 3) ab (.bd b 0 12 3) (.int q k)=j (.ptr b k.toNat 0):=by obtain⟨D,rfl⟩:=Int.eq_ofNat_of_zero_le ae;rw[n9];have:=y5 (q:=q) (e:=3) (el:=3) (b:=b) (E:=0) (n:=12) (i:=D) rfl (by omega);rwa [hk]at this
theorem alW{v1 gw v4 iE v11 fG h7 hZ hQ:I}:∀(d k:Nat) (J:ad) (b9:List Int) (iy:I),k+d=12->b9.length=12->(∀D:Nat,D<k->b9.getD D (-1)= -1)->aQ ae aH aA J (a9 b (jb b9)::L)->∃fW nI Hd,(∀K,bo (a3 ar W) 27 (.fI GY::.bO []::.cb 0::K) [dy,v1,.bool T,gw,v4,.bd b 0 12 3,.int o (k:Int),fF,iE,g',v10,v11,fG,h7,iv,iw,iy,hY,hO,hP,v20,gQ,g2,g3,ix,hZ,hQ] [] J=bo (a3 ar W) 27 K [dy,v1,.bool T,gw,v4,.bd b 0 12 3,nI,fF,iE,g',v10,v11,fG,h7,iv,iw,Hd,hY,hO,hP,v20,gQ,g2,g3,ix,hZ,hQ] [] fW)/\aQ ae aH aA fW (a9 b (jb (ax 12 (-1)))::L):=by
 intro d;induction d with
 |zero=>
   intro k J b9 iy Z al hw s;obtain rfl:k=12:=by omega
   have e:b9=ax 12 (-1):=by
    refine List.ext_getElem? λi=>?_;by_cases aa:i<12
    ·have:=hw i aa;rw[cK,fz (by omega),pf]at this;rw[fz (by omega),this,List.getElem?_replicate,if_pos aa]
    ·rw[lU (by omega),List.getElem?_replicate,if_neg aa]
   subst e;have mx:((12:Nat):Int)=12:=rfl;refine⟨J,.int o 12,.bool T,λK=>?_,s⟩;rw[dP GY.eq_1];simp only[ay,aD,aO,ax,cF,mx,Int.lt_irrefl]
 |succ d aW=>
   intro k J b9 iy Z al hw s;have d1:decide ((k:Int)<12)=Q:=decide_eq_true (by omega);have w:=ht (n:=(k:Int)+1) (by omega) (by omega);have eA:((k+1:Nat):Int)=(k:Int)+1:=by omega
   have hr:=(s.cell 0 rfl).1;have dJ:=M4 (b:=b) (k:=(k:Int)) o (by omega) (by omega);rw[n9]at dJ;have st:=Wv hr (k:=k) (by omega) (-1);have mx:((12:Nat):Int)=12:=rfl;obtain⟨fW,nI,Hd,bT,a4⟩:=aW (k+1) _ (b9.set k (-1)) (.bool Q) (by omega) (kK.trans al) (λD U=>by
    by_cases e:k=D
    ·subst e;exact qB (by omega)
    ·rw[nb e];exact hw D (by omega)) (s.set 0 rfl (jb (b9.set k (-1))))
   refine⟨fW,nI,Hd,λK=>?_,a4⟩;rw[<-bT K,eA]
   conv=>lhs;rw[dP GY.eq_1]
   simp only[ay,aD,aO,ax,cF,mx,d1,dJ,st,w]
end
def M5:List bl:=[Vy,Vz,.cond (.v 21) [.exit 3] [],VA,VB,.cond (.v 22) [uR,.ret] [],VC,.cond (.v 23) [nC,.ret] []]
theorem vn:yj=[(.ops [mX,bj,CL,(.i (.v 17) wg)]),(.cond (.v 17) [] [(.exit 2)]),(.block 3 ([(.ops [bj,mX,Mw,(.i .l (.load Q 9 (.l 0))),(.i (.v 8) (.alloc [(.int o 0),(.int o 0),(.int o 0),(.int o 0),(.int o 0),(.int o 0),(.int o 0),(.int o 0),.aF])),(.i .n (.store 9 (.v 8) (.l 0)))]),(.ops [(.i .l (.cy 6 (.v 8))),Mz]),(.ops [(.i .l (.cy 0 (.v 8))),bb,(.i .l (.bin (.int o) .neq (.l 0) (.c (.int o 1)))),di,GW,m3,FN,tz,di,GW,m3,(.g (.l 2) Q .l (.bin (.int o) .neq (.l 0) (.c (.int o 4)))),(.i (.v 18) zE)]),(.cond (.v 18) [(.exit 3)] []),(.ops [(.i .l (.cy 0 (.v 8))),bb,(.i .l BW),di,GX,m3,(.g (.l 2) Q .l Bn),tz,di,GX,m3,(.g (.l 2) Q .l (.ba (.v 5))),(.g (.l 3) Q .l (.len T (j 3) (.l 0))),(.g (.l 4) Q .l wg),(.i (.v 19) EN)]),(.cond (.v 19) [(.ops [h5,(.i .l (.cy 3 (.v 8))),bb,Kz,bb,qh,di,FQ,(.g (.l 1) Q .l (.cy 3 (.v 8))),zn,(.g (.l 3) Q .l (.ga (j 3) ab (.l 2) (.l 0))),EF,(.g (.l 5) Q .l (.cy 1 (.v 8))),Jt,(.g (.l 7) Q .l KG),(.i (.v 20) Ju)]),(.cond (.v 20) [(.exit 3)] []),(.ops [h5,(.i .l (.cy 3 (.v 8))),bb,MA,bb,(.i .l (.ga (j 3) ab (.l 4) (.l 2))),zG])] [])]++M5)),(.ops [mX,rv,l6])]:=rfl
theorem kI.more{n:Nat}{H:c5}(E:kI n H):kI (n+1) H:=⟨E.dk,by have:=E.log;omega,λl al=>by have:=E.b3 l al;omega⟩
section
variable{h J ae:ad}{ag ap aH aA:Nat->Prop}{L:List cd}{b9:List Int}{lO an:Nat}{dy:I}{c d:rL}{A B:c5}{E:Int}{bq:Int->Int->Prop}
theorem Ww{cH:kD->Prop}{K:List ic}(ret:∀V fW mn,V.getD 2 .aP= .bool Q->aQ ae aH aA fW mn->cH (j (.ret,V,fW)))(am:0<=E){n:Nat}(au:n<=100)(kj:kI n A)(qI:kI n B)(ah:j7 bq b9 E A B){y:hX}(aX:y.g= -1)(Z:y.kind=1\/y.kind=2\/y.kind=4)(hw:y.kind=2->mV y.k=Q->gF b9 y.k=y.p){m:I}{ms:List (List I)}(c2:fE hu m ms)(fm:ih y.m ms)(c1:y.m.length<=100000)(cr:∀e∈y.m,e.size<=100000)(s:aQ ae aH aA J (a9 an [dN y m]::(fK c A++(fK d B++[a9 lO (jb b9)])))){v6 v11 fG h7 iy hZ hQ:I}(next:∀(fW:ad) (dn fQ:c5) (cG:Int->Int->Prop) (g' v10 gQ g2 g3:I),kI (n+1) dn->kI (n+1) fQ->j7 cG b9 E dn fQ->aQ ae aH aA fW (fK c dn++(fK d fQ++[a9 lO (jb b9)]))->cH (bo (a3 ar W) 27 K [dy,.int o E,.bool T,.ptr c.ai 0 0,.ptr d.ai 0 0,.bd lO 0 12 3,v6,fF,.ptr an 0 0,g',v10,v11,fG,h7,iv,iw,iy,hY,hO,hP,v20,gQ,g2,g3,ix,hZ,hQ] [] fW)):cH (bo (a3 ar W) 27 (.bO M5::.cb 3::K) [dy,.int o E,.bool T,.ptr c.ai 0 0,.ptr d.ai 0 0,.bd lO 0 12 3,v6,fF,.ptr an 0 0,g',v10,v11,fG,h7,iv,iw,iy,hY,hO,hP,v20,gQ,g2,g3,ix,hZ,hQ] [] J):=by
 have l':=(s.cell 0 rfl).1;obtain⟨O,bQ,aq,cW,bn⟩:=CQ (A:=[a9 an [dN y m]]) (B:=fK d B++[a9 lO (jb b9)]) s (kj.ok (by omega)) y c2 fm c1 cr;obtain⟨alX,rfl,gu⟩:=cW;obtain⟨He,rfl,Hf⟩:=gu.o0;have b0:=bn.push [fh (A.step y).2.code (A.step y).2.fuel [.int o (A.step y).2.v.kind,.int o (A.step y).2.v.n,He]];have b':=(b0.cell 1 rfl).1;have om:gG Q 9 [.int o y.kind,.int o y.p,.int o y.q,.int o y.k,.int o y.h,.int o y.r,.int o y.g,.int o y.n,m] 0=j (.agg [.int o y.kind,.int o y.p,.int o y.q,.int o y.k,.int o y.h,.int o y.r,.int o y.g,.int o y.n,m]):=kQ rfl;unfold M5;by_cases aB:y.p=E
 ·have C3:decide (y.p=E)=Q:=decide_eq_true aB;have lp:=λgQ=>next _ (A.step y).1 B bq (.ptr O.n 0 0) v10 gQ g2 g3 (kj.step y) qI.more (ah.alS am aB aX Z hw) b0.drop.drop
  simp only[fh,dN]at aq b' l' lp;simp only[ay,aD,l',om,aq,Hf,b',C3];exact lp _
 ·have C3:decide (y.p=E)=T:=decide_eq_false aB;obtain⟨aw,kG,ck,v4,cc⟩:=CQ (A:=[a9 O.n [fh (A.step y).2.code (A.step y).2.fuel [.int o (A.step y).2.v.kind,.int o (A.step y).2.v.n,He]],a9 an [dN y m]]++fK c (A.step y).1) (B:=[a9 lO (jb b9)]) b0 (qI.ok (by omega)) y c2 fm c1 cr;obtain⟨alX,rfl,ir⟩:=v4;obtain⟨ym,rfl,M6⟩:=ir.o0;have cE:=cc.push [fh (B.step y).2.code (B.step y).2.fuel [.int o (B.step y).2.v.kind,.int o (B.step y).2.v.n,ym]];have fk:=(cE.cell 0 rfl).1;have zW:=(cE.cell 1 rfl).1;have ui:=λV rr=>ret V _ _ rr cE;have lp:=λdn fQ cG gQ g2 g3=>next (aw.push [fh (B.step y).2.code (B.step y).2.fuel [.int o (B.step y).2.v.kind,.int o (B.step y).2.v.n,ym]]) dn fQ cG (.ptr O.n 0 0) (.ptr aw.n 0 0) gQ g2 g3
  have aG:=ah.alT am aB aX Z hw;simp only[fh,dN]at aq b' l' ck fk zW ui lp;by_cases zs:(A.step y).2.code=11
  ·have d1:decide ((A.step y).2.code=11)=Q:=decide_eq_true zs;simp only[ay,aD,l',om,aq,Hf,b',C3,ck,M6,fk,zW,d1];exact ui _ rfl
  have d1:decide ((A.step y).2.code=11)=T:=decide_eq_false zs;by_cases M7:(B.step y).2.code=11
  ·have d2:decide ((B.step y).2.code=11)=Q:=decide_eq_true M7;simp only[ay,aD,l',om,aq,Hf,b',C3,ck,M6,fk,zW,d1,d2];exact ui _ rfl
  have d2:decide ((B.step y).2.code=11)=T:=decide_eq_false M7;rcases aG with aG|aG|⟨⟨cG,jk⟩,ao,bm,eB⟩
  ·exact absurd aG zs
  ·exact absurd aG M7
  have cB:(A.step y).2.v.size<=100000:=(kj.dk.step y).size;have alY:(B.step y).2.v.size<=100000:=(qI.dk.step y).size;obtain⟨fv,alZ,Wx⟩:=Wt _ _ (bV _) cB _ (aw.push [[.int o (B.step y).2.code,.int o (B.step y).2.fuel,.int o (B.step y).2.v.kind,.int o (B.step y).2.v.n,ym]]) gu;obtain⟨M0,az,Bu⟩:=Wt _ _ (bV _) alY _ (aw.push [[.int o (B.step y).2.code,.int o (B.step y).2.fuel,.int o (B.step y).2.v.kind,.int o (B.step y).2.v.n,ym]]) ir;have dv:=ae' _ (ko (A.step y).2.v) (bV _) (by rw[alV];exact cB) (ko (B.step y).2.v) fv M0 (aw.push [[.int o (B.step y).2.code,.int o (B.step y).2.fuel,.int o (B.step y).2.v.kind,.int o (B.step y).2.v.n,ym]]) Wx Bu;rw[<-eB,Pd]at dv;obtain⟨anK,anL⟩:=Wx.cZ;obtain⟨anM,anN⟩:=Bu.cZ;have f1:decide ((A.step y).2.code=(B.step y).2.code)=Q:=decide_eq_true ao;have f2:decide ((A.step y).2.fuel=(B.step y).2.fuel)=Q:=decide_eq_true bm;have lp:=λgQ g2 g3=>lp (A.step y).1 (B.step y).1 cG gQ g2 g3 (kj.step y) (qI.step y) jk cE.drop.drop.drop;have CA:gG Q 3 [.int o (A.step y).2.code,.int o (A.step y).2.fuel,.int o (A.step y).2.v.kind,.int o (A.step y).2.v.n,He] 2=j (.agg [.int o (A.step y).2.v.kind,.int o (A.step y).2.v.n,He]):=rfl;have al0:gG Q 3 [.int o (B.step y).2.code,.int o (B.step y).2.fuel,.int o (B.step y).2.v.kind,.int o (B.step y).2.v.n,ym] 2=j (.agg [.int o (B.step y).2.v.kind,.int o (B.step y).2.v.n,ym]):=rfl;simp only[ay,aD,l',om,aq,Hf,b',C3,ck,M6,fk,zW,d1,d2,f1,f2,CA,al0,alZ,az,dv];exact lp _ _ _
theorem al1{cH:kD->Prop}{K:List ic}(ret:∀V fW mn,V.getD 2 .aP= .bool Q->aQ ae aH aA fW mn->cH (j (.ret,V,fW)))(am:0<=E){rows:List (List I)}{xs:List hX}(av:fE CO dy rows)(al:rM xs rows)(qX:xs.length<=100)(np:∀x∈xs,x.m.length<=100000/\∀e∈x.m,e.size<=100000)(stop:∀(fW:ad) (dn fQ:c5) (cG:Int->Int->Prop) (kq:List Int) (v6 fF iE g' v10 v11 fG h7 iv iw iy hY hO hP v20 gQ g2 g3 ix hZ hQ:I),kI xs.length dn->kI xs.length fQ->j7 cG kq E dn fQ->kq.length=12->aQ ae aH aA fW (fK c dn++(fK d fQ++[a9 lO (jb kq)]))->cH (bo (a3 ar W) 27 K [dy,.int o E,.bool T,.ptr c.ai 0 0,.ptr d.ai 0 0,.bd lO 0 12 3,v6,fF,iE,g',v10,v11,fG,h7,iv,iw,iy,hY,hO,hP,v20,gQ,g2,g3,ix,hZ,hQ] [] fW)):∀(l pre:List hX) (J:ad) (A B:c5) (bq:Int->Int->Prop) (b9:List Int) (v6 iE g' v10 v11 fG h7 iv iw iy hY hO hP v20 gQ g2 g3 ix hZ hQ:I),xs=pre++l->kI pre.length A->kI pre.length B->j7 bq b9 E A B->b9.length=12->aQ ae aH aA J (fK c A++(fK d B++[a9 lO (jb b9)]))->cH (bo (a3 ar W) 27 (.fI yj::.bO []::.cb 2::K) [dy,.int o E,.bool T,.ptr c.ai 0 0,.ptr d.ai 0 0,.bd lO 0 12 3,v6,.int o (pre.length:Int),iE,g',v10,v11,fG,h7,iv,iw,iy,hY,hO,hP,v20,gQ,g2,g3,ix,hZ,hQ] [] J):=by
 have lJ:=al.len;intro l;induction l with
 |nil=>
   intro pre J A B bq b9 v6 iE g' v10 v11 fG h7 iv iw iy hY hO hP v20 gQ g2 g3 ix hZ hQ e kj qI ah wG s;have d1:decide ((pre.length:Int)<(xs.length:Int))=T:=decide_eq_false (by rw[e];simp);have ex:xs=pre:=by rw[e,q9]
   rw[<-ex]at kj qI;have st:=stop J A B bq b9 v6 (.int o (pre.length:Int)) iE g' v10 v11 fG h7 iv iw iy (.bool T) hO hP v20 gQ g2 g3 ix hZ hQ kj qI ah wG s;rw[dP vn];simp only[ay,aD,aO,ax,cF,av.e'.len,av.e'.fits,lJ,d1];exact st
 |cons x l aW=>
   intro pre J A B bq b9 v6 iE g' v10 v11 fG h7 iv iw iy hY hO hP v20 gQ g2 g3 ix hZ hQ e kj qI ah wG s;have ky:pre.length<xs.length:=by rw[e];simp
   have d1:decide ((pre.length:Int)<(xs.length:Int))=Q:=decide_eq_true (by omega);have aa:xs[pre.length]? =j x:=by rw[e];simp
   obtain⟨m,ms,bN,c2,fm⟩:=al.get aa;have b8:=av.e'.b8 o pre.length _ bN;obtain⟨c1,cr⟩:=np x (p6 aa);have w:=ht (n:=(pre.length:Int)+1) (by omega) (by omega);have eA:((pre++[x]).length:Int)=(pre.length:Int)+1:=by simp
   have vj:m.one=Q:=c2.ale.1;have Wy:∀(fW:ad) (dn fQ:c5) (cG:Int->Int->Prop) (kq:List Int) (v6 iE g' v10 v11 fG h7 iv iw iy hY hO hP v20 gQ g2 g3 ix hZ hQ:I),kI (pre.length+1) dn->kI (pre.length+1) fQ->j7 cG kq E dn fQ->kq.length=12->aQ ae aH aA fW (fK c dn++(fK d fQ++[a9 lO (jb kq)]))->cH (bo (a3 ar W) 27 (.fI yj::.bO []::.cb 2::K) [dy,.int o E,.bool T,.ptr c.ai 0 0,.ptr d.ai 0 0,.bd lO 0 12 3,v6,.int o ((pre.length:Int)+1),iE,g',v10,v11,fG,h7,iv,iw,iy,hY,hO,hP,v20,gQ,g2,g3,ix,hZ,hQ] [] fW):=by intro fW dn fQ cG kq v6 iE g' v10 v11 fG h7 iv iw iy hY hO hP v20 gQ g2 g3 ix hZ hQ yn yo fZ hl dW;have:=aW (pre++[x]) fW dn fQ cG kq v6 iE g' v10 v11 fG h7 iv iw iy hY hO hP v20 gQ g2 g3 ix hZ hQ (by simp[e]) (by rw[eP];exact yn) (by rw[eP];exact yo) fZ hl dW;rwa [eA]at this
   have lp:∀(fW:ad) (dn fQ:c5) (cG:Int->Int->Prop) (kq:List Int) (v6 iE g' v10 v11 fG h7 iv iw iy hY hO hP v20 gQ g2 g3 ix hZ hQ:I),kI (pre.length+1) dn->kI (pre.length+1) fQ->j7 cG kq E dn fQ->kq.length=12->aQ ae aH aA fW (fK c dn++(fK d fQ++[a9 lO (jb kq)]))->cH (bo (a3 ar W) 27 (.bO [(.ops [mX,rv,l6])]::.fI yj::.bO []::.cb 2::K) [dy,.int o E,.bool T,.ptr c.ai 0 0,.ptr d.ai 0 0,.bd lO 0 12 3,v6,.int o (pre.length:Int),iE,g',v10,v11,fG,h7,iv,iw,iy,hY,hO,hP,v20,gQ,g2,g3,ix,hZ,hQ] [] fW):=by intro fW dn fQ cG kq v6 iE g' v10 v11 fG h7 iv iw iy hY hO hP v20 gQ g2 g3 ix hZ hQ yn yo fZ hl dW;have:=Wy fW dn fQ cG kq v6 iE g' v10 v11 fG h7 iv iw iy hY hO hP v20 gQ g2 g3 ix hZ hQ yn yo fZ hl dW;simp only[ay,w];exact this
   have mx:((12:Nat):Int)=12:=rfl;have a4:aQ ae aH aA _ (a9 J.n [dN {x with g:= -1} m]::(fK c A++(fK d B++[a9 lO (jb b9)]))):=s.push [dN {x with g:= -1} m];have M8:=(a4.cell 9 rfl).1;have om:gG Q 9 (dN x m) 0=j (.agg (dN x m)):=kQ rfl;have skip:=λhY hO hP v20=>Wy _ A B bq b9 v6 (.ptr J.n 0 0) g' v10 v11 fG h7 iv iw iy hY hO hP v20 gQ g2 g3 ix hZ hQ kj.more qI.more ah wG a4.drop;have go:=λ(Z:x.kind=1\/x.kind=2\/x.kind=4) (hw:x.kind=2->mV x.k=Q->gF b9 x.k=x.p) hY hO hP v20=>Ww (K:=.bO [(.ops [mX,rv,l6])]::.fI yj::.bO []::.cb 2::K) (dy:=dy) ret am (by omega) kj qI ah (y:={x with g:= -1}) rfl Z hw c2 fm c1 cr a4 (v6:=v6) (fF:=.int o (pre.length:Int)) (g':=g') (v10:=v10) (v11:=v11) (fG:=fG) (h7:=h7) (iv:=iv) (iw:=iw) (iy:=iy) (hY:=hY) (hO:=hO) (hP:=hP) (v20:=v20) (gQ:=gQ) (g2:=g2) (g3:=g3) (ix:=ix) (hZ:=hZ) (hQ:=hQ) λfW dn fQ cG g' v10 gQ g2 g3 yn yo fZ dW=>lp fW dn fQ cG b9 v6 (.ptr J.n 0 0) g' v10 v11 fG h7 iv iw iy hY hO hP v20 gQ g2 g3 ix hZ hQ yn yo fZ wG dW;simp only[dN]at skip go om M8 b8;have Hg:∀{a b:Int},a=b->decide (a=b)=Q:=λh=>decide_eq_true h;have C4:∀{a b:Int},a≠b->decide (a=b)=T:=λh=>decide_eq_false h;by_cases dc:x.kind=1
   ·have ao:=Hg dc;have aq:decide (x.kind=2)=T:=C4 (by omega);rw[dP vn];simp only[ay,aD,aO,ax,dI,cF,av.e'.len,av.e'.fits,lJ,d1,b8,om,vj,ao,aq];exact go (.inl dc) (λh=>by omega) _ _ _ _
   have ao:=C4 dc;by_cases dr:x.kind=2
   ·have aq:=Hg dr;by_cases gE:0<=x.k
    ·have d2:decide (0<=x.k)=Q:=decide_eq_true gE;by_cases ek:x.k<12
     ·have d3:decide (x.k<12)=Q:=decide_eq_true ek;have dJ:=M4 (b:=lO) o gE ek;have hx:=Wu M8 (k:=x.k.toNat) (by omega);have dR:gF b9 (x.k.toNat:Int)=gF b9 x.k:=by unfold gF;rw[n9]
      rw[dR]at hx;by_cases aj:0<=gF b9 x.k/\gF b9 x.k≠x.p
      ·have d4:decide (0<=gF b9 x.k)=Q:=decide_eq_true aj.1;have d5:=C4 aj.2;rw[dP vn];simp only[ay,aD,aO,ax,dI,cF,av.e'.len,av.e'.fits,lJ,d1,b8,om,vj,ao,aq,d2,mx,d3,dJ,hx,d4,d5,w];exact skip _ _ _ _
      ·have st:=Wv M8 (k:=x.k.toNat) (by omega) x.p;have bn:aQ ae aH aA _ (a9 J.n [dN {x with g:= -1} m]::(fK c A++(fK d B++[a9 lO (jb (b9.set x.k.toNat x.p))]))):=a4.set 9 rfl (jb (b9.set x.k.toNat x.p));have Wz:∀k:Int,gF (b9.set x.k.toNat x.p) k=if x.k.toNat=k.toNat then x.p else gF b9 k:=λk=>by
        unfold gF;by_cases e:x.k.toNat=k.toNat
        ·rw[if_pos e,<-e];exact qB (by omega)
        ·rw[if_neg e];exact nb e
       have nk:j7 bq (b9.set x.k.toNat x.p) E A B:=ah.owner am λk Z=>by
        rw[Wz];by_cases e:x.k.toNat=k.toNat
        ·rw[if_pos e];have:gF b9 k=gF b9 x.k:=by unfold gF;rw[e]
         omega
        ·rw[if_neg e]
       have mC:=λhY hO hP v20=>Ww (K:=.bO [(.ops [mX,rv,l6])]::.fI yj::.bO []::.cb 2::K) (dy:=dy) ret am (by omega) kj qI nk (y:={x with g:= -1}) rfl (.inr (.inl dr)) (λ_ _=>by show gF _ x.k=x.p;rw[Wz,if_pos rfl]) c2 fm c1 cr bn (v6:=v6) (fF:=.int o (pre.length:Int)) (g':=g') (v10:=v10) (v11:=v11) (fG:=fG) (h7:=h7) (iv:=iv) (iw:=iw) (iy:=iy) (hY:=hY) (hO:=hO) (hP:=hP) (v20:=v20) (gQ:=gQ) (g2:=g2) (g3:=g3) (ix:=ix) (hZ:=hZ) (hQ:=hQ) λfW dn fQ cG g' v10 gQ g2 g3 yn yo fZ dW=>lp fW dn fQ cG _ v6 (.ptr J.n 0 0) g' v10 v11 fG h7 iv iw iy hY hO hP v20 gQ g2 g3 ix hZ hQ yn yo fZ (kK.trans wG) dW;simp only[dN]at mC;by_cases iA:0<=gF b9 x.k
       ·have d4:decide (0<=gF b9 x.k)=Q:=decide_eq_true iA;have d5:decide (gF b9 x.k=x.p)=Q:=Hg (by omega);rw[dP vn];simp only[ay,aD,aO,ax,dI,cF,av.e'.len,av.e'.fits,lJ,d1,b8,om,vj,ao,aq,d2,mx,d3,dJ,hx,d4,d5,st];exact mC _ _ _ _
       ·have d4:decide (0<=gF b9 x.k)=T:=decide_eq_false iA;rw[dP vn];simp only[ay,aD,aO,ax,dI,cF,av.e'.len,av.e'.fits,lJ,d1,b8,om,vj,ao,aq,d2,mx,d3,dJ,hx,d4,st];exact mC _ _ _ _
     ·have d3:decide (x.k<12)=T:=decide_eq_false ek;rw[dP vn];simp only[ay,aD,aO,ax,dI,cF,av.e'.len,av.e'.fits,lJ,d1,b8,om,vj,ao,aq,d2,mx,d3];exact go (.inr (.inl dr)) (λ_ h=>by
                           have:0<=x.k/\x.k<12:=by simpa[mV]using h
                           omega) _ _ _ _
    ·have d2:decide (0<=x.k)=T:=decide_eq_false gE;rw[dP vn];simp only[ay,aD,aO,ax,dI,cF,av.e'.len,av.e'.fits,lJ,d1,b8,om,vj,ao,aq,d2];exact go (.inr (.inl dr)) (λ_ h=>by
                          have:0<=x.k/\x.k<12:=by simpa[mV]using h
                          omega) _ _ _ _
   have aq:=C4 dr;by_cases fA:x.kind=4
   ·have ck:=Hg fA;rw[dP vn];simp only[ay,aD,aO,ax,dI,cF,av.e'.len,av.e'.fits,lJ,d1,b8,om,vj,ao,aq,ck];exact go (.inr (.inr fA)) (λh=>absurd h dr) _ _ _ _
   ·have ck:=C4 fA;rw[dP vn];simp only[ay,aD,aO,ax,dI,cF,av.e'.len,av.e'.fits,lJ,d1,b8,om,vj,ao,aq,ck,w];exact skip _ _ _ _
theorem al2{v w:I}{cs fN:List Int}(R:oM zg v (cs.map λx=>[.int o x]))(hw:oM zg w (fN.map λx=>[.int o x]))(jh:cs.length=12)(yP:fN.length=12)(wG:b9.length=12)(hr:h.cell lO=j (jb b9))(he:∀k:Nat,k<12->gF b9 k≠E->0<=gF b9 k->cs.getD k 0=fN.getD k 0){gw v4 v6 iE iy:I}(K:List ic):∀(n k:Nat) (hZ hQ:I),k+n=12->∃wH wI wJ,bo (a3 ar W) 27 (.fI z3::.bO []::.cb 4::K) [dy,.int o E,.bool T,gw,v4,.bd lO 0 12 3,v6,fF,iE,g',v10,v,w,.int o (k:Int),iv,iw,iy,hY,hO,hP,v20,gQ,g2,g3,ix,hZ,hQ] [] h=bo (a3 ar W) 27 K [dy,.int o E,.bool T,gw,v4,.bd lO 0 12 3,v6,fF,iE,g',v10,v,w,wH,iv,iw,iy,hY,hO,hP,v20,gQ,g2,g3,ix,wI,wJ] [] h:=by
 intro n;induction n with
 |zero=>
   intro k hZ hQ Z;obtain rfl:k=12:=by omega
   have mx:((12:Nat):Int)=12:=rfl;refine⟨.int o 12,.bool T,hQ,?_⟩;rw[dP z3.eq_1];simp only[ay,aD,aO,ax,cF,R.len,R.fits,iX,jh,mx,Int.lt_irrefl]
 |succ n aW=>
   intro k hZ hQ Z;have mx:((12:Nat):Int)=12:=rfl;have d1:decide ((k:Int)<12)=Q:=decide_eq_true (by omega);have dm:=ht (n:=(k:Int)+1) (by omega) (by omega);have eA:((k+1:Nat):Int)=(k:Int)+1:=by omega
   have jE:=M4 (b:=lO) (k:=(k:Int)) o (by omega) (by omega);rw[n9]at jE;have hx:=Wu hr (k:=k) (by omega);have an:(cs.map λx=>[I.int o x])[k]? =j [.int o (cs.getD k 0)]:=by simp[cK,fz (show k<cs.length by omega)]
   have bF:(fN.map λx=>[I.int o x])[k]? =j [.int o (fN.getD k 0)]:=by simp[cK,fz (show k<fN.length by omega)]
   have dJ:=R.b8 o k _ an;have hp:=hw.b8 o k _ bF;by_cases aJ:gF b9 k=E
   ·have d2:decide (gF b9 k=E)=Q:=decide_eq_true aJ;obtain⟨wH,wI,wJ,bT⟩:=aW (k+1) (.bool Q) (.bool T) (by omega);refine⟨wH,wI,wJ,?_⟩;rw[<-bT,eA]
    conv=>lhs;rw[dP z3.eq_1]
    simp only[ay,aD,aO,ax,cF,R.len,R.fits,iX,jh,mx,d1,jE,hx,d2,dm]
   ·have d2:decide (gF b9 k=E)=T:=decide_eq_false aJ;by_cases a1:0<=gF b9 k
    ·have d3:decide (0<=gF b9 k)=Q:=decide_eq_true a1;have d4:decide (cs.getD k 0=fN.getD k 0)=Q:=decide_eq_true (he k (by omega) aJ a1);obtain⟨wH,wI,wJ,bT⟩:=aW (k+1) (.bool Q) (.bool T) (by omega);refine⟨wH,wI,wJ,?_⟩;rw[<-bT,eA]
     conv=>lhs;rw[dP z3.eq_1]
     simp only[ay,aD,aO,ax,cF,R.len,R.fits,iX,jh,mx,d1,jE,hx,d2,d3,dJ,hp,d4,dm]
    ·have d3:decide (0<=gF b9 k)=T:=decide_eq_false a1;obtain⟨wH,wI,wJ,bT⟩:=aW (k+1) (.bool Q) (.bool T) (by omega);refine⟨wH,wI,wJ,?_⟩;rw[<-bT,eA]
     conv=>lhs;rw[dP z3.eq_1]
     simp only[ay,aD,aO,ax,cF,R.len,R.fits,iX,jh,mx,d1,jE,hx,d2,d3,dm]
theorem al3(E:Int):0<=jN o ((jN .u64 E).tmod 4)/\jN o ((jN .u64 E).tmod 4)<4:=by
 have h:0<=jN .u64 E:=by show 0<=E % _;exact Int.emod_nonneg _ (by decide)
 have F:0<=(jN .u64 E).tmod 4:=Int.tmod_nonneg _ h;have O:(jN .u64 E).tmod 4<4:=Int.tmod_lt_of_pos _ (by decide);rw[ht (by omega) (by omega)];exact⟨F,O⟩
theorem al4{rows:List (List I)}{xs:List hX}(av:fE CO dy rows)(al:rM xs rows)(M9:xs.length<=9223372036854775807)(p:Int):a3 ar W 6 [dy,.int o p] h=j (.inl (.bool Q),h):=by
 have fq:aQ h (λ_=>False) (λ_=>False) h []:=aQ.start (c4.nil _ _ _ (λ_ h=>h) (λ_ h=>h));have C5:=λ(h:ad)=>ak7 (h:=h) av al M9 100 (by decide);have al5:((100:Nat):Int)=100:=rfl;simp only[al5]at C5;cases aX:CP xs 100 with
 |true=>rw[aX]at C5;refine bC VG rfl ?_;unfold MB;simp only[ay,aD,aO,ax,VP,C5]
 |false=>
   rw[aX]at C5;obtain⟨qX,np⟩:=ak4 aX;obtain⟨DO,fl⟩:=al3 p;obtain⟨F,c,ao,a4⟩:=ME fq;obtain⟨O,d,aq,bn⟩:=ME a4;have b0:aQ h (λ_=>False) (λ_=>False) _ (a9 O.n (jb (ax 12 0))::(fK d j3++(fK c j3++[]))):=bn.push _;have mk:Ix 3 [.int o 0] (.int o 12) (.int o 12) O=j (.bd O.n 0 12 3,O.push (jb (ax 12 0))):=rfl;generalize al6:jN o ((jN .u64 p).tmod 4)=E at DO fl;have gH:=λ{fF iE g' v10 v11 fG h7 iv iw hY hO hP v20 gQ g2 g3 ix hZ hQ:I} iy=>alW (dy:=dy) (v1:=.int o E) (gw:=.ptr c.ai 0 0) (v4:=.ptr d.ai 0 0) (fF:=fF) (iE:=iE) (g':=g') (v10:=v10) (v11:=v11) (fG:=fG) (h7:=h7) (iv:=iv) (iw:=iw) (hY:=hY) (hO:=hO) (hP:=hP) (v20:=v20) (gQ:=gQ) (g2:=g2) (g3:=g3) (ix:=ix) (hZ:=hZ) (hQ:=hQ) 12 0 _ _ iy rfl rfl (λD U=>absurd U (Nat.not_lt_zero _)) b0;refine pC VG rfl λcH cY=>?_;unfold MB;have tB:((4:Int)=0)=False:=by simp
   simp only[ay,aD,aO,ax,VP,C5,tB,ao,aq,al6,mk];obtain⟨aw,nI,Hd,kG,cc⟩:=gH _;simp only[oU,jb,ax,jU,qQ]at kG;rw[kG];simp only[ay];have aB:List.Perm (a9 O.n (jb (ax 12 (-1)))::(fK d j3++(fK c j3++[]))) (fK c j3++(fK d j3++[a9 O.n (jb (ax 12 (-1)))])):=((List.perm_append_singleton (a9 O.n (jb (ax 12 (-1)))) (fK d j3++fK c j3)).symm).trans ((List.perm_append_comm (l₁:=fK d j3) (l₂:=fK c j3)).append_right [a9 O.n (jb (ax 12 (-1)))]);have cE:aQ h (λ_=>False) (λ_=>False) aw (fK c j3++(fK d j3++[a9 O.n (jb (ax 12 (-1)))])):=cc.imp λ_ _ _ x=>aQ.perm aB x;refine al1 (ae:=h) (aH:=λ_=>False) (aA:=λ_=>False) (λV fW mn rr dW=>cY _ _ (.bool Q) (by simp only[ie,iH,rr,hj]) dW.Mm rfl) DO av al qX np (λfW A B bq b9 v6 fF iE g' v10 v11 fG h7 iv iw iy hY hO hP v20 gQ g2 g3 ix hZ hQ kj qI ah wG dW=>?_) xs [] aw j3 j3 _ (ax 12 (-1)) _ _ _ _ _ _ _ _ _ _ _ _ _ _ _ _ _ _ _ _ rfl G2 G2 alU rfl cE;obtain⟨aJ,a1,bf,cv,ez,i8⟩:=VR dW 0 (kj.ok (by omega)) rfl rfl rfl rfl;obtain⟨c9,dx,gH,p9,v2,Cu⟩:=VR dW 4 (qI.ok (by omega)) rfl rfl rfl rfl;have Ma:=(dW.cell 8 rfl).1;have a5:∀b:Nat,cf 1 (.ptr b 0 0)=j (.ptr b 0 1):=λ_=>rfl;have al7:∀b:Nat,cf 0 (.ptr b 0 0)=j (.ptr b 0 0):=λ_=>rfl;have j0:=ah.st.jr;have oy:=ah.st.qC;have js:=AX ab zg (A.S.cells.map λx=>[I.int o x]);have M':=AX ab zg (B.S.cells.map λx=>[I.int o x]);have he:∀k:Nat,k<12->gF b9 k≠E->0<=gF b9 k->A.S.cells.getD k 0=B.S.cells.getD k 0:=λk _ F _=>by have:=ah.st.cells (k:Int) (by omega) F;rwa [n9]at this
   have mx:((12:Nat):Int)=12:=rfl;simp only[ay,a5,al7,aJ,bf,ez,c9,gH,v2,js.len,js.fits,M'.len,M'.fits,iX,j0,oy,mx,eq_self];obtain⟨wH,wI,wJ,tw⟩:=al2 (dy:=dy) (gw:=.ptr c.ai 0 0) (v4:=.ptr d.ai 0 0) js M' j0 oy wG Ma he [.bO [uR,.ret]] 12 0 hZ hQ rfl;simp only[oU]at tw;rw[tw];simp only[ay];exact cY _ _ (.bool Q) rfl dW.Mm rfl
theorem al8{gE:Nat}{Na:bK}(p:Int)(fw:cQ)(t0:lH ar gE 50 [dy])(pm:bI ar (sl fw) pB dy Na)(aB:Id p):QG ar 6 #[Na,.int o p] fw:=by obtain⟨es,xs,av,al,M9⟩:=alu t0;exact adK (br:=[Na,.int o p]) (al4 av al M9 p) (dj.cons pm (dj.cons (adL p) dj.nil))
end
end Go.Proofs.Ytkdbjfncchmmpaa
