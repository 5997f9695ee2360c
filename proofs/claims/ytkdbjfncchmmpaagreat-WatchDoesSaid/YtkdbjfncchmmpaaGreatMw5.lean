/- The box and the world in memory; what reads and writes them. -/
import Derived.Test.YtkdbjfncchmmpaaGreatMw4
set_option linter.unusedSimpArgs false
set_option linter.unusedVariables false
set_option maxHeartbeats 4000000
set_option maxRecDepth 1000000
open List renaming replicate→ap,getElem?_eq_some_iff→fO,getElem?_eq_getElem→fT,length_append→fz,length_singleton→hj,getD→cZ,length_nil→fG,length_map→fM,length_cons→ho,getElem?_append_right→l1,getElem_mem→jl,getElem?_append_left→l0,append_assoc→kS,getElem?_eq_none→mE,map_cons→kf,getElem?_cons_zero→oq,nil_append→l3,mem_of_getElem?→o6,cons_append→nz,mem_cons→mJ,append_nil→ou,getElem?_set→pR,length_eq_zero_iff→sy,mem_append→qV,map_nil→pt,all_cons→qa,getD_cons_zero→ua,getElem?_set_ne→uP,drop_eq_getElem_cons→wM,getElem?_take_of_lt→v1,map_append→u5,set_cons_zero→we,drop_length→wN,mem_singleton→xq
open Nat renaming reduceAdd→ar,reduceSub→av,reduceLeDiff→bY,le_refl→b9,lt_of_lt_of_le→fS,le_trans→e6,zero_add→ir,lt_or_ge→oj,le_of_eq→qU,add_assoc→rC,one_ne_zero→tE,reduceLT→vi
open Go.IntKind renaming i64→j,wrap→kw
open Option renaming some→o,none→ag,bind_eq_some_iff→dX,bind_some→du,map_some→i3,getD_some→qT
open Go.Proofs.Tryz renaming prog→aq
open Bool renaming false→U,true→J,and_eq_true→gv,false_eq_true→mF,and_true→rN
open Int renaming reduceEq→cN,natCast_zero→j',eq_ofNat_of_zero_le→ni,toNat_natCast→m9
open Go renaming TypeId→a9,Oper→bm,Value→b',FuncId→di,World→dO,IntKind→gZ,undef→g0,Frame→g',lone→fr,Code→gu
open Option.some renaming injEq→iF,inj→k9
open Prod.mk renaming injEq→kW
open SizeOf renaming sizeOf→lz
open Go.Frame renaming enter→kC
open Ne renaming symm→mG
open List.cons renaming injEq→yY
open Iff renaming rfl→n0
namespace Go.Proofs.YtkdbjfncchmmpaaGreat
open Go
variable{e:a9}{row V t:List F}{k op:Int}{cJ:ai->Prop}{acc:List (List F)}{E:ai}{x:ax}{cT:F}{aQ:List Int}{l st:List ax}{f:jq}{h9 jQ:Nat}{hZ hx:b'}
section
variable{h E ak:ai}{ah al aO aL:Nat->Prop}{L:List cc}
theorem H4:∀{ms:dn} {kept:List ax} {aQ:List (List F)},dk kept aQ->ms.length=kept.length->(oB ms aQ).length=5*ms.length
 |[],[],aQ,h,_=>by simp only[dk]at h;subst h;rfl
 |m::ms,k::kept,aQ,h,am=>by obtain⟨r,rs,rfl,I,R⟩:=h;have aR:=H4 (ms:=ms) R (by simpa using am);simp only[oB,nz,ho,fz,aR,I.cV.1];omega
 |[],_::_,_,_,am=>by simp at am
 |_::_,[],_,_,am=>by simp at am
theorem ahg:∀{ms:dn} {kept:List ax} {aQ:List (List F)} {p:Nat},dk kept aQ->ms.length=kept.length->p<ms.length->(oB ms aQ)[p*5]? =o (.bool (ms.getD p ag).isSome)/\(oB ms aQ)[p*5+1]? =o (rS (ms.getD p ag))/\∃r,((oB ms aQ).drop (p*5+2)).take 3=r/\bZ (kept.getD p ce) r/\((oB ms aQ).drop (p*5)).take 5= .bool (ms.getD p ag).isSome::rS (ms.getD p ag)::r
 |[],kept,aQ,p,_,_,az=>by simp at az
 |m::ms,[],aQ,p,_,am,_=>by simp at am
 |m::ms,k::kept,aQ,p,h,am,az=>by
   obtain⟨r,rs,rfl,I,R⟩:=h;have aj:=I.cV.1
   match r,aj with
   |[a,b,c],_=>
     cases p with
     |zero=>exact⟨rfl,rfl,[a,b,c],rfl,I,rfl⟩
     |succ p=>
       obtain⟨bR,bQ,br,da,eS,qY⟩:=ahg (ms:=ms) (p:=p) R (by simpa using am) (by simpa using az);have aw:∀D,(oB (m::ms) ([a,b,c]::rs))[(p+1)*5+D]? =(oB ms rs)[p*5+D]? :=λD=>by
        have:(p+1)*5+D=p*5+D+5:=by omega
        rw[this];rfl
       have ay:∀D,(oB (m::ms) ([a,b,c]::rs)).drop ((p+1)*5+D)=(oB ms rs).drop (p*5+D):=λD=>by
        have:(p+1)*5+D=p*5+D+5:=by omega
        rw[this];rfl
       have f1:=aw 0;have f2:=ay 0;rw[Nat.add_zero,Nat.add_zero]at f1 f2;exact⟨f1.trans bR,(aw 1).trans bQ,br,by rw[ay 2];exact da,eS,by rw[f2];exact qY⟩
theorem ahh:∀{ms:dn} {kept:List ax} {aQ:List (List F)} {p:Nat} {v:ax} {r:List F},dk kept aQ->ms.length=kept.length->p<ms.length->bZ v r->∃r9,dk (kept.set p v) r9/\dy (oB ms aQ) (p*5+2) r=oB ms r9
 |[],kept,aQ,p,_,_,_,_,az,_=>by simp at az
 |m::ms,[],aQ,p,_,_,_,am,_,_=>by simp at am
 |m::ms,k::kept,aQ,p,v,r,h,am,az,Z=>by
   obtain⟨hi,rs,rfl,I,R⟩:=h;have aj:=I.cV.1;have aH:=Z.cV.1
   match hi,aj,r,aH with
   |[a,b,c],_,[x,y,z],_=>
     cases p with
     |zero=>exact⟨[x,y,z]::rs,⟨_,_,rfl,Z,R⟩,rfl⟩
     |succ p=>
       obtain⟨r9,bR,bQ⟩:=ahh (ms:=ms) (p:=p) R (by simpa using am) (by simpa using az) Z;refine⟨[a,b,c]::r9,⟨_,_,rfl,I,bR⟩,?_⟩;have:(p+1)*5+2=p*5+2+5:=by omega
       rw[this];unfold dy at bQ ⊢;simp only[oB,nz,l3,List.take_succ_cons,ho,fG];rw[show p*5+2+5+(0+1+1+1)=p*5+2+3+5 by omega];simp only[List.drop_succ_cons];rw[<-bQ];simp
theorem TO{b cE cG:Nat}{ms:dn}{kept:List ax}(x:(ix b cE cG ms kept).A h ah al)(am:ms.length=kept.length):∃row,h.cell b=o [row]/\b<h.n/\row[0]? =o (.ptr cE 0 0)/\row[1]? =o (.ptr cG 0 0)/\row.length=2+5*ms.length/\∀p:Nat,p<ms.length->row[2+p*5]? =o (.bool (ms.getD p ag).isSome)/\row[2+p*5+1]? =o (rS (ms.getD p ag))/\∃r,fZ J 3 row (2+p*5+2)=o (.agg r)/\bZ (kept.getD p ce) r/\fZ J 5 row (2+p*5)=o (.agg (.bool (ms.getD p ag).isSome::rS (ms.getD p ag)::r)):=by
 obtain⟨aQ,ab,_,_,I,R⟩:=x;refine⟨_,R,I,rfl,rfl,by simp only[oC,ho,H4 ab am];omega,λp az=>?_⟩;obtain⟨bR,bQ,r,da,eS,qY⟩:=ahg ab am az;have e:∀D,(oC cE cG ms aQ)[2+p*5+D]? =(oB ms aQ)[p*5+D]? :=λD=>by rw[show 2+p*5+D=p*5+D+1+1 by omega];rfl
 have ay:∀D,(oC cE cG ms aQ).drop (2+p*5+D)=(oB ms aQ).drop (p*5+D):=λD=>by rw[show 2+p*5+D=p*5+D+1+1 by omega];rfl
 have hlen:=H4 ab am;have f0:=e 0;have f2:=ay 0;rw[Nat.add_zero,Nat.add_zero]at f0 f2;refine⟨f0.trans bR,(e 1).trans bQ,r,?_,eS,?_⟩
 ·unfold fZ;rw[if_pos rfl,if_pos (by simp only[oC,ho,hlen];omega),ay 2,da]
 ·unfold fZ;rw[if_pos rfl,if_pos (by simp only[oC,ho,hlen];omega),f2,qY]
theorem auK{b cE cG:Nat}{ms:dn}{kept:List ax}(s:aN ak aO aL h L)(i:Nat)(af:L[i]? =o (ix b cE cG ms kept))(am:ms.length=kept.length){p:Nat}(az:p<ms.length){v:ax}{r:List F}(Z:bZ v r):∃E,e0 3 h (.ptr b 0 (2+p*5+2)) (.agg r)=o E/\aN ak aO aL E (L.set i (ix b cE cG ms (kept.set p v))):=by
 refine s.call (cJ:=λE=>e0 3 h (.ptr b 0 (2+p*5+2)) (.agg r)=o E) i af λah al x=>?_;obtain⟨aQ,ab,aP,a2,bl,cr⟩:=x;obtain⟨r9,bR,bQ⟩:=ahh ab am az Z;have hlen:=H4 ab am;refine⟨_,lu (es:=[oC cE cG ms aQ]) (e:=oC cE cG ms aQ) cr rfl Z.cV.2 Z.cV.1 (by simp only[oC,ho,hlen];omega),ah,al,⟨r9,bR,aP,a2,bl,?_⟩,⟨b9 _,b9 _,λk _ jZ=>eN λe=>jZ ((aP k).2 e),λ_ _ _=>rfl⟩,λ_=>.inl,λ_=>.inl⟩;rw[lc,we];have:dy (oC cE cG ms aQ) (2+p*5+2) r=oC cE cG ms r9:=by unfold oC;rw[<-bQ];unfold dy;rw[show 2+p*5+2=p*5+2+1+1 by omega];simp only[List.take_succ_cons,nz];rw[show p*5+2+1+1+r.length=p*5+2+r.length+1+1 by omega];simp only[List.drop_succ_cons]
 simp only[F.cells,this]
theorem E2{v:F}{rows:List (List F)}(x:(gc e v rows).A h ah al)(I:row.all F.one=J)(am:rows.length<=1000000):∃a' E,eH U e v (.b5 (o h.ids) e [row]) (h.fresh 1)=o (a',E)/\a'.one=J/\a'.cells=[a']/\gJ h ah al E (gc e a' (rows++[row]))/\E.n=h.n/\E.cell=h.cell:=by
 have lJ:([row].all λx=>x.all F.one)=J:=by simpa using I
 rcases x with⟨⟨rfl,rfl⟩,aw,ay⟩|⟨id,⟨dw,rfl⟩,aP,a2,bl,cr⟩
 ·refine⟨.b5 (o (h.ids+1)) e [row],(h.fresh 1).fresh 1,?_,rfl,rfl,⟨λ_=>False,λD=>D=h.ids+1,.inr ⟨h.ids+1,⟨by simp,rfl⟩,λ_ h=>h,λ_=>n0,by simp[ai.fresh],by simp[ai.fresh]⟩,((aG.fresh h 1).trans (aG.fresh _ 1)).wi _ _,λ_ h=>h.elim,λD ae=>.inr (by omega)⟩,rfl,rfl⟩;simp only[eH,js,if_true,du,hj,tE,if_false,kA];rw[if_pos ⟨by omega,by omega,lJ⟩];rfl
 ·have auL:id≠h.ids:=by omega
  refine⟨.b5 (o id) e (rows++[row]),(h.fresh 1).grow id (rows.length+1),?_,rfl,rfl,⟨λ_=>False,λD=>D=id,.inr ⟨id,⟨by simp,rfl⟩,λ_ h=>h,λ_=>n0,by simp[ai.grow,ai.fresh];omega,by simp[ai.grow]⟩,⟨b9 _,by simp[ai.grow,ai.fresh],λ_ _ _=>rfl,λD ae g1=>?_⟩,λ_ h=>h.elim,λD ae=>.inl ((a2 D).2 ae)⟩,rfl,rfl⟩
  ·simp only[eH,js,if_true,du,hj,tE,if_false,kA];rw[if_pos ⟨by omega,by omega,lJ⟩,Gw auL,cr];simp only[true_and,am,if_true]
  ·rw[Qm λe=>g1 ((a2 D).2 e),Gw (by omega)]
theorem Ng{b:Nat}{cells:List Int}{log:List lP}(x:(iL b cells log).A h ah al):∃v,aN h ah al h [a1 b [cells.map (.int j)++[v]],gc iw v (log.map hc)]:=by obtain⟨v,x⟩:=x;exact⟨v,aN.start (cm.two x)⟩
theorem ahi{b:Nat}{cells:List Int}{log:List lP}{v:F}(s:aN ak aO aL h [a1 b [cells.map (.int j)++[v]],gc iw v (log.map hc)]):gJ ak aO aL h (iL b cells log):=gJ.imp (λ_ _ _ x=>by obtain⟨eJ,eK,dZ,eh,cb,dF,r⟩:=x;exact⟨v,eJ,eK,dZ,eh,cb,cm.Cj dF,r⟩) s
theorem H5{cells:List Int}{v:F}(am:cells.length=12){D:Nat}(ae:D<12):(cells.map (F.int j)++[v])[D]? =o (.int j (cells.getD D 0))/\(cells.map (F.int j)++[v])[12]? =o v/\(cells.map (F.int j)++[v]).length=13:=by
 refine⟨?_,?_,by simp[am]⟩
 ·rw[l0 (by simp;omega)];simp[cZ,show D<cells.length by omega]
 ·rw[l1 (by simp;omega)];simp[am]
theorem auM{b:Nat}{cells:List Int}{log:List lP}(fB:aN ak aO aL h L)(i:Nat)(af:L[i]? =o (iL b cells log))(am:cells.length=12)(aA:log.length<=1000000){c:Int}(an:0<=c/\c<12)(p n:Int):∃E,aU aq aa 148 [.ptr b 0 0,.int j p,.int j c,.int j n] h=o (.inl (.bS [.int j (cells.getD c.toNat 0),.bool J]),E)/\aN ak aO aL E (L.set i (iL b cells (log++[⟨p,c,1,n⟩]))):=by
 refine fB.call (cJ:=λE=>aU aq aa 148 [.ptr b 0 0,.int j p,.int j c,.int j n] h=o (.inl (.bS [.int j (cells.getD c.toNat 0),.bool J]),E)) i af λah al x=>?_;obtain⟨v,s⟩:=Ng x;obtain⟨aW,bD⟩:=s.cell 0 rfl;obtain⟨D,rfl⟩:=ni an.1;have ae:D<12:=by omega
 obtain⟨cS,cf,eQ⟩:=H5 (v:=v) am ae;obtain⟨I,a',⟨aw,bz,bG,fA,cF⟩,bd⟩:=s.tO (cJ:=λE a'=>eH U iw v (.b5 (o h.ids) iw [hc ⟨p,D,1,n⟩]) (h.fresh 1)=o (a',E)/\a'.one=J/\a'.cells=[a']/\E.n=h.n/\E.cell=h.cell) 1 rfl (Y:=λa'=>gc iw a' (log.map hc++[hc ⟨p,D,1,n⟩])) λah al y=>by obtain⟨a',E,aP,a2,bl,cr,ej,jB⟩:=E2 y (row:=hc ⟨p,D,1,n⟩) rfl (by simpa using aA);exact⟨E,a',⟨aP,a2,bl,ej,jB⟩,cr⟩
 have bJ:∀q:gZ,dY ag (o (12,1)) (.ptr b 0 0) (.int q (D:Int))=o (.ptr b 0 D):=λq=>by simp[dY,ae]
 have xe:sJ (D:Int)=J:=by simp[sJ];omega
 have cl:=(bd.cell 0 rfl).1;have bW:dy (cells.map (F.int j)++[v]) 12 [a']=cells.map (F.int j)++[a']:=by unfold dy;rw[List.take_left' (by simp[am]),List.drop_of_length_le (by simp[am])];simp
 have st:=lu (n:=1) (x:=a') (off:=12) (i:=0) cl rfl (by rw[bG];simpa using bz) (by rw[bG];rfl) (by omega);rw[bG,bW,we]at st;have aY:=bd.set 0 rfl [cells.map (F.int j)++[a']];have lv:=(H5 (v:=a') am ae).1;refine⟨_,?_,ahi (v:=a') (log:=log++[⟨p,D,1,n⟩]) (by rw[u5];exact aY)⟩;have h':∀(x:ai) (k:Nat) (u:F),(cells.map (F.int j)++[u])[D]? =o (.int j (cells.getD D 0))->x.cell b=o [cells.map (F.int j)++[u]]->cR U k x (.ptr b 0 D)=o (.int j (cells.getD D 0)):=λx k u bV aF=>by rw[gb,aF,du,oq,du,pI,bV]
 have TP:∀k:Nat,cR U k h (.ptr b 0 12)=o v:=λk=>by rw[gb,aW,du,oq,du,pI,cf]
 have f12:cd 12 (.ptr b 0 0)=o (.ptr b 0 12):=rfl;have vf:=h' _ 1 a' lv (aY.cell 0 rfl).1;simp only[hc]at aw;refine a4 arK rfl ?_;unfold aeA;simp only[ao,ar,av,ap,bY,bN,Lj,xe,f12,TP,aw,st,bJ,vf]
theorem auN{b:Nat}{cells:List Int}{log:List lP}(fB:aN ak aO aL h L)(i:Nat)(af:L[i]? =o (iL b cells log))(am:cells.length=12)(aA:log.length<=1000000){c:Int}(an:0<=c/\c<12)(p n z:Int):∃E,aU aq aa 149 [.ptr b 0 0,.int j p,.int j c,.int j n,.int j z] h=o (.inl (.bool J),E)/\aN ak aO aL E (L.set i (iL b (cells.set c.toNat z) (log++[⟨p,c,2,n⟩]))):=by
 refine fB.call (cJ:=λE=>aU aq aa 149 [.ptr b 0 0,.int j p,.int j c,.int j n,.int j z] h=o (.inl (.bool J),E)) i af λah al x=>?_;obtain⟨v,s⟩:=Ng x;obtain⟨aW,bD⟩:=s.cell 0 rfl;obtain⟨D,rfl⟩:=ni an.1;have ae:D<12:=by omega
 obtain⟨cS,cf,eQ⟩:=H5 (v:=v) am ae;obtain⟨I,a',⟨aw,bz,bG,fA,cF⟩,bd⟩:=s.tO (cJ:=λE a'=>eH U iw v (.b5 (o h.ids) iw [hc ⟨p,D,2,n⟩]) (h.fresh 1)=o (a',E)/\a'.one=J/\a'.cells=[a']/\E.n=h.n/\E.cell=h.cell) 1 rfl (Y:=λa'=>gc iw a' (log.map hc++[hc ⟨p,D,2,n⟩])) λah al y=>by obtain⟨a',E,aP,a2,bl,cr,ej,jB⟩:=E2 y (row:=hc ⟨p,D,2,n⟩) rfl (by simpa using aA);exact⟨E,a',⟨aP,a2,bl,ej,jB⟩,cr⟩
 have bJ:∀q:gZ,dY ag (o (12,1)) (.ptr b 0 0) (.int q (D:Int))=o (.ptr b 0 D):=λq=>by simp[dY,ae]
 have xe:sJ (D:Int)=J:=by simp[sJ];omega
 have cl:=(bd.cell 0 rfl).1;have bW:dy (cells.map (F.int j)++[v]) 12 [a']=cells.map (F.int j)++[a']:=by unfold dy;rw[List.take_left' (by simp[am]),List.drop_of_length_le (by simp[am])];simp
 have st:=lu (n:=1) (x:=a') (off:=12) (i:=0) cl rfl (by rw[bG];simpa using bz) (by rw[bG];rfl) (by omega);rw[bG,bW,we]at st;have aY:=bd.set 0 rfl [cells.map (F.int j)++[a']];have lv:=H5 (v:=a') am ae;have auO:dy (cells.map (F.int j)++[a']) D [.int j z]=(cells.set D z).map (F.int j)++[a']:=by
  have:dy (cells.map (F.int j)++[a']) D [.int j z]=(cells.map (F.int j)++[a']).set D (.int j z):=by
   refine List.ext_getElem? λi=>?_;rw[yV _ _ _ _ (by simp only[hj,lv.2.2];omega)];by_cases e:i=D
   ·subst e;rw[if_pos (by simp only[hj];omega),List.getElem?_set_self (by rw[lv.2.2];omega)];simp
   ·rw[if_neg (by simp only[hj];omega),uP (by omega)]
  rw[this,List.set_append_left _ _ (by simp;omega),List.map_set]
 have ahj:=lu (n:=1) (x:=.int j z) (off:=D) (i:=0) (aY.cell 0 rfl).1 rfl rfl rfl (by rw[lv.2.2];omega);rw[show(F.int j z).cells=[.int j z] from rfl,auO,we]at ahj;have bs:=aY.set 0 rfl [(cells.set D z).map (F.int j)++[a']];refine⟨_,?_,ahi (v:=a') (log:=log++[⟨p,D,2,n⟩]) (by rw[u5];exact bs)⟩;have TP:∀k:Nat,cR U k h (.ptr b 0 12)=o v:=λk=>by rw[gb,aW,du,oq,du,pI,cf]
 have f12:cd 12 (.ptr b 0 0)=o (.ptr b 0 12):=rfl;simp only[hc]at aw;refine a4 arL rfl ?_;unfold aeC;simp only[ao,ar,av,ap,bY,bN,Lj,xe,f12,TP,aw,st,bJ,ahj]
end
def hO(ak:ai)(ah al:Nat->Prop)(b:Nat)(h:ai)(G:aI)(C bK:List Nat):Prop:=∃mj ml,fm h mj ml b G/\mO ah al ak h/\(∀k,mj k->ah k\/ak.n<=k)/\(∀D,ml D->al D\/ak.ids<=D)/\(∀k∈C,ak.n<=k/\k<h.n/\¬mj k)/\(∀D∈bK,ak.ids<=D/\D<h.ids/\¬ml D)
section
variable{ak h:ai}{ah al:Nat->Prop}{b:Nat}{G b7:aI}{C bK:List Nat}
theorem hO.start(g:fm h ah al b G):hO h ah al b h G [] []:=⟨ah,al,g,mO.refl _ _ _,λ_=>.inl,λ_=>.inl,by simp,by simp⟩
theorem hO.tZ(m:hO ak ah al b h G C bK):gx ak ah al b h G:=by obtain⟨mj,ml,g,c,f,D,_⟩:=m;exact⟨mj,ml,g,c,f,D⟩
theorem hO.ahk(m:hO ak ah al b h G C bK):∃mj ml,fm h mj ml b G:=by obtain⟨mj,ml,g,_⟩:=m;exact⟨mj,ml,g⟩
theorem hO.n(m:hO ak ah al b h G C bK):ak.n<=h.n:=by obtain⟨_,_,_,c,_⟩:=m;exact c.n
theorem hO.lt(m:hO ak ah al b h G C bK){k:Nat}(ab:k∈C):k<h.n:=by obtain⟨_,_,_,_,_,_,c,_⟩:=m;exact(c k ab).2.1
theorem hO.fF(m:hO ak ah al b h G C bK){k:Nat}(ab:k<ak.n)(dJ:¬ah k):h.cell k=ak.cell k:=by obtain⟨_,_,_,c,_⟩:=m;exact c.cell k ab dJ
theorem hO.h1{E:ai}(m:hO ak ah al b h G C bK)(x:aG h E):hO ak ah al b E G C bK:=by
 obtain⟨mj,ml,g,c,f,D,an,af⟩:=m;refine⟨mj,ml,g.h1 x,c.trans (x.wi _ _),f,D,λk ab=>?_,λi ab=>?_⟩
 ·obtain⟨aP,a2,bl⟩:=an k ab;exact⟨aP,fS a2 x.n,bl⟩
 ·obtain⟨aP,a2,bl⟩:=af i ab;exact⟨aP,fS a2 x.ids,bl⟩
theorem hO.push(m:hO ak ah al b h G C bK)(r:List (List F)):hO ak ah al b (h.push r) G (h.n::C) bK:=by
 have aA:=m.n;obtain⟨mj,ml,g,c,f,D,an,af⟩:=m.h1 (aG.push h r);obtain⟨dZ,eh,cf,bD,f2,gg,ja,iG⟩:=m;refine⟨dZ,eh,cf.h1 (aG.push h r),c,f2,gg,λk ab=>?_,λi ab=>?_⟩
 ·rcases mJ.1 ab with rfl|ab
  ·exact⟨aA,by simp[ai.push],λdJ=>by have:=cf.lt.1 _ dJ;omega⟩
  ·obtain⟨aP,a2,bl⟩:=ja k ab;exact⟨aP,by simp only[eC];omega,bl⟩
 ·exact iG i ab
theorem hO.fresh(m:hO ak ah al b h G C bK)(r:Nat):hO ak ah al b (h.fresh r) G C (h.ids::bK):=by
 obtain⟨dZ,eh,cf,bD,f2,gg,ja,iG⟩:=m;refine⟨dZ,eh,cf.h1 (aG.fresh h r),bD.trans ((aG.fresh h r).wi _ _),f2,gg,ja,λi ab=>?_⟩;rcases mJ.1 ab with rfl|ab
 ·exact⟨bD.ids,by simp[ai.fresh],λdJ=>by have:=cf.lt.2 _ dJ;omega⟩
 ·obtain⟨aP,a2,bl⟩:=iG i ab;exact⟨aP,by simp only[Ql];omega,bl⟩
theorem hO.set(m:hO ak ah al b h G C bK){c:Nat}(ab:c∈C)(es:Option (List (List F))):hO ak ah al b (h.set c es) G C bK:=by obtain⟨dZ,eh,cf,bD,f2,gg,ja,iG⟩:=m;obtain⟨aP,a2,bl⟩:=ja c ab;have x:mO (λk=>k=c) (λ_=>False) h (h.set c es):=⟨b9 _,b9 _,λk _ ab=>eN ab,λ_ _ _=>rfl⟩;refine⟨dZ,eh,cf.g9 x (λk ab e=>bl (e ▸ ab)) (λ_ _ h=>h),bD.then x (λk e=>.inr (by rw[e];exact aP)) (λ_ h=>h.elim),f2,gg,ja,iG⟩
theorem hO.grow(m:hO ak ah al b h G C bK){i:Nat}(ab:i∈bK)(r:Nat):hO ak ah al b (h.grow i r) G C bK:=by obtain⟨dZ,eh,cf,bD,f2,gg,ja,iG⟩:=m;obtain⟨aP,a2,bl⟩:=iG i ab;have x:mO (λ_=>False) (λD=>D=i) h (h.grow i r):=⟨b9 _,b9 _,λ_ _ _=>rfl,λD _ ae=>Qm ae⟩;exact⟨dZ,eh,cf.g9 x (λ_ _ h=>h) (λD ae e=>bl (e ▸ ae)),bD.then x (λ_ h=>h.elim) (λD e=>.inr (by rw[e];exact aP)),f2,gg,ja,iG⟩
theorem hO.Nh(m:hO ak ah al b h G C bK)(c:∀dZ eh,fm h dZ eh b G->(∀k,k<ak.n->¬ah k->¬dZ k)->(∀k∈C,¬dZ k)->∃E,cJ E/\gx h dZ eh b E b7):∃E,cJ E/\hO ak ah al b E b7 C bK/\(∀k∈C,E.cell k=h.cell k)/\(∀k,k<ak.n->¬ah k->E.cell k=h.cell k)/\(∀D∈bK,E.hw D=h.hw D):=by
 obtain⟨dZ,eh,cf,bD,f2,gg,ja,iG⟩:=m;obtain⟨E,r,pe,pf,eQ,cl,f3,tX⟩:=c dZ eh cf (λk ab dJ R=>by
  rcases f2 k R with h|h
  ·exact dJ h
  ·omega) (λk ab=>(ja k ab).2.2)
 have i6:=bD.then cl f2 gg;refine⟨E,r,⟨pe,pf,eQ,i6,λk ab=>?_,λD ae=>?_,λk ab=>?_,λi ab=>?_⟩,λk ab=>cl.cell k (ja k ab).2.1 (ja k ab).2.2,λk ab dJ=>?_,λD ae=>cl.hw D (iG D ae).2.1 (iG D ae).2.2⟩
 ·rcases f3 k ab with h|h
  ·exact f2 k h
  ·exact .inr (e6 bD.n h)
 ·rcases tX D ae with h|h
  ·exact gg D h
  ·exact .inr (e6 bD.ids h)
 ·obtain⟨aP,a2,bl⟩:=ja k ab;refine⟨aP,fS a2 cl.n,λdJ=>?_⟩;rcases f3 k dJ with h|h
  ·exact bl h
  ·omega
 ·obtain⟨aP,a2,bl⟩:=iG i ab;refine⟨aP,fS a2 cl.ids,λdJ=>?_⟩;rcases tX i dJ with h|h
  ·exact bl h
  ·omega
 ·refine cl.cell k (fS ab bD.n) λH6=>?_;rcases f2 k H6 with h|h
  ·exact dJ h
  ·omega
theorem hO.call(m:hO ak ah al b h G C bK)(c:∀ah al,fm h ah al b G->∃E,cJ E/\gx h ah al b E b7):∃E,cJ E/\hO ak ah al b E b7 C bK/\(∀k∈C,E.cell k=h.cell k)/\(∀k,k<ak.n->¬ah k->E.cell k=h.cell k)/\(∀D∈bK,E.hw D=h.hw D):=m.Nh λdZ eh g _ _=>c dZ eh g
def t'(e:a9)(bK:List Nat)(h:ai)(v:F)(acc:List (List F)):Prop:=(acc=[]/\v= .aJ)\/∃id,id∈bK/\acc≠[]/\h.hw id=acc.length/\v= .b5 (o id) e acc
theorem t'.EA{v:F}(a:t' e bK h v acc):e9 e v acc:=by
 rcases a with a|⟨id,_,_,_,rfl⟩
 ·exact .inl a
 ·exact .inr ⟨_,rfl⟩
theorem t'.cell{v:F}(a:t' e bK h v acc):v.one=J/\v.cells=[v]:=by rcases a with⟨_,rfl⟩|⟨id,_,_,_,rfl⟩<;>exact⟨rfl,rfl⟩
theorem t'.g9{v:F}(a:t' e bK h v acc)(ab:∀D∈bK,E.hw D=h.hw D):t' e bK E v acc:=by
 rcases a with a|⟨id,aP,a2,bl,cr⟩
 ·exact .inl a
 ·exact .inr ⟨id,aP,a2,(ab id aP).trans bl,cr⟩
theorem ahl{v:F}(m:hO ak ah al b h G C bK)(aV:t' e bK h v acc)(I:row.all F.one=J)(am:acc.length<=1000000):∃a' E ahm,eH U e v (.b5 (o h.ids) e [row]) (h.fresh 1)=o (a',E)/\t' e ahm E a' (acc++[row])/\hO ak ah al b E G C ahm/\E.cell=h.cell/\E.n=h.n:=by
 have lJ:∀x,x∈row->x.one=J:=by simpa using I
 rcases aV with⟨rfl,rfl⟩|⟨id,aP,a2,bl,rfl⟩
 ·refine⟨.b5 (o (h.ids+1)) e [row],(h.fresh 1).fresh 1,(h.ids+1)::h.ids::bK,?_,.inr ⟨h.ids+1,by simp,by simp,by simp[ai.fresh],by simp⟩,(m.fresh 1).fresh 1,rfl,rfl⟩;simp only[eH,js,if_true,du,hj,tE,if_false,kA];rw[if_pos ⟨by omega,by omega,by simpa using lJ⟩];rfl
 ·have ba:id<h.ids:=by obtain⟨_,_,_,_,_,_,_,af⟩:=m;exact(af id aP).2.1
  have dw:id≠h.ids:=by omega
  refine⟨.b5 (o id) e (acc++[row]),(h.fresh 1).grow id (acc.length+1),h.ids::bK,?_,.inr ⟨id,by simp[aP],by simp,by simp[ai.grow],rfl⟩,(m.fresh 1).grow (by simp[aP]) _,rfl,rfl⟩;simp only[eH,js,if_true,du,hj,tE,if_false,kA];rw[if_pos ⟨by omega,by omega,by simpa using lJ⟩,Gw dw,bl];simp only[true_and,am,if_true]
end
theorem auP{x:BitVec 64}:B0 x.toInt 4=fK x.toInt 2:=by
 have aH:(4:Int)=(4#64).toInt:=by decide
 rw[aH,abI,Eu x (by omega)];have e:(4#64)=BitVec.twoPow 64 2:=by decide
 cases ad:x.getLsbD 2
 ·refine decide_eq_false λh=>?_;have:=congrArg (λv:BitVec 64=>v.getLsbD 2) h;simp only[BitVec.getLsbD_and,ad,Bool.false_and]at this;exact absurd this (by decide)
 ·refine decide_eq_true (BitVec.eq_of_getLsbD_eq λi af=>?_);rw[BitVec.getLsbD_and,e,BitVec.getLsbD_twoPow];by_cases R:2=i
  ·subst R;simp[ad]
  ·simp[R]
section
variable{h:ai}{ah al:Nat->Prop}{b:Nat}{G:aI}
abbrev zz:a9:=210
theorem ahn{C:D8}{aZ:Nat}{d:qg}{bT:List aE}{k:List j0}{L:List F}{q:a9}{v:F}:bB C aZ (.ops (.i d (.An (.l 0))::bT)::k) V (.iface q v::L) h=o (.panic (.iface q v),V,h):=Qh rfl
theorem auQ(c:Int):aU aq aa 161 [.bool J,.int j c] h=o (.inr (.iface zz (.int j c)),h):=by refine a4 afS rfl ?_;unfold S4;simp only[ao,ar,av,ap,Ks,ahn,FQ (aG.refl h) (rfl:dl (.iface zz (.int j c))=_)]
theorem auR(c:Int):aU aq aa 161 [.bool U,.int j c] h=o (.inl (.bS []),h):=by refine a4 afS rfl ?_;unfold S4;simp only[ao,ar,av,ap,dE (aG.refl h) (rfl:dl (.bS [])=_)]
theorem auS(g:aI)(ck:g.dg)(i:Int):aU aq aa 144 [.int j (g.c5 i),.int j 4] h=o (.inl (.bool (fK (g.c5 i) 2)),h):=by
 obtain⟨x,aF⟩:=af6 ck i;have e:B0 (g.c5 i) 4=fK (g.c5 i) 2:=by rw[aF];exact auP
 rw[<-e];refine a4 afR rfl ?_;unfold S3;simp only[ao,ar,av,ap];rfl
def TQ(aQ:List Int)(G:aI)(n:Int)(q:F⊕F):Prop:=((hr aQ G n).2.2=0/\q= .inl (.int j (hr aQ G n).2.1))\/((hr aQ G n).2.2≠0/\q= .inr (.iface zz (.int j (hr aQ G n).2.2)))
theorem aho(k:Int)(l:List Int)(G:aI)(n:Int):hr (k::l) G n=if(G.derive n 15 k).2.2≠0 then((G.derive n 15 k).1,0,(G.derive n 15 k).2.2)else hr l (G.derive n 15 k).1 (G.derive n 15 k).2.1:=rfl
theorem auT{m:Nat}(g:fm h ah al b G)(ck:G.dg)(hm:m<h.n)(dJ:¬ah m)(an:h.cell m=o [[.ptr b 0 0,cT]])(a5:gB 3 cT (eI aQ))(ab:aQ.length<=1000000)(n:Int):∃q E,aU aq aa 146 [.ptr m 0 0,.int j n] h=o (q,E)/\(TQ aQ G n q/\gx h ah al b E (hr aQ G n).1):=by
 have am:=a5.len;have bo:=a5.fits;rw[fM]at am;refine adq (sN:=λq E=>TQ aQ G n q/\gx h ah al b E (hr aQ G n).1) asG rfl λQ hS gd=>?_;unfold afT;simp only[ao,ar,av,ap,an,am,bo];refine pN (λi V E=>∃eY dL b4 eD b7 cj,V=[.ptr m 0 0,.int j cj,.int j 0,eY,dL,b4,cT,.int j aQ.length,.int j (i:Nat),eD]/\b7.dg/\hO h ah al b E b7 [] []/\hr (aQ.drop i) b7 cj=hr aQ G n) aQ.length ⟨_,_,_,_,G,n,rfl,ck,hO.start g,rfl⟩ ?_ ?_
 ·rintro i V E af ⟨eY,dL,b4,eD,b7,cj,rfl,kn,a8,he⟩ next
  have ba:(i:Int)<(aQ.length:Int):=by omega
  have hw:=ew (n:=(i:Int)+1) (by omega) (by omega);obtain⟨k,jZ⟩:∃k,aQ[i]? =o k:=⟨_,fT af⟩;have i1:=a5.bJ j i [.int j k] (by simp[jZ]);have bg:aQ.drop i=k::aQ.drop (i+1):=by obtain⟨fb,rfl⟩:=fO.1 jZ;exact wM fb
  have kY:E.cell m=o [[.ptr b 0 0,cT]]:=(a8.fF hm dJ).trans an;obtain⟨R,ay,oO, -, -, -⟩:=a8.call λah al g=>ahf g kn cj 15 k;rw[bg,aho]at he;by_cases aB:(b7.derive cj 15 k).2.2=0
  ·rw[if_neg (by simp[aB])]at he;have nK:=λh=>auR (h:=h) 0;rw[aB]at ay;rw[cy Mv.eq_1];simp only[ao,ar,av,ap,b2,ba,i1,kY,ay,nK,hw];exact next _ _ ⟨_,_,_,_,_,_,rfl,kn.derive _ _ _,oO,he⟩
  ·rw[if_pos aB]at he;have nK:=λh=>auQ (h:=h) (b7.derive cj 15 k).2.2;rw[cy Mv.eq_1];simp only[ao,ar,av,ap,b2,ba,i1,kY,ay,aB,nK];refine gd _ _ _ ⟨.inr ?_,?_⟩
   ·rw[<-he];exact⟨aB,rfl⟩
   ·rw[<-he];exact oO.tZ
 ·rintro V E ⟨eY,dL,b4,eD,b7,cj,rfl,kn,a8,he⟩;have ba:¬(aQ.length:Int)<(aQ.length:Int):=by omega
  rw[wN]at he;rw[cy Mv.eq_1];simp only[ao,ar,av,ap,b2,ba];refine hS _ _ _ rfl ⟨.inl ?_,?_⟩
  ·rw[<-he];exact⟨rfl,rfl⟩
  ·rw[<-he];exact a8.tZ
theorem ahp{G:aI}(ck:G.dg)(l:List Int):∀(i:Nat) (n:Int),l[i]? =o n->(l.drop i).any (λn=> !fK (G.c5 n) 2)=(!fK (G.c5 n) 2||(l.drop (i+1)).any λn=> !fK (G.c5 n) 2):=by intro i n aA;obtain⟨af,rfl⟩:=fO.1 aA;rw[wM af,List.any_cons]
theorem Ni(h:x.code=0):x.size<=40:=by
 unfold ax.code at h;split at h
 ·cases h
 ·omega
theorem auU(g:fm h ah al b G)(ck:G.dg){r:List F}(aF:bZ x r):aU aq aa 126 [.ptr b 0 0,.agg r] h=o (.inl (.int j (qo G x)),h):=by
 obtain⟨bz,bG⟩:=aF.one;have aw:=λh=>MG (h:=h) aF;unfold qo;by_cases an:x.code=0
 ·have aC:=Ni an;have ay:=λh=>as1 _ x (b9 _) (by omega) r h aF;rw[if_neg (by simp[an])];cases gF:x.gate
  ·have be:=λh=>asX _ x (b9 _) (by omega) r h aF;have CO:=uY 3 (eI x.fX);have am:=CO.len;have bo:=CO.fits;rw[fM]at am;have qz:=x.GA;simp only[gF]at ay;simp only[mF,if_false];refine nI S5 rfl λQ cQ=>?_;unfold MB;simp only[ao,ar,av,ap,bz,bG,gA bG,aw,an,ay,be,am,bo];refine pN (λi V E=>∃b4 e1 gy,V=[.ptr b 0 0,.agg r,.ptr h.n 0 0,.int j 0,.int j 0,b4,.bool U,.bool U,hy 3 (eI x.fX),.int j x.fX.length,.int j (i:Nat),e1,gy]/\aG h E/\(x.fX.drop i).any (λn=> !fK (G.c5 n) 2)=x.fX.any λn=> !fK (G.c5 n) 2) x.fX.length ⟨_,_,_,rfl,(by repeat (first|exact aG.refl _|refine aG.trans ?_ (aG.push _ _)|refine aG.trans ?_ (aG.fresh _ _))),rfl⟩ ?_ ?_
   ·rintro i V E af ⟨b4,e1,gy,rfl,pk,he⟩ next
    have ba:(i:Int)<(x.fX.length:Int):=by omega
    have hw:=ew (n:=(i:Int)+1) (by omega) (by omega);obtain⟨n,aA⟩:∃n,x.fX[i]? =o n:=⟨_,fT af⟩;have i1:=CO.bJ j i [.int j n] (by simp[aA]);have b1:=adj (g.h1 pk) ck n;have c4:=λh=>auS (h:=h) G ck n;rw[ahp ck _ _ _ aA]at he;cases ad:fK (G.c5 n) 2
    ·rw[ad]at he;simp only[ad]at c4;rw[cy Mz.eq_1];simp only[ao,ar,av,ap,b2,ba,i1,b1,c4];refine cQ _ _ _ rfl pk ?_;rw[<-he];rfl
    ·rw[ad]at he;simp only[ad]at c4;rw[cy Mz.eq_1];simp only[ao,ar,av,ap,b2,ba,i1,b1,c4,hw];exact next _ _ ⟨_,_,_,rfl,pk,he⟩
   ·rintro V E ⟨b4,e1,gy,rfl,pk,he⟩;have ba:¬(x.fX.length:Int)<(x.fX.length:Int):=by omega
    rw[wN]at he;rw[cy Mz.eq_1];simp only[ao,ar,av,ap,b2,ba];refine cQ _ _ _ rfl pk ?_;rw[<-he];rfl
  ·simp only[gF]at ay;simp only[if_true];refine nI S5 rfl λQ cQ=>?_;unfold MB;simp only[ao,ar,av,ap,bz,bG,gA bG,aw,an,ay];exact cQ _ _ _ rfl (by repeat (first|exact aG.refl _|refine aG.trans ?_ (aG.push _ _)|refine aG.trans ?_ (aG.fresh _ _))) rfl
 ·rw[if_pos an];refine nI S5 rfl λQ cQ=>?_;unfold MB;simp only[ao,ar,av,ap,bz,bG,gA bG,aw,an];exact cQ _ _ _ rfl (by repeat (first|exact aG.refl _|refine aG.trans ?_ (aG.push _ _)|refine aG.trans ?_ (aG.fresh _ _))) rfl
theorem auV(g:fm h ah al b G)(ck:G.dg){r:List F}(aF:bZ x r):aU aq aa 155 [.ptr b 0 0,.agg r] h=o (.inl (.int j (qo G x)),h):=by
 obtain⟨bz,bG⟩:=aF.one;have aw:=λh=>MH (h:=h) aF;unfold qo;by_cases an:x.code=0
 ·have aC:=Ni an;have ay:=λh=>asZ _ x (b9 _) (by omega) r h aF;rw[if_neg (by simp[an])];cases gF:x.gate
  ·have be:=λh=>asW _ x (b9 _) (by omega) r h aF;have CO:=uY 3 (eI x.fX);have am:=CO.len;have bo:=CO.fits;rw[fM]at am;have qz:=x.GA;simp only[gF]at ay;simp only[mF,if_false];refine nI S7 rfl λQ cQ=>?_;unfold MD;simp only[ao,ar,av,ap,bz,bG,gA bG,aw,an,ay,be];refine pN (λi V E=>∃eD dU,V=[.ptr b 0 0,.agg r,.ptr h.n 0 0,.int j 0,.int j 0,hy 3 (eI x.fX),.int j (i:Nat),.bool U,.bool U,eD,dU]/\aG h E/\(x.fX.drop i).any (λn=> !fK (G.c5 n) 2)=x.fX.any λn=> !fK (G.c5 n) 2) x.fX.length ⟨_,_,rfl,(by repeat (first|exact aG.refl _|refine aG.trans ?_ (aG.push _ _)|refine aG.trans ?_ (aG.fresh _ _))),rfl⟩ ?_ ?_
   ·rintro i V E af ⟨eD,dU,rfl,pk,he⟩ next
    have ba:(i:Int)<(x.fX.length:Int):=by omega
    have hw:=ew (n:=(i:Int)+1) (by omega) (by omega);obtain⟨n,aA⟩:∃n,x.fX[i]? =o n:=⟨_,fT af⟩;have i1:=CO.bJ j i [.int j n] (by simp[aA]);have b1:=adz (g.h1 pk) ck n;have c4:∀h,aU aq aa 151 [.int j (G.c5 n),.int j 2] h=o (.inl (.bool (fK (G.c5 n) 2)),h):=λh=>RN (G.c5 n) 2 (by omega);rw[ahp ck _ _ _ aA]at he;cases ad:fK (G.c5 n) 2
    ·rw[ad]at he;simp only[ad]at c4;rw[cy MC.eq_1];simp only[ao,ar,av,ap,b2,am,bo,ba,i1,b1,c4];refine cQ _ _ _ rfl pk ?_;rw[<-he];rfl
    ·rw[ad]at he;simp only[ad]at c4;rw[cy MC.eq_1];simp only[ao,ar,av,ap,b2,am,bo,ba,i1,b1,c4,hw];exact next _ _ ⟨_,_,rfl,pk,he⟩
   ·rintro V E ⟨eD,dU,rfl,pk,he⟩;have ba:¬(x.fX.length:Int)<(x.fX.length:Int):=by omega
    rw[wN]at he;rw[cy MC.eq_1];simp only[ao,ar,av,ap,b2,am,bo,ba];refine cQ _ _ _ rfl pk ?_;rw[<-he];rfl
  ·simp only[gF]at ay;simp only[if_true];refine nI S7 rfl λQ cQ=>?_;unfold MD;simp only[ao,ar,av,ap,bz,bG,gA bG,aw,an,ay];exact cQ _ _ _ rfl (by repeat (first|exact aG.refl _|refine aG.trans ?_ (aG.push _ _)|refine aG.trans ?_ (aG.fresh _ _))) rfl
 ·rw[if_pos an];refine nI S7 rfl λQ cQ=>?_;unfold MD;simp only[ao,ar,av,ap,bz,bG,gA bG,aw,an];exact cQ _ _ _ rfl (by repeat (first|exact aG.refl _|refine aG.trans ?_ (aG.push _ _)|refine aG.trans ?_ (aG.fresh _ _))) rfl
end
section
variable{h:ai}{ah al:Nat->Prop}{b:Nat}{G:aI}
def H7(aQ:List Int)(G:aI)(x:ax)(q:F⊕F):Prop:=((fw aQ x G).2.2=0/\∃br,q= .inl (.agg br)/\bZ (fw aQ x G).2.1 br)\/((fw aQ x G).2.2≠0/\q= .inr (.iface zz (.int j (fw aQ x G).2.2)))
theorem ahq(aQ:List Int)(x:ax)(l:List ax)(G:aI):gq aQ (x::l) G=if(fw aQ x G).2.2≠0 then((fw aQ x G).1,[],(fw aQ x G).2.2) else((gq aQ l (fw aQ x G).1).1,(fw aQ x G).2.1::(gq aQ l (fw aQ x G).1).2.1,(gq aQ l (fw aQ x G).1).2.2):=rfl
theorem ahr{i:Nat}{y:ax}(h:l[i]? =o y):l.drop i=y::l.drop (i+1):=by obtain⟨af,rfl⟩:=fO.1 h;exact wM af
theorem auW{m:Nat}(a5:gB 3 cT (eI aQ))(ab:aQ.length<=1000000):∀(N:Nat) (x:ax),lz x<=N->x.size<=100000->∀(r:List F) (h:ai) (ah al:Nat->Prop) (G:aI),fm h ah al b G->G.dg->m<h.n->¬ah m->h.cell m=o [[.ptr b 0 0,cT]]->bZ x r->∃q E,aU aq aa 128 [.ptr m 0 0,.agg r] h=o (q,E)/\(H7 aQ G x q/\gx h ah al b E (fw aQ x G).1):=by
 intro N;induction N with
 |zero=>intro x aF;have:=x.m';omega
 |succ N aR=>
   intro x aF fa r h ah al G g ck hm dJ an he;obtain⟨v,es,rfl,eL,Z,aA,fv⟩:=he.facts;have hlen:=x.q5;have ht:=KM aQ x G;have rest:∀(Q:mi->Prop) (I:ai) (mq:aI) (fA:Int) (bK:List Nat) (cz:F),mq.dg->hO h ah al b I mq [h.n+1+1,h.n+1,h.n] bK->I.cell h.n=o [[.int j x.kind,.int j x.n,v]]->I.cell (h.n+1)=o [[.int j 0,.int j 0,.aJ]]->I.cell (h.n+1+1)=o [[.int j x.kind,.int j fA,.aJ]]->(∀V E v,(jc V E [.cell J 3 3]).map ju=o v->(gq aQ x.l mq).2.2=0->(∃br,v= .agg br/\bZ (.mk x.kind fA (gq aQ x.l mq).2.1) br)->gx h ah al b E (gq aQ x.l mq).1->Q (o (.ret,V,E)))->(∀V E,(gq aQ x.l mq).2.2≠0->gx h ah al b E (gq aQ x.l mq).1->Q (o (.panic (.iface zz (.int j (gq aQ x.l mq).2.2)),V,E)))->Q (bB (aU aq aa) 11 (.eM HL::.bP []::.cu 0::[.bP [.ops [sT,EC],.ret]]) [.ptr m 0 0,.agg [.int j x.kind,.int j x.n,v],.ptr h.n 0 0,.ptr (h.n+1) 0 0,.ptr (h.n+1+1) 0 0,.aD,cz,v,.int j es.length,.int j 0,.aD] [] I):=by
    intro Q I mq fA bK cz TR H8 d1 d2 d3 hS gd;refine pN (λi V E=>∃b4 dU acc rows C bK b7 eG,V=[.ptr m 0 0,.agg [.int j x.kind,.int j x.n,v],.ptr h.n 0 0,.ptr (h.n+1) 0 0,.ptr (h.n+1+1) 0 0,b4,cz,v,.int j es.length,.int j (i:Nat),dU]/\b7.dg/\(hO h ah al b E b7 C bK/\h.n+1+1∈C/\h.n+1∈C/\h.n∈C)/\E.cell (h.n+1)=o [[.int j 0,.int j 0,.aJ]]/\E.cell (h.n+1+1)=o [[.int j x.kind,.int j fA,acc]]/\t' bO bK E acc rows/\dk eG rows/\rows.length=i/\gq aQ x.l mq=((gq aQ (x.l.drop i) b7).1,eG++(gq aQ (x.l.drop i) b7).2.1,(gq aQ (x.l.drop i) b7).2.2)) x.l.length ⟨_,_,_,[],_,bK,mq,[],rfl,TR,⟨H8,by simp,by simp,by simp⟩,d2,d3,.inl ⟨rfl,rfl⟩,rfl,rfl,rfl⟩ ?_ ?_
    ·rintro i V E af ⟨b4,dU,acc,rows,C,bK,b7,eG,rfl,kn,⟨a8,cO,c8,hK⟩,bD,cl,aV,au,CP,aX⟩ next
     have ba:(i:Int)<(es.length:Int):=by rw[aA];omega
     obtain⟨y,bH⟩:=tV af;obtain⟨q,i1,g6,cb⟩:=fv i y bH;obtain⟨bz,bG⟩:=cb.one;have hw:=ew (n:=(i:Int)+1) (by omega) (by omega);have H9:=a8.push [q];have kY:(E.push [q]).cell m=o [[.ptr b 0 0,cT]]:=(H9.fF hm dJ).trans an;have gm:(E.push [q]).cell (h.n+1)=o [[.int j 0,.int j 0,.aJ]]:=(hp (a8.lt c8)).trans bD;have iu:(E.push [q]).cell (h.n+1+1)=o [[.int j x.kind,.int j fA,acc]]:=(hp (a8.lt cO)).trans cl;have H':t' bO bK (E.push [q]) acc rows:=aV;obtain⟨R,⟨bQ,ay,bL⟩,oO,cF,cA,dK⟩:=H9.Nh (cJ:=λR=>∃bQ,aU aq aa 128 [.ptr m 0 0,.agg q] (E.push [q])=o (bQ,R)/\H7 aQ b7 y bQ) (b7:=(fw aQ y b7).1) λdZ eh cf H6 _=>by obtain⟨bQ,R,ay,bL,d2⟩:=aR y (by have:=ax.nB (oK bH);omega) (by have:=ax.ql (oK bH);omega) q (E.push [q]) dZ eh b7 cf kn (by have:=a8.n;simp only[eC];omega) (H6 m hm dJ) kY cb;exact⟨R,⟨bQ,ay,bL⟩,d2⟩
     rw[ahr bH,ahq]at aX;have f2:R.cell (h.n+1)=o [[.int j 0,.int j 0,.aJ]]:=(cF _ (by simp[c8])).trans gm;have f3:R.cell (h.n+1+1)=o [[.int j x.kind,.int j fA,acc]]:=(cF _ (by simp[cO])).trans iu;rcases bL with⟨aB,br,rfl,dF⟩|⟨aB,rfl⟩
     ·rw[if_neg (by simp[aB])]at aX;obtain⟨et,e8⟩:=dF.one;obtain⟨k0,aj,TS,be,aP,CQ,bl,cr⟩:=ahl (e:=bO) oO (H'.g9 dK) (row:=br) et (by rw[CP];omega);obtain⟨pU,wP⟩:=aP.cell;rw[cy HL.eq_1];simp only[ao,ar,av,ap,b2,ba,i1,g6,bz,bG,iu,ay,f3,et,e8,be,bl,pU,wP,hw];refine next _ _ ⟨_,_,_,_,_,TS,_,eG++[(fw aQ y b7).2.1],rfl,GB aQ y b7 kn,⟨CQ.set (by simp[cO]) _,by simp[cO],by simp[c8],by simp[hK]⟩,?_,lc,aP.g9 λ_ _=>rfl,au.append dF,by simp[CP],?_⟩
      ·rw[eN (by omega),bl];exact f2
      ·rw[aX];simp
     ·rw[if_pos aB]at aX;rw[cy HL.eq_1];simp only[ao,ar,av,ap,b2,ba,i1,g6,bz,bG,iu,ay];have bR:(gq aQ x.l mq).2.2=(fw aQ y b7).2.2:=by rw[aX]
      have bQ:(gq aQ x.l mq).1=(fw aQ y b7).1:=by rw[aX]
      rw[<-bR]at aB ⊢;exact gd _ _ aB (by rw[bQ];exact oO.tZ)
    ·rintro V E ⟨b4,dU,acc,rows,C,bK,b7,eG,rfl,kn,⟨a8,cO,c8,hK⟩,bD,cl,aV,au,CP,aX⟩;have ba:¬((x.l.length:Int)<(es.length:Int)):=by rw[aA];omega
     rw[wN]at aX;simp only[gq,ou]at aX;obtain⟨pU,wP⟩:=aV.cell;rw[cy HL.eq_1];simp only[ao,ar,av,ap,b2,ba,cl,bD,pU];refine hS _ _ (.agg [.int j x.kind,.int j fA,acc]) (by simp only[ao,ho,fG,i3,du,ua,List.getD_cons_succ]) ?_ ⟨_,rfl,?_⟩ ?_
     ·rw[aX]
     ·rw[aX];exact bZ.mk (x:=.mk x.kind fA eG) aV.EA au
     ·rw[aX];exact(a8.set c8 _).tZ
   have nD:=((hO.start g).push [[.int j x.kind,.int j x.n,v]]).push [[.int j 0,.int j 0,.aJ]];have cO:=nD.push [[.int j x.kind,.int j x.n,.aJ]];have lV:(((h.push [[.int j x.kind,.int j x.n,v]]).push [[.int j 0,.int j 0,.aJ]]).push [[.int j x.kind,.int j x.n,.aJ]]).cell m=o [[.ptr b 0 0,cT]]:=(cO.fF hm dJ).trans an;refine adq (sN:=λq E=>H7 aQ G x q/\gx h ah al b E (fw aQ x G).1) asH rfl λQ hS gd=>?_;unfold afV;by_cases aH:x.kind=4
   ·have bA:iU aQ G x.kind x.n=hr aQ G x.n:=by rw[iU,if_pos aH]
    rw[bA]at ht;rw[aH]at cO lV rest;obtain⟨R,⟨bQ,ay,bL⟩,oO,cF,cA,dK⟩:=cO.Nh (cJ:=λR=>∃bQ,aU aq aa 146 [.ptr m 0 0,.int j x.n] _=o (bQ,R)/\TQ aQ G x.n bQ) (b7:=(hr aQ G x.n).1) λdZ eh cf H6 _=>by obtain⟨bQ,R,ay,bL,d2⟩:=auT cf ck (by simp only[eC];omega) (H6 m hm dJ) lV a5 ab x.n;exact⟨R,⟨bQ,ay,bL⟩,d2⟩
    have f1:R.cell h.n=o [[.int j 4,.int j x.n,v]]:=(cF _ (by simp[eC])).trans tF;have f2:R.cell (h.n+1)=o [[.int j 0,.int j 0,.aJ]]:=(cF _ (by simp[eC])).trans wd;have f3:R.cell (h.n+1+1)=o [[.int j 4,.int j x.n,.aJ]]:=(cF _ (by simp[eC])).trans wc;rw[aH]at ht;rcases bL with⟨aB,rfl⟩|⟨aB,rfl⟩
    ·rw[if_neg (by simp[aB])]at ht;simp only[ao,ar,av,ap,bY,Z,aH,ay,f1,f3,eN (show h.n≠h.n+1+1 by omega),eL.len,eL.fits];refine rest Q _ (hr aQ G x.n).1 (hr aQ G x.n).2.1 _ _ (abK aQ G x.n ck) (oO.set (by simp[eC]) _) ?_ ?_ lc (λV E a' e lX au bg=>?_) (λV E lX bg=>?_)
     ·rw[eN (by omega)];exact f1
     ·rw[eN (by omega)];exact f2
     ·obtain⟨br,rfl,au⟩:=au;rw[if_neg (by simp[lX])]at ht;refine hS _ _ _ e ⟨.inl ⟨by rw[ht],br,rfl,by rw[ht];exact au⟩,by rw[ht];exact bg⟩
     ·rw[if_pos lX]at ht;refine gd _ _ _ ⟨.inr ⟨by rw[ht];exact lX,by rw[ht]⟩,by rw[ht];exact bg⟩
    ·rw[if_pos aB]at ht;simp only[ao,ar,av,ap,bY,Z,aH,ay];refine gd _ _ _ ⟨.inr ⟨by rw[ht];exact aB,by rw[ht]⟩,by rw[ht];exact oO.tZ⟩
   ·have bA:iU aQ G x.kind x.n=(G,x.n,0):=by rw[iU,if_neg aH]
    rw[bA]at ht;rw[if_neg (by simp)]at ht;simp only[ao,ar,av,ap,bY,Z,aH,eL.len,eL.fits];refine rest Q _ G x.n _ _ ck cO tF wd wc (λV E a' e lX au bg=>?_) (λV E lX bg=>?_)
    ·obtain⟨br,rfl,au⟩:=au;rw[if_neg (by simp[lX])]at ht;refine hS _ _ _ e ⟨.inl ⟨by rw[ht],br,rfl,by rw[ht];exact au⟩,by rw[ht];exact bg⟩
    ·rw[if_pos lX]at ht;refine gd _ _ _ ⟨.inr ⟨by rw[ht];exact lX,by rw[ht]⟩,by rw[ht];exact bg⟩
theorem fD:bZ ce [.int j 0,.int j 0,.aJ]:=by simp only[ce,bZ];exact⟨_,[],rfl,.inl ⟨rfl,rfl⟩,rfl⟩
theorem auX(a5:gB 3 cT (eI aQ))(ab:aQ.length<=1000000):∀(N:Nat) (x:ax),lz x<=N->x.size<=100000->∀(r:List F) (h:ai) (ah al:Nat->Prop) (G:aI),fm h ah al b G->G.dg->bZ x r->∃v E,aU aq aa 156 [.ptr b 0 0,.agg r,cT] h=o (.inl v,E)/\((∃br,v= .bS [.agg br,.int j (fw aQ x G).2.2]/\bZ (fw aQ x G).2.1 br)/\gx h ah al b E (fw aQ x G).1):=by
 intro N;induction N with
 |zero=>intro x aF;have:=x.m';omega
 |succ N aR=>
   intro x aF fa r h ah al G g ck he;obtain⟨v,es,rfl,eL,Z,aA,fv⟩:=he.facts;have hlen:=x.q5;have ht:=KM aQ x G;have Ia:=a5.len;have CR:=a5.fits;rw[fM]at Ia;have rest:∀(Q:mi->Prop) (I:ai) (mq:aI) (fA:Int) (bK:List Nat) (c7 dz eD dU j5 ph nJ:F),mq.dg->hO h ah al b I mq [h.n+1+1,h.n+1,h.n] bK->I.cell h.n=o [[.int j x.kind,.int j x.n,v]]->I.cell (h.n+1)=o [[.int j 0,.int j 0,.aJ]]->I.cell (h.n+1+1)=o [[.int j x.kind,.int j fA,.aJ]]->(∀V E v,(jc V E [.cell J 3 4,.v 5]).map ju=o v->(∃br,v= .bS [.agg br,.int j (gq aQ x.l mq).2.2]/\bZ (if(gq aQ x.l mq).2.2≠0 then ce else .mk x.kind fA (gq aQ x.l mq).2.1) br)->gx h ah al b E (gq aQ x.l mq).1->Q (o (.ret,V,E)))->Q (bB (aU aq aa) 19 (.eM HN::.bP []::.cu 2::[.bP [.ops [tJ,wF,pJ],.ret]]) [.ptr b 0 0,.agg [.int j x.kind,.int j x.n,v],cT,.ptr h.n 0 0,.ptr (h.n+1) 0 0,.int j 0,.ptr (h.n+1+1) 0 0,c7,dz,eD,dU,.int j 0,.aD,.aD,j5,ph,nJ,.aD,.aD] [] I):=by
    intro Q I mq fA bK c7 dz eD dU j5 ph nJ TR H8 d1 d2 d3 hS;refine pN (λi V E=>∃gy g5 oL oM acc rows C bK b7 eG,V=[.ptr b 0 0,.agg [.int j x.kind,.int j x.n,v],cT,.ptr h.n 0 0,.ptr (h.n+1) 0 0,.int j 0,.ptr (h.n+1+1) 0 0,c7,dz,eD,dU,.int j (i:Nat),gy,g5,j5,ph,nJ,oL,oM]/\b7.dg/\(hO h ah al b E b7 C bK/\h.n+1+1∈C/\h.n+1∈C/\h.n∈C)/\(E.cell h.n=o [[.int j x.kind,.int j x.n,v]]/\E.cell (h.n+1)=o [[.int j 0,.int j 0,.aJ]])/\E.cell (h.n+1+1)=o [[.int j x.kind,.int j fA,acc]]/\t' bO bK E acc rows/\dk eG rows/\rows.length=i/\gq aQ x.l mq=((gq aQ (x.l.drop i) b7).1,eG++(gq aQ (x.l.drop i) b7).2.1,(gq aQ (x.l.drop i) b7).2.2)) x.l.length ⟨_,_,_,_,_,[],_,bK,mq,[],rfl,TR,⟨H8,by simp,by simp,by simp⟩,⟨d1,d2⟩,d3,.inl ⟨rfl,rfl⟩,rfl,rfl,rfl⟩ ?_ ?_
    ·rintro i V E af ⟨gy,g5,oL,oM,acc,rows,C,bK,b7,eG,rfl,kn,⟨a8,cO,c8,hK⟩,⟨aW,bD⟩,cl,aV,au,CP,aX⟩ next
     have ba:(i:Int)<(es.length:Int):=by rw[aA];omega
     obtain⟨y,bH⟩:=tV af;obtain⟨q,i1,g6,cb⟩:=fv i y bH;have hw:=ew (n:=(i:Int)+1) (by omega) (by omega);obtain⟨R,⟨b6,ay,br,rfl,dF⟩,oO,cF,cA,dK⟩:=a8.call (cJ:=λR=>∃b6,aU aq aa 156 [.ptr b 0 0,.agg q,cT] E=o (.inl b6,R)/\∃br,b6= .bS [.agg br,.int j (fw aQ y b7).2.2]/\bZ (fw aQ y b7).2.1 br) (b7:=(fw aQ y b7).1) λdZ eh cf=>by obtain⟨b6,R,ay,bL,d2⟩:=aR y (by have:=ax.nB (oK bH);omega) (by have:=ax.ql (oK bH);omega) q E dZ eh b7 cf kn cb;exact⟨R,⟨b6,ay,bL⟩,d2⟩
     rw[ahr bH,ahq]at aX;obtain⟨et,e8⟩:=dF.one;have f1:R.cell h.n=o [[.int j x.kind,.int j x.n,v]]:=(cF _ hK).trans aW;have f2:R.cell (h.n+1)=o [[.int j 0,.int j 0,.aJ]]:=(cF _ c8).trans bD;have f3:R.cell (h.n+1+1)=o [[.int j x.kind,.int j fA,acc]]:=(cF _ cO).trans cl;have H9:=oO.push [br];have dB:(R.push [br]).cell h.n=o [[.int j x.kind,.int j x.n,v]]:=(hp (oO.lt hK)).trans f1;have gm:(R.push [br]).cell (h.n+1)=o [[.int j 0,.int j 0,.aJ]]:=(hp (oO.lt c8)).trans f2;have iu:(R.push [br]).cell (h.n+1+1)=o [[.int j x.kind,.int j fA,acc]]:=(hp (oO.lt cO)).trans f3;by_cases aB:(fw aQ y b7).2.2=0
     ·rw[if_neg (by simp[aB])]at aX;have H':t' bO bK (R.push [br]) acc rows:=aV.g9 dK;obtain⟨k0,aj,TS,be,aP,CQ,bl,cr⟩:=ahl (e:=bO) H9 H' (row:=br) et (by rw[CP];omega);simp only[v']at be;obtain⟨pU,wP⟩:=aP.cell;rw[aB]at ay;rw[cy HN.eq_1];simp only[ao,ar,av,ap,b2,aW,eL.len,eL.fits,ba,i1,g6,ay,et,e8,gA e8,iu,be,bl,pU,wP,hw];refine next _ _ ⟨_,_,_,_,_,_,_,TS,_,eG++[(fw aQ y b7).2.1],rfl,GB aQ y b7 kn,⟨CQ.set (by simp[cO]) _,by simp[cO],by simp[c8],by simp[hK]⟩,⟨?_,?_⟩,lc,aP.g9 λ_ _=>rfl,au.append dF,by simp[CP],?_⟩
      ·rw[eN (by omega),bl];exact dB
      ·rw[eN (by omega),bl];exact gm
      ·rw[aX];simp
     ·rw[if_pos aB]at aX;have bR:(gq aQ x.l mq).2.2=(fw aQ y b7).2.2:=by rw[aX]
      have bQ:(gq aQ x.l mq).1=(fw aQ y b7).1:=by rw[aX]
      rw[cy HN.eq_1];simp only[ao,ar,av,ap,b2,aW,eL.len,eL.fits,ba,i1,g6,ay,et,e8,aB,gm];refine hS _ _ (.bS [.agg [.int j 0,.int j 0,.aJ],.int j (fw aQ y b7).2.2]) (by simp only[ao,ar]) ⟨_,by rw[bR],?_⟩ ?_
      ·rw[if_pos (by rw[bR];exact aB)];exact fD
      ·rw[bQ];exact(H9.set (by simp[c8]) _).tZ
    ·rintro V E ⟨gy,g5,oL,oM,acc,rows,C,bK,b7,eG,rfl,kn,⟨a8,cO,c8,hK⟩,⟨aW,bD⟩,cl,aV,au,CP,aX⟩;have ba:¬((x.l.length:Int)<(es.length:Int)):=by rw[aA];omega
     rw[wN]at aX;simp only[gq,ou]at aX;obtain⟨pU,wP⟩:=aV.cell;rw[cy HN.eq_1];simp only[ao,ar,av,ap,b2,aW,eL.len,eL.fits,ba,cl,bD,pU];refine hS _ _ (.bS [.agg [.int j x.kind,.int j fA,acc],.int j 0]) (by simp only[ao,ar]) ⟨_,by rw[aX],?_⟩ ?_
     ·rw[aX];exact bZ.mk (x:=.mk x.kind fA eG) aV.EA au
     ·rw[aX];exact(a8.set c8 _).tZ
   have cO:=(((hO.start g).push [[.int j x.kind,.int j x.n,v]]).push [[.int j 0,.int j 0,.aJ]]).push [[.int j x.kind,.int j x.n,.aJ]];refine adp (cJ:=λv E=>(∃br,v= .bS [.agg br,.int j (fw aQ x G).2.2]/\bZ (fw aQ x G).2.1 br)/\gx h ah al b E (fw aQ x G).1) asI rfl λQ hS=>?_;unfold af2;by_cases aH:x.kind=4
   ·have bA:iU aQ G x.kind x.n=hr aQ G x.n:=by rw[iU,if_pos aH]
    rw[bA]at ht;rw[aH]at cO rest ht;simp only[ao,ar,av,ap,bY,Z,aH];refine pN (λi V E=>∃eD dU ph nJ b7 cj,V=[.ptr b 0 0,.agg [.int j 4,.int j x.n,v],cT,.ptr h.n 0 0,.ptr (h.n+1) 0 0,.int j 0,.ptr (h.n+1+1) 0 0,.int j cj,.int j (i:Nat),eD,dU,.aD,.aD,.aD,.bool J,ph,nJ,.aD,.aD]/\b7.dg/\hO h ah al b E b7 [h.n+1+1,h.n+1,h.n] []/\(E.cell h.n=o [[.int j 4,.int j x.n,v]]/\E.cell (h.n+1)=o [[.int j 0,.int j 0,.aJ]]/\E.cell (h.n+1+1)=o [[.int j 4,.int j x.n,.aJ]])/\hr (aQ.drop i) b7 cj=hr aQ G x.n) aQ.length ⟨_,_,_,_,G,x.n,rfl,ck,cO,⟨tF,wd,wc⟩,rfl⟩ ?_ ?_
    ·rintro i V E af ⟨eD,dU,ph,nJ,b7,cj,rfl,kn,a8,⟨aW,bD,cl⟩,aX⟩ next
     have ba:(i:Int)<(aQ.length:Int):=by omega
     have hw:=ew (n:=(i:Int)+1) (by omega) (by omega);obtain⟨k,jZ⟩:∃k,aQ[i]? =o k:=⟨_,fT af⟩;have i1:=a5.bJ j i [.int j k] (by simp[jZ]);have bg:aQ.drop i=k::aQ.drop (i+1):=by obtain⟨fb,rfl⟩:=fO.1 jZ;exact wM fb
     obtain⟨R,ay,oO,cF, -, -⟩:=a8.call λah al g=>TN g kn cj 15 k;rw[bg,aho]at aX;have f1:R.cell h.n=o [[.int j 4,.int j x.n,v]]:=(cF _ (by simp)).trans aW;have f2:R.cell (h.n+1)=o [[.int j 0,.int j 0,.aJ]]:=(cF _ (by simp)).trans bD;have f3:R.cell (h.n+1+1)=o [[.int j 4,.int j x.n,.aJ]]:=(cF _ (by simp)).trans cl;by_cases aB:(b7.derive cj 15 k).2.2=0
     ·rw[if_neg (by simp[aB])]at aX;rw[aB]at ay;rw[cy ME.eq_1];simp only[ao,ar,av,ap,b2,Ia,CR,ba,i1,ay,hw];exact next _ _ ⟨_,_,_,_,_,_,rfl,kn.derive _ _ _,oO,⟨f1,f2,f3⟩,aX⟩
     ·rw[if_pos aB]at aX;have lX:(hr aQ G x.n).2.2≠0:=by rw[<-aX];exact aB
      rw[if_pos lX]at ht;rw[cy ME.eq_1];simp only[ao,ar,av,ap,b2,Ia,CR,ba,i1,ay,aB,f2];refine hS _ _ (.bS [.agg [.int j 0,.int j 0,.aJ],.int j (b7.derive cj 15 k).2.2]) (by simp only[ao,ar]) ⟨⟨_,by rw[ht,<-aX],?_⟩,?_⟩
      ·rw[ht];exact fD
      ·rw[ht,<-aX];exact(oO.set (by simp) _).tZ
    ·rintro V E ⟨eD,dU,ph,nJ,b7,cj,rfl,kn,a8,⟨aW,bD,cl⟩,aX⟩;have ba:¬(aQ.length:Int)<(aQ.length:Int):=by omega
     rw[wN]at aX;have aB:(hr aQ G x.n).2.2=0:=by rw[<-aX];rfl
     have pB:(hr aQ G x.n).2.1=cj:=by rw[<-aX];rfl
     have TT:(hr aQ G x.n).1=b7:=by rw[<-aX];rfl
     rw[if_neg (by simp[aB]),TT,pB]at ht;rw[cy ME.eq_1];simp only[ao,ar,av,ap,bY,b2,Ia,CR,ba,cl];refine rest Q _ b7 cj _ _ _ _ _ _ _ _ kn (a8.set (by simp) _) ?_ ?_ lc (λV cP a' e au bg=>?_)
     ·rw[eN (by omega)];exact aW
     ·rw[eN (by omega)];exact bD
     ·obtain⟨br,rfl,au⟩:=au;by_cases lX:(gq aQ x.l b7).2.2=0
      ·rw[if_neg (by simp[lX])]at au ht;exact hS _ _ _ e ⟨⟨br,by rw[ht,lX],by rw[ht];exact au⟩,by rw[ht];exact bg⟩
      ·rw[if_pos lX]at au ht;exact hS _ _ _ e ⟨⟨br,by rw[ht],by rw[ht];exact au⟩,by rw[ht];exact bg⟩
   ·have bA:iU aQ G x.kind x.n=(G,x.n,0):=by rw[iU,if_neg aH]
    rw[bA]at ht;rw[if_neg (by simp)]at ht;simp only[ao,ar,av,ap,bY,Z,aH];refine rest Q _ G x.n _ _ _ _ _ _ _ _ ck cO tF wd wc (λV cP a' e au bg=>?_);obtain⟨br,rfl,au⟩:=au;by_cases lX:(gq aQ x.l G).2.2=0
    ·rw[if_neg (by simp[lX])]at au ht;exact hS _ _ _ e ⟨⟨br,by rw[ht,lX],by rw[ht];exact au⟩,by rw[ht];exact bg⟩
    ·rw[if_pos lX]at au ht;exact hS _ _ _ e ⟨⟨br,by rw[ht],by rw[ht];exact au⟩,by rw[ht];exact bg⟩
theorem auY(a5:gB 3 cT (eI aQ))(ab:aQ.length<=1000000){r:List F}(g:fm h ah al b G)(ck:G.dg)(aF:bZ x r):∃E,(∃br,aU aq aa 140 [.ptr b 0 0,.agg r,cT] h=o (.inl (.bS [.agg br,.int j (fg aQ G x).2.2]),E)/\bZ (fg aQ G x).2.1 br)/\gx h ah al b E (fg aQ G x).1:=by
 obtain⟨bz,bG⟩:=aF.one;have cO:=((hO.start g).push [r]).push [[.int j 0,.int j 0,.aJ]];obtain⟨dZ,eh,cf⟩:=cO.ahk;have aw:=auV cf ck aF;suffices key:∃v E,aU aq aa 140 [.ptr b 0 0,.agg r,cT] h=o (.inl v,E)/\((∃br,v= .bS [.agg br,.int j (fg aQ G x).2.2]/\bZ (fg aQ G x).2.1 br)/\gx h ah al b E (fg aQ G x).1) by obtain⟨_,E,e,⟨br,rfl,R⟩,aj⟩:=key;exact⟨E,⟨br,e,R⟩,aj⟩
 refine adp (cJ:=λv E=>(∃br,v= .bS [.agg br,.int j (fg aQ G x).2.2]/\bZ (fg aQ G x).2.1 br)/\gx h ah al b E (fg aQ G x).1) asJ rfl λQ hS=>?_;unfold af3;by_cases aB:qo G x=0
 ·have aV:fg aQ G x=fw aQ x G:=by rw[fg,if_neg (by simp[aB])]
  rw[aV]at hS;rw[aB]at aw;have aC:x.size<=100000:=by
   have:x.code=0:=by
    unfold qo at aB;split at aB
    ·exact aB
    ·rename_i an;simpa using an
   have:=Ni this;omega
  obtain⟨R,⟨b6,ay,br,rfl,dF⟩,oO,cF,cA,dK⟩:=cO.call (cJ:=λR=>∃b6,aU aq aa 156 [.ptr b 0 0,.agg r,cT] _=o (.inl b6,R)/\∃br,b6= .bS [.agg br,.int j (fw aQ x G).2.2]/\bZ (fw aQ x G).2.1 br) (b7:=(fw aQ x G).1) λdZ eh cf=>by obtain⟨b6,R,ay,bL,d2⟩:=auX a5 ab _ x (b9 _) aC r _ dZ eh G cf ck aF;exact⟨R,⟨b6,ay,bL⟩,d2⟩
  have f2:R.cell (h.n+1)=o [[.int j 0,.int j 0,.aJ]]:=(cF _ (by simp[eC])).trans uZ;obtain⟨et,e8⟩:=dF.one;simp only[ao,ar,av,ap,bz,bG,gA bG,aw,ay,et,e8,f2];exact hS _ _ (.bS [.agg br,.int j (fw aQ x G).2.2]) (by simp only[ao,gA e8]) ⟨⟨_,rfl,dF⟩,(oO.set (by simp[eC]) _).tZ⟩
 ·have aV:fg aQ G x=(G,ce,qo G x):=by rw[fg,if_pos aB]
  rw[aV]at hS;simp only[ao,ar,av,ap,bz,bG,gA bG,aw,aB];exact hS _ _ (.bS [.agg [.int j 0,.int j 0,.aJ],.int j (qo G x)]) (by simp only[ao,ar]) ⟨⟨_,rfl,fD⟩,cO.tZ⟩
end
def CS(bF a0 bp:Nat)(left:Int):cc:=a1 bF [[.ptr a0 0 0,.bw bp 0 0 gr,.int j left]]
section
variable{h E ak:ai}{ah al aO aL:Nat->Prop}{L:List cc}{bF a0 bp:Nat}{left:Int}{below:List jq}{top:jq}
theorem TU:∀{rs:List (List F)} {dN:List jq} {r:List F} {f:jq} {h:ai} {ah al:Nat->Prop},rs.length=dN.length->((tN (rs++[r]) (dN++[f])).A h ah al↔(ij (Ci r f) (tN rs dN)).A h ah al)
 |[],[],r,f,h,ah,al,_=>n0
 |q::rs,g::dN,r,f,h,ah,al,am=>by
   have aR:∀{h:ai} {ah al:Nat->Prop},(tN (rs++[r]) (dN++[f])).A h ah al↔(ij (Ci r f) (tN rs dN)).A h ah al:=TU (by simpa using am);constructor
   ·intro x;exact xI (r2 (λ_ _ _ y=>y) (λ_ _ _ y=>aR.1 y) x)
   ·intro x;exact r2 (λ_ _ _ y=>y) (λ_ _ _ y=>aR.2 y) (xI x)
 |[],_::_,_,_,_,_,_,am=>by simp at am
 |_::_,[],_,_,_,_,_,am=>by simp at am
structure TV(h:ai)(bF a0 bp:Nat)(left:Int)(below:List jq)(top:jq)(a:List F)(dS aZ g:F):Prop where
 m:h.cell bF=o [[.ptr a0 0 0,.bw bp 0 (below.length+1) gr,.int j left]]
 aDS:bF<h.n
 rd:∀(n D:Nat) (v:F),(hI top a dS aZ g)[D]? =o v->cR U n h (.ptr bp below.length D)=o v
 arg:cR J 3 h (.ptr bp below.length 3)=o (.agg a)
 all:cR J 10 h (.ptr bp below.length 0)=o (.agg (hI top a dS aZ g))
 aV:bZ top.arg a
 a5:e9 3 g (eI top.eU)
 dS:dS.one=J/\dS.cells=[dS]/\hX dS=o top.stack.length/\∀s,kE s (o bO) dS=J
 aZ:aZ.one=J/\aZ.cells=[aZ]/\hX aZ=o top.names.length/\(∀s,kE s (o bO) aZ=J)/\∀(q:gZ) (i:Nat) (y:ax),top.names[i]? =o y->∃p r,dY (o bO) ag aZ (.int q (i:Int))=o p/\cR J 3 h p=o (.agg r)/\bZ y r
 auZ:bp<h.n
theorem qF(fB:aN ak aO aL h L)(i:Nat)(af:L[i]? =o (jO bF a0 bp left below top)):∃a dS aZ g,TV h bF a0 bp left below top a dS aZ g:=by
 obtain⟨ah,al,x⟩:=fB.get i af;obtain⟨rs,ex,a,dS,aZ,g,hn,aV,a5,s⟩:=Ck x;have bR:=(s.cell 1 rfl).1;have jC:=pS top a dS aZ g aV.cV.1;obtain⟨eJ,eK,cb⟩:=s.get 2 rfl;obtain⟨dZ,eh,dF⟩:=s.get 3 rfl;have bx:=Cn cb;have bL:=Cn dF;refine⟨a,dS,aZ,g,(s.cell 0 rfl).1,(s.cell 0 rfl).2,λn D v Z=>HQ bR hn Z,?_,?_,aV,a5,⟨bx.1,bx.2.1,bx.2.2.1,bx.2.2.2.1⟩,bL,(s.cell 1 rfl).2⟩
 ·rw[gb,bR,du,HP hn,du];unfold fZ;rw[if_pos rfl,if_pos (by rw[jC.2.1];decide)]
  match a,aV.cV.1 with
  |[x,y,z],_=>rfl
 ·rw[gb,bR,du,HP hn,du];exact gA jC.2.1
theorem TW(fB:aN ak aO aL h L)(i:Nat)(af:L[i]? =o (jO bF a0 bp left below top))(bU:Nat):∃E,e0 1 h (.ptr bp below.length 2) (.int j (bU:Int))=o E/\aN ak aO aL E (L.set i (jO bF a0 bp left below {top with bU:=bU})):=by refine fB.call (cJ:=λE=>e0 1 h (.ptr bp below.length 2) (.int j (bU:Int))=o E) i af λah al x=>?_;obtain⟨rs,ex,a,dS,aZ,g,hn,aV,a5,s⟩:=Ck x;have jC:=pS top a dS aZ g aV.cV.1;have au:(hI top a dS aZ g).set 2 (.int j (bU:Int))=hI {top with bU:=bU} a dS aZ g:=rfl;have bd:=s.set 1 rfl (rs++hI {top with bU:=bU} a dS aZ g::ex);exact⟨_,ML (s.cell 1 rfl).1 hn rfl rfl (by rw[jC.2.1];decide) au,EB (top:={top with bU:=bU}) aV a5 bd⟩
theorem au0(fB:aN ak aO aL h L)(i:Nat)(af:L[i]? =o (jO bF a0 bp left below top))(l:Int):∃E,e0 1 h (.ptr bF 0 2) (.int j l)=o E/\aN ak aO aL E (L.set i (jO bF a0 bp l below top)):=by refine fB.call (cJ:=λE=>e0 1 h (.ptr bF 0 2) (.int j l)=o E) i af λah al x=>?_;obtain⟨rs,ex,a,dS,aZ,g,hn,aV,a5,s⟩:=Ck x;have bd:=s.set 0 rfl [[.ptr a0 0 0,.bw bp 0 (below.length+1) gr,.int j l]];exact⟨_,lu (s.cell 0 rfl).1 rfl rfl rfl (by simp),EB aV a5 bd⟩
theorem ahs(f:jq)(a:List F)(s n g cj:F)(jg:List ax)(aV:a.length=3):(hI f a s n g).set 7 cj=hI {f with names:=jg} a s cj g:=by
 match a,aV with
 |[x,y,z],_=>rfl
theorem au1(fB:aN ak aO aL h L)(i:Nat)(af:L[i]? =o (jO bF a0 bp left below top)){jg:List ax}{v:ax}(aA:top.names=jg++[v]){a:List F}{dS aZ g:F}(Z:TV h bF a0 bp left below top a dS aZ g):∃nL E,ru aZ ag (o (.int j (jg.length:Int)))=o nL/\nL.one=J/\nL.cells=[nL]/\e0 1 h (.ptr bp below.length 7) nL=o E/\aN ak aO aL E (L.set i (jO bF a0 bp left below {top with names:=jg})):=by
 obtain⟨E,nL,⟨aw,ay,be,b1⟩,ek⟩:=fB.tO (cJ:=λE nL=>ru aZ ag (o (.int j (jg.length:Int)))=o nL/\nL.one=J/\nL.cells=[nL]/\e0 1 h (.ptr bp below.length 7) nL=o E) i af (Y:=λ_=>jO bF a0 bp left below {top with names:=jg}) λah al x=>by
  obtain⟨rs,ex,eR,A2,nL,fH,hn,aV,a5,s⟩:=Ck x;have jC:=pS top eR A2 nL fH aV.cV.1;have xZ:=HQ (n:=1) (s.cell 1 rfl).1 hn jC.2.2.1;have vp:=Z.rd 1 7 aZ (pS top a dS aZ g Z.aV.cV.1).2.2.1;rw[xZ]at vp;injection vp with vp;subst vp;obtain⟨eJ,eK,cb⟩:=s.get 3 rfl;rw[aA]at cb;obtain⟨b,ad⟩:=adR cb (by simp);rw[fz,hj]at ad;subst ad;have bd:=s.set 1 rfl (rs++hI {top with names:=jg} eR A2 (.bw b 0 jg.length bO) fH::ex);have aY:aN h ah al _ (G8 bF a0 bp left below {top with names:=jg} rs ex eR A2 (.bw b 0 jg.length bO) fH):=bd.adS 3 rfl λ_ _ _ x=>by rw[aA]at x;exact adQ x
  exact⟨_,.bw b 0 jg.length bO,⟨EQ (by omega),rfl,rfl,ML (s.cell 1 rfl).1 hn rfl rfl (by rw[jC.2.1];decide) (ahs _ _ _ _ _ _ jg aV.cV.1)⟩,EB (top:={top with names:=jg}) aV a5 aY⟩
 exact⟨nL,E,aw,ay,be,b1,ek⟩
theorem aht{b n:Nat}(x:(i5 (.bw b 0 n bO) l).A h ah al){i:Nat}(af:i<l.length){v:ax}{r:List F}(Z:bZ v r):∃E,e0 3 h (.ptr b i 0) (.agg r)=o E/\gJ h ah al E (i5 (.bw b 0 n bO) (l.set i v)):=by
 obtain⟨rows,am,x⟩:=x;have hlen:=am.len;rcases x with⟨⟨_,e⟩,_⟩|⟨⟨gl,es⟩,⟨e,I,R⟩,aP,a2,bl,cr⟩
 ·cases e
 ·injection e with aw _ ay _;simp only at aw I R aP bl cr;subst aw;have au2:i<rows.length:=by omega
  have JO:i<es.length:=by omega
  obtain⟨q,aX⟩:∃q,es[i]? =o q:=⟨_,fT JO⟩;have Ay:q.length=3:=by
   have bq:rows[i]? =o q:=by
    conv=>lhs;rw[R]
    rw[v1 au2];exact aX
   obtain⟨y,bH⟩:∃y,l[i]? =o y:=⟨_,fT af⟩;obtain⟨br,cq,de⟩:=am.get bH;rw[bq]at cq;injection cq with cq;rw[cq];exact de.cV.1
  have bW:dy q 0 r=r:=by unfold dy;rw[List.take_zero,l3,List.drop_of_length_le (by have:=Z.cV.1;omega),ou]
  have H2:∀{l:List ax} {rows:List (List F)} {i:Nat},dk l rows->i<l.length->dk (l.set i v) (rows.set i r):=by
   intro l;induction l with
   |nil=>intro rows i _ af;simp at af
   |cons y l aR=>
     intro rows i am af;obtain⟨hi,rs,rfl,bR,bQ⟩:=am;cases i with
     |zero=>exact⟨r,rs,rfl,Z,bQ⟩
     |succ i=>exact⟨hi,rs.set i r,rfl,bR,aR bQ (by simpa using af)⟩
  refine⟨_,lu (es:=es) (e:=q) cr aX Z.cV.2 Z.cV.1 (by omega),ah,al,⟨rows.set i r,H2 am af,.inr ⟨⟨b,es.set i r⟩,⟨by simp only[List.length_set,ay],by simpa using I,?_⟩,aP,a2,bl,?_⟩⟩,⟨b9 _,b9 _,λk _ ab=>eN λe=>ab ((aP k).2 e),λ_ _ _=>rfl⟩,λ_=>.inl,λ_=>.inl⟩
  ·simp only[List.length_set];rw[List.take_set]
   conv=>lhs;rw[R]
  ·simp only[F.cells,bW];exact lc
theorem ahu{n b i off:Nat}{h:ai}{r:List F}(aC:e0 n h (.ptr b i off) (.agg r)=o E):cR J n E (.ptr b i off)=o (.agg r):=by
 unfold e0 at aC;simp only[dX]at aC;obtain⟨es,R,e,aj,aH⟩:=aC;split at aH
 ·rename_i an;injection aH with aH;subst aH;have af:=(fO.1 aj).1;have bD:=an.2.1;simp only[F.cells]at bD;rw[gb,lc,du,List.getElem?_set_self af,du];have am:=BK e r off (by omega);simp only[F.cells,fZ,if_true];have:((dy e off r).drop off).take n=r:=by unfold dy;rw[kS,List.drop_left' (by simp;omega),List.take_left' bD]
  rw[this];exact if_pos (by omega)
 ·cases aH
theorem au3(fB:aN ak aO aL h L)(i:Nat)(af:L[i]? =o (jO bF a0 bp left below top)){v:ax}{r:List F}(Z:bZ v r)(am:top.names.length<=1000000){km:Nat}(aB:h.cell km=o [a3]){a:List F}{dS aZ g:F}(a8:TV h bF a0 bp left below top a dS aZ g):∃q I R aj,eH J bO aZ (.bw km 0 1 bO) h=o (.bw q 0 (top.names.length+1) bO,I)/\e0 3 I (.ptr q top.names.length 0) (.agg r)=o R/\e0 1 R (.ptr bp below.length 7) (.bw q 0 (top.names.length+1) bO)=o aj/\cR J 3 aj (.ptr q top.names.length 0)=o (.agg r)/\aN ak aO aL aj (L.set i (jO bF a0 bp left below {top with names:=top.names++[v]})):=by
 have BC:bZ ce a3:=fD;obtain⟨aj,⟨q,I,R⟩,⟨aw,ay,be,b1⟩,ek⟩:=fB.tO (cJ:=λaj (q:Nat×ai×ai)=>eH J bO aZ (.bw km 0 1 bO) h=o (.bw q.1 0 (top.names.length+1) bO,q.2.1)/\e0 3 q.2.1 (.ptr q.1 top.names.length 0) (.agg r)=o q.2.2/\e0 1 q.2.2 (.ptr bp below.length 7) (.bw q.1 0 (top.names.length+1) bO)=o aj/\cR J 3 aj (.ptr q.1 top.names.length 0)=o (.agg r)) i af (Y:=λ_=>jO bF a0 bp left below {top with names:=top.names++[v]}) λah al x=>by
  obtain⟨rs,ex,eR,A2,nL,fH,hn,aV,a5,s⟩:=Ck x;have jC:=pS top eR A2 nL fH aV.cV.1;have xZ:=HQ (n:=1) (s.cell 1 rfl).1 hn jC.2.2.1;have vp:=a8.rd 1 7 aZ (pS top a dS aZ g a8.aV.cV.1).2.2.1;rw[xZ]at vp;injection vp with vp;subst vp;obtain⟨I,aw,bd⟩:=s.app 3 rfl aB BC am;obtain⟨R,ay,aY⟩:=bd.call (cJ:=λR=>e0 3 I (.ptr h.n top.names.length 0) (.agg r)=o R) 3 rfl λah al x=>aht x (i:=top.names.length) (by simp) Z;rw[show(top.names++[ce]).set top.names.length v=top.names++[v] from RJ top.names [] ce v rfl]at aY;have st:=ML (v:=.bw h.n 0 (top.names.length+1) bO) (aY.cell 1 rfl).1 hn rfl rfl (by rw[jC.2.1];decide) (ahs _ _ _ _ _ _ (top.names++[v]) aV.cV.1);have bs:=aY.set 1 rfl (rs++hI {top with names:=top.names++[v]} eR A2 (.bw h.n 0 (top.names.length+1) bO) fH::ex);obtain⟨sP,sQ,h7⟩:=bs.get 3 rfl;obtain⟨p,br,dB,gm,iu⟩:=(Cn h7).2.2.2.2 j top.names.length v (adr top.names [] v rfl);refine⟨_,(h.n,I,R),⟨aw,ay,st,?_⟩,EB (top:={top with names:=top.names++[v]}) aV a5 bs⟩;obtain⟨xK,xL,hE⟩:=aY.get 3 rfl;have dw:bp≠h.n:=by have:=(s.cell 1 rfl).2;omega
  rw[gb,eN (mG dw),<-gb (agg:=J) (n:=3)];exact ahu ay
 exact⟨q,I,R,aj,aw,ay,be,b1,ek⟩
theorem TX(x:(jO bF a0 bp left below top).A h ah al):∃rs ex row,rs.length=below.length/\row.length=10/\row.all F.one=J/\aN h ah al h [a1 bF [[.ptr a0 0 0,.bw bp 0 (below.length+1) gr,.int j left]],a1 bp (rs++row::ex),Ci row top,tN rs below]:=by
 obtain⟨⟨rs,row,ex⟩,x⟩:=x;obtain⟨eJ,eK,dZ,eh,cb,⟨pe,pf,sP,sQ,gH,⟨xK,xL,Cl,Cm,hE,j4,xM⟩,ik⟩,bL⟩:=x;have au4:=hE;obtain⟨⟨a,s,n,g⟩,⟨e,aV,a5⟩,y⟩:=au4;simp only at e;have jC:=pS top a s n g aV.cV.1;obtain⟨_,_,_,_,fU,jV,_⟩:=y;have lS:g.one=J:=by have a5:e9 _ g _:=a5;rcases a5 with⟨_,rfl⟩|⟨id,rfl⟩<;>rfl
 refine⟨rs,ex,row,R3 j4,by rw[e];exact jC.2.1,by rw[e];exact MK aV.cV (Cn fU).1 (Cn jV).1 lS,aN.start ?_⟩;exact⟨eJ,eK,dZ,eh,cb,⟨pe,pf,sP,sQ,gH,⟨xK,xL,Cl,Cm,hE,cm.one j4,xM⟩,ik⟩,bL⟩
theorem ahv{rs ex:List (List F)}(s:aN ak aO aL h [a1 bF [[.ptr a0 0 0,.bw bp 0 (below.length+1) gr,.int j left]],a1 bp (rs++row::ex),Ci row top,tN rs below]):gJ ak aO aL h (jO bF a0 bp left below top):=gJ.imp (λ_ _ _ x=>by obtain⟨eJ,eK,dZ,eh,cb,⟨pe,pf,sP,sQ,gH,⟨xK,xL,Cl,Cm,hE,j4,xM⟩,ik⟩,bL⟩:=x;exact⟨⟨rs,row,ex⟩,eJ,eK,dZ,eh,cb,⟨pe,pf,sP,sQ,gH,⟨xK,xL,Cl,Cm,hE,cm.Cj j4,xM⟩,ik⟩,bL⟩) s
theorem ahw{a:List F}{g:F}(aV:bZ f.arg a)(a5:e9 3 g (eI f.eU))(aC:f.stack=[])(aA:f.names=[]):(Ci (hI f a .aJ .aJ g) f).A h (λ_=>False) (λ_=>False):=by
 have e:∀(l:List ax),l=[]->(i5 .aJ l).A h (λ_=>False) (λ_=>False):=λl am=>by subst am;exact⟨[],rfl,.inl ⟨⟨rfl,rfl⟩,λ_ h=>h,λ_ h=>h⟩⟩
 exact⟨⟨a,.aJ,.aJ,g⟩,⟨rfl,aV,a5⟩,λ_=>False,λ_=>False,λ_=>False,λ_=>False,e _ aC,e _ aA,λk=>by simp,λD=>by simp,λ_ h=>h.elim,λ_ h=>h.elim⟩
theorem aN.front{X:cc}(s:aN ak aO aL h L)(i:Nat)(af:L[i]? =o X):aN ak aO aL h (X::L.eraseIdx i):=s.imp λ_ _ _ x=>(cm.front af).1 x
theorem au5(fB:aN ak aO aL h L)(i:Nat)(af:L[i]? =o (jO bF a0 bp left below top)){a:List F}{g:F}(aV:bZ f.arg a)(a5:e9 3 g (eI f.eU))(aC:f.stack=[])(aA:f.names=[])(ad:below.length<=1000){km:Nat}(aB:h.cell km=o [hI f a .aJ .aJ g]):∃I R,eH J gr (.bw bp 0 (below.length+1) gr) (.bw km 0 1 gr) h=o (.bw h.n 0 (below.length+2) gr,I)/\e0 1 I (.ptr bF 0 1) (.bw h.n 0 (below.length+2) gr)=o R/\aN ak aO aL R (L.set i (jO bF a0 h.n left (below++[top]) f)):=by
 obtain⟨R,I,⟨aw,ay⟩,ek⟩:=fB.tO (cJ:=λR I=>eH J gr (.bw bp 0 (below.length+1) gr) (.bw km 0 1 gr) h=o (.bw h.n 0 (below.length+2) gr,I)/\e0 1 I (.ptr bF 0 1) (.bw h.n 0 (below.length+2) gr)=o R) i af (Y:=λ_=>jO bF a0 h.n left (below++[top]) f) λah al x=>by
  obtain⟨rs,ex,row,hn,ahx,aK,s⟩:=TX x;have aW:=(s.cell 1 rfl).1;have jC:=pS f a .aJ .aJ g aV.cV.1;have lS:g.one=J:=by rcases a5 with⟨_,rfl⟩|⟨id,rfl⟩<;>rfl
  have qS:([hI f a .aJ .aJ g].all λx=>x.all F.one)=J:=by simp only[qa,List.all_nil,rN];exact MK aV.cV rfl rfl lS
  have Nf:(rs++row::ex).take (below.length+1)=rs++[row]:=by rw[<-hn,List.take_append];simp[List.take_of_length_le (Nat.le_succ rs.length)]
  have H':eH J gr (.bw bp 0 (below.length+1) gr) (.bw km 0 1 gr) h=o (.bw h.n 0 (below.length+2) gr,(h.set bp ag).push (rs++[row]++[hI f a .aJ .aJ g])):=by
   have he:js h gr (.bw km 0 1 gr)=o [hI f a .aJ .aJ g]:=by simp[js,aB]
   simp only[eH,he,du,hj];rw[if_neg (by decide)];simp only[kA,aW,du];rw[if_pos ⟨by simp,by simp,qS⟩,if_pos ⟨trivial,trivial,by omega⟩,if_pos (by simp;omega),Nf];rfl
  have bd:=s.del 1 rfl;have aY:=bd.push (rs++[row]++[hI f a .aJ .aJ g]);have px:(h.set bp ag).n=h.n:=rfl;have st:e0 1 ((h.set bp ag).push (rs++[row]++[hI f a .aJ .aJ g])) (.ptr bF 0 1) (.bw h.n 0 (below.length+2) gr)=o (((h.set bp ag).push (rs++[row]++[hI f a .aJ .aJ g])).set bF (o [[.ptr a0 0 0,.bw h.n 0 (below.length+2) gr,.int j left]])):=lu (n:=1) (i:=0) (x:=.bw h.n 0 (below.length+2) gr) (off:=1) (e:=[.ptr a0 0 0,.bw bp 0 (below.length+1) gr,.int j left]) (aY.cell 1 rfl).1 rfl rfl rfl (by simp);have bs:=aY.set 1 rfl [[.ptr a0 0 0,.bw h.n 0 (below.length+2) gr,.int j left]];refine⟨_,_,⟨H',st⟩,ahv (rs:=rs++[row]) (ex:=[]) (row:=hI f a .aJ .aJ g) ?_⟩;rw[fz,hj];have bE:=(bs.front 2 rfl).drop;have b3:aN _ _ _ _ [tN (rs++[row]) (below++[top]),a1 h.n (rs++[row]++[hI f a .aJ .aJ g]),a1 bF [[.ptr a0 0 0,.bw h.n 0 (below.length+2) gr,.int j left]]]:=(((bE.front 2 rfl).front 3 rfl).front 1 rfl).imp λ_ _ _ x=>by have y:=cm.adP x;exact r2 (λ_ _ _ z=>(TU hn).2 z) (λ_ _ _ z=>z) y
  have c2:=b3.add (aG.refl _) (ahw aV a5 aC aA) (λ_ h=>h.elim) (λ_ h=>h.elim);have eW:=(((c2.front 1 rfl).front 1 rfl).front 2 rfl).front 3 rfl;exact eW
 exact⟨I,R,aw,ay,ek⟩
theorem au6(fB:aN ak aO aL h L)(i:Nat){t:jq}(af:L[i]? =o (jO bF a0 bp left (below++[t]) top)):∃E,e0 1 h (.ptr bF 0 1) (.bw bp 0 (below.length+1) gr)=o E/\aN ak aO aL E (L.set i (jO bF a0 bp left below t)):=by
 refine fB.call (cJ:=λE=>e0 1 h (.ptr bF 0 1) (.bw bp 0 (below.length+1) gr)=o E) i af λah al x=>?_;obtain⟨rs,ex,row,hn,ahx,aK,s⟩:=TX x;rw[fz,hj]at hn;obtain⟨tC,q,rfl⟩:∃tC q,rs=tC++[q]:=by refine⟨rs.dropLast,rs.getLast (λe=>by rw[e]at hn;simp at hn),(List.dropLast_concat_getLast _).symm⟩
 have au7:tC.length=below.length:=by simpa using hn
 have st:e0 1 h (.ptr bF 0 1) (.bw bp 0 (below.length+1) gr)=o (h.set bF (o [[.ptr a0 0 0,.bw bp 0 (below.length+1) gr,.int j left]])):=lu (n:=1) (i:=0) (x:=.bw bp 0 (below.length+1) gr) (off:=1) (e:=[.ptr a0 0 0,.bw bp 0 ((below++[t]).length+1) gr,.int j left]) (s.cell 0 rfl).1 rfl rfl rfl (by simp);have bd:=s.set 0 rfl [[.ptr a0 0 0,.bw bp 0 (below.length+1) gr,.int j left]];have aY:=(bd.front 2 rfl).drop;have bs:=(aY.front 2 rfl).imp λ_ _ _ x=>cm.adO (r2 (λ_ _ _ z=>(TU au7).1 z) (λ_ _ _ z=>z) x);have bE:=(((bs.front 1 rfl).front 1 rfl).front 3 rfl).front 3 rfl;exact⟨_,st,ahv (rs:=tC) (ex:=row::ex) (row:=q) (by simpa using bE)⟩
theorem au8(fB:aN ak aO aL h L)(i:Nat)(af:L[i]? =o (jO bF a0 bp left [] top)):∃E,e0 1 h (.ptr bF 0 1) (.bw bp 0 0 gr)=o E/\aN ak aO aL E (L.set i (CS bF a0 bp left)):=by refine fB.call (cJ:=λE=>e0 1 h (.ptr bF 0 1) (.bw bp 0 0 gr)=o E) i af λah al x=>?_;obtain⟨rs,ex,row,hn,ahx,aK,s⟩:=TX x;have st:e0 1 h (.ptr bF 0 1) (.bw bp 0 0 gr)=o (h.set bF (o [[.ptr a0 0 0,.bw bp 0 0 gr,.int j left]])):=lu (n:=1) (i:=0) (x:=.bw bp 0 0 gr) (off:=1) (e:=[.ptr a0 0 0,.bw bp 0 1 gr,.int j left]) (s.cell 0 rfl).1 rfl rfl rfl (by simp);have bd:=s.set 0 rfl [[.ptr a0 0 0,.bw bp 0 0 gr,.int j left]];have aY:=((bd.front 3 rfl).drop.front 2 rfl).drop;have bs:=(aY.front 1 rfl).drop;exact⟨_,st,gJ.imp (λ_ _ _ x=>cm.Cj x) bs⟩
end
theorem ahy{x:BitVec 64}{k:Nat}(ab:k<64){r:Int}(au:r=(BitVec.twoPow 64 k).toInt):B0 x.toInt r=fK x.toInt k:=by
 rw[au,abI,Eu x ab];cases ad:x.getLsbD k
 ·refine decide_eq_false λh=>?_;have:=congrArg (λv:BitVec 64=>v.getLsbD k) h;simp only[BitVec.getLsbD_and,ad,Bool.false_and,BitVec.getLsbD_twoPow]at this;simp[ab]at this
 ·refine decide_eq_true (BitVec.eq_of_getLsbD_eq λi af=>?_);rw[BitVec.getLsbD_and,BitVec.getLsbD_twoPow];by_cases R:k=i
  ·subst R;simp[ad]
  ·simp[R]
section
variable{h E ak:ai}{ah al aO aL:Nat->Prop}{L:List cc}{bF a0 bp cE cG:Nat}{left:Int}{below:List jq}{top:jq}{ms:dn}{kept:List ax}{G:aI}
theorem re(c:Int):aU aq aa 89 [.bool J,.int j c] h=o (.inr (.iface nc (.int j c)),h):=by refine a4 adU rfl ?_;unfold R4;simp only[ao,ar,av,ap,Ks,ahn,FQ (aG.refl h) (rfl:dl (.iface nc (.int j c))=_)]
theorem pX(c:Int):aU aq aa 89 [.bool U,.int j c] h=o (.inl (.bS []),h):=by refine a4 adU rfl ?_;unfold R4;simp only[ao,ar,av,ap,dE (aG.refl h) (rfl:dl (.bS [])=_)]
theorem TY(n:Int):aU aq aa 115 [.int j n] h=o (.inl (.agg [.int j 1,.int j n,.aJ]),h):=by refine a4 arI rfl ?_;unfold adX;simp only[ao,ar,av,ap,bY];exact dE (aG.push _ _) rfl
theorem x0(n:Int):bZ (kG n) [.int j 1,.int j n,.aJ]:=⟨.aJ,[],rfl,.inl ⟨rfl,rfl⟩,rfl⟩
theorem A3(n:Int):bZ (ge n) [.int j 4,.int j n,.aJ]:=⟨.aJ,[],rfl,.inl ⟨rfl,rfl⟩,rfl⟩
theorem ahz(n:Int):bZ (.mk 5 n []) [.int j 5,.int j n,.aJ]:=⟨.aJ,[],rfl,.inl ⟨rfl,rfl⟩,rfl⟩
theorem Nj{n:Int}{es:List (List F)}{id:Option Nat}(am:dk l es):bZ (.mk k n l) [.int j k,.int j n,.b5 id bO es]:=⟨_,es,rfl,.inr ⟨id,rfl⟩,am⟩
theorem bZ.i7{v:ax}{r:List F}(Z:bZ v r):∃w,r=[.int j v.kind,.int j v.n,w]/\w.one=J:=by
 cases v with
 |mk k n l=>obtain⟨w,es,rfl,I,_⟩:=Z;exact⟨w,rfl,by rcases I with⟨_,rfl⟩|⟨id,rfl⟩<;>rfl⟩
theorem vq{v:ax}{r:List F}(Z:bZ v r)(ab:v.kind=k):∃br,aU aq aa 91 [.agg r,.int j k] h=o (.inl (.agg br),h)/\bZ v br:=by
 obtain⟨br,hw,hR⟩:=Lq Z;obtain⟨w,rfl,aK⟩:=Z.i7;have r6:dl (.agg [.int j v.kind,.int j v.n,w])=o (.agg br):=by simp only[dl,hw,i3]
 refine⟨br,?_,hR⟩;have d:decide (v.kind=k)=J:=decide_eq_true ab;refine a4 adY rfl ?_;unfold R7;simp only[ao,ar,av,ap,bN,d,pX,aK];exact dE (by repeat (first|exact aG.refl _|refine aG.trans ?_ (aG.push _ _)|refine aG.trans ?_ (aG.fresh _ _))) r6
theorem vr{v:ax}{r:List F}(Z:bZ v r)(ab:v.kind≠k):aU aq aa 91 [.agg r,.int j k] h=o (.inr (.iface nc (.int j 2)),h):=by obtain⟨w,rfl,aK⟩:=Z.i7;have d:decide (v.kind=k)=U:=decide_eq_false ab;refine a4 adY rfl ?_;unfold R7;simp only[ao,ar,av,ap,bN,d,re,aK];exact FQ (by repeat (first|exact aG.refl _|refine aG.trans ?_ (aG.push _ _)|refine aG.trans ?_ (aG.fresh _ _))) rfl
theorem ahA{v:ax}{r:List F}(Z:bZ v r)(ab:v.code=0):∃br,aU aq aa 116 [.agg r] h=o (.inl (.agg br),h)/\bZ v br:=by
 obtain⟨br,hw,hR⟩:=Lq Z;have r6:dl (.agg r)=o (.agg br):=by simp only[dl,hw,i3]
 refine⟨br,?_,hR⟩;have d:decide (v.code=0)=J:=decide_eq_true ab;have ca:=λh=>MG (h:=h) Z;obtain⟨bz,bG⟩:=Z.cV;refine a4 adZ rfl ?_;unfold R8;simp only[ao,ar,av,ap,bN,d,pX,ca,bz,bG];exact dE (by repeat (first|exact aG.refl _|refine aG.trans ?_ (aG.push _ _)|refine aG.trans ?_ (aG.fresh _ _))) r6
theorem ahB{v:ax}{r:List F}(Z:bZ v r)(ab:v.code≠0):aU aq aa 116 [.agg r] h=o (.inr (.iface nc (.int j 3)),h):=by have d:decide (v.code=0)=U:=decide_eq_false ab;have ca:=λh=>MG (h:=h) Z;obtain⟨bz,bG⟩:=Z.cV;refine a4 adZ rfl ?_;unfold R8;simp only[ao,ar,av,ap,bN,d,re,ca,bz,bG];exact FQ (by repeat (first|exact aG.refl _|refine aG.trans ?_ (aG.push _ _)|refine aG.trans ?_ (aG.fresh _ _))) rfl
theorem Ib(s:aN ak aO aL h L){wR:Nat}(af:L[wR]? =o (ix a0 cE cG ms kept))(am:ms.length=kept.length):(∀n:Nat,cR U n h (.ptr a0 0 0)=o (.ptr cE 0 0))/\∀n:Nat,cR U n h (.ptr a0 0 1)=o (.ptr cG 0 0):=by
 obtain⟨ah,al,x⟩:=s.get wR af;obtain⟨row,aW,_,bD,cl,_⟩:=TO x am;refine⟨λn=>?_,λn=>?_⟩
 ·rw[gb,aW,du,oq,du,pI,bD]
 ·rw[gb,aW,du,oq,du,pI,cl]
theorem au9(ck:G.dg)(i:Int){k:Nat}{r:Int}(ab:k<64)(au:r=(BitVec.twoPow 64 k).toInt):aU aq aa 144 [.int j (G.c5 i),.int j r] h=o (.inl (.bool (fK (G.c5 i) k)),h):=by
 obtain⟨x,aF⟩:=af6 ck i;have e:B0 (G.c5 i) r=fK (G.c5 i) k:=by rw[aF];exact ahy ab au
 rw[<-e];refine a4 afR rfl ?_;unfold S3;simp only[ao,ar,av,ap];rfl
abbrev au':di:=147
abbrev ahC:List F:=[.int j 0,.int j 0,.int j 0,.int j 0,.int j 0,.int j 0]
theorem TZ(s:aN ak aO aL h L){ahD wR ahE:Nat}(hm:L[ahD]? =o (jO bF a0 bp left below top))(ad:L[wR]? =o (ix a0 cE cG ms kept))(a5:L[ahE]? =o (gU cE G))(am:ms.length=kept.length)(ck:G.dg){v:ax}{r:List F}(Z:bZ v r){k:Nat}{q:Int}(ab:k<64)(aX:q=(BitVec.twoPow 64 k).toInt):aU aq aa au' [.ptr bF 0 0,.agg r,.int j q] h=o (if fK (G.c5 v.n) k=J then .inl (.bS [.int j v.n,.agg (dv (G.target v.n).1)])else .inr (.iface nc (.int j 9)),h):=by
 obtain⟨w,rfl,aK⟩:=Z.i7;have bd:=(s.push [[.int j v.kind,.int j v.n,w]]).push [ahC];obtain⟨a,dS,aZ,g,a8⟩:=qF bd (ahD+2) hm;have hT:∀n:Nat,cR U n _ (.ptr bF 0 0)=o (.ptr a0 0 0):=λn=>by rw[gb,a8.m,du,oq,du,pI];rfl
 have cD:=(Ib bd (wR:=wR+2) ad am).1;obtain⟨ah,al,vs⟩:=bd.get (ahE+2) a5;have mo:=adj (vs:fm _ ah al cE G) ck v.n;have G0:=aq2 (vs:fm _ ah al cE G) ck v.n;have bA:=au9 (h:=(h.push [[.int j v.kind,.int j v.n,w]]).push [ahC]) ck v.n ab aX;have f0:cd 0 (.ptr bF 0 0)=o (.ptr bF 0 0):=rfl;have f1:cd 0 (.ptr a0 0 0)=o (.ptr a0 0 0):=rfl;cases ahF:fK (G.c5 v.n) k with
 |false=>rw[ahF]at bA;rw[if_neg (by decide)];refine a4 ad4 rfl ?_;unfold Sa;simp only[ao,ar,av,ap,bN,aK,f0,f1,hT,cD,mo,bA,re];exact FQ (by repeat (first|exact aG.refl _|refine aG.trans ?_ (aG.push _ _)|refine aG.trans ?_ (aG.fresh _ _))) rfl
 |true=>rw[ahF]at bA;rw[if_pos rfl];refine a4 ad4 rfl ?_;unfold Sa;simp only[ao,ar,av,ap,bN,aK,f0,f1,hT,cD,mo,bA,pX,G0,dv,hp];exact dE (aG.set (by repeat (first|exact aG.refl _|refine aG.trans ?_ (aG.push _ _)|refine aG.trans ?_ (aG.fresh _ _))) (by omega)) rfl
end
structure i8 where
 (bF a0 cE cG:Nat)
 ms:dn
structure gt where
 bp:Nat
 S:bt
 below:List jq
 top:jq
structure fh(c:i8)(L:List cc)(i:Nat)(n:gt):Prop where
 m:L[i]? =o (jO c.bF c.a0 n.bp (n.S.left:Int) n.below n.top)
 b:L[i+1]? =o (ix c.a0 c.cE c.cG c.ms n.S.kept)
 g:L[i+2]? =o (gU c.cE n.S.G)
 w:L[i+3]? =o (iL c.cG n.S.cells n.S.log)
def put(c:i8)(L:List cc)(i:Nat)(n:gt):List cc:=(((L.set i (jO c.bF c.a0 n.bp (n.S.left:Int) n.below n.top)).set (i+1) (ix c.a0 c.cE c.cG c.ms n.S.kept)).set (i+2) (gU c.cE n.S.G)).set (i+3) (iL c.cG n.S.cells n.S.log)
theorem vt{c:i8}{L:List cc}{i D:Nat}{n:gt}:(put c L i n)[D]? =if D<L.length then(if D=i+3 then o (iL c.cG n.S.cells n.S.log)else if D=i+2 then o (gU c.cE n.S.G)else if D=i+1 then o (ix c.a0 c.cE c.cG c.ms n.S.kept)else if D=i then o (jO c.bF c.a0 n.bp (n.S.left:Int) n.below n.top)else L[D]?)else ag:=by
 unfold put;by_cases ae:D<L.length
 ·rw[if_pos ae];simp only[pR,List.length_set];by_cases aj:D=i+3
  ·subst aj;simp[ae]
  ·by_cases R:D=i+2
   ·subst R;simp[ae]
   ·by_cases I:D=i+1
    ·subst I;simp[ae]
    ·by_cases ak:D=i
     ·subst ak;simp[ae]
     ·simp[ak,I,R,aj,mG ak,mG I,mG R,mG aj]
 ·rw[if_neg ae,mE (by simpa using ae)]
theorem fh.len{c:i8}{L:List cc}{i:Nat}{n:gt}(a:fh c L i n):i+3<L.length:=(fO.1 a.w).1
theorem fh.put{c:i8}{L:List cc}{i:Nat}{n:gt}(a:fh c L i n)(cj:gt):fh c (put c L i cj) i cj:=by
 have:=a.len;refine⟨?_,?_,?_,?_⟩<;>rw[vt]
 ·rw[if_pos (by omega),if_neg (by omega),if_neg (by omega),if_neg (by omega),if_pos rfl]
 ·rw[if_pos (by omega),if_neg (by omega),if_neg (by omega),if_pos rfl]
 ·rw[if_pos (by omega),if_neg (by omega),if_pos rfl]
 ·rw[if_pos (by omega),if_pos rfl]
theorem Nk{c:i8}{L:List cc}{i:Nat}{n:gt}:(Go.Proofs.YtkdbjfncchmmpaaGreat.put c L i n).length=L.length:=by simp[Go.Proofs.YtkdbjfncchmmpaaGreat.put]
theorem CT{L q0:List cc}(h:∀D:Nat,L[D]? =q0[D]?):L=q0:=List.ext_getElem? h
theorem iB{c:i8}{L:List cc}{i:Nat}{n cj:gt}:put c (put c L i n) i cj=put c L i cj:=by
 refine CT λD=>?_;rw[vt,vt,Nk,vt];by_cases ae:D<L.length
 ·simp only[if_pos ae]
  repeat' (first|rfl|split)
  all_goals first|rfl|omega
 ·simp only[if_neg ae]
theorem fh.same{c:i8}{L:List cc}{i:Nat}{n:gt}(a:fh c L i n):Go.Proofs.YtkdbjfncchmmpaaGreat.put c L i n=L:=by
 have:=a.len;refine CT λD=>?_;rw[vt];split
 ·split
  ·rename_i e;rw[e,a.w]
  ·split
   ·rename_i e;rw[e,a.g]
   ·split
    ·rename_i e;rw[e,a.b]
    ·split
     ·rename_i e;rw[e,a.m]
     ·rfl
 ·rename_i ae;exact(mE (Nat.le_of_not_lt ae)).symm
theorem fh.x1{c:i8}{L:List cc}{i:Nat}{n:gt}(a:fh c L i n)(h2:Nat)(l:Nat)(ahG:List jq)(ahH:jq):L.set i (jO c.bF c.a0 h2 (l:Int) ahG ahH)=Go.Proofs.YtkdbjfncchmmpaaGreat.put c L i ⟨h2,{n.S with left:=l},ahG,ahH⟩:=by
 have:=a.len;refine CT λD=>?_;rw[vt,pR];by_cases ae:D<L.length
 ·rw[if_pos ae];by_cases ak:i=D
  ·subst ak;simp[ae]
  ·rw[if_neg ak,if_neg (mG ak:¬D=i)];split
   ·rename_i e;rw[e,a.w]
   ·split
    ·rename_i e;rw[e,a.g]
    ·split
     ·rename_i e;rw[e,a.b]
     ·rfl
 ·rw[if_neg ae,if_neg (by omega)];exact mE (Nat.le_of_not_lt ae)
theorem fh.ava{c:i8}{L:List cc}{i:Nat}{n:gt}(a:fh c L i n)(k:List ax):L.set (i+1) (ix c.a0 c.cE c.cG c.ms k)=Go.Proofs.YtkdbjfncchmmpaaGreat.put c L i {n with S:={n.S with kept:=k}}:=by
 have:=a.len;refine CT λD=>?_;rw[vt,pR];by_cases ae:D<L.length
 ·rw[if_pos ae];by_cases ak:i+1=D
  ·subst ak;simp[ae]
  ·rw[if_neg ak,if_neg (mG ak:¬D=i+1)];split
   ·rename_i e;rw[e,a.w]
   ·split
    ·rename_i e;rw[e,a.g]
    ·split
     ·rename_i e;rw[e,a.m]
     ·rfl
 ·rw[if_neg ae,if_neg (by omega)];exact mE (Nat.le_of_not_lt ae)
theorem fh.avb{c:i8}{L:List cc}{i:Nat}{n:gt}(a:fh c L i n)(G:aI):L.set (i+2) (gU c.cE G)=Go.Proofs.YtkdbjfncchmmpaaGreat.put c L i {n with S:={n.S with G:=G}}:=by
 have:=a.len;refine CT λD=>?_;rw[vt,pR];by_cases ae:D<L.length
 ·rw[if_pos ae];by_cases ak:i+2=D
  ·subst ak;simp[ae]
  ·rw[if_neg ak,if_neg (mG ak:¬D=i+2)];split
   ·rename_i e;rw[e,a.w]
   ·split
    ·rename_i e;rw[e,a.b]
    ·split
     ·rename_i e;rw[e,a.m]
     ·rfl
 ·rw[if_neg ae,if_neg (by omega)];exact mE (Nat.le_of_not_lt ae)
theorem fh.ahI{c:i8}{L:List cc}{i:Nat}{n:gt}(a:fh c L i n)(cells:List Int)(log:List lP):L.set (i+3) (iL c.cG cells log)=Go.Proofs.YtkdbjfncchmmpaaGreat.put c L i {n with S:={n.S with cells:=cells,log:=log}}:=by
 have:=a.len;refine CT λD=>?_;rw[vt,pR];by_cases ae:D<L.length
 ·rw[if_pos ae];by_cases ak:i+3=D
  ·subst ak;simp[ae]
  ·rw[if_neg ak,if_neg (mG ak:¬D=i+3)];split
   ·rename_i e;rw[e,a.g]
   ·split
    ·rename_i e;rw[e,a.b]
    ·split
     ·rename_i e;rw[e,a.m]
     ·rfl
 ·rw[if_neg ae,if_neg (by omega)];exact mE (Nat.le_of_not_lt ae)
theorem fh.cons{c:i8}{L:List cc}{i:Nat}{n:gt}(a:fh c L i n)(X:cc):fh c (X::L) (i+1) n:=⟨a.m,a.b,a.g,a.w⟩
theorem eZ{c:i8}{L:List cc}{i:Nat}{n:gt}{X:cc}:Go.Proofs.YtkdbjfncchmmpaaGreat.put c (X::L) (i+1) n=X::Go.Proofs.YtkdbjfncchmmpaaGreat.put c L i n:=rfl
def T0:List bb:=[.ops [Cp,xO,.i (.v 5) SC]]
def E3:List bb:=[.ops [bc,tQ,.i .l (.call (.c (.fn 126 [] [])) [.l 1,.l 0]),jM],.ops [ky,FS],.cond (.v 8) [.ops [lU,ky,HO,.i .n (.store 1 (.v 5) (.l 0))],.ret] []]
def T1:List bb:=[ahJ,.ops [kH,tQ,afU,wF,.i .n (.store 1 (.v 5) (.c (.int j 0)))],.ret]
def T2:List bb:=[ahJ]
def Nl:List bb:=[.ops [hd,.i (.v 5) (.BN .iface ag J .neq (.l 0) (.c .iZ))],.cond (.v 5) [.ops [hd,.i .l (.Gm 210 J (.l 0)),cn,fs,ft,Sb,je],.ops [fu,B5],.cond (.v 6) [.ops [hd,Ls]] [],.ops [lU,c6,.i .n (.store 3 (.v 0) (.l 1)),.i .n (.store 1 (.v 1) (.l 0))]] []]
open Go Go.RowKit
abbrev kp:di:=113
abbrev gf:di:=127
noncomputable def x2:gu:=Tryz.f113.body.getD .skip
noncomputable def rf:gu:=Tryz.f127.body.getD .skip
theorem ahK:(aq).funcs[gf]? =o Tryz.f127:=Tryz.func127
theorem avc:Tryz.f127.body=o rf:=rfl
theorem avd:rf= .seq (eV rf) (hf rf):=rfl
theorem ave:Tryz.f127.ntmps=18:=rfl
noncomputable def T3:bm:={dst:=o 5,op:=.call {callee:=.builtin .recover,args:= #[],argTypes:= #[]},type:=((nd (eV rf)).getD 0 default).type,pos:=((nd (eV rf)).getD 0 default).pos,after:= #[],guard:=ag}
noncomputable def T4:bm:={dst:=o 2,op:=.assign (.tmp 5),type:=((nd (eV rf)).getD 1 default).type,pos:=((nd (eV rf)).getD 1 default).pos,after:=((nd (eV rf)).getD 1 default).after,guard:=ag}
theorem avf:eV rf= .region 0 #[T3,T4] U:=rfl
theorem avg:hF aq (aa.bh gf) (aa.cM gf) 18 [0,1,2,3,4,7,14] (hf rf) []=o Nl:=by kernel_rfl
theorem avh:i9 (aa.cM gf) (aa.fy gf) (hf rf)=J:=by kernel_rfl
theorem avi:uW 2 18 (aa.aZ gf) 7 [0,1,2,3,4,7,14]=J:=by kernel_rfl
theorem ahL{h:ai}{e:F}{gI:List F}(au:bB (aU aq aa) 7 [.bP Nl,.halt []] [.ptr h9 0 0,.ptr jQ 0 0,e,.aD,.aD,.aD,.aD] [] h=o (.halt [],gI,E)){m:ey}{w:dO}{v:b'}(hw:cp aq m h w)(cz:b8 aq m h (.ptr h9 0 0) hZ)(c7:b8 aq m h (.ptr jQ 0 0) hx)(Hx:b8 aq m h e v){u:FrameMode}(g8:FrameMode)(Sv:∀c:g',c.mode=u->∀cs,(recoverD (c::cs)=o (v,{c with mode:=g8}::cs))\/(recoverD (c::cs)=ag/\v= .nilIface/\g8=u)):CallsD aq gf #[hZ,hx] u w λe pg bj=>(∃v,e= .returned v)/\pg=g8/\∃bf,Ext m h bf E/\cp aq bf E bj/\Below m.base w bj:=by
 intro c cs bV;have fQ:eb aq m h [.ptr h9 0 0,.ptr jQ 0 0] [hZ,hx]:=⟨rfl,λD ae dM=>by
  match D,ae with
  |0,_=>exact cz
  |1,_=>exact c7⟩
 have he:=LY ahK avc [hZ,hx] .deferred;have a6:=LZ (P:=aq) (h:=h) (k:=18) fQ;generalize ad:kC aq gf #[hZ,hx] .deferred=b at he;have uE:b.kind= .deferred:=by rw[<-ad];simp[kC]
 have Hy:b.fn=gf:=by rw[<-ad];simp[kC]
 have Sx:b.roundOf=ag:=by rw[<-ad];simp[kC]
 rw[ave]at he;generalize aV:([hZ,hx]++ap (18 - [hZ,hx].length) g0).toArray=cK at he a6;have I:Steps aq (fr b (c::cs) w) (fr (b.at {tmps:=cK,defers:=[]} [.code (eV rf),.code (hf rf)]) (c::cs) w):=by
  rw[<-he]
  conv=>lhs;rw[avd]
  exact .one step_seq
 have fa:cK.size=18:=by rw[a6.1];rfl
 have Qc:(eV rf).wpS aq (λe eR hB bj=>e= .normal/\hB={c with mode:=g8}::cs/\bj=w/\eR=(({tmps:=cK,defers:=[]}:Act).put (o 5) v).put (o 2) v) {tmps:=cK,defers:=[]} (c::cs) w:=by
  rw[avf];apply wpS_region;rcases Sv c bV cs with I|⟨I,R,aj⟩
  ·simp[wpOpsS,go_sem,T3,T4,I,Act.put,Act.eval,fa]
  ·have aH:({c with mode:=g8}:g')=c:=by rw[aj,<-bV]
   simp[wpOpsS,go_sem,T3,T4,I,Act.put,Act.eval,fa,R,aH]
 obtain⟨aw,aP,P9,cx,⟨rfl,rfl,rfl,rfl⟩,Cv⟩:=Qc b [.code (hf rf)] uE Sx;have EL:=(a6.put (a:={tmps:=cK,defers:=[]}) Hx (o 5)).put Hx (o 2);have cL:hG 18 [0,1,2,3,4,7,14] [] (fN (fN ([F.ptr h9 0 0,.ptr jQ 0 0]++ap (18 - [F.ptr h9 0 0,.ptr jQ 0 0].length) .aD) (o 5) e) (o 2) e) [.ptr h9 0 0,.ptr jQ 0 0,e,.aD,.aD,.aD,.aD] []:=by
  refine⟨by simp[fN],rfl,rfl,λD s ae=>?_,λD s ae=>by simp at ae⟩
  match D,ae with
  |0,ae|1,ae|2,ae|3,ae|4,ae|5,ae|6,ae=>obtain rfl:=k9 ae;exact⟨by decide,rfl⟩
  |D+7,ae=>simp at ae
 obtain⟨dQ,az,Cw⟩:=xR dx (ma avi) avg avh au cL;obtain⟨bf,bj,cb,dF,gH,eR,h7,hE,j4⟩:=az m cx _ {b with defers:=[]} ({c with mode:=g8}::cs) hw EL rfl;have pC:Steps aq (fr b (c::cs) cx) (fr {b.at eR []with mode:=.returning} ({c with mode:=g8}::cs) bj):=I.trans (Cv.trans (j4.trans (.one step_end)));refine⟨.returned (.tuple #[]),g8,bj,_,⟨⟨_,rfl⟩,rfl,bf,cb,dF,gH⟩,pC,uE,rfl,hE,Tryz.f127,?_,?_⟩
 ·show(aq).funcs[b.fn]? =_;rw[Hy];exact ahK
 ·simp[results,Tryz.results127]
theorem avj(c:g')(h:c.mode= .returning)(cs:List g'):recoverD (c::cs)=ag:=by simp[recoverD,h]
theorem avk{v:b'}(c:g')(h:c.mode= .panicking [{v:=v,recovered:=U}])(cs:List g'):recoverD (c::cs)=o (v,{c with mode:=.panicking [{v:=v,recovered:=J}]}::cs):=by simp[recoverD,h]
theorem avl{q:a9}{v:F}:D1 q J (.iface q v)=o (.bS [v,.bool J]):=by simp[D1]
theorem avm{h:ai}{m:ey}{w:dO}(hw:cp aq m h w)(cz:b8 aq m h (.ptr h9 0 0) hZ)(c7:b8 aq m h (.ptr jQ 0 0) hx):CallsD aq gf #[hZ,hx] .returning w λe pg bj=>(∃v,e= .returned v)/\pg= .returning/\∃bf,Ext m h bf h/\cp aq bf h bj/\Below m.base w bj:=by refine ahL (gI:=[.ptr h9 0 0,.ptr jQ 0 0,.iZ,.aD,.aD,.bool U,.aD]) (e:=.iZ) ?_ hw cz c7 .iZ .returning λc an cs=>.inr ⟨avj c an cs,rfl,rfl⟩;unfold Nl;simp only[ao]
theorem avn{h:ai}{m:ey}{w:dO}{u:b'}{code x y:Int}{l z:F}(hw:cp aq m h w)(cz:b8 aq m h (.ptr h9 0 0) hZ)(c7:b8 aq m h (.ptr jQ 0 0) hx)(T5:b8 aq m h (.iface zz (.int j code)) u)(cq:h.cell h9=o [[.int j x,.int j y,l]])(de:h.cell jQ=o [[z]])(dw:jQ≠h9)(am:l.one=J):CallsD aq gf #[hZ,hx] (.panicking [{v:=u,recovered:=U}]) w λe pg bj=>(∃v,e= .returned v)/\pg= .panicking [{v:=u,recovered:=J}]/\∃bf,Ext m h bf ((h.set h9 (o [[.int j 0,.int j 0,.aJ]])).set jQ (o [[.int j code]]))/\cp aq bf ((h.set h9 (o [[.int j 0,.int j 0,.aJ]])).set jQ (o [[.int j code]])) bj/\Below m.base w bj:=by refine ahL (gI:=[.ptr h9 0 0,.ptr jQ 0 0,.iface zz (.int j code),.int j code,.bool J,.bool J,.bool U]) (e:=.iface zz (.int j code)) ?_ hw cz c7 T5 (.panicking [{v:=u,recovered:=J}]) λc an cs=>.inl (avk c an cs);have TG:(h.set h9 (o [[.int j 0,.int j 0,.aJ]])).cell jQ=o [[z]]:=(eN dw).trans de;unfold Nl;simp only[ao,ar,avl,cq,TG]
open Go Go.RowKit
theorem avo:(aq).funcs[kp]? =o Tryz.f113:=Tryz.func113
theorem avp:Tryz.f113.body=o x2:=rfl
theorem avq:Tryz.f113.ntmps=25:=rfl
noncomputable abbrev Ic:gu:=eV (hf x2)
noncomputable abbrev n3:gu:=hf (hf x2)
noncomputable abbrev n4:gu:=hf n3
theorem avr:x2= .seq (eV x2) (hf x2):=rfl
theorem avs:hf x2= .seq Ic n3:=rfl
theorem avt:n3= .seq (eV n3) n4:=rfl
theorem avu:n4= .seq (eV n4) (hf n4):=rfl
theorem avv:hf n4= .seq (eV (hf n4)) .ret:=rfl
abbrev wS:List Nat:=[0,1,2,4,6,7,8,9,14]
theorem Nm:uW 3 25 (aa.aZ kp) 9 wS=J:=by kernel_rfl
theorem avw:hF aq (aa.bh kp) (aa.cM kp) 25 wS (eV x2) []=o T0:=by kernel_rfl
theorem avx:hF aq (aa.bh kp) (aa.cM kp) 25 wS Ic []=o E3:=by kernel_rfl
theorem avy:hF aq (aa.bh kp) (aa.cM kp) 25 wS n4 []=o T1:=by kernel_rfl
theorem avz:hF aq (aa.bh kp) (aa.cM kp) 25 wS (eV n4) []=o T2:=by kernel_rfl
theorem avA:i9 (aa.cM kp) (aa.fy kp) (eV x2)=J:=by kernel_rfl
theorem avB:i9 (aa.cM kp) (aa.fy kp) Ic=J:=by kernel_rfl
theorem avC:i9 (aa.cM kp) (aa.fy kp) n4=J:=by kernel_rfl
theorem avD:i9 (aa.cM kp) (aa.fy kp) (eV n4)=J:=by kernel_rfl
theorem avE:q3 aq wS Tryz.f113.results.toList=o [.cell J 3 4,.cell U 1 5]:=by kernel_rfl
noncomputable def ahM:bm:={dst:=o 17,op:=.makeFunc (.func gf) #[] #[.tmp 6,.tmp 7],type:=((nd (eV n3)).getD 0 default).type,pos:=((nd (eV n3)).getD 0 default).pos,after:= #[],guard:=ag}
noncomputable def ahN:bm:={dst:=ag,op:=.defer {callee:=.value (.tmp 17),args:= #[],argTypes:= #[]},type:=((nd (eV n3)).getD 1 default).type,pos:=((nd (eV n3)).getD 1 default).pos,after:=((nd (eV n3)).getD 1 default).after,guard:=ag}
theorem avF:eV n3= .region 4 #[ahM,ahN] U:=rfl
section
variable{h:ai}{m:ey}{w:dO}
abbrev nM:List F:=[.int j 0,.int j 0,.aJ]
def hz(h:ai)(r:List F):ai:=((h.push [r]).push [nM]).push [[.int j 0]]
theorem avG{b:Nat}{r:List F}{K:List Item}(bz:r.all F.one=J)(bG:r.length=3):bB (aU aq aa) 9 [.bP T0,.halt K] [.ptr b 0 0,.agg r,cT,.aD,.aD,.aD,.aD,.aD,.aD] [] h=o (.halt K,[.ptr b 0 0,.agg r,cT,.ptr h.n 0 0,.ptr (h.n+1) 0 0,.ptr (h.n+1+1) 0 0,.aD,.aD,.aD],hz h r):=by unfold T0;simp only[ao,bz,bG,hz]
theorem avH(x y z:F):hG 25 wS [] ([x,y,z]++ap (25 - [x,y,z].length) .aD) [x,y,z,.aD,.aD,.aD,.aD,.aD,.aD] []:=by
 refine⟨by simp,rfl,rfl,λD s ae=>?_,λD s ae=>by simp at ae⟩
 match D,ae with
 |0,ae|1,ae|2,ae|3,ae|4,ae|5,ae|6,ae|7,ae|8,ae=>obtain rfl:=k9 ae;exact⟨by decide,rfl⟩
 |D+9,ae=>simp at ae
theorem T6{b:Nat}{r:List F}{x:k8}{pm:List F}{R:ai}(bz:r.all F.one=J)(bG:r.length=3)(au:bB (aU aq aa) 9 [.bP E3,.halt [.code n3]] [.ptr b 0 0,.agg r,cT,.ptr h.n 0 0,.ptr (h.n+1) 0 0,.ptr (h.n+1+1) 0 0,.aD,.aD,.aD] [] (hz h r)=o (x,pm,R))(aF:∀v,x≠.panic v){bI:List b'}(hw:cp aq m h w)(fQ:eb aq m h [.ptr b 0 0,.agg r,cT] bI)(cs:List g'):∃(fC:g') (t2:List F),fC.fn=kp/\fC.kind= .normal/\fC.defers=[]/\hG 25 wS [] t2 pm []/\fc aq (aa.fy kp) m h w fC cs (fr (kC aq kp bI.toArray .normal) cs w) (x,t2,R):=by
 have he:=LY avo avp bI .normal;have a6:=LZ (P:=aq) (h:=h) (k:=25) fQ;rw[avq]at he;obtain⟨t1,ox,avI⟩:=xR dx (ma Nm) avw avA (avG (K:=[.code (hf x2)]) (h:=h) (cT:=cT) (b:=b) bz bG) (avH _ _ _);obtain⟨t2,Ez,avJ⟩:=xR dx (ma Nm) avx avB au avI;refine⟨kC aq kp bI.toArray .normal,t2,by simp[kC],by simp[kC],by simp[kC],avJ,?_⟩;generalize kC aq kp bI.toArray .normal=fC at he ⊢;obtain⟨cO,cx,cb,dF,gH,aP,h7,hE,j4⟩:=ox m w {tmps:=_,defers:=[]} {fC with defers:=[]} cs hw a6 rfl;have hE:aP.defers=[]:=hE;have fB:Steps aq (fr fC cs w) (fr (fC.at aP [.code Ic,.code n3]) cs cx):=by
  conv=>lhs;rw[<-he,avr]
  refine .head step_seq (j4.trans ?_)
  conv=>lhs;rw[avs]
  exact .one step_seq
 obtain⟨c8,gn,fU,jV,ls,ot⟩:=Ez cO cx aP {fC with defers:=[]} cs dF h7 hE;have m5:fc aq (aa.fy kp) cO (hz h r) cx {fC with defers:=[]} cs (fr (fC.at aP [.code Ic,.code n3]) cs cx) (x,t2,R):=⟨c8,gn,fU,jV,ls,ot⟩;have r4:=fc.steps fB (fc.after cb gH m5);have bg:fC.defers=[]:=by rw[<-he];rfl
 have Hy:({fC with defers:=[]}:g')=fC:=by rw[<-bg]
 rwa [Hy]at r4
theorem T7{h:ai}{v:F}(cL:hG 25 wS [] t V [])(Z:(jc V h [.cell J 3 4,.cell U 1 5]).map ju=o v):ry Tryz.f113 t h aq=o v:=by unfold ry;rw[D6 (h:=h) cL avE];exact Z
theorem avK{h:ai}{b:Nat}{es:Option (List (List F))}(an:h.cell b=es):h.set b es=h:=by
 cases h with
 |mk=>
   simp only[ai.set,ai.mk.injEq,and_true,true_and];funext k;by_cases ab:k=b
   ·subst ab;simpa using an.symm
   ·simp[ab]
theorem LE{b:Nat}{r:List F}{c:Int}(bz:r.all F.one=J)(bG:r.length=3)(an:c≠0)(r':aU aq aa 126 [.ptr b 0 0,.agg r] (hz h r)=o (.inl (.int j c),hz h r)):AC aq kp [.ptr b 0 0,.agg r,cT] h (.inl (.bS [.agg nM,.int j c]),(hz h r).set (h.n+1+1) (o [[.int j c]])):=by
 intro m w bI hw fQ cs;have eg:(hz h r).cell h.n=o [r]:=tF;have h9:(hz h r).cell (h.n+1)=o [nM]:=wd;have jQ:(hz h r).cell (h.n+1+1)=o [[.int j 0]]:=wc;have avL:(hz h r).set (h.n+1) (o [nM])=hz h r:=avK h9;have au:bB (aU aq aa) 9 [.bP E3,.halt [.code n3]] [.ptr b 0 0,.agg r,cT,.ptr h.n 0 0,.ptr (h.n+1) 0 0,.ptr (h.n+1+1) 0 0,.aD,.aD,.aD] [] (hz h r)=o (.ret,[.ptr b 0 0,.agg r,cT,.ptr h.n 0 0,.ptr (h.n+1) 0 0,.ptr (h.n+1+1) 0 0,.int j c,.aD,.bool J],(hz h r).set (h.n+1+1) (o [[.int j c]])):=by unfold E3;simp only[ao,ar,eg,gA bG,r',an,h9,avL,jQ]
 obtain⟨fC,t2,cg,c0,fq,cL,bf,bj,cb,dF,gH,eR,todo,h7,hE,j4⟩:=T6 bz bG au (λv=>by simp) hw fQ cs;rw[fq]at hE;have lr:=T7 (h:=(hz h r).set (h.n+1+1) (o [[.int j c]])) (v:=.bS [.agg nM,.int j c]) cL (by have v5:((hz h r).set (h.n+1+1) (o [[.int j c]])).cell (h.n+1)=o [nM]:=(eN (by omega)).trans h9;simp only[ao,ar,v5]);obtain⟨u,de,hu⟩:=Af dF h7 lr;exact⟨.returned u,bj,_,⟨bf,cb,dF,gH,u,rfl,hu⟩,j4,cg,rfl,hE,c0,_,by simp[Frame.at,cg],de⟩
theorem Nn{n:Nat}{bk:List Nat}{i:Nat}{v:F}(cL:hG n bk [] t V [])(af:i ∉ bk):hG n bk [] (fN t (o i) v) V []:=by refine⟨by simpa[fN]using cL.len,cL.bn,cL.sF,λD s ae=>?_,λD s ae=>by simp at ae⟩;obtain⟨I,R⟩:=cL.v D s ae;refine⟨I,?_⟩;rw[<-R];have dw:i≠s:=λe=>af (by rw[e];exact o6 ae);simp[fN,cZ,dw]
theorem No{n:Nat}{bk:List Nat}(cL:hG n bk [] t V []){D s:Nat}(ae:bk[D]? =o s):s<t.length/\t.getD s .aD=V.getD D .aD:=by obtain⟨I,R⟩:=cL.v D s ae;exact⟨by rw[cL.len];exact I,R⟩
theorem ahO{fC:g'}{a2:Act}{cs:List g'}(fa:a2.tmps.size=25)(cq:a2.tmps.getD 6 g0=hZ)(de:a2.tmps.getD 7 g0=hx):Steps aq (fr (fC.at a2 [.code n3]) cs w) (fr (fC.at {a2.put (o 17) (.func (.func gf) #[] #[hZ,hx])with defers:={target:=.fn (.func gf) #[hZ,hx],args:= #[]}::a2.defers} [.code n4]) cs w):=by
 have hw:(eV n3).wp aq (λe eR bj=>e= .normal/\bj=w/\eR={a2.put (o 17) (.func (.func gf) #[] #[hZ,hx])with defers:={target:=.fn (.func gf) #[hZ,hx],args:= #[]}::a2.defers}) a2 w:=by have avM:∀(fn:Fn) (first cap:Array b') (w:dO),(Instr.makeFunc fn first cap).run aq w= .ok (.func fn first cap) w:=λ_ _ _ _=>rfl;subst cq de;rw[avF];apply wp_region;simp[wpOps,go_sem,ahM,ahN,Act.put,Act.eval,fa]
 obtain⟨e,eR,bj,⟨rfl,rfl,rfl⟩,Cv⟩:=hw fC [.code n4] cs
 conv=>lhs;rw[avt]
 exact .head step_seq Cv
theorem ahP{b:Nat}{r:List F}(bG:r.length=3)(r':aU aq aa 126 [.ptr b 0 0,.agg r] (hz h r)=o (.inl (.int j 0),hz h r)):bB (aU aq aa) 9 [.bP E3,.halt [.code n3]] [.ptr b 0 0,.agg r,cT,.ptr h.n 0 0,.ptr (h.n+1) 0 0,.ptr (h.n+1+1) 0 0,.aD,.aD,.aD] [] (hz h r)=o (.halt [.code n3],[.ptr b 0 0,.agg r,cT,.ptr h.n 0 0,.ptr (h.n+1) 0 0,.ptr (h.n+1+1) 0 0,.int j 0,.aD,.bool U],hz h r):=by have eg:(hz h r).cell h.n=o [r]:=tF;unfold E3;simp only[ao,eg,gA bG,r']
theorem Np{R:ai}{c8:ey}{t2 pm:List F}{a2:Act}(cL:hG 25 wS [] t2 pm [])(a6:ep aq c8 R t2 a2.tmps){D s:Nat}(ae:wS[D]? =o s):b8 aq c8 R (pm.getD D .aD) (a2.tmps.getD s g0):=by obtain⟨I,aw⟩:=No cL ae;rw[<-aw];exact aeN a6 I
theorem avN{b:Nat}{r br:List F}{aH:ai}(bz:r.all F.one=J)(bG:r.length=3)(et:br.all F.one=J)(e8:br.length=3)(A4:cT= .aJ\/∃id e rows,cT= .b5 id e rows)(r':aU aq aa 126 [.ptr b 0 0,.agg r] (hz h r)=o (.inl (.int j 0),hz h r))(zA:aU aq aa 128 [.ptr (hz h r).n 0 0,.agg r] ((hz h r).push [[.ptr b 0 0,cT]])=o (.inl (.agg br),aH))(iJ:aH.cell (h.n+1)=o [nM])(tA:aH.cell (h.n+1+1)=o [[.int j 0]]):AC aq kp [.ptr b 0 0,.agg r,cT] h (.inl (.bS [.agg br,.int j 0]),(aH.set (h.n+1) (o [br])).set (h.n+1+1) (o [[.int j 0]])):=by
 intro m w bI hw fQ cs;have eg:((hz h r).push [[.ptr b 0 0,cT]]).cell h.n=o [r]:=(hp (by simp only[hz,eC];omega)).trans tF;have ahQ:(aH.set (h.n+1) (o [br])).cell (h.n+1+1)=o [[.int j 0]]:=(eN (by omega)).trans tA;have rE:bB (aU aq aa) 9 [.bP T1,.halt []] [.ptr b 0 0,.agg r,cT,.ptr h.n 0 0,.ptr (h.n+1) 0 0,.ptr (h.n+1+1) 0 0,.int j 0,.aD,.bool U] [] (hz h r)=o (.ret,[.ptr b 0 0,.agg r,cT,.ptr h.n 0 0,.ptr (h.n+1) 0 0,.ptr (h.n+1+1) 0 0,.int j 0,.ptr (hz h r).n 0 0,.bool U],(aH.set (h.n+1) (o [br])).set (h.n+1+1) (o [[.int j 0]])):=by
  unfold T1;rcases A4 with rfl|⟨id,e,rows,rfl⟩
  ·simp only[ao,ar,bY,eg,gA bG,zA,iJ,et,e8,ahQ]
  ·simp only[ao,ar,bY,eg,gA bG,zA,iJ,et,e8,ahQ]
 obtain⟨fC,t2,cg,c0,fq,cL,c8,gn,cb,dF,gH,a2,h7,hE,j4⟩:=T6 bz bG (ahP (cT:=cT) bG r') (λv=>by simp) hw fQ cs;rw[fq]at hE;have cz:=Np cL h7 (D:=4) (s:=6) rfl;have c7:=Np cL h7 (D:=5) (s:=7) rfl;have fa:a2.tmps.size=25:=by rw[h7.1,cL.len]
 have lay:=ahO (w:=gn) (fC:=fC) (a2:=a2) (cs:=cs) fa rfl rfl;generalize avO:a2.tmps.getD 6 g0=hZ at cz lay;generalize avP:a2.tmps.getD 7 g0=hx at c7 lay;rw[hE]at lay;have Hw:=h7.put (b8.aD (.func (.func gf) #[] #[hZ,hx])) (o 17);have Ct:=Nn (i:=17) (v:=.aD) cL (by decide);obtain⟨t5,az,AP⟩:=xR dx (ma Nm) avy avC rE Ct;obtain⟨hK,iz,fU,jV,ls,ej,todo,ot,m5,r4⟩:=az c8 gn {a2.put (o 17) (.func (.func gf) #[] #[hZ,hx])with defers:=[{target:=.fn (.func gf) #[hZ,hx],args:= #[]}]} {fC with defers:=[{target:=.fn (.func gf) #[hZ,hx],args:= #[]}]} cs dF Hw rfl;have ve:Leaves aq Tryz.f113 ej.tmps (λe bj=>∃bf,Ext m h bf ((aH.set (h.n+1) (o [br])).set (h.n+1+1) (o [[.int j 0]]))/\cp aq bf ((aH.set (h.n+1) (o [br])).set (h.n+1+1) (o [[.int j 0]])) bj/\Below m.base w bj/\∃u,e= .returned u/\b8 aq bf ((aH.set (h.n+1) (o [br])).set (h.n+1+1) (o [[.int j 0]])) (.bS [.agg br,.int j 0]) u) [{target:=.fn (.func gf) #[hZ,hx],args:= #[]}] .returning iz:=by refine leaves_cons (f:=gf) (args:= #[hZ,hx]) (by simp) (by simp[go_sem]) ?_;refine(avm jV (cz.ext fU) (c7.ext fU)).mono ?_;rintro e pg bj ⟨⟨v,rfl⟩,rfl,d',ei,fd,ha⟩;have lr:=T7 (h:=(aH.set (h.n+1) (o [br])).set (h.n+1+1) (o [[.int j 0]])) (v:=.bS [.agg br,.int j 0]) AP (by have v5:((aH.set (h.n+1) (o [br])).set (h.n+1+1) (o [[.int j 0]])).cell (h.n+1)=o [br]:=(eN (by omega)).trans lc;simp only[ao,v5,gA e8]);obtain⟨u,de,hu⟩:=Af fd (ot.ext ei) lr;refine⟨u,de,d',(cb.trans fU).trans ei,fd,?_,u,rfl,hu⟩;have bR:c8.base=m.base:=cb.base;have bQ:hK.base=c8.base:=fU.base;rw[bQ,bR]at ha;rw[bR]at ls;exact(gH.trans ls).trans ha
 obtain⟨e,h8,Cu,hS,aC,pF,am⟩:=leaves_steps [{target:=.fn (.func gf) #[hZ,hx],args:= #[]}] .returning iz {(({fC with defers:=[{target:=.fn (.func gf) #[hZ,hx],args:= #[]}]}:g').at ej todo)with mode:=.returning} cs rfl m5 rfl (by simp[Frame.at,cg]) (by simpa[Frame.at]using c0) ve;exact⟨e,h8,Cu,hS,Comes.of_steps (j4.trans (lay.trans r4)) aC,pF.trans cg,am⟩
noncomputable abbrev x3:Array bm:=nd (eV (hf n4))
noncomputable abbrev rI (i:Nat):bm:=x3.getD i default
theorem avQ:eV (hf n4)= .region 6 x3 U:=rfl
theorem avR:((aq).underlying bO).isNone=U:=by kernel_rfl
theorem avS:k7 aq bO=J:=by kernel_rfl
theorem avT:dA aq bO=3:=by kernel_rfl
theorem avU(t:List F)(h:ai):BF aq aa kp t h (rI 0) (t.getD 9 .aD) h:=.inl ⟨rfl,rfl⟩
theorem avV{h:ai}{v:F}(am:cR J 3 h (t.getD 4 .aD)=o v):BF aq aa kp t h (rI 1) v h:=by refine .inl ⟨rfl,?_⟩;show(if((aq).underlying bO).isNone then ag else(cR (k7 aq bO) (dA aq bO) h (t.getD 4 .aD)).map λv=>(v,h))=_;rw[avR,avS,avT,am];rfl
theorem avW(t:List F):gz t (rI 2)=o (128,[t.getD 22 .aD,t.getD 23 .aD]):=rfl
theorem avX:∃fn,(aq).funcs[(128:Nat)]? =o fn/\(fn.body.isNone=U/\(fn.name== "runtime.NumGoroutine")=U):=⟨_,Tryz.func128,by kernel_rfl,by kernel_rfl⟩
theorem avY{b:Nat}{r:List F}{aH:ai}{c:Int}(bz:r.all F.one=J)(bG:r.length=3)(A4:cT= .aJ\/∃id e rows,cT= .b5 id e rows)(r':aU aq aa 126 [.ptr b 0 0,.agg r] (hz h r)=o (.inl (.int j 0),hz h r))(zA:aU aq aa 128 [.ptr (hz h r).n 0 0,.agg r] ((hz h r).push [[.ptr b 0 0,cT]])=o (.inr (.iface zz (.int j c)),aH))(iJ:aH.cell (h.n+1)=o [nM])(tA:aH.cell (h.n+1+1)=o [[.int j 0]]):AC aq kp [.ptr b 0 0,.agg r,cT] h (.inl (.bS [.agg nM,.int j c]),(aH.set (h.n+1) (o [nM])).set (h.n+1+1) (o [[.int j c]])):=by
 intro m w bI hw fQ cs;have eg:((hz h r).push [[.ptr b 0 0,cT]]).cell h.n=o [r]:=(hp (by simp only[hz,eC];omega)).trans tF;have avZ:bB (aU aq aa) 9 [.bP T2,.halt [.code (hf n4)]] [.ptr b 0 0,.agg r,cT,.ptr h.n 0 0,.ptr (h.n+1) 0 0,.ptr (h.n+1+1) 0 0,.int j 0,.aD,.bool U] [] (hz h r)=o (.halt [.code (hf n4)],[.ptr b 0 0,.agg r,cT,.ptr h.n 0 0,.ptr (h.n+1) 0 0,.ptr (h.n+1+1) 0 0,.int j 0,.ptr (hz h r).n 0 0,.bool U],(hz h r).push [[.ptr b 0 0,cT]]):=by
  unfold T2;rcases A4 with rfl|⟨id,e,rows,rfl⟩
  ·simp only[ao,ar,bY]
  ·simp only[ao,ar,bY]
 obtain⟨fC,t2,cg,c0,fq,cL,c8,gn,cb,dF,gH,a2,h7,hE,j4⟩:=T6 bz bG (ahP (cT:=cT) bG r') (λv=>by simp) hw fQ cs;rw[fq]at hE;have cz:=Np cL h7 (D:=4) (s:=6) rfl;have c7:=Np cL h7 (D:=5) (s:=7) rfl;have fa:a2.tmps.size=25:=by rw[h7.1,cL.len]
 have lay:=ahO (w:=gn) (fC:=fC) (a2:=a2) (cs:=cs) fa rfl rfl;generalize avO:a2.tmps.getD 6 g0=hZ at cz lay;generalize avP:a2.tmps.getD 7 g0=hx at c7 lay;rw[hE]at lay;have Hw:=h7.put (b8.aD (.func (.func gf) #[] #[hZ,hx])) (o 17);have Ct:=Nn (i:=17) (v:=.aD) cL (by decide);obtain⟨t5,az,AP⟩:=xR dx (ma Nm) avz avD avZ Ct;obtain⟨hK,iz,fU,jV,ls,ej,ot,m5,r4⟩:=az c8 gn {a2.put (o 17) (.func (.func gf) #[] #[hZ,hx])with defers:=[{target:=.fn (.func gf) #[hZ,hx],args:= #[]}]} {fC with defers:=[{target:=.fn (.func gf) #[hZ,hx],args:= #[]}]} cs dF Hw rfl;have bd:Steps aq (fr (fC.at {a2.put (o 17) (.func (.func gf) #[] #[hZ,hx])with defers:=[{target:=.fn (.func gf) #[hZ,hx],args:= #[]}]} [.code n4]) cs gn) (fr (fC.at ej [.inRegion x3 [0,1,2,3,4],.code .ret]) cs iz):=by
  conv=>lhs;rw[avu]
  refine .head step_seq (r4.trans ?_)
  conv=>lhs;rw[avv]
  refine .head step_seq ?_
  conv=>lhs;rw[avQ]
  exact .one step_region
 obtain⟨aDT,qE⟩:=No AP (D:=7) (s:=9) rfl;obtain⟨eS,b1⟩:=No AP (D:=3) (s:=4) rfl;obtain⟨zy,hJ,s1,d1,d2,d3,d4,d5⟩:=Km (b:=fC) (cs:=cs) (K:=[.code .ret]) (all:=x3) (i:=0) (rest:=[1,2,3,4]) dx rfl (rfl:jk x3 t5 (rI 0)=o J) jV ot (avU t5 _);have ahR:=(ot.ext d1).put d3 (o 22);have ahS:=Nn (i:=22) (v:=t5.getD 9 .aD) AP (by decide);obtain⟨ahT,av0⟩:=No ahS (D:=3) (s:=4) rfl;obtain⟨CL,iA,xH,f1,f2,f3,f4,f5⟩:=Km (b:=fC) (cs:=cs) (K:=[.code .ret]) (all:=x3) (i:=1) (rest:=[2,3,4]) (O:=rI 1) (a:=ej.put (o 22) s1) (v:=.agg r) dx rfl (rfl:jk x3 _ (rI 1)=o J) d2 ahR (avV (by rw[av0];simp[cR,ai.row,eg,gA bG]));have T8:=(ahR.ext f1).put f3 (o 23);have ahU:=Nn (i:=23) (v:=.agg r) ahS (by decide);obtain⟨fn,cS,cf,eQ⟩:=avX;have aDU:(fN (fN t5 (o 22) (t5.getD 9 .aD)) (o 23) (.agg r)).length=25:=ahU.len;have CU:t5.length=25:=AP.len;have ahV:=avW (fN (fN t5 (o 22) (t5.getD 9 .aD)) (o 23) (.agg r));have nh:(fN (fN t5 (o 22) (t5.getD 9 .aD)) (o 23) (.agg r)).getD 22 .aD= .ptr (hz h r).n 0 0:=by
  have:(fN (fN t5 (o 22) (t5.getD 9 .aD)) (o 23) (.agg r)).getD 22 .aD=t5.getD 9 .aD:=by simp[fN,cZ,CU]
  rw[this,qE];rfl
 have CV:(fN (fN t5 (o 22) (t5.getD 9 .aD)) (o 23) (.agg r)).getD 23 .aD= .agg r:=by simp[fN,cZ,CU]
 rw[nh,CV]at ahV;have iT:=Yo dx zA;obtain⟨av1,cI,b6⟩:=J5 (w:=iA) T8 ahV cS eQ cf;obtain⟨e,pT,hS,bW⟩:=F3 (b:=fC) (cs:=cs) (k:=[.code .ret]) (rest:=[3,4]) (all:=x3) (i:=2) rfl (Ae T8 x3 (rI 2) (rfl:jk x3 _ (rI 2)=o J)) b6 (iT CL iA av1 f2 cI) (by rintro bj ⟨bf,_,_,_,g8,h,_⟩;cases h);obtain⟨TH,ei,fd,ha,u8,rfl,j8⟩:=hS;rcases bW with⟨a',aj,_⟩|⟨hv,aj,todo,n7⟩
 ·cases aj
 injection aj with aj;subst aj;have ve:Leaves aq Tryz.f113 ((ej.put (o 22) s1).put (o 23) xH).tmps (λe bj=>∃bf,Ext m h bf ((aH.set (h.n+1) (o [nM])).set (h.n+1+1) (o [[.int j c]]))/\cp aq bf ((aH.set (h.n+1) (o [nM])).set (h.n+1+1) (o [[.int j c]])) bj/\Below m.base w bj/\∃u,e= .returned u/\b8 aq bf ((aH.set (h.n+1) (o [nM])).set (h.n+1+1) (o [[.int j c]])) (.bS [.agg nM,.int j c]) u) [{target:=.fn (.func gf) #[hZ,hx],args:= #[]}] (.panicking [{v:=u8,recovered:=U}]) pT:=by refine leaves_cons (f:=gf) (args:= #[hZ,hx]) (by simp) (by simp[go_sem]) ?_;refine(avn (code:=c) fd (((((cz.ext fU).ext d1).ext f1).ext ei)) (((((c7.ext fU).ext d1).ext f1).ext ei)) j8 iJ tA (by omega) rfl).mono ?_;rintro e pg bj ⟨⟨v,rfl⟩,rfl,H3,fA,kX,mb⟩;have lr:=T7 (h:=(aH.set (h.n+1) (o [nM])).set (h.n+1+1) (o [[.int j c]])) (v:=.bS [.agg nM,.int j c]) ahU (by have v5:((aH.set (h.n+1) (o [nM])).set (h.n+1+1) (o [[.int j c]])).cell (h.n+1)=o [nM]:=(eN (by omega)).trans lc;simp only[ao,ar,v5]);obtain⟨u,de,hu⟩:=Af kX ((T8.ext ei).ext fA) lr;refine⟨u,de,H3,((((cb.trans fU).trans d1).trans f1).trans ei).trans fA,kX,?_,u,rfl,hu⟩;have bR:c8.base=m.base:=cb.base;have bQ:hK.base=c8.base:=fU.base;have da:zy.base=hK.base:=d1.base;have qY:CL.base=zy.base:=f1.base;have v5:TH.base=CL.base:=ei.base;rw[v5,qY,da,bQ,bR]at mb;rw[qY,da,bQ,bR]at ha;rw[da,bQ,bR]at f4;rw[bQ,bR]at d4;rw[bR]at ls;exact((((gH.trans ls).trans d4).trans f4).trans ha).trans mb
 have av2:((ej.put (o 22) s1).put (o 23) xH).defers=[{target:=.fn (.func gf) #[hZ,hx],args:= #[]}]:=m5;obtain⟨e,nf,Cu,hS,aC,pF,am⟩:=leaves_steps [{target:=.fn (.func gf) #[hZ,hx],args:= #[]}] (.panicking [{v:=u8,recovered:=U}]) pT {(fC.at ((ej.put (o 22) s1).put (o 23) xH) todo)with mode:=.panicking [{v:=u8,recovered:=U}]} cs rfl av2 rfl (by simp[Frame.at,cg]) (by simpa[Frame.at]using c0) ve;exact⟨e,nf,Cu,hS,Comes.of_steps (j4.trans (lay.trans (bd.trans (d5.trans (f5.trans n7))))) aC,pF.trans cg,am⟩
end
section
variable{h:ai}{ah al:Nat->Prop}{b:Nat}{G:aI}
theorem T9(g:fm h ah al b G)(r:List F):hO h ah al b (hz h r) G [h.n+1+1,h.n+1,h.n] []:=(((hO.start g).push [r]).push [nM]).push [[.int j 0]]
theorem Nq(g:fm h ah al b G)(ck:G.dg){r:List F}(aF:bZ x r):aU aq aa 126 [.ptr b 0 0,.agg r] (hz h r)=o (.inl (.int j (qo G x)),hz h r):=by obtain⟨dZ,eh,cf⟩:=(T9 g r).ahk;exact auU cf ck aF
theorem av3(aB:qo G x=0):x.size<=100000:=by
 have:x.code=0:=by
  unfold qo at aB;split at aB
  ·exact aB
  ·rename_i an;simpa using an
 have:=Ni this;omega
theorem T'(g:fm h ah al b G)(ck:G.dg){r:List F}(aF:bZ x r)(a5:e9 3 cT (eI aQ))(ab:aQ.length<=1000000)(aB:qo G x=0):∃aH,(∃q,aU aq aa 128 [.ptr (hz h r).n 0 0,.agg r] ((hz h r).push [[.ptr b 0 0,cT]])=o (q,aH)/\H7 aQ G x q)/\hO h ah al b aH (fw aQ x G).1 [(hz h r).n,h.n+1+1,h.n+1,h.n] []/\aH.cell (h.n+1)=o [nM]/\aH.cell (h.n+1+1)=o [[.int j 0]]:=by
 have cO:=(T9 g r).push [[.ptr b 0 0,cT]];obtain⟨aH,e,c8,k, -, -⟩:=cO.Nh (cJ:=λaH=>∃q,aU aq aa 128 [.ptr (hz h r).n 0 0,.agg r] ((hz h r).push [[.ptr b 0 0,cT]])=o (q,aH)/\H7 aQ G x q) (b7:=(fw aQ x G).1) λdZ eh cf _ vu=>by obtain⟨q,aH,e,bL,d⟩:=auW a5.dH ab _ x (b9 _) (av3 aB) r ((hz h r).push [[.ptr b 0 0,cT]]) dZ eh G cf ck (by simp only[eC];omega) (vu _ (by simp)) hb aF;exact⟨aH,⟨q,e,bL⟩,d⟩
 refine⟨aH,e,c8,(k _ (by simp)).trans ?_,(k _ (by simp)).trans ?_⟩
 ·exact(hp (by simp only[hz,eC];omega)).trans wd
 ·exact(hp (by simp only[hz,eC];omega)).trans wc
theorem ahW{rows:List (List F)}(a5:e9 e cT rows):cT= .aJ\/∃id e rows,cT= .b5 id e rows:=by
 rcases a5 with⟨_,h⟩|⟨id,h⟩
 ·exact .inl h
 ·exact .inr ⟨_,_,_,h⟩
theorem av4(g:fm h ah al b G)(ck:G.dg){r:List F}(aF:bZ x r)(a5:e9 3 cT (eI aQ))(ab:aQ.length<=1000000):∃q,AC aq kp [.ptr b 0 0,.agg r,cT] h q/\abT [.ptr b 0 0,.agg r,cT] h q:=by
 obtain⟨bz,bG⟩:=aF.one;have r':=Nq g ck aF;by_cases aB:qo G x=0
 ·rw[aB]at r';obtain⟨aH,⟨q,zA,m8⟩,a8,iJ,tA⟩:=T' g ck aF a5 ab aB;rcases m8 with⟨lX,br,rfl,dF⟩|⟨lX,rfl⟩
  ·obtain⟨et,e8⟩:=dF.one;refine⟨_,avN bz bG et e8 (ahW a5) r' zA iJ tA,?_⟩;rintro dZ eh c0 x4 gH gE rg A5 e eQ CW y2 Nr E4;simp only[yY,F.ptr.injEq,F.agg.injEq,and_true]at e;obtain⟨rfl,rfl,rfl⟩:=e;have s2:=Nq eQ CW y2;rw[r']at s2;simp only[iF,kW,Sum.inl.injEq,F.int.injEq,true_and,and_true]at s2;obtain⟨bq,⟨q,CX,Ua⟩,CQ, -, -⟩:=T' eQ CW y2 Nr E4 s2.symm;rw[zA]at CX;simp only[iF,kW]at CX;obtain⟨rfl,rfl⟩:=CX;have aV:fg A5 x4 gH=fw A5 gH x4:=by rw[fg,if_neg (by simp[<-s2])]
   rcases Ua with⟨E5,ik,b1,h7⟩|⟨_,b1⟩
   ·simp only[Sum.inl.injEq,F.agg.injEq]at b1;subst b1;rw[aV];exact⟨br,_,by rw[E5],h7,((CQ.set (by simp) _).set (by simp) _).tZ⟩
   ·cases b1
  ·refine⟨_,avY bz bG (ahW a5) r' zA iJ tA,?_⟩;rintro dZ eh c0 x4 gH gE rg A5 e eQ CW y2 Nr E4;simp only[yY,F.ptr.injEq,F.agg.injEq,and_true]at e;obtain⟨rfl,rfl,rfl⟩:=e;have s2:=Nq eQ CW y2;rw[r']at s2;simp only[iF,kW,Sum.inl.injEq,F.int.injEq,true_and,and_true]at s2;obtain⟨bq,⟨q,CX,Ua⟩,CQ, -, -⟩:=T' eQ CW y2 Nr E4 s2.symm;rw[zA]at CX;simp only[iF,kW]at CX;obtain⟨rfl,rfl⟩:=CX;have aV:fg A5 x4 gH=fw A5 gH x4:=by rw[fg,if_neg (by simp[<-s2])]
   rcases Ua with⟨_,ik,b1,_⟩|⟨E5,b1⟩
   ·cases b1
   ·simp only[Sum.inr.injEq,F.iface.injEq,F.int.injEq,true_and]at b1;have Z:(fw A5 gH x4).2.1=ce:=by
     rw[KM]at E5 ⊢;split
     ·rfl
     ·rename_i I;rw[if_neg I]at E5;split
      ·rfl
      ·rename_i R;rw[if_neg R]at E5;exact absurd rfl E5
    rw[aV,Z];exact⟨nM,_,by rw[b1],fD,((CQ.set (by simp) _).set (by simp) _).tZ⟩
 ·refine⟨_,LE bz bG aB r',?_⟩;rintro dZ eh c0 x4 gH gE rg A5 e eQ CW y2 Nr E4;simp only[yY,F.ptr.injEq,F.agg.injEq,and_true]at e;obtain⟨rfl,rfl,rfl⟩:=e;have s2:=Nq eQ CW y2;rw[r']at s2;simp only[iF,kW,Sum.inl.injEq,F.int.injEq,true_and,and_true]at s2;have aV:fg A5 x4 gH=(x4,ce,qo x4 gH):=by rw[fg,if_pos (by rw[<-s2];exact aB)]
  rw[aV];exact⟨nM,_,by rw[s2],fD,((T9 eQ r).set (by simp) _).tZ⟩
theorem av5:aa.ext kp=o GH:=by show sK kp=_;unfold sK;exact if_pos rfl
theorem ahX(g:fm h ah al b G)(ck:G.dg){r:List F}(aF:bZ x r)(a5:e9 3 cT (eI aQ))(ab:aQ.length<=1000000):∃E,(∃br,aU aq aa 113 [.ptr b 0 0,.agg r,cT] h=o (.inl (.bS [.agg br,.int j (fg aQ G x).2.2]),E)/\bZ (fg aQ G x).2.1 br)/\gx h ah al b E (fg aQ G x).1:=by
 have H:=av4 g ck aF a5 ab;have e:aU aq aa kp [.ptr b 0 0,.agg r,cT] h=o (Classical.choose H):=by unfold aU;rw[av5];show GH _ _=_;unfold GH;rw[dif_pos H]
 obtain⟨br,E,I,R,aj⟩:=(Classical.choose_spec H).2 ah al b G x r cT aQ rfl g ck aF a5 ab;rw[I]at e;exact⟨E,⟨br,e,R⟩,aj⟩
end
structure iX(c:i8)(n:gt):Prop where
 ms:c.ms.length=4
 S:n.S.Good
 below:n.below.length<=100
 dq:n.top.stack.length<=100000
 xA:n.top.names.length<=100000
 log:n.S.log.length<=1000000
theorem iX.len{c:i8}{n:gt}(O:iX c n):c.ms.length=n.S.kept.length:=O.ms.trans O.S.kept.symm
def fi(ak:ai)(aO aL:Nat->Prop)(c:i8)(L:List cc)(i:Nat)(n:gt)(q:bt×ax×Int)(aM:F⊕F)(E:ai):Prop:=(q.2.2=0/\aM= .inl (.bS [])/\aN ak aO aL E (put c L i {n with S:=q.1,top:={n.top with stack:=n.top.stack++[q.2.1]}}))\/(q.2.2≠0/\aM= .inr (.iface nc (.int j q.2.2))/\∃cj:gt,cj.S=q.1/\aN ak aO aL E (put c L i cj))
section
variable{h E ak:ai}{ah al aO aL:Nat->Prop}{L:List cc}{c:i8}{i:Nat}{n:gt}
theorem fi.no{S:bt}{k:Int}(ab:k≠0)(cj:gt)(cw:cj.S=S)(s:aN ak aO aL E (put c L i cj)):fi ak aO aL c L i n (S.no k) (.inr (.iface nc (.int j k))) E:=.inr ⟨ab,rfl,cj,cw,s⟩
theorem fi.ok{S:bt}{v:ax}(s:aN ak aO aL E (put c L i {n with S:=S,top:={n.top with stack:=n.top.stack++[v]}})):fi ak aO aL c L i n (S.ok v) (.inl (.bS [])) E:=.inl ⟨rfl,rfl,s⟩
theorem fi.fail(a:fh c L i n){k:Int}(ab:k≠0)(s:aN ak aO aL E L):fi ak aO aL c L i n (n.S.no k) (.inr (.iface nc (.int j k))) E:=fi.no ab n rfl (by rw[a.same];exact s)
theorem fi.drop{X:cc}{q:bt×ax×Int}{aM:F⊕F}(r:fi ak aO aL c (X::L) (i+1) n q aM E):fi ak aO aL c L i n q aM E:=by
 rcases r with⟨a,b,s⟩|⟨a,b,cj,e,s⟩
 ·exact .inl ⟨a,b,s.drop⟩
 ·exact .inr ⟨a,b,cj,e,s.drop⟩
theorem qG(s:aN ak aO aL h L)(a:fh c L i n)(ad:n.below.length<=100)(aC:n.top.stack.length<=100000){v:ax}{r:List F}(Z:bZ v r):∃E,aU aq aa pQ [.ptr c.bF 0 0,.agg r] h=o (.inl (.bS []),E)/\aN ak aO aL E (put c L i {n with top:={n.top with stack:=n.top.stack++[v]}}):=by obtain⟨E,e,ek⟩:=as2 s i a.m Z (by omega) (by omega);rw[a.x1]at ek;exact⟨E,e,ek⟩
theorem Ub(s:aN ak aO aL h L)(a:fh c L i n){v:ax}(bW:n.top.stack=st++[v])(ad:n.below.length<=100)(am:st.length<=100000):∃E r,aU aq aa 90 [.ptr c.bF 0 0] h=o (.inl (.agg r),E)/\bZ v r/\aN ak aO aL E (put c L i {n with top:={n.top with stack:=st}}):=by obtain⟨E,⟨r,e,Z⟩,ek⟩:=as3 s i a.m bW (by omega) (by omega);rw[a.x1]at ek;exact⟨E,r,e,Z,ek⟩
theorem Ie(s:aN ak aO aL h L)(a:fh c L i n){b7:aI}(i6:∀ah al,fm h ah al c.cE n.S.G->∃E,cJ E/\gx h ah al c.cE E b7):∃E,cJ E/\aN ak aO aL E (put c L i {n with S:={n.S with G:=b7}}):=by obtain⟨E,r,ek⟩:=s.call (cJ:=cJ) (Y:=gU c.cE b7) (i+2) a.g i6;rw[a.avb]at ek;exact⟨E,r,ek⟩
theorem sa(s:aN ak aO aL h L)(a:fh c L i n)(am:c.ms.length=n.S.kept.length):(∀k:Nat,cR U k h (.ptr c.bF 0 0)=o (.ptr c.a0 0 0))/\(∀k:Nat,cR U k h (.ptr c.a0 0 0)=o (.ptr c.cE 0 0))/\∀k:Nat,cR U k h (.ptr c.a0 0 1)=o (.ptr c.cG 0 0):=by obtain⟨eR,dS,aZ,g,a8⟩:=qF s i a.m;obtain⟨cg,c0⟩:=Ib s a.b am;refine⟨λk=>?_,cg,c0⟩;rw[gb,a8.m,du,oq,du,pI];rfl
theorem oP(s:aN ak aO aL h L)(a:fh c L i n)(ad:n.below.length<=100):aU aq aa L1 [.ptr c.bF 0 0] h=o (.inl (.ptr n.bp n.below.length 0),h)/\∀k:Nat,cR U k h (.ptr n.bp n.below.length 0)=o (.int j n.top.bu):=by obtain⟨eR,dS,aZ,g,a8⟩:=qF s i a.m;exact⟨L3 a8.m (by omega),λk=>a8.rd k 0 _ (pS n.top eR dS aZ g a8.aV.cV.1).2.2.2.2.2.1⟩
theorem E6(t:bi):dv t=[.int j t.parent,.int j t.gate,.int j t.c5,.int j t.cell,.int j t.bu,.int j t.func]:=rfl
theorem ahY{p n:Int}{v:ax}{S:bt}:gV p 13 k n [v] S=if v.kind≠4 then S.no 2 else if fK (S.G.c5 v.n) 0=U then S.no 9 else if 0<=(S.G.target v.n).1.bu then S.no 2 else({S with log:=S.log++[lP.mk p (S.G.target v.n).1.cell 1 v.n]}:bt).ok (kG (S.cells.getD (S.G.target v.n).1.cell.toNat 0)):=rfl
theorem Ns{G:aI}(ck:G.dg){i:Int}{k:Nat}(ad:fK (G.c5 i) k=J)(az:¬0<=(G.target i).1.bu):0<=(G.target i).1.cell/\(G.target i).1.cell<12:=by
 have bA:G.has i=J:=by
  cases h:G.has i with
  |true=>rfl
  |false=>
    have:G.c5 i=0:=by unfold aI.c5;rw[if_pos (.inl (aI.xx h))]
    rw[this]at ad;have R:fK 0 k=U:=by unfold fK;rw[Int.zero_ediv];decide
    rw[R]at ad;cases ad
 obtain⟨_,_,I|I⟩:=aI.MF ck bA
 ·exact⟨I.2.1,I.2.2.1⟩
 ·omega
theorem av6(s:aN ak aO aL h L)(a:fh c L i n)(O:iX c n){v:ax}{r:List F}(Z:bZ v r)(k m:Int):∃aM E,aU aq aa 129 [.ptr c.bF 0 0,.agg r] h=o (aM,E)/\fi ak aO aL c L i n (gV n.top.bu 13 k m [v] n.S) aM E:=by
 rw[ahY];have bd:=s.push [r];have aP:=a.cons (a1 h.n [r]);obtain⟨bz,bG⟩:=Z.cV;by_cases ab:v.kind=4
 ·rw[if_neg (by simpa using ab)];obtain⟨br,ev,k'⟩:=vq (h:=h.push [r]) Z ab;have j6:=TZ bd aP.m aP.b aP.g O.len O.S.wf k' (k:=0) (q:=1) (by decide) (by decide);by_cases ad:fK (n.S.G.c5 v.n) 0=J
  ·rw[if_pos ad]at j6;rw[if_neg (by simp[ad])];have aY:=bd.push [dv (n.S.G.target v.n).1];have a2:=aP.cons (a1 (h.push [r]).n [dv (n.S.G.target v.n).1]);by_cases az:0<=(n.S.G.target v.n).1.bu
   ·rw[if_pos az];have d:decide (0<=(n.S.G.target v.n).1.bu)=J:=decide_eq_true az;refine⟨_,_,?_,fi.fail a (by decide) aY.drop.drop⟩;refine a4 LA rfl ?_;unfold Hc;simp only[ao,ar,av,ap,bN,bz,bG,ev,j6,E6,d,re]
   ·rw[if_neg az];have d:decide (0<=(n.S.G.target v.n).1.bu)=U:=decide_eq_false az;obtain⟨hT,cD,c9⟩:=sa aY a2 O.len;obtain⟨ec,nZ⟩:=oP aY a2 O.below;obtain⟨aj,be,bs⟩:=auM aY (i+1+1+3) a2.w O.S.cells O.log (Ns O.S.wf ad az) n.top.bu v.n;rw[a2.ahI]at bs;have bl:=a2.put {n with S:={n.S with cells:=n.S.cells,log:=n.S.log++[⟨n.top.bu,(n.S.G.target v.n).1.cell,1,v.n⟩]}};obtain⟨aH,b1,bE⟩:=qG bs bl O.below O.dq (x0 (n.S.cells.getD (n.S.G.target v.n).1.cell.toNat 0));rw[iB,eZ,eZ]at bE;refine⟨_,aH,?_,fi.ok bE.drop.drop⟩;have f0:cd 0 (.ptr c.bF 0 0)=o (.ptr c.bF 0 0):=rfl;have f1:cd 1 (.ptr c.a0 0 0)=o (.ptr c.a0 0 1):=rfl;have f2:cd 0 (.ptr n.bp n.below.length 0)=o (.ptr n.bp n.below.length 0):=rfl;rw[E6]at hT cD c9 ec nZ be;refine a4 LA rfl ?_;unfold Hc;simp only[ao,ar,av,ap,bN,bz,bG,ev,j6,E6,d,pX,f0,f1,f2,hT,c9,ec,nZ,be,TY,b1]
  ·rw[if_neg ad]at j6;rw[if_pos (by simpa using ad)];refine⟨_,_,?_,fi.fail a (by decide) bd.drop⟩;refine a4 LA rfl ?_;unfold Hc;simp only[ao,ar,av,ap,bN,bz,bG,ev,j6]
 ·rw[if_pos ab];have ev:=vr (h:=h.push [r]) Z ab;refine⟨_,_,?_,fi.fail a (by decide) bd.drop⟩;refine a4 LA rfl ?_;unfold Hc;simp only[ao,ar,av,ap,bN,bz,bG,ev]
theorem ahZ{p n:Int}{v:ax}{S:bt}:gV p 14 k n [v,x] S=if v.kind≠4\/x.kind≠1 then S.no 2 else if fK (S.G.c5 v.n) 1=U then S.no 9 else if 0<=(S.G.target v.n).1.bu then S.no 2 else({S with log:=S.log++[lP.mk p (S.G.target v.n).1.cell 2 v.n],cells:=S.cells.set (S.G.target v.n).1.cell.toNat x.n}:bt).ok x:=rfl
theorem av7(s:aN ak aO aL h L)(a:fh c L i n)(O:iX c n){v:ax}{r:List F}(Z:bZ v r)(aF:bZ x t)(k m:Int):∃aM E,aU aq aa 130 [.ptr c.bF 0 0,.agg r,.agg t] h=o (aM,E)/\fi ak aO aL c L i n (gV n.top.bu 14 k m [v,x] n.S) aM E:=by
 rw[ahZ];have bd:=(s.push [r]).push [t];have aP:=(a.cons (a1 h.n [r])).cons (a1 (h.push [r]).n [t]);obtain⟨bz,bG⟩:=Z.cV;obtain⟨et,e8⟩:=aF.cV;have aW:((h.push [r]).push [t]).cell h.n=o [r]:=(bd.cell 1 rfl).1;have bD:((h.push [r]).push [t]).cell (h.n+1)=o [t]:=(bd.cell 0 rfl).1;by_cases ab:v.kind=4
 ·obtain⟨br,ev,k'⟩:=vq (h:=(h.push [r]).push [t]) Z ab;by_cases r0:x.kind=1
  ·rw[if_neg (by simp[ab,r0])];obtain⟨dQ,zB,vZ⟩:=vq (h:=(h.push [r]).push [t]) aF r0;have j6:=TZ bd aP.m aP.b aP.g O.len O.S.wf Z (k:=1) (q:=2) (by decide) (by decide);by_cases ad:fK (n.S.G.c5 v.n) 1=J
   ·rw[if_pos ad]at j6;rw[if_neg (by simp[ad])];have aY:=bd.push [dv (n.S.G.target v.n).1];have a2:=aP.cons (a1 ((h.push [r]).push [t]).n [dv (n.S.G.target v.n).1]);by_cases az:0<=(n.S.G.target v.n).1.bu
    ·rw[if_pos az];have d:decide (0<=(n.S.G.target v.n).1.bu)=J:=decide_eq_true az;refine⟨_,_,?_,fi.fail a (by decide) aY.drop.drop.drop⟩;refine a4 Hg rfl ?_;unfold EF;simp only[ao,ar,av,ap,bN,bz,bG,et,e8,aW,bD,ev,zB,j6,E6,d,re]
    ·rw[if_neg az];have d:decide (0<=(n.S.G.target v.n).1.bu)=U:=decide_eq_false az;obtain⟨hT,cD,c9⟩:=sa aY a2 O.len;obtain⟨ec,nZ⟩:=oP aY a2 O.below;obtain⟨w,hw,_⟩:=aF.i7;have cl:(((h.push [r]).push [t]).push [dv (n.S.G.target v.n).1]).cell (h.n+1)=o [t]:=(aY.cell 1 rfl).1;have av8:t[1]? =o (.int j x.n):=by rw[hw];rfl
     obtain⟨aj,be,bs⟩:=auN aY (i+1+1+1+3) a2.w O.S.cells O.log (Ns O.S.wf ad az) n.top.bu v.n x.n;rw[a2.ahI]at bs;have bl:=a2.put {n with S:={n.S with cells:=n.S.cells.set (n.S.G.target v.n).1.cell.toNat x.n,log:=n.S.log++[⟨n.top.bu,(n.S.G.target v.n).1.cell,2,v.n⟩]}};have eg:=(bs.cell 1 rfl).1;simp only[eC]at eg;obtain⟨aH,b1,bE⟩:=qG bs bl O.below O.dq aF;rw[iB,eZ,eZ,eZ]at bE;refine⟨_,aH,?_,fi.ok bE.drop.drop.drop⟩;have f0:cd 0 (.ptr c.bF 0 0)=o (.ptr c.bF 0 0):=rfl;have f1:cd 1 (.ptr c.a0 0 0)=o (.ptr c.a0 0 1):=rfl;have f2:cd 0 (.ptr n.bp n.below.length 0)=o (.ptr n.bp n.below.length 0):=rfl;rw[E6]at hT cD c9 ec nZ be cl;refine a4 Hg rfl ?_;unfold EF;simp only[ao,ar,av,ap,bN,bz,bG,et,e8,aW,bD,ev,zB,j6,E6,d,pX,f0,f1,f2,hT,c9,ec,nZ,cl,av8,be,eg,b1]
   ·rw[if_neg ad]at j6;rw[if_pos (by simpa using ad)];refine⟨_,_,?_,fi.fail a (by decide) bd.drop.drop⟩;refine a4 Hg rfl ?_;unfold EF;simp only[ao,ar,av,ap,bN,bz,bG,et,e8,aW,bD,ev,zB,j6]
  ·rw[if_pos (.inr r0)];have zB:=vr (h:=(h.push [r]).push [t]) aF r0;refine⟨_,_,?_,fi.fail a (by decide) bd.drop.drop⟩;refine a4 Hg rfl ?_;unfold EF;simp only[ao,ar,av,ap,bN,bz,bG,et,e8,aW,bD,ev,zB]
 ·rw[if_pos (.inl ab)];have ev:=vr (h:=(h.push [r]).push [t]) Z ab;refine⟨_,_,?_,fi.fail a (by decide) bd.drop.drop⟩;refine a4 Hg rfl ?_;unfold EF;simp only[ao,ar,av,ap,bN,bz,bG,et,e8,aW,ev]
end
section
variable{h E ak:ai}{ah al aO aL:Nat->Prop}{L:List cc}{c:i8}{i:Nat}{n:gt}
theorem ah0(s:aN ak aO aL h L)(a:fh c L i n)(am:c.ms.length=n.S.kept.length)(ck:n.S.G.dg){v:ax}{r:List F}(Z:bZ v r)(mo g:Int):∃E,aU aq aa 131 [.ptr c.bF 0 0,.agg r,.int j mo,.int j g] h=o (if(n.S.G.derive v.n mo g).2.2=0 then .inl (.agg [.int j 4,.int j (n.S.G.derive v.n mo g).2.1,.aJ])else .inr (.iface nc (.int j (n.S.G.derive v.n mo g).2.2)),E)/\aN ak aO aL E (put c L i {n with S:={n.S with G:=(n.S.G.derive v.n mo g).1}}):=by
 have bd:=(s.push [r]).push [a3];have aP:=(a.cons (a1 h.n [r])).cons (a1 (h.push [r]).n [a3]);obtain⟨w,hw,aK⟩:=Z.i7;obtain⟨bz,bG⟩:=Z.cV;have aW:((h.push [r]).push [a3]).cell h.n=o [r]:=(bd.cell 1 rfl).1;obtain⟨hT,cD,c9⟩:=sa bd aP am;have aA:r[1]? =o (.int j v.n):=by rw[hw];rfl
 obtain⟨R,ay,aY⟩:=Ie bd aP (cJ:=λE=>aU aq aa 84 [.ptr c.cE 0 0,.int j v.n,.int j mo,.int j g] ((h.push [r]).push [a3])=o (.inl (.bS [.int j (n.S.G.derive v.n mo g).2.1,.int j (n.S.G.derive v.n mo g).2.2]),E)) λah al x=>ahf x ck v.n mo g;rw[eZ,eZ]at aY;have bD:=(aY.cell 0 rfl).1;simp only[eC]at bD;have f0:cd 0 (.ptr c.bF 0 0)=o (.ptr c.bF 0 0):=rfl;have f1:cd 0 (.ptr c.a0 0 0)=o (.ptr c.a0 0 0):=rfl;by_cases an:(n.S.G.derive v.n mo g).2.2=0
 ·have d:decide ((n.S.G.derive v.n mo g).2.2=0)=J:=decide_eq_true an;rw[if_pos an];have bs:=aY.set 0 rfl [[.int j 4,.int j (n.S.G.derive v.n mo g).2.1,.aJ]];refine⟨_,?_,bs.drop.drop⟩;generalize n.S.G.derive v.n mo g=q at*;refine a4 ad7 rfl ?_;unfold Se;simp only[ao,ar,av,ap,bY,bN,bz,bG,aW,hT,cD,f0,f1,aA,ay,d,pX,bD]
 ·have d:decide ((n.S.G.derive v.n mo g).2.2=0)=U:=decide_eq_false an;rw[if_neg an];refine⟨_,?_,aY.drop.drop⟩;generalize n.S.G.derive v.n mo g=q at*;refine a4 ad7 rfl ?_;unfold Se;simp only[ao,ar,av,ap,bN,bz,bG,aW,hT,cD,f0,f1,aA,ay,d,re]
theorem ah1{p n:Int}{v:ax}{S:bt}:gV p 16 k n [v] S=if v.kind≠4 then S.no 2 else if S.G.gate.2.2≠0 then({S with G:=S.G.gate.1}:bt).no S.G.gate.2.2 else match S.G.gate.1.derive v.n 15 S.G.gate.2.1 with
   |(b7,m,c)=>if c≠0 then({S with G:=b7}:bt).no c else({S with G:=b7}:bt).ok (.mk 2 0 [ge m,.mk 5 S.G.gate.2.1 []]):=rfl
theorem av9(s:aN ak aO aL h L)(a:fh c L i n)(O:iX c n){v:ax}{r:List F}(Z:bZ v r)(k m:Int):∃aM E,aU aq aa 132 [.ptr c.bF 0 0,.agg r] h=o (aM,E)/\fi ak aO aL c L i n (gV n.top.bu 16 k m [v] n.S) aM E:=by
 rw[ah1];have bd:=s.push [r];have aP:=a.cons (a1 h.n [r]);obtain⟨bz,bG⟩:=Z.cV;by_cases ab:v.kind=4
 ·rw[if_neg (by simpa using ab)];obtain⟨br,ev,k'⟩:=vq (h:=h.push [r]) Z ab;obtain⟨hT,cD,c9⟩:=sa bd aP O.len;have f0:cd 0 (.ptr c.bF 0 0)=o (.ptr c.bF 0 0):=rfl;have f1:cd 0 (.ptr c.a0 0 0)=o (.ptr c.a0 0 0):=rfl;obtain⟨R,ay,aY⟩:=Ie bd aP (cJ:=λE=>aU aq aa 63 [.ptr c.cE 0 0] (h.push [r])=o (.inl (.bS [.int j n.S.G.gate.2.1,.int j n.S.G.gate.2.2]),E)) λah al x=>adC x O.S.wf;have a2:=aP.put {n with S:={n.S with G:=n.S.G.gate.1}};have Uc:=aY;rw[eZ]at Uc;have bD:=(Uc.cell 0 rfl).1;by_cases a5:n.S.G.gate.2.2=0
  ·rw[if_neg (by simpa using a5)];have zC:decide (n.S.G.gate.2.2=0)=J:=decide_eq_true a5;obtain⟨aj,be,bs⟩:=ah0 aY a2 O.len (O.S.wf.gate) Z 15 n.S.G.gate.2.1;rw[iB]at bs;have bl:=aP.put {n with S:={n.S with G:=(n.S.G.gate.1.derive v.n 15 n.S.G.gate.2.1).1}};generalize n.S.G.gate.1.derive v.n 15 n.S.G.gate.2.1=q at*;obtain⟨b7,bf,i6⟩:=q;simp only at be bs bl ⊢;by_cases an:i6=0
   ·subst an;rw[if_pos rfl]at be;rw[if_neg (by simp)];have bE:=(bs.push [[.int j 4,.int j bf,.aJ]]).fresh 2;have cr:=(bl.cons (a1 aj.n [[.int j 4,.int j bf,.aJ]])).cons (GC (aj.push [[.int j 4,.int j bf,.aJ]]).ids 2);have CY:bZ (.mk 2 0 [ge bf,.mk 5 n.S.G.gate.2.1 []]) [.int j 2,.int j 0,.b5 (o aj.ids) bO [[.int j 4,.int j bf,.aJ],[.int j 5,.int j n.S.G.gate.2.1,.aJ]]]:=Nj ⟨_,_,rfl,A3 bf,_,_,rfl,ahz _,rfl⟩;obtain⟨bq,c4,b3⟩:=qG bE cr O.below O.dq CY;rw[eZ,eZ,iB,eZ]at b3;refine⟨_,bq,?_,fi.ok b3.drop.drop.drop⟩;refine a4 LH rfl ?_;unfold Hh;simp only[ao,ar,av,ap,bY,vi,bN,bz,bG,ev,hT,cD,f0,f1,ay,zC,pX,bD,be,c4]
   ·rw[if_neg an]at be;rw[if_pos an];rw[eZ]at bs;refine⟨_,_,?_,fi.no an {n with S:={n.S with G:=b7}} rfl bs.drop⟩;refine a4 LH rfl ?_;unfold Hh;simp only[ao,ar,av,ap,bN,bz,bG,ev,hT,cD,f0,f1,ay,zC,pX,bD,be]
  ·rw[if_pos a5];have zC:decide (n.S.G.gate.2.2=0)=U:=decide_eq_false a5;refine⟨_,_,?_,fi.no a5 {n with S:={n.S with G:=n.S.G.gate.1}} rfl Uc.drop⟩;refine a4 LH rfl ?_;unfold Hh;simp only[ao,ar,av,ap,bN,bz,bG,ev,hT,cD,f0,f1,ay,zC,re]
 ·rw[if_pos ab];have ev:=vr (h:=h.push [r]) Z ab;refine⟨_,_,?_,fi.fail a (by decide) bd.drop⟩;refine a4 LH rfl ?_;unfold Hh;simp only[ao,ar,av,ap,bN,bz,bG,ev]
theorem ah2(s:aN ak aO aL h L)(a:fh c L i n)(ad:n.below.length<=100){g2:List F}{g:F}(aV:bZ f.arg g2)(a5:e9 3 g (eI f.eU))(aC:f.stack=[])(aA:f.names=[]):(n.below.length+1=20->∃E,aU aq aa 133 [.ptr c.bF 0 0,.agg (hI f g2 .aJ .aJ g)] h=o (.inr (.iface nc (.int j 4)),E)/\aN ak aO aL E L)/\(n.below.length+1≠20->∃E h2,aU aq aa 133 [.ptr c.bF 0 0,.agg (hI f g2 .aJ .aJ g)] h=o (.inl (.bS []),E)/\aN ak aO aL E (put c L i ⟨h2,n.S,n.below++[n.top],f⟩)):=by
 have lS:g.one=J:=by rcases a5 with⟨_,rfl⟩|⟨id,rfl⟩<;>rfl
 have bG:=(pS f g2 .aJ .aJ g aV.cV.1).2.1;have bz:=MK (f:=f) (s:=.aJ) (n:=.aJ) aV.cV rfl rfl lS;generalize me:hI f g2 .aJ .aJ g=row at*;have bd:=s.push [row];have aP:=a.cons (a1 h.n [row]);obtain⟨_,_,_,_,a8⟩:=qF bd (i+1) aP.m;have h':∀(k:Nat) (x:ai),x.cell c.bF=o [[.ptr c.a0 0 0,.bw n.bp 0 (n.below.length+1) gr,.int j (n.S.left:Int)]]->cR U k x (.ptr c.bF 0 1)=o (.bw n.bp 0 (n.below.length+1) gr):=λk x aF=>by rw[gb,aF];rfl
 have cD:=λk=>h' k _ a8.m;have f1:cd 1 (.ptr c.bF 0 0)=o (.ptr c.bF 0 1):=rfl;refine⟨λnE=>?_,λnE=>?_⟩
 ·have d:decide (((n.below.length+1:Nat):Int)=20)=J:=decide_eq_true (by omega);refine⟨_,?_,bd.drop⟩;refine a4 aec rfl ?_;unfold Sg;simp only[ao,ar,av,ap,bN,bz,bG,f1,cD,d,re]
 ·have d:decide (((n.below.length+1:Nat):Int)=20)=U:=decide_eq_false (by omega);have aY:=bd.push [row];have a2:=aP.cons (a1 (h.push [row]).n [row]);obtain⟨_,_,_,_,oO⟩:=qF aY (i+2) a2.m;have c9:=λk=>h' k _ oO.m;obtain⟨aj,aH,be,b1,bE⟩:=au5 aY (i+1+1) a2.m (f:=f) (a:=g2) (g:=g) aV a5 aC aA (by omega) (km:=h.n+1) (by rw[me];exact(aY.cell 0 rfl).1);rw[a2.x1,eZ,eZ]at bE;have aW:(h.push [row]).cell h.n=o [row]:=(bd.cell 0 rfl).1;simp only[eC]at be b1;refine⟨_,_,?_,bE.drop.drop⟩;refine a4 aec rfl ?_;unfold Sg;simp only[ao,ar,av,ap,bN,bz,bG,f1,cD,c9,d,pX,aW,be,b1]
theorem ah3{p n:Int}{v:ax}{S:bt}:gV p 9 k n [v] S=if v.kind≠2 then S.no 2 else S.ok (v.l.getD 0 ce):=rfl
theorem ah4{p n:Int}{v:ax}{S:bt}:gV p 10 k n [v] S=if v.kind≠2 then S.no 2 else S.ok (v.l.getD 1 ce):=rfl
end
abbrev n8:di:=93
section
variable{h E ak:ai}{ah al aO aL:Nat->Prop}{L:List cc}{c:i8}{i:Nat}{n:gt}
theorem av'(k x y:Int):aU aq aa 42 [.int j k,.int j x,.int j y] h=o (.inl (.int j (Ax k x y)),h):=by
 unfold Ax;by_cases I:k=1
 ·subst I;refine a4 AL rfl ?_;unfold zk;simp only[ao,ar,av,ap]
 have d1:decide (k=1)=U:=decide_eq_false I;rw[if_neg I];by_cases R:k=2
 ·subst R;rw[if_pos rfl];refine a4 AL rfl ?_;unfold zk;simp only[ao,ar,av,ap,d1]
 have d2:decide (k=2)=U:=decide_eq_false R;rw[if_neg R];by_cases aj:k=3
 ·subst aj;rw[if_pos rfl];refine a4 AL rfl ?_;unfold zk;simp only[ao,ar,av,ap,d1,d2]
 have d3:decide (k=3)=U:=decide_eq_false aj;rw[if_neg aj];by_cases aH:k=4
 ·subst aH;rw[if_pos rfl];by_cases am:x<y
  ·have kq:decide (x<y)=J:=decide_eq_true am;rw[if_pos am];refine a4 AL rfl ?_;unfold zk;simp only[ao,ar,av,ap,d1,d2,d3,kq]
  ·have kq:decide (x<y)=U:=decide_eq_false am;rw[if_neg am];refine a4 AL rfl ?_;unfold zk;simp only[ao,ar,av,ap,d1,d2,d3,kq]
 have d4:decide (k=4)=U:=decide_eq_false aH;rw[if_neg aH];by_cases bq:k=5
 ·subst bq;rw[if_pos rfl];by_cases am:x=y
  ·have kq:decide (x=y)=J:=decide_eq_true am;rw[if_pos am];refine a4 AL rfl ?_;unfold zk;simp only[ao,ar,av,ap,d1,d2,d3,d4,kq]
  ·have kq:decide (x=y)=U:=decide_eq_false am;rw[if_neg am];refine a4 AL rfl ?_;unfold zk;simp only[ao,ar,av,ap,d1,d2,d3,d4,kq]
 have d5:decide (k=5)=U:=decide_eq_false bq;rw[if_neg bq];refine a4 AL rfl ?_;unfold zk;simp only[ao,ar,av,ap,d1,d2,d3,d4,d5]
abbrev eX(op k m:Int):List F:=[.int j op,.int j k,.int j m]
abbrev gt.dq(n:gt)(l:List ax):gt:={n with top:={n.top with stack:=l}}
theorem vv(s:aN ak aO aL h L)(a:fh c L i n)(O:iX c n){v:ax}(bW:n.top.stack=st++[v]):∃E r,aU aq aa 90 [.ptr c.bF 0 0] h=o (.inl (.agg r),E)/\bZ v r/\aN ak aO aL E (put c L i (n.dq st))/\fh c (put c L i (n.dq st)) i (n.dq st):=by have eL:=O.dq;rw[bW]at eL;simp only[fz,hj]at eL;obtain⟨E,r,e,Z,ek⟩:=Ub s a bW O.below (by omega);exact⟨E,r,e,Z,ek,a.put _⟩
theorem Nt(s:aN ak aO aL h L)(a:fh c L i n)(O:iX c n){v w:ax}(bW:n.top.stack=st++[v]++[w]):∃R aj mr cL,aU aq aa 90 [.ptr c.bF 0 0] h=o (.inl (.agg mr),R)/\aU aq aa 90 [.ptr c.bF 0 0] R=o (.inl (.agg cL),aj)/\bZ w mr/\bZ v cL/\aN ak aO aL aj (put c L i (n.dq st))/\fh c (put c L i (n.dq st)) i (n.dq st):=by have eL:=O.dq;rw[bW]at eL;simp only[fz,hj]at eL;obtain⟨R,bL,ay,hw,aY⟩:=Ub s a bW O.below (by simp;omega);obtain⟨aj,gE,be,Z,bs⟩:=Ub aY (a.put (n.dq (st++[v]))) rfl O.below (by omega);rw[iB]at bs;exact⟨R,aj,bL,gE,ay,be,hw,Z,bs,a.put _⟩
theorem iX.s3{n:gt}(O:iX c n)(bW:n.top.stack=st++l):iX c (n.dq st):=by have eL:=O.dq;rw[bW]at eL;simp only[fz]at eL;exact⟨O.ms,O.S,O.below,by simp only;omega,O.xA,O.log⟩
theorem ah5{p n:Int}{v:ax}{S:bt}:gV p 6 k n [v,x] S=if v.kind≠1\/x.kind≠1 then S.no 2 else S.ok (kG (Ax k v.n x.n)):=rfl
theorem awa(s:aN ak aO aL h L)(a:fh c L i n)(O:iX c n){v w:ax}(bW:n.top.stack=st++[v]++[w])(k m:Int):∃aM E,aU aq aa n8 [.ptr c.bF 0 0,.agg (eX 6 k m)] h=o (aM,E)/\fi ak aO aL c L i (n.dq st) (gV n.top.bu 6 k m [v,w] n.S) aM E:=by
 rw[ah5];have bd:=s.push [eX 6 k m];have aP:=a.cons (a1 h.n [eX 6 k m]);obtain⟨ec,nZ⟩:=oP bd aP O.below;have aW:=(bd.cell 0 rfl).1;obtain⟨R,aj,mr,cL,ay,be,hw,Z,bs,bl⟩:=Nt bd aP O bW;rw[eZ]at bs bl;have et:=(O.s3 (st:=st) (l:=[v]++[w]) (by rw[bW,kS]));have bE:=(bs.push [a3]).push [a3];have b3:aN ak aO aL _ (a1 (aj.n+1) [a3]::a1 aj.n [mr]::a1 h.n [eX 6 k m]::put c L i (n.dq st)):=bE.set 1 rfl [mr];have c2:aN ak aO aL _ (a1 (aj.n+1) [cL]::a1 aj.n [mr]::a1 h.n [eX 6 k m]::put c L i (n.dq st)):=b3.set 0 rfl [cL];have jB:=(bl.cons (a1 aj.n [mr])).cons (a1 (aj.n+1) [cL]);obtain⟨bz,bG⟩:=hw.cV;obtain⟨hL,e8⟩:=Z.cV;have lV:=(b3.cell 0 rfl).1;have bR:=(c2.cell 0 rfl).1;have bQ:=(c2.cell 1 rfl).1;have da:=(c2.cell 2 rfl).1;generalize s4:(((aj.push [a3]).push [a3]).set aj.n (o [mr])).set (aj.n+1) (o [cL])=cq at*;by_cases ab:v.kind=1
 ·obtain⟨bx,Nu,k'⟩:=vq (h:=cq) Z ab;by_cases r0:w.kind=1
  ·rw[if_neg (by simp[ab,r0])];obtain⟨bL,zB,lM⟩:=vq (h:=cq) hw r0;obtain⟨fU,FT,_⟩:=Z.i7;obtain⟨jV,FU,_⟩:=hw.i7;have fA:cL[1]? =o (.int j v.n):=by rw[FT];rfl
   have kX:mr[1]? =o (.int j w.n):=by rw[FU];rfl
   obtain⟨de,j3,eW⟩:=qG c2 jB O.below et.dq (x0 (Ax k v.n w.n));rw[eZ,eZ,eZ,iB]at eW;refine⟨_,de,?_,fi.ok eW.drop.drop.drop⟩;refine a4 oI rfl ?_;unfold n2;simp only[ao,ar,av,ap,bY,vi,bN,ec,aW,cN,ay,be,bz,bG,hL,e8,lV,s4,bR,bQ,da,Nu,zB,fA,kX,av',TY,j3]
  ·rw[if_pos (.inr r0)];have zB:=vr (h:=cq) hw r0;refine⟨_,_,?_,fi.no (by decide) (n.dq st) rfl c2.drop.drop.drop⟩;refine a4 oI rfl ?_;unfold n2;simp only[ao,ar,av,ap,bY,vi,bN,ec,aW,cN,ay,be,bz,bG,hL,e8,lV,s4,bR,bQ,Nu,zB]
 ·rw[if_pos (.inl ab)];have Nu:=vr (h:=cq) Z ab;refine⟨_,_,?_,fi.no (by decide) (n.dq st) rfl c2.drop.drop.drop⟩;refine a4 oI rfl ?_;unfold n2;simp only[ao,ar,av,ap,bY,vi,bN,ec,aW,cN,ay,be,bz,bG,hL,e8,lV,s4,bR,bQ,Nu]
end
section
variable{h E ak:ai}{ah al aO aL:Nat->Prop}{L:List cc}{c:i8}{i:Nat}{n:gt}
theorem ah6{p n:Int}{v:ax}{S:bt}:gV p 8 k n [v,x] S=if(ax.mk 2 0 [v,x]).code≠0 then S.no 3 else S.ok (.mk 2 0 [v,x]):=rfl
theorem ah7{p n:Int}{v:ax}{S:bt}:gV p 11 k n [v] S=if(ax.mk 3 p [v]).code≠0 then S.no 3 else S.ok (.mk 3 p [v]):=rfl
theorem ah8{p n:Int}{v:ax}{S:bt}:gV p 12 k n [v] S=if v.kind≠3 then S.no 2 else if v.n≠p then S.no 10 else S.ok (v.l.getD 0 ce):=rfl
theorem awb(s:aN ak aO aL h L)(a:fh c L i n)(O:iX c n){v w:ax}(bW:n.top.stack=st++[v]++[w])(k m:Int):∃aM E,aU aq aa n8 [.ptr c.bF 0 0,.agg (eX 8 k m)] h=o (aM,E)/\fi ak aO aL c L i (n.dq st) (gV n.top.bu 8 k m [v,w] n.S) aM E:=by
 rw[ah6];have bd:=s.push [eX 8 k m];have aP:=a.cons (a1 h.n [eX 8 k m]);obtain⟨ec,nZ⟩:=oP bd aP O.below;have aW:=(bd.cell 0 rfl).1;obtain⟨R,aj,mr,cL,ay,be,hw,Z,bs,bl⟩:=Nt bd aP O bW;rw[eZ]at bs bl;have et:=(O.s3 (st:=st) (l:=[v]++[w]) (by rw[bW,kS]));have bE:=(bs.push [a3]).push [a3];have b3:aN ak aO aL _ (a1 (aj.n+1) [a3]::a1 aj.n [mr]::a1 h.n [eX 8 k m]::put c L i (n.dq st)):=bE.set 1 rfl [mr];have c2:aN ak aO aL _ (a1 (aj.n+1) [cL]::a1 aj.n [mr]::a1 h.n [eX 8 k m]::put c L i (n.dq st)):=b3.set 0 rfl [cL];have jB:=(bl.cons (a1 aj.n [mr])).cons (a1 (aj.n+1) [cL]);obtain⟨bz,bG⟩:=hw.cV;obtain⟨hL,e8⟩:=Z.cV;have lV:=(b3.cell 0 rfl).1;have bR:=(c2.cell 0 rfl).1;have bQ:=(c2.cell 1 rfl).1;generalize s4:(((aj.push [a3]).push [a3]).set aj.n (o [mr])).set (aj.n+1) (o [cL])=cq at*;have eW:=c2.fresh 2;have u9:=jB.cons (GC cq.ids 2);have CY:bZ (.mk 2 0 [v,w]) [.int j 2,.int j 0,.b5 (o cq.ids) bO [cL,mr]]:=Nj ⟨_,_,rfl,Z,_,_,rfl,hw,rfl⟩;by_cases ab:(ax.mk 2 0 [v,w]).code=0
 ·rw[if_neg (by simpa using ab)];obtain⟨br,es,hR⟩:=ahA (h:=cq.fresh 2) CY ab;obtain⟨hu,pj,hP⟩:=qG eW u9 O.below et.dq hR;rw[eZ,eZ,eZ,eZ,iB]at hP;refine⟨_,hu,?_,fi.ok hP.drop.drop.drop.drop⟩;refine a4 oI rfl ?_;unfold n2;simp only[ao,ar,av,ap,bY,vi,bN,ec,aW,cN,ay,be,bz,bG,hL,e8,lV,s4,bR,bQ,es,pj]
 ·rw[if_pos ab];have es:=ahB (h:=cq.fresh 2) CY ab;refine⟨_,_,?_,fi.no (by decide) (n.dq st) rfl eW.drop.drop.drop.drop⟩;refine a4 oI rfl ?_;unfold n2;simp only[ao,ar,av,ap,bY,vi,bN,ec,aW,cN,ay,be,bz,bG,hL,e8,lV,s4,bR,bQ,es]
theorem bZ.part{v:ax}{r:List F}(Z:bZ v r){D:Nat}(aF:v.l[D]? =o x):∃bn vw,r[2]? =o bn/\(∀q:gZ,dY (o bO) ag bn (.int q (D:Int))=o (.ip vw 0))/\fZ J 3 vw 0=o (.agg vw)/\bZ x vw:=by
 cases v with
 |mk k n l=>
   obtain⟨w,es,rfl,I,R⟩:=Z;obtain⟨vw,aw,ay⟩:=R.get aF;rcases I with⟨rfl,_⟩|⟨id,rfl⟩
   ·simp at aw
   ·exact⟨_,vw,rfl,λq=>KF rfl aw,gA ay.cV.1,ay⟩
theorem ah9(s:aN ak aO aL h L)(a:fh c L i n)(O:iX c n){v:ax}(bW:n.top.stack=st++[v])(an:v.code=0){D:Nat}(ae:D<2):∃aM E,aU aq aa 117 [.ptr c.bF 0 0,.int j (D:Int)] h=o (aM,E)/\fi ak aO aL c L i (n.dq st) (if v.kind≠2 then n.S.no 2 else n.S.ok (v.l.getD D ce)) aM E:=by
 obtain⟨R,r,ay,Z,aY,a2⟩:=vv s a O bW;have et:=O.s3 bW;by_cases ab:v.kind=2
 ·rw[if_neg (by simpa using ab)];obtain⟨x,y,wA⟩:=(GF an).1 ab;obtain⟨z,aB⟩:∃z,v.l[D]? =o z:=by rw[wA];match D,ae with|0,_=>exact⟨x,rfl⟩|1,_=>exact⟨y,rfl⟩
  have Ud:v.l.getD D ce=z:=by simp[cZ,aB]
  rw[Ud];obtain⟨br,ev,hR⟩:=vq (h:=R) Z ab;obtain⟨bz,bG⟩:=hR.cV;obtain⟨bn,wT,dB,gm,iu,kj⟩:=hR.part aB;have bs:=aY.push [br];have bl:=a2.cons (a1 R.n [br]);have cl:=(bs.cell 0 rfl).1;obtain⟨aH,b1,bE⟩:=qG bs bl O.below et.dq kj;rw[eZ,iB]at bE;refine⟨_,aH,?_,fi.ok bE.drop⟩;refine a4 H1 rfl ?_;unfold Sk;simp only[ao,ar,av,ap,bN,ay,ev,bz,bG,cl,dB,gm,iu,b1]
 ·rw[if_pos ab];have ev:=vr (h:=R) Z ab;refine⟨_,_,?_,fi.no (by decide) (n.dq st) rfl aY⟩;refine a4 H1 rfl ?_;unfold Sk;simp only[ao,ar,av,ap,bN,ay,ev]
theorem awc(s:aN ak aO aL h L)(a:fh c L i n)(O:iX c n){v:ax}(bW:n.top.stack=st++[v])(an:v.code=0)(k m:Int):∃aM E,aU aq aa n8 [.ptr c.bF 0 0,.agg (eX 9 k m)] h=o (aM,E)/\fi ak aO aL c L i (n.dq st) (gV n.top.bu 9 k m [v] n.S) aM E:=by
 rw[ah3];have bd:=s.push [eX 9 k m];have aP:=a.cons (a1 h.n [eX 9 k m]);obtain⟨ec,nZ⟩:=oP bd aP O.below;have aW:=(bd.cell 0 rfl).1;obtain⟨aM,R,ay,bL⟩:=ah9 bd aP O bW an (D:=0) (by decide);have ay:aU aq aa 117 [.ptr c.bF 0 0,.int j 0] (h.push [eX 9 k m])=o (aM,R):=ay;refine⟨aM,R,?_,bL.drop⟩;rcases bL with⟨_,rfl,_⟩|⟨_,rfl,_⟩
 ·refine a4 oI rfl ?_;unfold n2;simp only[ao,ar,av,ap,bN,ec,aW,cN,ay]
 ·refine a4 oI rfl ?_;unfold n2;simp only[ao,ar,av,ap,bN,ec,aW,cN,ay]
theorem awd(s:aN ak aO aL h L)(a:fh c L i n)(O:iX c n){v:ax}(bW:n.top.stack=st++[v])(an:v.code=0)(k m:Int):∃aM E,aU aq aa n8 [.ptr c.bF 0 0,.agg (eX 10 k m)] h=o (aM,E)/\fi ak aO aL c L i (n.dq st) (gV n.top.bu 10 k m [v] n.S) aM E:=by
 rw[ah4];have bd:=s.push [eX 10 k m];have aP:=a.cons (a1 h.n [eX 10 k m]);obtain⟨ec,nZ⟩:=oP bd aP O.below;have aW:=(bd.cell 0 rfl).1;obtain⟨aM,R,ay,bL⟩:=ah9 bd aP O bW an (D:=1) (by decide);have ay:aU aq aa 117 [.ptr c.bF 0 0,.int j 1] (h.push [eX 10 k m])=o (aM,R):=ay;refine⟨aM,R,?_,bL.drop⟩;rcases bL with⟨_,rfl,_⟩|⟨_,rfl,_⟩
 ·refine a4 oI rfl ?_;unfold n2;simp only[ao,ar,av,ap,bN,ec,aW,cN,ay]
 ·refine a4 oI rfl ?_;unfold n2;simp only[ao,ar,av,ap,bN,ec,aW,cN,ay]
theorem awe(s:aN ak aO aL h L)(a:fh c L i n)(O:iX c n){v:ax}(bW:n.top.stack=st++[v])(k m:Int):∃aM E,aU aq aa n8 [.ptr c.bF 0 0,.agg (eX 11 k m)] h=o (aM,E)/\fi ak aO aL c L i (n.dq st) (gV n.top.bu 11 k m [v] n.S) aM E:=by
 rw[ah7];have bd:=s.push [eX 11 k m];have aP:=a.cons (a1 h.n [eX 11 k m]);obtain⟨ec,_⟩:=oP bd aP O.below;have aW:=(bd.cell 0 rfl).1;obtain⟨R,r,ay,Z,aY,a2⟩:=vv bd aP O bW;rw[eZ]at aY a2;have et:=O.s3 bW;obtain⟨bz,bG⟩:=Z.cV;have bs:=aY.push [r];have bl:=a2.cons (a1 R.n [r]);have cl:=(bs.cell 0 rfl).1;obtain⟨_,Ig⟩:=oP bs bl O.below;have bE:=bs.fresh 1;have cr:=bl.cons (GC (R.push [r]).ids 1);obtain⟨_,ah'⟩:=oP bE cr O.below;have f0:cd 0 (.ptr n.bp n.below.length 0)=o (.ptr n.bp n.below.length 0):=rfl;have CY:bZ (.mk 3 n.top.bu [v]) [.int j 3,.int j n.top.bu,.b5 (o R.ids) bO [r]]:=Nj ⟨_,_,rfl,Z,rfl⟩;by_cases ab:(ax.mk 3 n.top.bu [v]).code=0
 ·rw[if_neg (by simpa using ab)];obtain⟨br,es,hR⟩:=ahA (h:=(R.push [r]).fresh 1) CY ab;obtain⟨bq,c4,b3⟩:=qG bE cr O.below et.dq hR;rw[eZ,eZ,eZ,iB]at b3;refine⟨_,bq,?_,fi.ok b3.drop.drop.drop⟩;refine a4 oI rfl ?_;unfold n2;simp only[ao,ar,av,ap,bY,bN,ec,aW,cN,ay,bz,bG,cl,f0,Ig,ah',es,c4]
 ·rw[if_pos ab];have es:=ahB (h:=(R.push [r]).fresh 1) CY ab;refine⟨_,_,?_,fi.no (by decide) (n.dq st) rfl bE.drop.drop.drop⟩;refine a4 oI rfl ?_;unfold n2;simp only[ao,ar,av,ap,bY,bN,ec,aW,cN,ay,bz,bG,cl,f0,Ig,ah',es]
theorem awf(s:aN ak aO aL h L)(a:fh c L i n)(O:iX c n){v:ax}(bW:n.top.stack=st++[v])(an:v.code=0)(k m:Int):∃aM E,aU aq aa n8 [.ptr c.bF 0 0,.agg (eX 12 k m)] h=o (aM,E)/\fi ak aO aL c L i (n.dq st) (gV n.top.bu 12 k m [v] n.S) aM E:=by
 rw[ah8];have bd:=s.push [eX 12 k m];have aP:=a.cons (a1 h.n [eX 12 k m]);obtain⟨ec,_⟩:=oP bd aP O.below;have aW:=(bd.cell 0 rfl).1;obtain⟨R,r,ay,Z,aY,a2⟩:=vv bd aP O bW;rw[eZ]at aY a2;have et:=O.s3 bW;have f0:cd 0 (.ptr n.bp n.below.length 0)=o (.ptr n.bp n.below.length 0):=rfl;by_cases ab:v.kind=3
 ·rw[if_neg (by simpa using ab)];obtain⟨x,aF⟩:=(GF an).2 ab;have aB:v.l[0]? =o x:=by rw[aF];rfl
  have Ud:v.l.getD 0 ce=x:=by rw[aF];rfl
  rw[Ud];obtain⟨br,ev,hR⟩:=vq (h:=R) Z ab;obtain⟨bz,bG⟩:=hR.cV;obtain⟨bn,wT,dB,gm,iu,kj⟩:=hR.part aB;have gm:∀q:gZ,dY (o bO) ag bn (.int q 0)=o (.ip wT 0):=gm;obtain⟨w,hw,_⟩:=hR.i7;have aA:br[1]? =o (.int j v.n):=by rw[hw];rfl
  have bs:=aY.push [br];have bl:=a2.cons (a1 R.n [br]);have cl:=(bs.cell 0 rfl).1;obtain⟨_,Ig⟩:=oP bs bl O.below;by_cases az:v.n=n.top.bu
  ·rw[if_neg (by simpa using az)];have d:decide (v.n=n.top.bu)=J:=decide_eq_true az;obtain⟨aH,b1,bE⟩:=qG bs bl O.below et.dq kj;rw[eZ,eZ,iB]at bE;refine⟨_,aH,?_,fi.ok bE.drop.drop⟩;refine a4 oI rfl ?_;unfold n2;simp only[ao,ar,av,ap,bN,ec,aW,cN,ay,ev,bz,bG,cl,aA,f0,Ig,d,pX,dB,gm,iu,b1]
  ·rw[if_pos az];have d:decide (v.n=n.top.bu)=U:=decide_eq_false az;refine⟨_,_,?_,fi.no (by decide) (n.dq st) rfl bs.drop.drop⟩;refine a4 oI rfl ?_;unfold n2;simp only[ao,ar,av,ap,bN,ec,aW,cN,ay,ev,bz,bG,cl,aA,f0,Ig,d,re]
 ·rw[if_pos ab];have ev:=vr (h:=R) Z ab;refine⟨_,_,?_,fi.no (by decide) (n.dq st) rfl aY.drop⟩;refine a4 oI rfl ?_;unfold n2;simp only[ao,ar,av,ap,bN,ec,aW,cN,ay,ev]
theorem awg(s:aN ak aO aL h L)(a:fh c L i n)(O:iX c n)(k m:Int):∃E,aU aq aa n8 [.ptr c.bF 0 0,.agg (eX 1 k m)] h=o (.inl (.bS []),E)/\aN ak aO aL E (put c L i (n.dq (n.top.stack++[ce]))):=by have bd:=s.push [eX 1 k m];have aP:=a.cons (a1 h.n [eX 1 k m]);obtain⟨ec,_⟩:=oP bd aP O.below;have aW:=(bd.cell 0 rfl).1;obtain⟨R,ay,aY⟩:=qG bd aP O.below O.dq fD;rw[eZ]at aY;refine⟨R,?_,aY.drop⟩;refine a4 oI rfl ?_;unfold n2;simp only[ao,ar,av,ap,bN,ec,aW,cN,ay]
theorem awh(s:aN ak aO aL h L)(a:fh c L i n)(O:iX c n)(k m:Int):∃E,aU aq aa n8 [.ptr c.bF 0 0,.agg (eX 2 k m)] h=o (.inl (.bS []),E)/\aN ak aO aL E (put c L i (n.dq (n.top.stack++[kG m]))):=by have bd:=s.push [eX 2 k m];have aP:=a.cons (a1 h.n [eX 2 k m]);obtain⟨ec,_⟩:=oP bd aP O.below;have aW:=(bd.cell 0 rfl).1;obtain⟨R,ay,aY⟩:=qG bd aP O.below O.dq (x0 m);rw[eZ]at aY;refine⟨R,?_,aY.drop⟩;refine a4 oI rfl ?_;unfold n2;simp only[ao,ar,av,ap,bN,ec,aW,cN,TY,ay]
theorem awi(s:aN ak aO aL h L)(a:fh c L i n)(O:iX c n)(k m:Int):∃E,aU aq aa n8 [.ptr c.bF 0 0,.agg (eX 3 k m)] h=o (.inl (.bS []),E)/\aN ak aO aL E (put c L i (n.dq (n.top.stack++[n.top.arg]))):=by have bd:=s.push [eX 3 k m];have aP:=a.cons (a1 h.n [eX 3 k m]);obtain⟨ec,_⟩:=oP bd aP O.below;have aW:=(bd.cell 0 rfl).1;obtain⟨g2,dS,aZ,g,a8⟩:=qF bd (i+1) aP.m;have f3:cd 3 (.ptr n.bp n.below.length 0)=o (.ptr n.bp n.below.length 3):=rfl;have gQ:=a8.arg;obtain⟨R,ay,aY⟩:=qG bd aP O.below O.dq a8.aV;rw[eZ]at aY;refine⟨R,?_,aY.drop⟩;refine a4 oI rfl ?_;unfold n2;simp only[ao,ar,av,ap,bN,ec,aW,cN,f3,gQ,ay]
theorem awj(s:aN ak aO aL h L)(a:fh c L i n)(O:iX c n)(ab:0<=k/\k<n.top.names.length)(m:Int):∃E,aU aq aa n8 [.ptr c.bF 0 0,.agg (eX 4 k m)] h=o (.inl (.bS []),E)/\aN ak aO aL E (put c L i (n.dq (n.top.stack++[n.top.names.getD (n.top.names.length - 1 - k.toNat) ce]))):=by have bd:=s.push [eX 4 k m];have aP:=a.cons (a1 h.n [eX 4 k m]);obtain⟨ec,_⟩:=oP bd aP O.below;have aW:=(bd.cell 0 rfl).1;obtain⟨g2,dS,aZ,g,a8⟩:=qF bd (i+1) aP.m;have f7:cd 7 (.ptr n.bp n.below.length 0)=o (.ptr n.bp n.below.length 7):=rfl;have ff:=λq=>a8.rd q 7 aZ (pS n.top g2 dS aZ g a8.aV.cV.1).2.2.1;obtain⟨p,vw,dB,gm,iu⟩:=a8.aZ.2.2.2.2 j (n.top.names.length - 1 - k.toNat) (n.top.names.getD (n.top.names.length - 1 - k.toNat) ce) (by simp only[cZ];rw[fT (by omega)];rfl);have aA:=O.xA;have cx:kw j ((n.top.names.length:Int) - 1)=(n.top.names.length:Int) - 1:=ew (by omega) (by omega);have gn:kw j ((n.top.names.length:Int) - 1 - k)=((n.top.names.length - 1 - k.toNat:Nat):Int):=Cf (by omega) (by omega) (by omega);have awk:=a8.aZ.2.2.1;have fn:=a8.aZ.2.2.2.1;obtain⟨R,ay,aY⟩:=qG bd aP O.below O.dq iu;rw[eZ]at aY;refine⟨R,?_,aY.drop⟩;refine a4 oI rfl ?_;unfold n2;simp only[ao,ar,av,ap,bN,ec,aW,cN,f7,ff,awk,fn,cx,gn,dB,gm,ay]
end
def Ih(ak:ai)(aO aL:Nat->Prop)(c:i8)(L:List cc)(i:Nat)(q:rQ)(aM:F⊕F)(E:ai):Prop:=match q with
 |.go m=>aM= .inl (.bS [])/\∃h2,aN ak aO aL E (put c L i ⟨h2,m.S,m.below,m.top⟩)
 |.fail S k=>aM= .inr (.iface nc (.int j k))/\∃cj:gt,cj.S=S/\aN ak aO aL E (put c L i cj)
 |.over _ _=>False
section
variable{h E ak:ai}{ah al aO aL:Nat->Prop}{L:List cc}{c:i8}{i:Nat}{n:gt}
theorem CZ(M:List bC):hX (mP M)=o M.length/\(∀s,kE s (o 174) (mP M)=J)/\(mP M).one=J:=by unfold mP;exact⟨by simp[hX],λs=>D',rfl⟩
theorem awl(e:a9)(rows:List (List F)):e9 e (hy e rows) rows:=by
 unfold hy;by_cases aB:rows=[]
 ·exact .inl ⟨aB,by rw[if_pos aB]⟩
 ·exact .inr ⟨ag,by rw[if_neg aB]⟩
theorem Nv(s:aN ak aO aL h L)(a:fh c L i n)(O:iX c n){p:Nat}(az:p<4):(∀q:gZ,dY ag (o (4,5)) (.ptr c.a0 0 2) (.int q (p:Int))=o (.ptr c.a0 0 (2+p*5)))/\(∀k:Nat,cR U k h (.ptr c.a0 0 (2+p*5+1))=o (rS (c.ms.getD p ag)))/\∃r,cR J 3 h (.ptr c.a0 0 (2+p*5+2))=o (.agg r)/\bZ (n.S.kept.getD p ce) r/\cR J 5 h (.ptr c.a0 0 (2+p*5))=o (.agg (.bool (c.ms.getD p ag).isSome::rS (c.ms.getD p ag)::r))/\c.a0<h.n:=by
 obtain⟨ah,al,x⟩:=s.get (i+1) a.b;obtain⟨row,aW,vx,_,_,_,iS⟩:=TO x O.len;obtain⟨bR,bQ,r,da,eS,qY⟩:=iS p (by rw[O.ms];exact az);refine⟨λq=>by simp[dY,az],λk=>?_,r,?_,eS,?_,vx⟩
 ·rw[gb,aW,du,oq,du,pI,bQ]
 ·rw[gb,aW,du,oq,du,da]
 ·rw[gb,aW,du,oq,du,qY]
theorem aia{b i off k:Nat}{g:Bool}{es:List (List F)}(ad:b<h.n):cR g k (h.push es) (.ptr b i off)=cR g k h (.ptr b i off):=by rw[gb,gb,hp ad]
abbrev Nw:List F:=[.bool U,.aJ,.int j 0,.int j 0,.aJ]
theorem aib{G:aI}{i:Int}{k:Nat}(ad:fK (G.c5 i) k=J):G.has i=J:=by
 cases h:G.has i with
 |true=>rfl
 |false=>
   have:G.c5 i=0:=by unfold aI.c5;rw[if_pos (.inl (aI.xx h))]
   rw[this]at ad;have R:fK 0 k=U:=by unfold fK;rw[Int.zero_ediv];decide
   rw[R]at ad;cases ad
def pY(ak:ai)(aO aL:Nat->Prop)(c:i8)(L:List cc)(i:Nat)(n:gt)(q:bt×rP×Int)(aM:F⊕F)(E:ai):Prop:=(q.2.2=0/\aM= .inl (.bS [])/\∃h2,aN ak aO aL E (put c L i ⟨h2,q.1,n.below++[n.top],⟨q.2.1.bu,q.2.1.func,0,q.2.1.arg,[],[],J,q.2.1.eU⟩⟩))\/(q.2.2≠0/\aM= .inr (.iface nc (.int j q.2.2))/\∃cj:gt,cj.S=q.1/\aN ak aO aL E (put c L i cj))
theorem pY.no(a:fh c L i n){q:rP}(ab:k≠0)(s:aN ak aO aL E L):pY ak aO aL c L i n (n.S,q,k) (.inr (.iface nc (.int j k))) E:=.inr ⟨ab,rfl,n,rfl,by rw[a.same];exact s⟩
theorem awm(s:aN ak aO aL h L)(a:fh c L i n)(O:iX c n){v:ax}{r:List F}(Z:bZ v r)(aF:bZ x t):∃aM E,aU aq aa 134 [.ptr c.bF 0 0,.agg r,.agg t] h=o (aM,E)/\pY ak aO aL c L i n (hH c.ms v x (n.below.length+1) n.S) aM E:=by
 unfold hH;simp only;have bd:=(s.push [r]).push [t];have aP:=(a.cons (a1 h.n [r])).cons (a1 (h.push [r]).n [t]);obtain⟨bz,bG⟩:=Z.cV;obtain⟨et,e8⟩:=aF.cV;have aW:((h.push [r]).push [t]).cell h.n=o [r]:=(bd.cell 1 rfl).1;have bD:((h.push [r]).push [t]).cell (h.n+1)=o [t]:=(bd.cell 0 rfl).1;by_cases ab:v.kind=4
 case neg=>
  rw[if_pos ab];have ev:=vr (h:=(h.push [r]).push [t]) Z ab;refine⟨_,_,?_,pY.no a (by decide) bd.drop.drop⟩;refine a4 AM rfl ?_;unfold zl;simp only[ao,ar,av,ap,bN,bz,bG,et,e8,aW,ev]
 rw[if_neg (by simpa using ab)];obtain⟨br,ev,k'⟩:=vq (h:=(h.push [r]).push [t]) Z ab;have j6:=TZ bd aP.m aP.b aP.g O.len O.S.wf k' (k:=3) (q:=8) (by decide) (by decide);by_cases ad:fK (n.S.G.c5 v.n) 3=J
 case neg=>
  rw[if_neg ad]at j6;rw[if_pos (by simpa using ad)];refine⟨_,_,?_,pY.no a (by decide) bd.drop.drop⟩;refine a4 AM rfl ?_;unfold zl;simp only[ao,ar,av,ap,bN,bz,bG,et,e8,aW,ev,j6]
 rw[if_pos ad]at j6;rw[if_neg (by simp[ad])];obtain⟨_,_,a6⟩:=aI.MF O.S.wf (aib ad);generalize (n.S.G.target v.n).1=T at*;obtain⟨t1,t2,t3,t4,t5,t6⟩:=T;simp only[dv]at a6 j6 ⊢;generalize e5:([.int j t1,.int j t2,.int j t3,.int j t4,.int j t5,.int j t6]:List F)=N at*;have AT:N[4]? =o (.int j t5):=by rw[<-e5];rfl
 have A6:N[5]? =o (.int j t6):=by rw[<-e5];rfl
 have E7:N.length=6:=by rw[<-e5];rfl
 have no:N.all F.one=J:=by rw[<-e5];rfl
 have aY:=bd.push [N];have a2:=aP.cons (a1 ((h.push [r]).push [t]).n [N]);have cl:=(aY.cell 0 rfl).1;simp only[eC]at cl;by_cases az:t5<0
 ·rw[if_pos az];have d:decide (t5<0)=J:=decide_eq_true az;refine⟨_,_,?_,pY.no a (by decide) aY.drop.drop.drop⟩;refine a4 AM rfl ?_;unfold zl;simp only[ao,ar,av,ap,bN,bz,bG,et,e8,aW,ev,j6,E7,no,AT,d,re]
 rw[if_neg az];obtain⟨P,rfl⟩:=ni (show 0<=t5 by omega);have d:decide ((P:Int)<0)=U:=decide_eq_false (by omega);have qH:P<4:=by omega
 rw[m9];have Ii:=aY.push [Nw];have Nx:=a2.cons (a1 (((h.push [r]).push [t]).push [N]).n [Nw]);obtain⟨hT,_,_⟩:=sa aY a2 O.len;obtain⟨A7,_,_⟩:=sa Ii Nx O.len;obtain⟨bJ,_,dP,_,x5,nv,Ue⟩:=Nv aY a2 O qH;have Ij:cR J 5 ((((h.push [r]).push [t]).push [N]).push [Nw]) (.ptr c.a0 0 (2+P*5))=_:=(aia Ue).trans nv;have Ik:cd 0 (.ptr c.bF 0 0)=o (.ptr c.bF 0 0):=rfl;have Il:cd 2 (.ptr c.a0 0 0)=o (.ptr c.a0 0 2):=rfl;have Uf:cd 1 (.ptr c.bF 0 0)=o (.ptr c.bF 0 1):=rfl;have aic:cd 0 (.ptr c.a0 0 0)=o (.ptr c.a0 0 0):=rfl;have E8:=(Ii.cell 1 rfl).1;have jQ:=(Ii.cell 0 rfl).1;have d':∀x,((((h.push [r]).push [t]).push [N]).push [Nw]).set (h.n+1+1+1) (o x)=(((h.push [r]).push [t]).push [N]).push x:=λx=>nA (h:=((h.push [r]).push [t]).push [N]);simp only[eC]at E8 jQ;generalize kJ:c.ms.getD P ag=M at*;have awn:(rS M).one=J:=by cases M<;>first|rfl|exact(CZ _).2.2
 obtain⟨cF,cA⟩:=x5.cV;generalize aX:F.bool M.isSome::rS M::dP=pl at*;have en:pl[0]? =o (.bool M.isSome):=by rw[<-aX];rfl
 have dB:pl[1]? =o (rS M):=by rw[<-aX];rfl
 have Im:pl.length=5:=by rw[<-aX];simp[cF]
 have Io:pl.all F.one=J:=by rw[<-aX];simp only[qa,awn,cA,rN];rfl
 have bs:aN ak aO aL _ (a1 (h.n+1+1+1) [pl]::a1 (h.n+1+1) [N]::a1 (h.n+1) [t]::a1 h.n [r]::L):=aY.push [pl];have bl:=a2.cons (a1 (h.n+1+1+1) [pl]);have eg:=(bs.cell 0 rfl).1;have fV:=(bs.cell 1 rfl).1;have h9:=(bs.cell 2 rfl).1;have aid:hs c.ms (P:Int)=M.getD []:=by unfold hs;rw[m9,kJ]
 by_cases s5:M.isNone\/((hs c.ms (P:Int)).length:Int)<=t6\/t6<0
 ·rw[if_pos s5];refine⟨_,_,?_,pY.no a (by decide) bs.drop.drop.drop.drop⟩;cases M with
  |none=>simp only[Option.isSome_none]at en;refine a4 AM rfl ?_;unfold zl;simp only[ao,ar,av,ap,bN,bz,bG,et,e8,aW,ev,j6,E7,no,AT,d,pX,re,Ik,Il,hT,A7,bJ,nv,Ij,cl,E8,Im,Io,jQ,d',eg,en]
  |some M=>
    simp only[Option.isSome_some]at en;have d2:decide ((M.length:Int)<=t6)=J:=by
     refine decide_eq_true ?_;rw[aid]at s5;simp only[qT]at s5;rcases s5 with h|h|h
     ·cases h
     ·exact h
     ·omega
    obtain⟨cO,c8,_⟩:=CZ M;simp only[rS]at dB;refine a4 AM rfl ?_;unfold zl;simp only[ao,ar,av,ap,bN,bz,bG,et,e8,aW,ev,j6,E7,no,AT,A6,d,pX,re,Ik,Il,hT,A7,bJ,nv,Ij,cl,E8,Im,Io,jQ,d',eg,fV,en,dB,cO,c8,d2]
 rw[if_neg s5];obtain⟨M,rfl⟩:∃rh,M=o rh:=by
  cases M with
  |none=>exact absurd (.inl rfl) s5
  |some M=>exact⟨M,rfl⟩
 simp only[Option.isSome_some]at en;have d2:decide ((M.length:Int)<=t6)=U:=by refine decide_eq_false λh=>s5 (.inr (.inl ?_));rw[aid];exact h
 obtain⟨cO,c8,_⟩:=CZ M;simp only[rS]at dB;obtain⟨aie,aif,_⟩:=sa bs bl O.len;obtain⟨_,_,_,_,a8⟩:=qF bs (i+4) bl.m;have lm:∀k:Nat,cR U k ((((h.push [r]).push [t]).push [N]).push [pl]) (.ptr c.bF 0 1)=o (.bw n.bp 0 (n.below.length+1) gr):=λk=>by rw[gb,a8.m];rfl
 by_cases nE:n.below.length+1=20
 ·rw[if_pos nE];have d3:decide (((n.below.length+1:Nat):Int)=20)=J:=decide_eq_true (by omega);refine⟨_,_,?_,pY.no a (by decide) bs.drop.drop.drop.drop⟩;refine a4 AM rfl ?_;unfold zl;simp only[ao,ar,av,ap,bN,bz,bG,et,e8,aW,ev,j6,E7,no,AT,A6,d,pX,re,Ik,Il,Uf,hT,A7,bJ,nv,Ij,cl,E8,Im,Io,jQ,d',eg,fV,en,dB,cO,c8,d2,lm,d3]
 rw[if_neg nE];have d3:decide (((n.below.length+1:Nat):Int)=20)=U:=decide_eq_false (by omega);obtain⟨eJ,eK,vs⟩:=bs.get (i+1+1+1+1+2) bl.g;have yW:=aq4 (vs:fm _ eJ eK c.cE n.S.G) O.S.wf v.n;have gW:e9 3 (hy 3 ((n.S.G.kx v.n).map λx=>[.int j x])) (eI (n.S.G.kx v.n)):=awl _ _;have aDV:=QJ (i:=v.n) O.S.wf;generalize hy 3 ((n.S.G.kx v.n).map λx=>[.int j x])=cT at*;generalize n.S.G.kx v.n=aQ at*;obtain⟨aH,⟨y,b1,bH⟩,bE⟩:=Ie bs bl (cJ:=λE=>∃br,aU aq aa 113 [.ptr c.cE 0 0,.agg t,cT] ((((h.push [r]).push [t]).push [N]).push [pl])=o (.inl (.bS [.agg br,.int j (fg aQ n.S.G x).2.2]),E)/\bZ (fg aQ n.S.G x).2.1 br) λah al vs=>ahX vs O.S.wf aF gW (by omega);generalize fg aQ n.S.G x=q at*;obtain⟨b7,tB,i6⟩:=q;simp only at b1 bH bE ⊢;have cr:=bl.put {n with S:={n.S with G:=b7}};rw[eZ,eZ,eZ,eZ]at bE cr;obtain⟨ei,fd⟩:=bH.cV;have A8:=bE.push [a3];have awo:=cr.cons (a1 aH.n [a3]);obtain⟨fY,fA,_⟩:=sa A8 awo O.len;have d0:=(A8.cell 3 rfl).1;have b3:=bE.push [y];have ej:=cr.cons (a1 aH.n [y]);have d1:=(b3.cell 0 rfl).1;have awp:=(b3.cell 2 rfl).1;have JV:(cT).one=J:=by rcases gW with⟨_,rfl⟩|⟨id,rfl⟩<;>rfl
 have awq:cT.cells=[cT]:=by rcases gW with⟨_,rfl⟩|⟨id,rfl⟩<;>rfl
 by_cases xi:i6=0
 ·subst xi;have d5:decide ((0:Int)=0)=J:=rfl;obtain⟨_,awr⟩:=ah2 b3 ej O.below (f:=⟨P,t6,0,tB,[],[],J,aQ⟩) (g2:=y) (g:=cT) bH gW rfl rfl;obtain⟨cq,h2,mn,c2⟩:=awr nE;rw[eZ,eZ,eZ,eZ,eZ,iB]at c2;refine⟨_,cq,?_,.inl ⟨rfl,rfl,h2,c2.drop.drop.drop.drop.drop⟩⟩;obtain⟨mT,fU,jV,rfl⟩:∃a b c,y=[a,b,c]:=by match y,ei with|[a,b,c],_=>exact⟨a,b,c,rfl⟩
  simp only[qa,List.all_nil,rN,gv]at fd;obtain⟨ha,l4,j8⟩:=fd;simp only[hI,j',nz,l3]at mn;refine a4 AM rfl ?_;unfold zl;simp only[ao,ar,av,ap,bY,bN,bz,bG,et,e8,aW,ev,j6,E7,no,AT,A6,d,pX,Ik,Il,Uf,aic,hT,A7,aie,aif,bJ,nv,Ij,cl,E8,Im,Io,jQ,d',eg,fV,h9,en,dB,cO,c8,d2,lm,d3,yW,b1,fY,fA,d0,d1,awp,ha,l4,j8,JV,awq,mn]
 ·have d5:decide (i6=0)=U:=decide_eq_false xi;refine⟨_,_,?_,.inr ⟨xi,rfl,{n with S:={n.S with G:=b7}},rfl,b3.drop.drop.drop.drop.drop⟩⟩;refine a4 AM rfl ?_;unfold zl;simp only[ao,ar,av,ap,bN,bz,bG,et,e8,aW,ev,j6,E7,no,AT,A6,d,pX,re,Ik,Il,Uf,aic,hT,A7,aie,aif,bJ,nv,Ij,cl,E8,Im,Io,jQ,d',eg,fV,h9,en,dB,cO,c8,d2,lm,d3,yW,b1,fY,fA,d0,d5,ei,fd]
end
abbrev aws:di:=118
section
variable{h E ak:ai}{ah al aO aL:Nat->Prop}{L:List cc}{c:i8}{i:Nat}{n:gt}
theorem ub(s:aN ak aO aL h L)(a:fh c L i n)(O:iX c n){m:Int}(iH:13<=op){aM:F⊕F}(e:aU aq aa aws [.ptr c.bF 0 0,.agg (eX op k m)] (h.push [eX op k m])=o (aM,E))(k3:aM= .inl (.bS [])\/∃v,aM= .inr v):aU aq aa n8 [.ptr c.bF 0 0,.agg (eX op k m)] h=o (aM,E):=by
 have bd:=s.push [eX op k m];have aP:=a.cons (a1 h.n [eX op k m]);obtain⟨ec,_⟩:=oP bd aP O.below;have aW:=(bd.cell 0 rfl).1;have d:∀D:Int,D<13->decide (op=D)=U:=λD ae=>decide_eq_false (by omega);have aw:=d 1 (by decide);have ay:=d 2 (by decide);have be:=d 3 (by decide);have b1:=d 4 (by decide);have mn:=d 6 (by decide);have pj:=d 8 (by decide);have qE:=d 9 (by decide);have E9:=d 10 (by decide);have aih:=d 11 (by decide);have HY:=d 12 (by decide);rcases k3 with rfl|⟨v,rfl⟩
 ·refine a4 oI rfl ?_;unfold n2;simp only[ao,ar,av,ap,bN,ec,aW,aw,ay,be,b1,mn,pj,qE,E9,aih,HY,e]
 ·refine a4 oI rfl ?_;unfold n2;simp only[ao,ar,av,ap,bN,ec,aW,aw,ay,be,b1,mn,pj,qE,E9,aih,HY,e]
theorem fi.aM{q:bt×ax×Int}{aM:F⊕F}(r:fi ak aO aL c L i n q aM E):aM= .inl (.bS [])\/∃v,aM= .inr v:=by
 rcases r with⟨_,b,_⟩|⟨_,b,_⟩
 ·exact .inl b
 ·exact .inr ⟨_,b⟩
theorem fi.put{q:bt×ax×Int}{fA:gt}{aM:F⊕F}(r:fi ak aO aL c (put c L i fA) i n q aM E):fi ak aO aL c L i n q aM E:=by
 rcases r with⟨x,y,z⟩|⟨x,y,cj,z,w⟩
 ·exact .inl ⟨x,y,by rw[iB]at z;exact z⟩
 ·exact .inr ⟨x,y,cj,z,by rw[iB]at w;exact w⟩
theorem pY.put{q:bt×rP×Int}{fA:gt}{aM:F⊕F}(r:pY ak aO aL c (put c L i fA) i n q aM E):pY ak aO aL c L i n q aM E:=by
 rcases r with⟨x,y,bp,z⟩|⟨x,y,cj,z,w⟩
 ·exact .inl ⟨x,y,bp,by rw[iB]at z;exact z⟩
 ·exact .inr ⟨x,y,cj,z,by rw[iB]at w;exact w⟩
theorem pY.drop{X:cc}{q:bt×rP×Int}{aM:F⊕F}(r:pY ak aO aL c (X::L) (i+1) n q aM E):pY ak aO aL c L i n q aM E:=by
 rcases r with⟨x,y,bp,z⟩|⟨x,y,cj,z,w⟩
 ·exact .inl ⟨x,y,bp,z.drop⟩
 ·exact .inr ⟨x,y,cj,z,w.drop⟩
theorem zD(s:aN ak aO aL h L)(a:fh c L i n)(O:iX c n)(op k m:Int):aN ak aO aL ((h.push [eX op k m]).push [eX op k m]) (a1 (h.n+1) [eX op k m]::a1 h.n [eX op k m]::L)/\fh c (a1 (h.n+1) [eX op k m]::a1 h.n [eX op k m]::L) (i+1+1) n/\aU aq aa L1 [.ptr c.bF 0 0] ((h.push [eX op k m]).push [eX op k m])=o (.inl (.ptr n.bp n.below.length 0),(h.push [eX op k m]).push [eX op k m])/\(∀ee:Nat,cR U ee ((h.push [eX op k m]).push [eX op k m]) (.ptr n.bp n.below.length 0)=o (.int j n.top.bu))/\((h.push [eX op k m]).push [eX op k m]).cell (h.n+1)=o [eX op k m]:=by have bd:=(s.push [eX op k m]).push [eX op k m];have aP:=(a.cons (a1 h.n [eX op k m])).cons (a1 (h.n+1) [eX op k m]);obtain⟨ec,nZ⟩:=oP bd aP O.below;exact⟨bd,aP,ec,nZ,(bd.cell 0 rfl).1⟩
theorem awt(s:aN ak aO aL h L)(a:fh c L i n)(O:iX c n){v:ax}(bW:n.top.stack=st++[v])(k m:Int):∃aM E,aU aq aa n8 [.ptr c.bF 0 0,.agg (eX 13 k m)] h=o (aM,E)/\fi ak aO aL c L i (n.dq st) (gV n.top.bu 13 k m [v] n.S) aM E:=by
 obtain⟨bd,aP,ec,_,aW⟩:=zD s a O 13 k m;obtain⟨R,r,ay,Z,aY,a2⟩:=vv bd aP O bW;obtain⟨aM,aj,be,gE⟩:=av6 aY a2 (O.s3 bW) Z k m;have ik:=gE.put.drop.drop;refine⟨aM,aj,ub s a O (by decide) ?_ ik.aM,ik⟩;rcases ik.aM with rfl|⟨u,rfl⟩
 ·refine a4 qu rfl ?_;unfold pP;simp only[ao,ar,av,ap,bN,ec,aW,cN,ay,be]
 ·refine a4 qu rfl ?_;unfold pP;simp only[ao,ar,av,ap,bN,ec,aW,cN,ay,be]
theorem awu(s:aN ak aO aL h L)(a:fh c L i n)(O:iX c n){v:ax}(bW:n.top.stack=st++[v])(k m:Int):∃aM E,aU aq aa n8 [.ptr c.bF 0 0,.agg (eX 16 k m)] h=o (aM,E)/\fi ak aO aL c L i (n.dq st) (gV n.top.bu 16 k m [v] n.S) aM E:=by
 obtain⟨bd,aP,ec,_,aW⟩:=zD s a O 16 k m;obtain⟨R,r,ay,Z,aY,a2⟩:=vv bd aP O bW;obtain⟨aM,aj,be,gE⟩:=av9 aY a2 (O.s3 bW) Z k m;have ik:=gE.put.drop.drop;refine⟨aM,aj,ub s a O (by decide) ?_ ik.aM,ik⟩;rcases ik.aM with rfl|⟨u,rfl⟩
 ·refine a4 qu rfl ?_;unfold pP;simp only[ao,ar,av,ap,bN,ec,aW,cN,ay,be]
 ·refine a4 qu rfl ?_;unfold pP;simp only[ao,ar,av,ap,bN,ec,aW,cN,ay,be]
theorem aii{aj:ai}{E':List cc}(bs:aN ak aO aL aj E')(x y:List F):aN ak aO aL ((((aj.push [a3]).push [a3]).set aj.n (o [x])).set (aj.n+1) (o [y])) (a1 (aj.n+1) [y]::a1 aj.n [x]::E')/\(((aj.push [a3]).push [a3]).set aj.n (o [x])).cell (aj.n+1)=o [a3]:=by have bE:=(bs.push [a3]).push [a3];have b3:aN ak aO aL _ (a1 (aj.n+1) [a3]::a1 aj.n [x]::E'):=bE.set 1 rfl [x];exact⟨b3.set 0 rfl [y],(b3.cell 0 rfl).1⟩
theorem awv(s:aN ak aO aL h L)(a:fh c L i n)(O:iX c n){v w:ax}(bW:n.top.stack=st++[v]++[w])(k m:Int):∃aM E,aU aq aa n8 [.ptr c.bF 0 0,.agg (eX 14 k m)] h=o (aM,E)/\fi ak aO aL c L i (n.dq st) (gV n.top.bu 14 k m [v,w] n.S) aM E:=by
 obtain⟨bd,aP,ec,_,aW⟩:=zD s a O 14 k m;obtain⟨R,aj,mr,cL,ay,be,hw,Z,bs,bl⟩:=Nt bd aP O bW;have et:=(O.s3 (st:=st) (l:=[v]++[w]) (by rw[bW,kS]));obtain⟨bz,bG⟩:=hw.cV;obtain⟨hL,e8⟩:=Z.cV;obtain⟨c2,lV⟩:=aii bs mr cL;have jB:=(bl.cons (a1 aj.n [mr])).cons (a1 (aj.n+1) [cL]);have bR:=(c2.cell 0 rfl).1;have bQ:=(c2.cell 1 rfl).1;generalize s4:(((aj.push [a3]).push [a3]).set aj.n (o [mr])).set (aj.n+1) (o [cL])=cq at*;obtain⟨aM,de,j3,sb⟩:=av7 c2 jB et Z hw k m;have hk:=sb.drop.drop.put.drop.drop;refine⟨aM,de,ub s a O (by decide) ?_ hk.aM,hk⟩;rcases hk.aM with rfl|⟨u,rfl⟩
 ·refine a4 qu rfl ?_;unfold pP;simp only[ao,ar,av,ap,bN,ec,aW,cN,ay,be,bz,bG,e8,hL,lV,s4,bR,bQ,j3]
 ·refine a4 qu rfl ?_;unfold pP;simp only[ao,ar,av,ap,bN,ec,aW,cN,ay,be,bz,bG,e8,hL,lV,s4,bR,bQ,j3]
theorem aww(s:aN ak aO aL h L)(a:fh c L i n)(O:iX c n){v w:ax}(bW:n.top.stack=st++[v]++[w])(k m:Int):∃aM E,aU aq aa n8 [.ptr c.bF 0 0,.agg (eX 19 k m)] h=o (aM,E)/\pY ak aO aL c L i (n.dq st) (hH c.ms v w (n.below.length+1) n.S) aM E:=by
 obtain⟨bd,aP,ec,_,aW⟩:=zD s a O 19 k m;obtain⟨R,aj,mr,cL,ay,be,hw,Z,bs,bl⟩:=Nt bd aP O bW;have et:=(O.s3 (st:=st) (l:=[v]++[w]) (by rw[bW,kS]));obtain⟨bz,bG⟩:=hw.cV;obtain⟨hL,e8⟩:=Z.cV;obtain⟨c2,lV⟩:=aii bs mr cL;have jB:=(bl.cons (a1 aj.n [mr])).cons (a1 (aj.n+1) [cL]);have bR:=(c2.cell 0 rfl).1;have bQ:=(c2.cell 1 rfl).1;generalize s4:(((aj.push [a3]).push [a3]).set aj.n (o [mr])).set (aj.n+1) (o [cL])=cq at*;obtain⟨aM,de,j3,sb⟩:=awm c2 jB et Z hw;have hk:=sb.drop.drop.put.drop.drop;have k3:aM= .inl (.bS [])\/∃v,aM= .inr v:=by
  rcases hk with⟨_,b,_⟩|⟨_,b,_⟩
  ·exact .inl b
  ·exact .inr ⟨_,b⟩
 refine⟨aM,de,ub s a O (by decide) ?_ k3,hk⟩;rcases k3 with rfl|⟨u,rfl⟩
 ·refine a4 qu rfl ?_;unfold pP;simp only[ao,ar,av,ap,bN,ec,aW,cN,ay,be,bz,bG,e8,hL,lV,s4,bR,bQ,j3]
 ·refine a4 qu rfl ?_;unfold pP;simp only[ao,ar,av,ap,bN,ec,aW,cN,ay,be,bz,bG,e8,hL,lV,s4,bR,bQ,j3]
theorem WP{p n:Int}{v:ax}{S:bt}:gV p 15 k n [v] S=if v.kind≠4 then S.no 2 else xz S (S.G.derive v.n k (-1)):=rfl
theorem aij{p n:Int}{v:ax}{S:bt}:gV p 17 k n [v] S=if v.kind≠5 then S.no 2 else({S with G:=(S.G.cut v.n).1}:bt).ok ce:=rfl
theorem aik{p n:Int}{v:ax}{S:bt}:gV p 20 k n [v] S=({S with kept:=S.kept.set p.toNat v}:bt).ok (S.kept.getD p.toNat ce):=rfl
theorem awx(s:aN ak aO aL h L)(a:fh c L i n)(O:iX c n){v:ax}(bW:n.top.stack=st++[v])(k m:Int):∃aM E,aU aq aa n8 [.ptr c.bF 0 0,.agg (eX 15 k m)] h=o (aM,E)/\fi ak aO aL c L i (n.dq st) (gV n.top.bu 15 k m [v] n.S) aM E:=by
 rw[WP];obtain⟨bd,aP,ec,_,aW⟩:=zD s a O 15 k m;obtain⟨R,r,ay,Z,aY,a2⟩:=vv bd aP O bW;have et:=O.s3 bW;rw[eZ,eZ]at aY a2;have bD:=(aY.cell 0 rfl).1;by_cases ab:v.kind=4
 ·rw[if_neg (by simpa using ab)];obtain⟨br,ev,k'⟩:=vq (h:=R) Z ab;obtain⟨aj,be,bs⟩:=ah0 aY a2 O.len O.S.wf k' k (-1);have bl:=a2.put {(n.dq st)with S:={n.S with G:=(n.S.G.derive v.n k (-1)).1}};unfold xz;by_cases an:(n.S.G.derive v.n k (-1)).2.2=0
  ·rw[if_pos an]at be;rw[if_neg (by simpa using an)];obtain⟨aH,b1,bE⟩:=qG bs bl O.below et.dq (A3 (n.S.G.derive v.n k (-1)).2.1);rw[iB,eZ,eZ,iB]at bE;have hk:fi ak aO aL c L i (n.dq st) _ _ aH:=fi.ok bE.drop.drop;refine⟨_,aH,ub s a O (by decide) ?_ hk.aM,hk⟩;refine a4 qu rfl ?_;unfold pP;simp only[ao,ar,av,ap,bN,ec,aW,cN,ay,bD,ev,be,b1]
  ·rw[if_neg an]at be;rw[if_pos an];rw[eZ,eZ,iB]at bs;have hk:fi ak aO aL c L i (n.dq st) _ _ aj:=fi.no (S:={n.S with G:=(n.S.G.derive v.n k (-1)).1}) an {(n.dq st)with S:={n.S with G:=(n.S.G.derive v.n k (-1)).1}} rfl bs.drop.drop;refine⟨_,aj,ub s a O (by decide) ?_ hk.aM,hk⟩;refine a4 qu rfl ?_;unfold pP;simp only[ao,ar,av,ap,bN,ec,aW,cN,ay,bD,ev,be]
 ·rw[if_pos ab];have ev:=vr (h:=R) Z ab;have hk:fi ak aO aL c L i (n.dq st) _ _ R:=fi.no (S:=n.S) (k:=2) (by decide) (n.dq st) rfl aY.drop.drop;refine⟨_,R,ub s a O (by decide) ?_ hk.aM,hk⟩;refine a4 qu rfl ?_;unfold pP;simp only[ao,ar,av,ap,bN,ec,aW,cN,ay,bD,ev]
theorem awy(s:aN ak aO aL h L)(a:fh c L i n)(O:iX c n){v:ax}(bW:n.top.stack=st++[v])(k m:Int):∃aM E,aU aq aa n8 [.ptr c.bF 0 0,.agg (eX 17 k m)] h=o (aM,E)/\fi ak aO aL c L i (n.dq st) (gV n.top.bu 17 k m [v] n.S) aM E:=by
 rw[aij];obtain⟨bd,aP,ec,_,aW⟩:=zD s a O 17 k m;obtain⟨hT,cD,_⟩:=sa bd aP O.len;obtain⟨R,r,ay,Z,aY,a2⟩:=vv bd aP O bW;have et:=O.s3 bW;obtain⟨c9,jx,_⟩:=sa aY a2 O.len;rw[eZ,eZ]at aY a2;have f0:cd 0 (.ptr c.bF 0 0)=o (.ptr c.bF 0 0):=rfl;have f1:cd 0 (.ptr c.a0 0 0)=o (.ptr c.a0 0 0):=rfl;by_cases ab:v.kind=5
 ·rw[if_neg (by simpa using ab)];obtain⟨br,ev,k'⟩:=vq (h:=R) Z ab;obtain⟨w,hw,_⟩:=k'.i7;have xJ:Kt U 1 1 (.agg br)=o (.int j v.n):=by rw[hw];rfl
  obtain⟨aj,be,bs⟩:=Ie aY a2 (cJ:=λE=>aU aq aa 62 [.ptr c.cE 0 0,.int j v.n] R=o (.inl (.int j (n.S.G.cut v.n).2),E)) λah al x=>adF x v.n;have bl:=a2.put {(n.dq st)with S:={n.S with G:=(n.S.G.cut v.n).1}};obtain⟨aH,b1,bE⟩:=qG bs bl O.below et.dq fD;rw[iB,eZ,eZ,iB]at bE;have hk:fi ak aO aL c L i (n.dq st) _ _ aH:=fi.ok (S:={n.S with G:=(n.S.G.cut v.n).1}) (v:=ce) bE.drop.drop;refine⟨_,aH,ub s a O (by decide) ?_ hk.aM,hk⟩;refine a4 qu rfl ?_;unfold pP;simp only[ao,ar,av,ap,bN,ec,aW,cN,f0,f1,hT,cD,c9,jx,ay,ev,xJ,be,b1]
 ·rw[if_pos ab];have ev:=vr (h:=R) Z ab;have hk:fi ak aO aL c L i (n.dq st) _ _ R:=fi.no (S:=n.S) (k:=2) (by decide) (n.dq st) rfl aY.drop.drop;refine⟨_,R,ub s a O (by decide) ?_ hk.aM,hk⟩;refine a4 qu rfl ?_;unfold pP;simp only[ao,ar,av,ap,bN,ec,aW,cN,f0,f1,hT,cD,c9,jx,ay,ev]
def Ug(ak:ai)(aO aL:Nat->Prop)(c:i8)(L:List cc)(i:Nat)(n:gt)(k:Int)(v:ax)(aM:F⊕F)(E:ai):Prop:=(n.below.length+1≠20/\aM= .inl (.bS [])/\∃h2,aN ak aO aL E (put c L i ⟨h2,n.S,n.below++[n.top],⟨n.top.bu,k,0,v,[],[],U,[]⟩⟩))\/(n.below.length+1=20/\aM= .inr (.iface nc (.int j 4))/\aN ak aO aL E (put c L i n))
theorem awz(s:aN ak aO aL h L)(a:fh c L i n)(O:iX c n){v:ax}(bW:n.top.stack=st++[v])(k m:Int):∃aM E,aU aq aa n8 [.ptr c.bF 0 0,.agg (eX 18 k m)] h=o (aM,E)/\Ug ak aO aL c L i (n.dq st) k v aM E:=by
 obtain⟨bd,aP,ec,_,aW⟩:=zD s a O 18 k m;obtain⟨R,r,ay,Z,aY,a2⟩:=vv bd aP O bW;have et:=O.s3 bW;rw[eZ,eZ]at aY a2;obtain⟨bz,bG⟩:=Z.cV;have bs:=aY.push [r];have bl:=a2.cons (a1 R.n [r]);have cl:=(bs.cell 0 rfl).1;have eg:=(bs.cell 1 rfl).1;obtain⟨_,nZ⟩:=oP bs bl O.below;have f0:cd 0 (.ptr n.bp n.below.length 0)=o (.ptr n.bp n.below.length 0):=rfl;obtain⟨awA,awB⟩:=ah2 bs bl O.below (f:=⟨n.top.bu,k,0,v,[],[],U,[]⟩) (g2:=r) (g:=.aJ) Z (.inl ⟨rfl,rfl⟩) rfl rfl;obtain⟨mT,fU,jV,rfl⟩:∃a b c,r=[a,b,c]:=by match r,bz with|[a,b,c],_=>exact⟨a,b,c,rfl⟩
 simp only[qa,List.all_nil,rN,gv]at bG;obtain⟨ha,l4,j8⟩:=bG;by_cases nE:n.below.length+1=20
 ·obtain⟨aH,b1,bE⟩:=awA nE;simp only[hI,j',nz,l3]at b1;refine⟨_,aH,ub s a O (by decide) ?_ (.inr ⟨_,rfl⟩),.inr ⟨nE,rfl,bE.drop.drop.drop⟩⟩;refine a4 qu rfl ?_;unfold pP;simp only[ao,ar,av,ap,bY,bN,ec,aW,cN,ay,f0,nZ,cl,eg,ha,l4,j8,b1]
 ·obtain⟨aH,h2,b1,bE⟩:=awB nE;simp only[hI,j',nz,l3]at b1;rw[eZ,eZ,eZ,iB]at bE;refine⟨_,aH,ub s a O (by decide) ?_ (.inl rfl),.inl ⟨nE,rfl,h2,bE.drop.drop.drop⟩⟩;refine a4 qu rfl ?_;unfold pP;simp only[ao,ar,av,ap,bY,bN,ec,aW,cN,ay,f0,nZ,cl,eg,ha,l4,j8,b1]
theorem awC(s:aN ak aO aL h L)(a:fh c L i n)(O:iX c n){v:ax}(bW:n.top.stack=st++[v]){P:Nat}(gd:n.top.bu=(P:Int))(qH:P<4)(k m:Int):∃aM E,aU aq aa n8 [.ptr c.bF 0 0,.agg (eX 20 k m)] h=o (aM,E)/\fi ak aO aL c L i (n.dq st) (gV n.top.bu 20 k m [v] n.S) aM E:=by
 rw[aik];obtain⟨bd,aP,ec,nZ,aW⟩:=zD s a O 20 k m;obtain⟨hT,cD,_⟩:=sa bd aP O.len;obtain⟨bJ,_,dP,s6,x5,_,Ue⟩:=Nv bd aP O qH;rw[gd]at nZ ⊢;rw[m9];obtain⟨cF,cA⟩:=x5.cV;have f0:cd 0 (.ptr c.bF 0 0)=o (.ptr c.bF 0 0):=rfl;have f1:cd 2 (.ptr c.a0 0 0)=o (.ptr c.a0 0 2):=rfl;have f2:cd 0 (.ptr n.bp n.below.length 0)=o (.ptr n.bp n.below.length 0):=rfl;have f3:cd 2 (.ptr c.a0 0 (2+P*5))=o (.ptr c.a0 0 (2+P*5+2)):=rfl;have aY:aN ak aO aL _ (a1 (h.n+1+1) [dP]::a1 (h.n+1) [eX 20 k m]::a1 h.n [eX 20 k m]::L):=bd.push [dP];have a2:=aP.cons (a1 (h.n+1+1) [dP]);obtain⟨aj,r,be,Z,bs,bl⟩:=vv aY a2 O bW;have et:=O.s3 bW;rw[eZ,eZ,eZ]at bs;have Nx:fh c (a1 (h.n+1+1) [dP]::a1 (h.n+1) [eX 20 k m]::a1 h.n [eX 20 k m]::put c L i (n.dq st)) (i+1+1+1) (n.dq st):=bl;obtain⟨aH,b1,bE⟩:=auK bs (i+1+1+1+1) Nx.b O.len (p:=P) (by rw[O.ms];exact qH) Z;have ail:aN ak aO aL aH (a1 (h.n+1+1) [dP]::a1 (h.n+1) [eX 20 k m]::a1 h.n [eX 20 k m]::put c L i {(n.dq st)with S:={n.S with kept:=n.S.kept.set P v}}):=by rw[Nx.ava,eZ,eZ,eZ,iB]at bE;exact bE
 have cr:=((((a.put {(n.dq st)with S:={n.S with kept:=n.S.kept.set P v}}).cons (a1 h.n [eX 20 k m])).cons (a1 (h.n+1) [eX 20 k m])).cons (a1 (h.n+1+1) [dP]));have eg:=(ail.cell 0 rfl).1;obtain⟨bq,c4,b3⟩:=qG ail cr O.below et.dq x5;rw[eZ,eZ,eZ,iB]at b3;have hk:fi ak aO aL c L i (n.dq st) _ _ bq:=fi.ok (S:={n.S with kept:=n.S.kept.set P v}) (v:=n.S.kept.getD P ce) b3.drop.drop.drop;refine⟨_,bq,ub s a O (by decide) ?_ hk.aM,hk⟩;refine a4 qu rfl ?_;unfold pP;simp only[ao,ar,av,ap,bN,ec,aW,cN,f0,f1,f2,f3,hT,nZ,bJ,s6,cF,cA,be,b1,eg,c4]
theorem awD(s:aN ak aO aL h L)(a:fh c L i n)(O:iX c n){P:Nat}(gd:n.top.bu=(P:Int))(qH:P<4)(k m:Int):∃E,aU aq aa n8 [.ptr c.bF 0 0,.agg (eX 21 k m)] h=o (.inl (.bS []),E)/\aN ak aO aL E (put c L i (n.dq (n.top.stack++[n.S.kept.getD P ce]))):=by obtain⟨bd,aP,ec,nZ,aW⟩:=zD s a O 21 k m;obtain⟨hT,cD,_⟩:=sa bd aP O.len;obtain⟨bJ,_,dP,s6,x5,_,Ue⟩:=Nv bd aP O qH;rw[gd]at nZ;have f0:cd 0 (.ptr c.bF 0 0)=o (.ptr c.bF 0 0):=rfl;have f1:cd 2 (.ptr c.a0 0 0)=o (.ptr c.a0 0 2):=rfl;have f2:cd 0 (.ptr n.bp n.below.length 0)=o (.ptr n.bp n.below.length 0):=rfl;have f3:cd 2 (.ptr c.a0 0 (2+P*5))=o (.ptr c.a0 0 (2+P*5+2)):=rfl;obtain⟨R,ay,aY⟩:=qG bd aP O.below O.dq x5;rw[eZ,eZ]at aY;refine⟨R,ub s a O (by decide) ?_ (.inl rfl),aY.drop.drop⟩;refine a4 qu rfl ?_;unfold pP;simp only[ao,ar,av,ap,bN,ec,aW,cN,f0,f1,f2,f3,hT,nZ,bJ,s6,ay]
end
theorem Ny{ms:dn}(g:xB ms){p:Int}(ab:k.toNat<(hs ms p).length):(gK ms p k).fault (hs ms p).length 0=0:=by
 have:gK ms p k=(hs ms p)[k.toNat]:=by simp[gK,cZ,ab]
 rw[this];exact g p _ (jl ab)
def cH.after(m:cH)(S:bt)(k:Nat)(bI:List ax):cH:={S:=S,top:={m.top with bU:=m.top.bU+k,stack:=m.top.stack++bI},below:=m.below}
def iN(ms:dn)(m:cH)(c:List bv):Prop:=∃pre post,mm ms m.top.bu m.top.f=pre++c++post/\m.top.bU=pre.length
theorem iN.get{ms:dn}{m:cH}{x:bv}{c:List bv}(h:iN ms m (x::c)):(mm ms m.top.bu m.top.f).getD m.top.bU y'=x:=by obtain⟨pre,post,e,az⟩:=h;rw[e,az];simp[cZ]
theorem iN.at{ms:dn}{m:cH}{x:bv}{c:List bv}(h:iN ms m (x::c))(a5:m.Good ms)(aK:Ei m x):zc ms m:=by refine⟨a5,?_,by rw[h.get];exact aK⟩;obtain⟨pre,post,e,az⟩:=h;rw[e,az];simp
theorem cH.Good.after{ms:dn}{m:cH}{S:bt}{k:Nat}{bI:List ax}(h:m.Good ms)(cw:S.Good)(J4:S.bh<=m.S.bh)(am:S.left+bI.length<=m.S.left)(Z:∀v∈bI,v.code=0):(m.after S k bI).Good ms:=by
 have I:=h.dq;have R:=h.xA;have aj:=h.bh;refine⟨cw,⟨h.top.en,h.top.there,h.top.f0,h.top.f1,h.top.arg,h.top.names,λv hm=>?_,h.top.eU⟩,e6 J4 aj,?_,?_,h.oA⟩
 ·rcases qV.1 hm with hm|hm
  ·exact h.top.stack v hm
  ·exact Z v hm
 ·simp only[cH.after,fz];omega
 ·simp only[cH.after];omega
theorem cH.Good.next{ms:dn}{m bf:cH}(h:m.Good ms)(cw:bf.S=m.S)(ad:bf.below.length=m.below.length)(a6:bf.top.Good ms)(I:bf.top.stack.length<=m.top.stack.length)(R:bf.top.names.length+bf.S.left<=100000):bf.Good ms:=by have aj:=h.dq;have aH:=h.bh;have bq:=h.oA;refine⟨by rw[cw];exact h.S,a6,by rw[cw];exact aH,by rw[cw];omega,R,by omega⟩
theorem Ei.tick(m:cH):Ei m ⟨100,0,0⟩:=⟨by simp,by simp,by simp,by simp,by simp,by simp⟩
theorem iN.left{ms:dn}{m:cH}{a b:List bv}(h:iN ms m (a++b)):iN ms m a:=by obtain⟨pre,post,e,az⟩:=h;exact⟨pre,b++post,by rw[e];simp,az⟩
theorem iN.right{ms:dn}{m bf:cH}{a b:List bv}(h:iN ms m (a++b))(I:bf.top.bu=m.top.bu)(R:bf.top.f=m.top.f)(aj:bf.top.bU=m.top.bU+a.length):iN ms bf b:=by obtain⟨pre,post,e,az⟩:=h;exact⟨pre++a,post,by rw[I,R,e];simp,by rw[aj,az];simp⟩
def k4(ms:dn)(m:cH)(k:Nat)(q:bt×ax×Int):Prop:=
 if q.2.2≠0 then lR ms m (.fail q.1 q.2.2)else ∀r,lR ms (m.after q.1 k [q.2.1]) r->lR ms m r
def C0(ms:dn)(m:cH)(k:Nat)(acc:List ax)(q:bt×List ax×Int):Prop:=
 if q.2.2≠0 then lR ms m (.fail q.1 q.2.2)else ∃ws,q.2.1=acc++ws/\∀r,lR ms (m.after q.1 k ws) r->lR ms m r
theorem k4.no{ms:dn}{m:cH}{k:Nat}{S:bt}{c:Int}(an:c≠0)(h:lR ms m (.fail S c)):k4 ms m k (S.no c):=by unfold k4;rw[if_pos (show(S.no c).2.2≠0 from an)];exact h
theorem k4.ok{ms:dn}{m:cH}{k:Nat}{S:bt}{v:ax}(h:∀r,lR ms (m.after S k [v]) r->lR ms m r):k4 ms m k (S.ok v):=by unfold k4;rw[if_neg (by simp[bt.ok])];exact h
theorem awE{ms:dn}{m:cH}{c:List bv}(dm:m.Good ms)(h:iN ms m (⟨100,0,0⟩::c))(am:m.S.left≠0){r:rQ}(au:lR ms (m.after m.S.tick 1 []) r):lR ms m r:=by refine .go (h.at dm (.tick m)) ?_ au;unfold pb;simp only[h.get,if_true];rw[if_neg am];simp[cH.after]
theorem aim{ms:dn}{m:cH}{c:List bv}(dm:m.Good ms)(h:iN ms m (⟨100,0,0⟩::c))(am:m.S.left=0):lR ms m (.fail m.S 12):=by refine .fail (h.at dm (.tick m)) ?_;unfold pb;simp only[h.get,if_true];rw[if_pos am]
theorem Ip(st ws:List ax):tG (st++ws) ws.length=ws:=by unfold tG;rw[fz,Nat.add_sub_cancel];exact List.drop_left
theorem Iq(st ws:List ax):wl (st++ws) ws.length=st:=by unfold wl;rw[fz,Nat.add_sub_cancel];exact List.take_left
theorem x6(st:List ax)(v:ax):tG (st++[v]) 1=[v]:=Ip st [v]
theorem C1(st:List ax)(v:ax):wl (st++[v]) 1=st:=Iq st [v]
theorem ain(x:bC)(aF:∃cC O,x.fault cC O=0)(p:Nat):∃c,cW x p=⟨100,0,0⟩::c:=by
 obtain⟨cC,O,h⟩:=aF;obtain⟨I,R,_⟩:=KI h;rw[mp];unfold wg;split
 ·rename_i bq;rw[bq]at R;have:x.l.length=2:=by simp[gw]at R;omega
  match am:x.l,this with
  |[a,b],_=>exact⟨_,rfl⟩
 ·split
  ·rename_i de;rw[de]at R;have:x.l.length=3:=by simp[gw]at R;omega
   match am:x.l,this with
   |[a,b,c],_=>exact⟨_,rfl⟩
  ·exact⟨_,rfl⟩
theorem awF{p:Int}{x y:bC}{arg:ax}{names:List ax}{S:bt}(I:x.op=y.op)(R:x.k=y.k)(aj:x.n=y.n):jL p x arg names S=jL p y arg names S:=by unfold jL;rw[I,R,aj]
theorem Fa(m:cH)(S b0:bt)(a b:Nat)(bI ws:List ax):(m.after S a bI).after b0 b ws=m.after b0 (a+b) (bI++ws):=by simp[cH.after,rC]
theorem awG(m:cH):m.after m.S 0 []=m:=by simp[cH.after]
theorem aio{ms:dn}{m:cH}{n:Int}{c:List bv}(h:iN ms m (⟨op,k,n⟩::c))(aK:op<100):pb ms m=pa ms (m.after m.S 1 []) ⟨op,k,n⟩:=by unfold pb;simp only[h.get];rw[if_neg (by omega),if_neg (by omega),if_neg (by omega),if_neg (by omega),if_neg (by omega),if_neg (by omega)];simp[cH.after]
def aip(ms:dn)(N:Nat):Prop:=∀(x:bC) (m:cH),m.Good ms->m.S.left<=N->x.fault (hs ms m.top.bu).length m.top.names.length=0->iN ms m (cW x m.top.bU)->k4 ms m (cW x m.top.bU).length (dp ms N m.top.bu x m.top.arg m.top.names (m.below.length+1) m.S)
theorem cH.Good.A9{ms:dn}{m:cH}{b0:bt}{v:ax}{c:Int}{k:Nat}(h:m.Good ms)(mu:KP m.S (b0,v,c))(an:c=0):(m.after b0 k [v]).Good ms:=by have I:=mu.1.bh;have R:=mu.2 an;have aj:=mu.1.val an;simp only at I R aj;exact h.after mu.1.cY (by omega) (by simp only[hj];omega) (λw hw=>by simp only[xq]at hw;rw[hw];exact aj)
theorem aiq{ms:dn}{N:Nat}(aR:aip ms N):∀(l:List bC) (m:cH) (acc:List ax),m.Good ms->m.S.left<=N->(∀y∈l,y.fault (hs ms m.top.bu).length m.top.names.length=0)->iN ms m (l7 (l.map cW) m.top.bU)->C0 ms m (l7 (l.map cW) m.top.bU).length acc (jd (λy S=>dp ms N m.top.bu y m.top.arg m.top.names (m.below.length+1) S) l m.S acc)
 |[],m,acc,_,_,_,_=>by unfold C0;simp only[jd,pt,l7,fG];rw[if_neg (by simp)];exact⟨[],by simp,λr au=>by rw[awG]at au;exact au⟩
 |x::l,m,acc,dm,am,bo,aC=>by
   simp only[kf,l7]at aC ⊢;have I:=aR x m dm am (bo x (by simp)) aC.left;have hle:=Eh ms N m.top.bu x m.top.arg m.top.names (m.below.length+1) m.S;have mu:=pc ms N m.top.bu x m.top.arg m.top.names (m.below.length+1) m.S dm.S dm.top.arg dm.top.names;rw[jd];rcases aX:dp ms N m.top.bu x m.top.arg m.top.names (m.below.length+1) m.S with⟨b0,v,c⟩;rw[aX]at I hle mu;simp only at I hle ⊢;unfold k4 at I;simp only at I;by_cases an:c=0
   ·rw[if_neg (by simpa using an)]at I ⊢;have R:=aiq aR l (m.after b0 (cW x m.top.bU).length [v]) (acc++[v]) (dm.A9 mu an) (e6 hle am) (λy bH=>bo y (by simp[bH])) (aC.right rfl rfl rfl);have aw:(m.after b0 (cW x m.top.bU).length [v]).top.bU=m.top.bU+(cW x m.top.bU).length:=rfl;rw[aw]at R;change C0 ms _ _ _ (jd (λy S=>dp ms N m.top.bu y m.top.arg m.top.names (m.below.length+1) S) l b0 (acc++[v]))at R;generalize jd (λy S=>dp ms N m.top.bu y m.top.arg m.top.names (m.below.length+1) S) l b0 (acc++[v])=q at R ⊢;unfold C0 at R ⊢;by_cases aB:q.2.2=0
    ·rw[if_neg (by simpa using aB)]at R ⊢;obtain⟨ws,e,R⟩:=R;refine⟨v::ws,by rw[e];simp,λr au=>I r (R r ?_)⟩;rw[Fa,List.singleton_append];rw[fz]at au;exact au
    ·rw[if_pos aB]at R ⊢;exact I _ R
   ·rw[if_pos an]at I ⊢;unfold C0;simp only;rw[if_pos an];exact I
theorem Uh(h:0<=gw op):1<=op/\op<=21:=by
 unfold gw at h;split at h
 ·omega
 ·split at h
  ·omega
  ·split at h
   ·omega
   ·split at h
    ·omega
    ·omega
theorem Ui{ms:dn}{m:cH}{c:List bv}(h:iN ms m (⟨105,0,0⟩::c)){v:ax}(Z:m.top.stack=st++[v]):pb ms m=(let q:=if m.top.asked then lQ m.top.eU v m.S else m.S.ok v
  if q.2.2≠0 then .fail q.1 q.2.2 else match m.below.getLast? with
   |none=>.over q.1 q.2.1
   |some t=>.go ⟨q.1,{t with stack:=t.stack++[q.2.1]},m.below.dropLast⟩):=by
 unfold pb;simp only[h.get];rw[if_neg (by omega),if_neg (by omega),if_neg (by omega),if_neg (by omega),if_neg (by omega),if_pos trivial];unfold cH.back;simp only[Z,x6,ua];rfl
theorem air{α:Type}(l:List α)(a:α):(l++[a]).getLast? =o a/\(l++[a]).dropLast=l:=⟨by simp,by simp⟩
theorem ais{cC n O:Int}(h:sG cC 18 k n O=0):0<=k/\k<cC:=by
 unfold sG at h;split at h
 ·cases h
 ·rw[if_neg (by decide),if_neg (by decide),if_neg (by decide),if_pos rfl]at h;split at h
  ·cases h
  ·omega
theorem IR{cC n O:Int}(h:sG cC 4 k n O=0):0<=k/\k<O:=by
 unfold sG at h;split at h
 ·cases h
 ·rw[if_pos rfl]at h;split at h
  ·cases h
  ·omega
theorem ait{ms:dn}{v:ax}{aM:Nat}{S b0:bt}{q:rP}(h:hH ms v x aM S=(b0,q,0)):q.func.toNat<(hs ms q.bu).length/\aM≠20:=by
 unfold hH at h;simp only at h;split at h
 ·simp only[kW]at h;omega
 ·split at h
  ·simp only[kW]at h;omega
  ·split at h
   ·simp only[kW]at h;omega
   ·split at h
    ·simp only[kW]at h;omega
    ·rename_i aA;split at h
     ·simp only[kW]at h;omega
     ·rename_i bo;simp only[kW]at h;obtain⟨_,rfl,_⟩:=h;exact⟨by
       simp only;have:¬((hs ms (S.G.target v.n).1.bu).length:Int)<=(S.G.target v.n).1.func:=λe=>aA (.inr (.inl e));have aj:¬(S.G.target v.n).1.func<0:=λe=>aA (.inr (.inr e));omega,bo⟩
theorem Uj{f:bC->bt->bt×ax×Int}:∀(l:List bC) (S:bt) (acc:List ax),(jd f l S acc).2.2=0->(jd f l S acc).2.1.length=acc.length+l.length
 |[],S,acc,_=>rfl
 |x::l,S,acc,h=>by
   rw[jd]at h ⊢;rcases aX:f x S with⟨b0,v,c⟩;rw[aX]at h;simp only at h ⊢;by_cases an:c=0
   ·rw[if_neg (by simpa using an)]at h ⊢;rw[Uj l b0 _ h];simp;omega
   ·rw[if_pos an]at h;exact absurd h an
theorem A'{p:Int}{x:bC}{arg:ax}{names:List ax}{S:bt}:jL p x arg names S=ag↔¬(x.op=1\/x.op=2\/x.op=3\/x.op=4\/x.op=21):=by
 unfold jL;constructor
 ·intro h
  repeat' split at h
  all_goals first
   |omega
   |cases h
 ·intro h;rw[if_neg (by omega),if_neg (by omega),if_neg (by omega),if_neg (by omega),if_neg (by omega)]
theorem Ir{α:Type}{l:List α}(h:l.length=2):∃a b,l=[a,b]:=by
 match l,h with
 |[a,b],_=>exact⟨a,b,rfl⟩
theorem aiu{α:Type}{l:List α}(h:l.length=3):∃a b c,l=[a,b,c]:=by
 match l,h with
 |[a,b,c],_=>exact⟨a,b,c,rfl⟩
theorem aiv{ms:dn}(a5:xB ms):∀N:Nat,aip ms N
 |0,x,m,dm,am,bo,aC=>by
   obtain⟨c,an⟩:=ain x ⟨_,_,bo⟩ m.top.bU;have ak:m.S.left=0:=by omega
   rw[an]at aC;exact k4.no (by decide) (aim dm aC ak)
 |N+1,x,m,dm,am,bo,aC=>by
   have aR:=aiv a5 N;obtain⟨c,an⟩:=ain x ⟨_,_,bo⟩ m.top.bU;have Uk:=aC;rw[an]at Uk;obtain⟨f1,f2,f3,f4,f5⟩:=KI bo;rw[dp];by_cases ak:m.S.left=0
   ·rw[if_pos ak];exact k4.no (by decide) (aim dm Uk ak)
   rw[if_neg ak];have Ba:∀r,lR ms (m.after m.S.tick 1 []) r->lR ms m r:=λr au=>awE dm Uk ak au;have Fb:(m.after m.S.tick 1 []).Good ms:=dm.after dm.S.tick (by have:=GG ak;omega) (by have:=GG ak;simp only[fG];omega) (by simp);have py:m.S.tick.left<=N:=by show m.S.left - 1<=N;omega
   have iH:=Uh f1;by_cases hL:x.op=5
   ·have sc:jL m.top.bu x m.top.arg m.top.names m.S.tick=ag:=A'.2 (by omega);rw[sc];simp only;rw[if_pos hL];have hlen:x.l.length=2:=by rw[hL]at f2;simp[gw]at f2;omega
    obtain⟨a,b,sA⟩:=Ir hlen;rw[hL]at f5;rw[sA]at f5 ⊢;obtain⟨zE,f6⟩:=BZ f5;obtain⟨bp,_⟩:=BZ f6;rw[if_neg (by omega)]at zE;rw[if_pos (by omega)]at bp;simp only[ua,List.getD_cons_succ];have s5:cW x m.top.bU=⟨100,0,0⟩::(cW a (m.top.bU+1)++(⟨101,0,0⟩::(cW b (m.top.bU+1+(cW a (m.top.bU+1)).length+1)++[⟨102,0,0⟩]))):=by rw[mp,sA];unfold wg;rw[if_pos hL];rfl
    rw[s5]at aC ⊢;have nr:iN ms (m.after m.S.tick 1 []) _:=iN.right (a:=[⟨100,0,0⟩]) aC rfl rfl rfl;have I:=aR a (m.after m.S.tick 1 []) Fb py zE nr.left;have hle:=Eh ms N m.top.bu a m.top.arg m.top.names (m.below.length+1) m.S.tick;have mu:=pc ms N m.top.bu a m.top.arg m.top.names (m.below.length+1) m.S.tick dm.S.tick dm.top.arg dm.top.names;change k4 ms _ _ (dp ms N m.top.bu a m.top.arg m.top.names (m.below.length+1) m.S.tick)at I;rcases aX:dp ms N m.top.bu a m.top.arg m.top.names (m.below.length+1) m.S.tick with⟨b0,v,c⟩;rw[aX]at I hle mu;simp only at I hle ⊢;unfold k4 at I;simp only at I;by_cases an:c=0
    ·rw[if_neg (by simpa using an)]at I ⊢;rw[Fa]at I;generalize eA:cW a (m.top.bU+1)=A at*;have s0:cW a (m.after m.S.tick 1 []).top.bU=A:=eA;rw[s0]at I;have jy:iN ms (m.after b0 (1+A.length) ([]++[v])) (⟨101,0,0⟩::(cW b (m.top.bU+1+A.length+1)++[⟨102,0,0⟩])):=iN.right nr rfl rfl (by simp only[cH.after];omega);have zF:(m.after b0 (1+A.length) ([]++[v])).Good ms:=by have:=cH.Good.A9 (k:=A.length) Fb mu an;rwa [Fa]at this
     have nj:=jy.at zF ⟨by simp,by simp[cH.after],by simp,by simp,by simp,by simp⟩;have awH:v.code=0:=mu.1.val an;have ba:b0.left<m.S.tick.left:=mu.2 an;have Nf:=(GG ak).2;have sd:(⟨b0,{m.top with bU:=m.top.bU+1+A.length+1,names:=m.top.names++[v]},m.below⟩:cH).Good ms:=by
      refine zF.next rfl rfl ⟨dm.top.en,dm.top.there,dm.top.f0,dm.top.f1,dm.top.arg,λw hw=>?_,dm.top.stack,dm.top.eU⟩ (by simp[cH.after]) ?_
      ·rcases qV.1 hw with hw|hw
       ·exact dm.top.names w hw
       ·simp only[xq]at hw;rw[hw];exact awH
      ·have:=dm.xA;simp only[fz,hj];omega
     have aw:pb ms (m.after b0 (1+A.length) ([]++[v]))= .go {S:=b0,top:={m.top with bU:=m.top.bU+1+A.length+1,names:=m.top.names++[v]},below:=m.below}:=by unfold pb;simp only[jy.get];rw[if_neg (by decide),if_pos trivial];simp only[cH.after,l3,x6,C1,ua];rw[rC m.top.bU 1]
     have r1:iN ms {S:=b0,top:={m.top with bU:=m.top.bU+1+A.length+1,names:=m.top.names++[v]},below:=m.below} (cW b (m.top.bU+1+A.length+1)++[⟨102,0,0⟩]):=iN.right (a:=[⟨101,0,0⟩]) jy rfl rfl (by simp only[cH.after,hj];omega);have R:=aR b {S:=b0,top:={m.top with bU:=m.top.bU+1+A.length+1,names:=m.top.names++[v]},below:=m.below} sd (e6 hle py) (by simp only[fz,hj];exact bp) r1.left;simp only at R;have s7:=pc ms N m.top.bu b m.top.arg (m.top.names++[v]) (m.below.length+1) b0 sd.S sd.top.arg sd.top.names;generalize dp ms N m.top.bu b m.top.arg (m.top.names++[v]) (m.below.length+1) b0=q at R s7 ⊢;unfold k4 at R ⊢;by_cases aB:q.2.2=0
     ·rw[if_neg (by simpa using aB)]at R ⊢;intro r au;refine Ba r (I r (.go nj aw (R r ?_)));generalize cW b (m.top.bU+1+A.length+1)=B at*;have Is:iN ms (cH.after {S:=b0,top:={m.top with bU:=m.top.bU+1+A.length+1,names:=m.top.names++[v]},below:=m.below} q.1 B.length [q.2.1]) [⟨102,0,0⟩]:=iN.right r1 rfl rfl rfl;refine .go (Is.at (cH.Good.A9 (c:=q.2.2) sd s7 aB) ⟨by simp,by simp,by simp[cH.after],by simp,by simp,by simp⟩) (bf:=m.after q.1 (⟨100,0,0⟩::(A++(⟨101,0,0⟩::(B++[⟨102,0,0⟩]))):List bv).length [q.2.1]) ?_ au;unfold pb;simp only[Is.get];rw[if_neg (by decide),if_neg (by decide),if_pos trivial];simp only[cH.after,List.dropLast_concat,ho,fz,fG];congr 3;omega
     ·rw[if_pos aB]at R ⊢;exact Ba _ (I _ (.go nj aw R))
    ·rw[if_pos an]at I ⊢;exact k4.no an (Ba _ I)
   by_cases m4:x.op=7
   ·have sc:jL m.top.bu x m.top.arg m.top.names m.S.tick=ag:=A'.2 (by omega);rw[sc];simp only;rw[if_neg hL,if_pos m4];have hlen:x.l.length=3:=by rw[m4]at f2;simp[gw]at f2;omega
    obtain⟨a,b,eo,sA⟩:=aiu hlen;have x7:=Ed hL f5;have zE:=x7 a (by rw[sA];simp);have bp:=x7 b (by rw[sA];simp);have awI:=x7 eo (by rw[sA];simp);rw[sA];simp only[ua,List.getD_cons_succ];have s5:cW x m.top.bU=⟨100,0,0⟩::(cW a (m.top.bU+1)++(⟨103,((q6 (cW a) (cW b) m.top.bU:Nat):Int),0⟩::(cW b (m.top.bU+1+(cW a (m.top.bU+1)).length+1)++ (⟨104,((q6 (cW a) (cW b) m.top.bU+(cW eo (q6 (cW a) (cW b) m.top.bU)).length:Nat):Int),0⟩::cW eo (q6 (cW a) (cW b) m.top.bU))))):=by rw[mp,sA];unfold wg;rw[if_neg hL,if_pos m4];rfl
    have wB:q6 (cW a) (cW b) m.top.bU=m.top.bU+1+(cW a (m.top.bU+1)).length+1+(cW b (m.top.bU+1+(cW a (m.top.bU+1)).length+1)).length+1:=rfl;rw[s5]at aC ⊢;have nr:iN ms (m.after m.S.tick 1 []) _:=iN.right (a:=[⟨100,0,0⟩]) aC rfl rfl rfl;have I:=aR a (m.after m.S.tick 1 []) Fb py zE nr.left;have hle:=Eh ms N m.top.bu a m.top.arg m.top.names (m.below.length+1) m.S.tick;have mu:=pc ms N m.top.bu a m.top.arg m.top.names (m.below.length+1) m.S.tick dm.S.tick dm.top.arg dm.top.names;change k4 ms _ _ (dp ms N m.top.bu a m.top.arg m.top.names (m.below.length+1) m.S.tick)at I;rcases aX:dp ms N m.top.bu a m.top.arg m.top.names (m.below.length+1) m.S.tick with⟨b0,v,c⟩;rw[aX]at I hle mu;simp only at I hle ⊢;unfold k4 at I;simp only at I;by_cases an:c=0
    ·rw[if_neg (by simpa using an)]at I ⊢;rw[Fa]at I;have s0:cW a (m.after m.S.tick 1 []).top.bU=cW a (m.top.bU+1):=rfl;rw[s0]at I;have Nd:∀q,q=m.top.bU+1+(cW a (m.top.bU+1)).length+1->cW b q=cW b (m.top.bU+1+(cW a (m.top.bU+1)).length+1):=λq e=>by rw[e]
     have aiw:∀q,q=q6 (cW a) (cW b) m.top.bU->cW eo q=cW eo (q6 (cW a) (cW b) m.top.bU):=λq e=>by rw[e]
     generalize cW eo (q6 (cW a) (cW b) m.top.bU)=C at*;generalize q6 (cW a) (cW b) m.top.bU=el at*;generalize cW b (m.top.bU+1+(cW a (m.top.bU+1)).length+1)=B at*;generalize cW a (m.top.bU+1)=A at*;have jy:iN ms (m.after b0 (1+A.length) ([]++[v])) (⟨103,(el:Int),0⟩::(B++(⟨104,((el+C.length:Nat):Int),0⟩::C))):=iN.right nr rfl rfl (by simp only[cH.after];omega);have ab:(⟨100,0,0⟩::(A++(⟨103,(el:Int),0⟩::(B++(⟨104,((el+C.length:Nat):Int),0⟩::C)))):List bv).length=1+A.length+1+B.length+1+C.length:=by simp only[ho,fz];omega
     rw[ab];have se:∀r,lR ms (m.after b0 (1+A.length) ([]++[v])) r->lR ms m r:=λr au=>Ba r (I r au);have zF:(m.after b0 (1+A.length) ([]++[v])).Good ms:=by have:=cH.Good.A9 (k:=A.length) Fb mu an;rwa [Fa]at this
     have nj:=jy.at zF ⟨by simp,by simp[cH.after],by simp,by simp,by simp,by simp⟩;have sd:∀bU,(⟨b0,{m.top with bU:=bU},m.below⟩:cH).Good ms:=λbU=>by refine zF.next rfl rfl ⟨dm.top.en,dm.top.there,dm.top.f0,dm.top.f1,dm.top.arg,dm.top.names,dm.top.stack,dm.top.eU⟩ (by simp[cH.after]) zF.xA
     by_cases Z:v.kind=1
     ·rw[if_neg (by simpa using Z)];have aw:pb ms (m.after b0 (1+A.length) ([]++[v]))= .go {S:=b0,top:={m.top with bU:=if v.n=0 then el else m.top.bU+(1+A.length)+1},below:=m.below}:=by unfold pb;simp only[jy.get];rw[if_neg (by decide),if_neg (by decide),if_neg (by decide),if_pos trivial];simp only[cH.after,l3,x6,C1,ua,m9];rw[if_neg (by simpa using Z)]
      by_cases aA:v.n=0
      ·rw[if_neg (by simpa using aA)];rw[if_pos aA]at aw;have r1:iN ms {S:=b0,top:={m.top with bU:=el},below:=m.below} C:=by have:=iN.right (bf:={S:=b0,top:={m.top with bU:=el},below:=m.below}) (a:=⟨100,0,0⟩::(A++(⟨103,(el:Int),0⟩::(B++[⟨104,((el+C.length:Nat):Int),0⟩])))) (b:=C) (ms:=ms) (m:=m) (by simpa using aC) rfl rfl (by simp only[ho,fz,fG];omega);exact this
       have R:=aR eo {S:=b0,top:={m.top with bU:=el},below:=m.below} (sd _) (e6 hle py) awI (by simp only;rw[aiw el rfl];exact r1);simp only at R;rw[aiw el rfl]at R;generalize dp ms N m.top.bu eo m.top.arg m.top.names (m.below.length+1) b0=q at R ⊢;unfold k4 at R ⊢;by_cases aB:q.2.2=0
       ·rw[if_neg (by simpa using aB)]at R ⊢;intro r au;refine se r (.go nj aw (R r ?_));have:(cH.after {S:=b0,top:={m.top with bU:=el},below:=m.below} q.1 C.length [q.2.1])=m.after q.1 (1+A.length+1+B.length+1+C.length) [q.2.1]:=by simp only[cH.after];rw[show el+C.length=m.top.bU+(1+A.length+1+B.length+1+C.length) by omega]
        rw[this];exact au
       ·rw[if_pos aB]at R ⊢;exact se _ (.go nj aw R)
      ·rw[if_pos aA];rw[if_neg aA]at aw;have r1:iN ms {S:=b0,top:={m.top with bU:=m.top.bU+(1+A.length)+1},below:=m.below} (B++(⟨104,((el+C.length:Nat):Int),0⟩::C)):=iN.right (a:=[⟨103,(el:Int),0⟩]) jy rfl rfl (by simp only[cH.after,hj]);have sq:cW b (m.top.bU+(1+A.length)+1)=B:=Nd _ (by omega);have R:=aR b {S:=b0,top:={m.top with bU:=m.top.bU+(1+A.length)+1},below:=m.below} (sd _) (e6 hle py) bp (by simp only;rw[sq];exact r1.left);simp only at R;rw[sq]at R;have s7:=pc ms N m.top.bu b m.top.arg m.top.names (m.below.length+1) b0 zF.S dm.top.arg dm.top.names;generalize dp ms N m.top.bu b m.top.arg m.top.names (m.below.length+1) b0=q at R s7 ⊢;unfold k4 at R ⊢;by_cases aB:q.2.2=0
       ·rw[if_neg (by simpa using aB)]at R ⊢;intro r au;refine se r (.go nj aw (R r ?_));have Is:iN ms (cH.after {S:=b0,top:={m.top with bU:=m.top.bU+(1+A.length)+1},below:=m.below} q.1 B.length [q.2.1]) (⟨104,((el+C.length:Nat):Int),0⟩::C):=iN.right r1 rfl rfl rfl;refine .go (Is.at (cH.Good.A9 (c:=q.2.2) (sd _) s7 aB) ⟨by simp,by simp,by simp,λ_=>Int.natCast_nonneg _,by simp,by simp⟩) (bf:=m.after q.1 (1+A.length+1+B.length+1+C.length) [q.2.1]) ?_ au;unfold pb;simp only[Is.get];rw[if_neg (by decide),if_neg (by decide),if_neg (by decide),if_neg (by decide),if_pos trivial];simp only[cH.after,m9];congr 3;omega
       ·rw[if_pos aB]at R ⊢;exact se _ (.go nj aw R)
     ·rw[if_pos Z];refine k4.no (by decide) (se _ (.fail nj ?_));unfold pb;simp only[jy.get];rw[if_neg (by decide),if_neg (by decide),if_neg (by decide),if_pos trivial];simp only[cH.after,l3,x6,ua];rw[if_pos Z]
    ·rw[if_pos an]at I ⊢;exact k4.no an (Ba _ I)
   have s5:cW x m.top.bU=⟨100,0,0⟩::(l7 (x.l.map cW) (m.top.bU+1)++[⟨x.op,x.k,x.n⟩]):=by rw[mp];unfold wg;rw[if_neg hL,if_neg m4]
   rw[s5]at aC ⊢;have nr:iN ms (m.after m.S.tick 1 []) (l7 (x.l.map cW) (m.top.bU+1)++[⟨x.op,x.k,x.n⟩]):=iN.right (a:=[⟨100,0,0⟩]) aC rfl rfl rfl;cases sc:jL m.top.bu x m.top.arg m.top.names m.S.tick with
   |some v=>
     have aB:x.l=[]:=by
      have:x.op=1\/x.op=2\/x.op=3\/x.op=4\/x.op=21:=by
       rcases Classical.em (x.op=1\/x.op=2\/x.op=3\/x.op=4\/x.op=21)with h|h
       ·exact h
       ·rw[A'.2 h]at sc;cases sc
      have az:gw x.op=0:=by rw[gw,if_pos this]
      rw[az]at f2;exact sy.1 (by omega)
     rw[aB]at nr ⊢;simp only[pt,l7,l3]at nr ⊢;refine k4.ok λr au=>Ba r (.go (nr.at Fb ⟨.inl ⟨iH.1,iH.2,hL,m4⟩,λh=>by simp only at h;omega,λh=>by simp only at h;omega,λh=>by simp only at h;omega,λ_=>by simp only;rw[aB]at f2;rw[<-f2];simp,λh=>?_⟩) ?_ au)
     ·simp only at h;rw[h]at f3;exact IR f3
     rw[aio nr (by omega)];unfold pa;have Ul:jL m.top.bu (.mk x.op x.k x.n []) m.top.arg m.top.names m.S.tick=o v:=by rw[<-sc];exact awF rfl rfl rfl
     simp only[cH.after,ou,Ul,cH.push,ho,fG]
   |none=>
     simp only;rw[if_neg hL,if_neg m4];have c1:=aiq aR x.l (m.after m.S.tick 1 []) [] Fb py (Ed hL f5) nr.left;have hlen:=Uj (f:=λy S=>dp ms N m.top.bu y m.top.arg m.top.names (m.below.length+1) S) x.l m.S.tick [];have hle:=QD (f:=λy S=>dp ms N m.top.bu y m.top.arg m.top.names (m.below.length+1) S) (λy S=>Eh ms N m.top.bu y m.top.arg m.top.names (m.below.length+1) S) x.l m.S.tick [];have aix:=KQ (f:=λy S=>dp ms N m.top.bu y m.top.arg m.top.names (m.below.length+1) S) (λy S h=>pc ms N m.top.bu y m.top.arg m.top.names (m.below.length+1) S h dm.top.arg dm.top.names) x.l m.S.tick [] dm.S.tick (by simp);change C0 ms _ _ _ (jd (λy S=>dp ms N m.top.bu y m.top.arg m.top.names (m.below.length+1) S) x.l m.S.tick [])at c1;rcases aX:jd (λy S=>dp ms N m.top.bu y m.top.arg m.top.names (m.below.length+1) S) x.l m.S.tick []with⟨b0,l,c⟩;rw[aX]at c1 hlen hle aix;obtain⟨It,awJ,awK,aiy⟩:=aix;simp only[fG,ir]at c1 hlen hle ⊢;unfold C0 at c1;simp only at c1;by_cases an:c=0
     ·subst an;rw[if_neg (by simp)]at c1 ⊢;obtain⟨ws,Iu,c1⟩:=c1;rw[l3]at Iu;subst Iu;have hlen:=hlen rfl;change ∀r,lR ms ((m.after m.S.tick 1 []).after b0 (l7 (x.l.map cW) (m.top.bU+1)).length l) r->_ at c1;rw[Fa,l3]at c1;generalize l7 (x.l.map cW) (m.top.bU+1)=A at*;have se:∀r,lR ms (m.after b0 (1+A.length) l) r->lR ms m r:=λr au=>Ba r (c1 r au);have jy:iN ms (m.after b0 (1+A.length) l) [⟨x.op,x.k,x.n⟩]:=iN.right nr rfl rfl (by simp only[cH.after];omega);have Ul:jL m.top.bu (.mk x.op x.k x.n []) m.top.arg m.top.names b0=ag:=A'.2 (A'.1 sc);have ka:=aio jy (by omega);have Iv:=GG ak;have ve:=(aiy rfl).1;have jf:=(aiy rfl).2;simp only[fG,Nat.add_zero]at It awJ awK ve jf;have zF:(m.after b0 (1+A.length) l).Good ms:=dm.after It (by omega) (by omega) ve;have nj:zc ms (m.after b0 (1+A.length) l):=jy.at zF ⟨.inl ⟨iH.1,iH.2,hL,m4⟩,λh=>by simp only at h;omega,λh=>by simp only at h;omega,λh=>by simp only at h;omega,λ_=>by
       simp only[cH.after,fz];omega,λh=>by
       have:=A'.1 sc;simp only at h;omega⟩
      have awL:(gw x.op).toNat=l.length:=by omega
      have ab:(⟨100,0,0⟩::(A++[⟨x.op,x.k,x.n⟩]):List bv).length=1+A.length+1:=by simp only[ho,fz,fG];omega
      rw[ab];clear ab s5 aC nr;unfold pa at ka;simp only[cH.after,ou,Ul]at ka;by_cases vy:x.op=18
      ·rw[if_pos vy]at ka ⊢;rw[vy]at f2 f3;obtain⟨h5,cF⟩:=ais f3;obtain⟨v,rfl⟩:∃v,l=[v]:=by
        have:l.length=1:=by rw[hlen];simp[gw]at f2;omega
        match l,this with
        |[v],_=>exact⟨v,rfl⟩
       rw[x6,C1]at ka;simp only[ua]at ka ⊢;unfold cH.call at ka;simp only at ka;by_cases k3:m.below.length+1=20
       ·rw[if_pos k3]at ka ⊢;exact k4.no (by decide) (se _ (.fail nj ka))
       ·rw[if_neg k3]at ka ⊢;have CR:=Ny a5 (p:=m.top.bu) (k:=x.k) (by omega);have sd:(⟨b0,⟨m.top.bu,x.k,0,v,[],[],U,[]⟩,m.below++[{m.top with bU:=m.top.bU+(1+A.length)+1}]⟩:cH).Good ms:=by
         have cS:=dm.dq;have cf:=dm.oA;have eQ:=dm.bh;refine⟨It,⟨dm.top.en,dm.top.there,h5,by simp only;omega,ve v (by simp),by simp,by simp,by simp⟩,by simp only;omega,?_,?_,?_⟩
         ·simp only[fG];omega
         ·simp only[fG];omega
         ·simp only[fz,hj];omega
        have s7:=pc ms N m.top.bu (gK ms m.top.bu x.k) v [] (m.below.length+1+1) b0 It (ve v (by simp)) (by simp);have aj:=aR (gK ms m.top.bu x.k) ⟨b0,⟨m.top.bu,x.k,0,v,[],[],U,[]⟩,m.below++[{m.top with bU:=m.top.bU+(1+A.length)+1}]⟩ sd (e6 hle py) CR ⟨[],[⟨105,0,0⟩],by simp[mm],rfl⟩;simp only[fz,hj]at aj;generalize dp ms N m.top.bu (gK ms m.top.bu x.k) v [] (m.below.length+1+1) b0=q at aj s7 ⊢;unfold k4 at aj ⊢;by_cases aB:q.2.2=0
        ·rw[if_neg (by simpa using aB)]at aj ⊢;intro r au;refine se r (.go nj ka (aj r (.go (iN.at (c:=[]) (x:=⟨105,0,0⟩) ⟨cW (gK ms m.top.bu x.k) 0,[],by simp[mm,cH.after],by simp[cH.after]⟩ (cH.Good.A9 (c:=q.2.2) sd s7 aB) ⟨by simp,by simp[cH.after],by simp,by simp,by simp,by simp⟩) ?_ au)));rw[Ui (c:=[]) (st:=[]) (v:=q.2.1) ⟨cW (gK ms m.top.bu x.k) 0,[],by simp[mm,cH.after],by simp[cH.after]⟩ rfl];simp only[cH.after,bt.ok,air];rw[if_neg (by simp)];simp only[mF,if_false];simp[rC]
        ·rw[if_pos aB]at aj ⊢;exact se _ (.go nj ka aj)
      by_cases x8:x.op=19
      ·rw[if_neg vy,if_pos x8]at ka ⊢;rw[x8]at f2;obtain⟨v,w,rfl⟩:∃v w,l=[v,w]:=Ir (by rw[hlen];simp[gw]at f2;omega);have Iv:=Ip m.top.stack [v,w];have dI:=Iq m.top.stack [v,w];simp only[ho,fG,ir,ar]at Iv dI;rw[Iv,dI]at ka;simp only[ua,List.getD_cons_succ]at ka ⊢;have G2:=QC ms v w (m.below.length+1) b0;have Um:=abR (ms:=ms) (v:=v) (x:=w) (aM:=m.below.length+1) It;rcases aiz:hH ms v w (m.below.length+1) b0 with⟨lB,q,c⟩;rw[aiz]at ka G2 Um;simp only at ka G2 Um ⊢;by_cases an:c=0
       ·subst an;rw[if_neg (by simp)]at ka ⊢;obtain⟨awM,k3⟩:=ait aiz;unfold cH.call at ka;simp only at ka;rw[if_neg k3]at ka;have CR:=Ny a5 (p:=q.bu) (k:=q.func) awM;obtain⟨cg,c0,fq⟩:=Um;obtain⟨l5,iV,lg,kb,Un,awN⟩:=fq rfl;have sd:(⟨lB,⟨q.bu,q.func,0,q.arg,[],[],J,q.eU⟩,m.below++[{m.top with bU:=m.top.bU+(1+A.length)+1}]⟩:cH).Good ms:=by
         have cS:=dm.dq;have cf:=dm.oA;have eQ:=dm.bh;refine⟨cg,⟨kb,lg,Un,awN,l5,by simp,by simp,iV⟩,by simp only;omega,?_,?_,?_⟩
         ·simp only[fG];omega
         ·simp only[fG];omega
         ·simp only[fz,hj];omega
        have s7:=pc ms N q.bu (gK ms q.bu q.func) q.arg [] (m.below.length+1+1) lB cg l5 (by simp);have aj:=aR (gK ms q.bu q.func) ⟨lB,⟨q.bu,q.func,0,q.arg,[],[],J,q.eU⟩,m.below++[{m.top with bU:=m.top.bU+(1+A.length)+1}]⟩ sd (e6 (qU G2) (e6 hle py)) CR ⟨[],[⟨105,0,0⟩],by simp[mm],rfl⟩;simp only[fz,hj]at aj;rcases Ay:dp ms N q.bu (gK ms q.bu q.func) q.arg [] (m.below.length+1+1) lB with⟨na,eY,cl⟩;rw[Ay]at aj s7;unfold k4 at aj;simp only at aj ⊢;by_cases aB:cl=0
        ·rw[if_neg (by simpa using aB)]at aj ⊢;have x9:=Ui (ms:=ms) (m:=cH.after ⟨lB,⟨q.bu,q.func,0,q.arg,[],[],J,q.eU⟩,m.below++[{m.top with bU:=m.top.bU+(1+A.length)+1}]⟩ na (cW (gK ms q.bu q.func) 0).length [eY]) (c:=[]) (st:=[]) (v:=eY) ⟨cW (gK ms q.bu q.func) 0,[],by simp[mm,cH.after],by simp[cH.after]⟩ rfl;have Nz:zc ms (cH.after ⟨lB,⟨q.bu,q.func,0,q.arg,[],[],J,q.eU⟩,m.below++[{m.top with bU:=m.top.bU+(1+A.length)+1}]⟩ na (cW (gK ms q.bu q.func) 0).length [eY]):=iN.at (c:=[]) (x:=⟨105,0,0⟩) ⟨cW (gK ms q.bu q.func) 0,[],by simp[mm,cH.after],by simp[cH.after]⟩ (sd.A9 s7 aB) ⟨by simp,by simp[cH.after],by simp,by simp,by simp,by simp⟩;simp only[cH.after,if_true,air]at x9;generalize lQ q.eU eY na=eS at x9 ⊢;unfold k4;by_cases aiA:eS.2.2=0
         ·rw[if_neg (by simpa using aiA)]at x9 ⊢;intro r au;refine se r (.go nj ka (aj r (.go Nz x9 ?_)));simpa[cH.after,rC]using au
         ·rw[if_pos aiA]at x9 ⊢;exact se _ (.go nj ka (aj _ (.fail Nz x9)))
        ·rw[if_pos aB]at aj ⊢;exact k4.no aB (se _ (.go nj ka aj))
       ·rw[if_pos an]at ka ⊢;exact k4.no an (se _ (.fail nj ka))
      rw[if_neg vy,if_neg x8]at ka ⊢;rw[awL,Ip,Iq]at ka;generalize gV m.top.bu x.op x.k x.n l b0=q at ka ⊢;unfold k4;unfold cH.done cH.push at ka;by_cases aB:q.2.2=0
      ·rw[if_neg (by simpa using aB)]at ka ⊢;intro r au;refine se r (.go nj ka ?_);simpa only[cH.after,rC]using au
      ·rw[if_pos aB]at ka ⊢;exact se _ (.fail nj ka)
     ·rw[if_pos an]at c1 ⊢;exact k4.no an (Ba _ c1)
theorem qI{α:Type}{l:List α}(h:1<=l.length):∃st v,l=st++[v]:=⟨l.dropLast,l.getLast (λe=>by rw[e]at h;simp at h),(List.dropLast_concat_getLast _).symm⟩
theorem NA{α:Type}{l:List α}(h:2<=l.length):∃st v w,l=st++[v]++[w]:=by obtain⟨st,w,rfl⟩:=qI (l:=l) (by omega);obtain⟨st,v,rfl⟩:=qI (l:=st) (by simp at h;omega);exact⟨st,v,w,rfl⟩
section
variable{h E ak:ai}{ah al aO aL:Nat->Prop}{L:List cc}{c:i8}{i:Nat}{n:gt}
abbrev gt.m(n:gt):cH:=⟨n.S,n.top,n.below⟩
theorem fi.ri{q:bt×ax×Int}{aM:F⊕F}(r:fi ak aO aL c L i (n.dq st) q aM E):Ih ak aO aL c L i (cH.done n.m st q) aM E:=by
 unfold cH.done;rcases r with⟨e,b,s⟩|⟨e,b,cj,ay,s⟩
 ·rw[if_neg (by simpa using e)];exact⟨b,n.bp,s⟩
 ·rw[if_pos e];exact⟨b,cj,ay,s⟩
theorem pY.ri{q:bt×rP×Int}{aM:F⊕F}(r:pY ak aO aL c L i (n.dq st) q aM E)(nE:q.2.2=0->n.below.length+1≠20):Ih ak aO aL c L i (match q with
   |(b0,q,k)=>if k≠0 then .fail b0 k else cH.call n.m b0 st q.bu q.func q.arg J q.eU) aM E:=by
 obtain⟨b0,q,k⟩:=q;rcases r with⟨e,b,bp,s⟩|⟨e,b,cj,ay,s⟩
 ·simp only at e s nE ⊢;rw[if_neg (by simpa using e)];unfold cH.call;rw[if_neg (nE e)];exact⟨b,bp,s⟩
 ·simp only at e b ay s ⊢;rw[if_pos e];exact⟨b,cj,ay,s⟩
theorem Ug.ri{v:ax}{aM:F⊕F}(r:Ug ak aO aL c L i (n.dq st) k v aM E):Ih ak aO aL c L i (cH.call n.m n.S st n.top.bu k v U []) aM E:=by
 unfold cH.call;rcases r with⟨e,b,bp,s⟩|⟨e,b,s⟩
 ·rw[if_neg e];exact⟨b,bp,s⟩
 ·rw[if_pos e];exact⟨b,n.dq st,rfl,s⟩
theorem aiB{ms:dn}{m:cH}{x:Int}(h:¬(op=1\/op=2\/op=3\/op=4\/op=21))(hu:op≠18)(rR:op≠19):pa ms m ⟨op,k,x⟩=m.done (wl m.top.stack (gw op).toNat) (gV m.top.bu op k x (tG m.top.stack (gw op).toNat) m.S):=by unfold pa;have am:jL m.top.bu (.mk op k x []) m.top.arg m.top.names m.S=ag:=A'.2 h;simp only;rw[am];simp only;rw[if_neg hu,if_neg rR]
theorem awO{ms:dn}{m:cH}{x:Int}{v:ax}(h:jL m.top.bu (.mk op k x []) m.top.arg m.top.names m.S=o v):pa ms m ⟨op,k,x⟩=m.push m.S m.top.stack v:=by unfold pa;simp only;rw[h]
theorem zG{ms:dn}{v:ax}{x:Int}(bW:n.top.stack=st++[v])(h:¬(op=1\/op=2\/op=3\/op=4\/op=21))(hu:op≠18)(rR:op≠19)(az:(gw op).toNat=1):pa ms n.m ⟨op,k,x⟩=cH.done n.m st (gV n.top.bu op k x [v] n.S):=by rw[aiB h hu rR,az];simp only[bW,x6,C1]
theorem Uo{ms:dn}{v w:ax}{x:Int}(bW:n.top.stack=st++[v]++[w])(h:¬(op=1\/op=2\/op=3\/op=4\/op=21))(hu:op≠18)(rR:op≠19)(az:(gw op).toNat=2):pa ms n.m ⟨op,k,x⟩=cH.done n.m st (gV n.top.bu op k x [v,w] n.S):=by
 rw[aiB h hu rR,az];have e:n.top.stack=st++[v,w]:=by rw[bW,kS];rfl
 have t:=Ip st [v,w];have d:=Iq st [v,w];simp only[ho,fG,ir,ar]at t d;simp only[e,t,d]
theorem Iw{ms:dn}{v:ax}{x:Int}{I:ai}(am:jL n.top.bu (.mk op k x []) n.top.arg n.top.names n.S=o v)(s:aN ak aO aL I (put c L i (n.dq (n.top.stack++[v])))):Ih ak aO aL c L i (pa ms n.m ⟨op,k,x⟩) (.inl (.bS [])) I:=by rw[awO am];exact⟨rfl,n.bp,s⟩
theorem Up(a5:n.top.Good c.ms)(bW:n.top.stack=st++l){v:ax}(Z:v∈l):v.code=0:=a5.stack v (by rw[bW];exact List.mem_append_right _ Z)
theorem awP(s:aN ak aO aL h L)(a:fh c L i n)(O:iX c n)(a5:n.top.Good c.ms){x:bv}(aF:Ei n.m x)(iH:x.op<100):∃aM E,aU aq aa n8 [.ptr c.bF 0 0,.agg (gX x)] h=o (aM,E)/\Ih ak aO aL c L i (pa c.ms n.m x) aM E:=by
 obtain⟨op,k,m⟩:=x;simp only at iH;have ab:=aF.kind;have pz:=aF.parts iH;have aiC:=aF.var;simp only at ab pz aiC;obtain⟨P,gd⟩:=ni a5.en;have qH:P<4:=by
  have:=a5.there;rw[gd]at this;have this:(c.ms.getD P ag).isSome=J:=this;rcases oj P 4 with h|h
  ·exact h
  ·rw[cZ,mE (by rw[O.ms];exact h)]at this;cases this
 have NB:n.top.bu.toNat=P:=by rw[gd];rfl
 have yN:op=1\/op=2\/op=3\/op=4\/op=6\/op=8\/op=9\/op=10\/op=11\/op=12\/op=13\/op=14\/op=15\/op=16\/op=17\/op=18\/op=19\/op=20\/op=21:=by omega
 rcases yN with rfl|rfl|rfl|rfl|rfl|rfl|rfl|rfl|rfl|rfl|rfl|rfl|rfl|rfl|rfl|rfl|rfl|rfl|rfl
 ·obtain⟨E,e,ek⟩:=awg s a O k m;exact⟨_,E,e,Iw rfl ek⟩
 ·obtain⟨E,e,ek⟩:=awh s a O k m;exact⟨_,E,e,Iw rfl ek⟩
 ·obtain⟨E,e,ek⟩:=awi s a O k m;exact⟨_,E,e,Iw rfl ek⟩
 ·obtain⟨E,e,ek⟩:=awj s a O (aiC rfl) m;exact⟨_,E,e,Iw rfl ek⟩
 ·obtain⟨st,v,w,bW⟩:=NA (l:=n.top.stack) pz;obtain⟨aM,E,e,r⟩:=awa s a O bW k m;exact⟨aM,E,e,by rw[Uo bW (by decide) (by decide) (by decide) rfl];exact r.ri⟩
 ·obtain⟨st,v,w,bW⟩:=NA (l:=n.top.stack) pz;obtain⟨aM,E,e,r⟩:=awb s a O bW k m;exact⟨aM,E,e,by rw[Uo bW (by decide) (by decide) (by decide) rfl];exact r.ri⟩
 ·obtain⟨st,v,bW⟩:=qI (l:=n.top.stack) pz;obtain⟨aM,E,e,r⟩:=awc s a O bW (Up a5 bW (by simp)) k m;exact⟨aM,E,e,by rw[zG bW (by decide) (by decide) (by decide) rfl];exact r.ri⟩
 ·obtain⟨st,v,bW⟩:=qI (l:=n.top.stack) pz;obtain⟨aM,E,e,r⟩:=awd s a O bW (Up a5 bW (by simp)) k m;exact⟨aM,E,e,by rw[zG bW (by decide) (by decide) (by decide) rfl];exact r.ri⟩
 ·obtain⟨st,v,bW⟩:=qI (l:=n.top.stack) pz;obtain⟨aM,E,e,r⟩:=awe s a O bW k m;exact⟨aM,E,e,by rw[zG bW (by decide) (by decide) (by decide) rfl];exact r.ri⟩
 ·obtain⟨st,v,bW⟩:=qI (l:=n.top.stack) pz;obtain⟨aM,E,e,r⟩:=awf s a O bW (Up a5 bW (by simp)) k m;exact⟨aM,E,e,by rw[zG bW (by decide) (by decide) (by decide) rfl];exact r.ri⟩
 ·obtain⟨st,v,bW⟩:=qI (l:=n.top.stack) pz;obtain⟨aM,E,e,r⟩:=awt s a O bW k m;exact⟨aM,E,e,by rw[zG bW (by decide) (by decide) (by decide) rfl];exact r.ri⟩
 ·obtain⟨st,v,w,bW⟩:=NA (l:=n.top.stack) pz;obtain⟨aM,E,e,r⟩:=awv s a O bW k m;exact⟨aM,E,e,by rw[Uo bW (by decide) (by decide) (by decide) rfl];exact r.ri⟩
 ·obtain⟨st,v,bW⟩:=qI (l:=n.top.stack) pz;obtain⟨aM,E,e,r⟩:=awx s a O bW k m;exact⟨aM,E,e,by rw[zG bW (by decide) (by decide) (by decide) rfl];exact r.ri⟩
 ·obtain⟨st,v,bW⟩:=qI (l:=n.top.stack) pz;obtain⟨aM,E,e,r⟩:=awu s a O bW k m;exact⟨aM,E,e,by rw[zG bW (by decide) (by decide) (by decide) rfl];exact r.ri⟩
 ·obtain⟨st,v,bW⟩:=qI (l:=n.top.stack) pz;obtain⟨aM,E,e,r⟩:=awy s a O bW k m;exact⟨aM,E,e,by rw[zG bW (by decide) (by decide) (by decide) rfl];exact r.ri⟩
 ·obtain⟨st,v,bW⟩:=qI (l:=n.top.stack) pz;obtain⟨aM,E,e,r⟩:=awz s a O bW k m;refine⟨aM,E,e,?_⟩;have:pa c.ms n.m ⟨18,k,m⟩=cH.call n.m n.S st n.top.bu k v U []:=by unfold pa;simp only;have am:jL n.top.bu (.mk 18 k m []) n.top.arg n.top.names n.S=ag:=rfl;rw[am];simp only[bW,x6,C1,if_true];rfl
  rw[this];exact r.ri
 ·obtain⟨st,v,w,bW⟩:=NA (l:=n.top.stack) pz;obtain⟨aM,E,e,r⟩:=aww s a O bW k m;refine⟨aM,E,e,?_⟩;have ay:n.top.stack=st++[v,w]:=by rw[bW,kS];rfl
  have t:=Ip st [v,w];have d:=Iq st [v,w];simp only[ho,fG,ir,ar]at t d;have:pa c.ms n.m ⟨19,k,m⟩=match hH c.ms v w (n.below.length+1) n.S with
   |(b0,q,k)=>if k≠0 then .fail b0 k else cH.call n.m b0 st q.bu q.func q.arg J q.eU:=by
   unfold pa;simp only;have am:jL n.top.bu (.mk 19 k m []) n.top.arg n.top.names n.S=ag:=rfl;rw[am];simp only[ay,t,d,if_true];rw[if_neg (by decide)];rfl
  rw[this];refine pY.ri (q:=hH c.ms v w (n.below.length+1) n.S) r λak=>?_;exact(ait (b0:=(hH c.ms v w (n.below.length+1) n.S).1) (q:=(hH c.ms v w (n.below.length+1) n.S).2.1) (by rw[<-ak])).2
 ·obtain⟨st,v,bW⟩:=qI (l:=n.top.stack) pz;obtain⟨aM,E,e,r⟩:=awC s a O bW gd qH k m;exact⟨aM,E,e,by rw[zG bW (by decide) (by decide) (by decide) rfl];exact r.ri⟩
 ·obtain⟨E,e,ek⟩:=awD s a O gd qH k m;refine⟨_,E,e,Iw ?_ ek⟩;show o (n.S.kept.getD n.top.bu.toNat ce)=_;rw[NB]
end
def pZ(c:i8)(L:List cc)(i bp:Nat)(S:bt):List cc:=(put c L i ⟨bp,S,[],⟨0,0,0,ce,[],[],U,[]⟩⟩).set i (CS c.bF c.a0 bp (S.left:Int))
theorem awQ{c:i8}{L:List cc}{i:Nat}{n cj:gt}{X:cc}(cw:n.S=cj.S):(put c L i n).set i X=(put c L i cj).set i X:=by
 refine CT λD=>?_;rw[pR,pR,Nk,Nk,vt,vt,cw];by_cases ae:i=D
 ·rw[if_pos ae,if_pos ae]
 ·rw[if_neg ae,if_neg ae,if_neg (show ¬D=i from mG ae),if_neg (show ¬D=i from mG ae)]
theorem aiD{c:i8}{L:List cc}{i bp:Nat}{n:gt}:(put c L i n).set i (CS c.bF c.a0 bp (n.S.left:Int))=pZ c L i bp n.S:=awQ rfl
def zH(ak:ai)(aO aL:Nat->Prop)(c:i8)(L:List cc)(i:Nat)(q:rQ)(aM:F⊕F)(E:ai):Prop:=match q with
 |.go m=>∃r,aM= .inl (.bS [.agg r,.bool U])/\(r.length=3/\r.all F.one=J)/\∃h2,aN ak aO aL E (put c L i ⟨h2,m.S,m.below,m.top⟩)
 |.fail S k=>aM= .inr (.iface nc (.int j k))/\∃cj:gt,cj.S=S/\aN ak aO aL E (put c L i cj)
 |.over S v=>∃r,aM= .inl (.bS [.agg r,.bool J])/\bZ v r/\∃h2,aN ak aO aL E (pZ c L i h2 S)
abbrev awR:di:=92
section
variable{h E ak:ai}{ah al aO aL:Nat->Prop}{L:List cc}{c:i8}{i:Nat}{n:gt}
theorem awS{α:Type}(l:List α):l=[]\/∃a t,l=a++[t]:=by
 rcases Nat.eq_zero_or_pos l.length with h|h
 ·exact .inl (sy.1 h)
 ·obtain⟨a,t,e⟩:=qI (l:=l) h;exact .inr ⟨a,t,e⟩
theorem aiE{eA:ai}{Fc:List cc}{x':Nat}{mv:gt}(s:aN ak aO aL eA Fc)(a:fh c Fc x' mv)(ad:mv.below.length<=100)(a6:∀t,mv.below.getLast? =o t->t.stack.length<=100000){v:ax}{r:List F}(Z:bZ v r):(∀k:Nat,cR U k eA (.ptr c.bF 0 1)=o (.bw mv.bp 0 (mv.below.length+1) gr))/\((mv.below=[]/\∃I,e0 1 eA (.ptr c.bF 0 1) (.bw mv.bp 0 mv.below.length gr)=o I/\(∀k:Nat,cR U k I (.ptr c.bF 0 1)=o (.bw mv.bp 0 mv.below.length gr))/\aN ak aO aL I (Fc.set x' (CS c.bF c.a0 mv.bp (mv.S.left:Int))))\/(∃pn t,mv.below=pn++[t]/\∃I R,e0 1 eA (.ptr c.bF 0 1) (.bw mv.bp 0 mv.below.length gr)=o I/\(∀k:Nat,cR U k I (.ptr c.bF 0 1)=o (.bw mv.bp 0 mv.below.length gr))/\aN ak aO aL I (put c Fc x' ⟨mv.bp,mv.S,pn,t⟩)/\aU aq aa pQ [.ptr c.bF 0 0,.agg r] I=o (.inl (.bS []),R)/\aN ak aO aL R (put c Fc x' ⟨mv.bp,mv.S,pn,{t with stack:=t.stack++[v]}⟩))):=by
 obtain⟨_,_,_,_,a8⟩:=qF s x' a.m;refine⟨λk=>by rw[gb,a8.m];rfl,?_⟩;rcases awS mv.below with aA|⟨pn,t,aA⟩
 ·refine .inl ⟨aA,?_⟩;have Fe:=a.m;rw[aA]at Fe ⊢;obtain⟨I,aw,bd⟩:=au8 s x' Fe;refine⟨I,aw,λk=>?_,bd⟩;have am:x'<Fc.length:=(fO.1 Fe).1;have an:=(bd.cell x' (by rw[List.getElem?_set_self am];rfl)).1;rw[gb,an];rfl
 ·refine .inr ⟨pn,t,aA,?_⟩;have Fe:=a.m;rw[aA]at Fe;obtain⟨I,aw,bd⟩:=au6 s x' Fe;rw[a.x1]at bd;have aP:=a.put ⟨mv.bp,mv.S,pn,t⟩;obtain⟨_,_,_,_,H8⟩:=qF bd x' aP.m;have hlen:mv.below.length=pn.length+1:=by rw[aA];simp
  obtain⟨R,ay,aY⟩:=qG bd aP (by simp only;omega) (a6 t (by rw[aA];simp)) Z;rw[iB]at aY;exact⟨I,R,by rw[hlen];exact aw,λk=>by rw[gb,H8.m,hlen];rfl,bd,ay,aY⟩
theorem aiF{eU:List Int}{v:ax}{S:bt}:lQ eU v S=if(fg eU S.G v).2.2≠0 then({S with G:=(fg eU S.G v).1}:bt).no (fg eU S.G v).2.2 else({S with G:=(fg eU S.G v).1}:bt).ok (fg eU S.G v).2.1:=rfl
theorem Uq{v:ax}(bW:n.top.stack=st++[v]):cH.back n.m=(if(if n.top.asked then lQ n.top.eU v n.S else n.S.ok v).2.2≠0 then .fail (if n.top.asked then lQ n.top.eU v n.S else n.S.ok v).1 (if n.top.asked then lQ n.top.eU v n.S else n.S.ok v).2.2 else match n.below.getLast? with
  |none=>.over (if n.top.asked then lQ n.top.eU v n.S else n.S.ok v).1 (if n.top.asked then lQ n.top.eU v n.S else n.S.ok v).2.1
  |some t=>.go ⟨(if n.top.asked then lQ n.top.eU v n.S else n.S.ok v).1,{t with stack:=t.stack++[(if n.top.asked then lQ n.top.eU v n.S else n.S.ok v).2.1]},n.below.dropLast⟩):=by
 unfold cH.back;simp only[bW,x6,ua];rfl
theorem awT(s:aN ak aO aL h L)(a:fh c L i n)(O:iX c n){v:ax}(bW:n.top.stack=st++[v])(Yy:n.top.eU.length<=80)(lS:∀bf,cH.back n.m= .go bf->bf.top.stack.length<=100000):∃aM E,aU aq aa awR [.ptr c.bF 0 0] h=o (aM,E)/\zH ak aO aL c L i (cH.back n.m) aM E:=by
 have Kk:n.top.asked=U->∀t,n.below.getLast? =o t->t.stack.length<=100000:=λab t a6=>by rw[Uq bW,ab]at lS;simp only[mF,if_false]at lS;rw[if_neg (by simp[bt.ok]),a6]at lS;have:=lS _ rfl;simp at this;omega
 have EL:n.top.asked=J->(fg n.top.eU n.S.G v).2.2=0->∀t,n.below.getLast? =o t->t.stack.length<=100000:=λab an t a6=>by
  have ad:(lQ n.top.eU v n.S).2.2=0:=by rw[aiF,if_neg (λe=>e an)];rfl
  rw[Uq bW,ab]at lS;simp only[if_true]at lS;rw[if_neg (λe=>e ad),a6]at lS;have:=lS _ rfl;simp at this;omega
 clear lS;rw[Uq bW];have fB:=s.push [a3];have jI:=a.cons (a1 h.n [a3]);obtain⟨R,r,ay,Z,aY,a2⟩:=vv fB jI O bW;have et:=O.s3 bW;rw[eZ]at aY a2;obtain⟨bz,bG⟩:=Z.cV;have bs:=aY.push [r];have bl:=a2.cons (a1 R.n [r]);obtain⟨ec,_⟩:=oP bs bl O.below;obtain⟨g2,dS,aZ,g,a8⟩:=qF bs (i+1+1) bl.m;have Ix:=a8.all;have lS:g.one=J:=by have:=a8.a5;rcases this with⟨_,rfl⟩|⟨id,rfl⟩<;>rfl
 have awU:e9 3 g (eI n.top.eU):=a8.a5;have jC:=pS (n.dq st).top g2 dS aZ g a8.aV.cV.1;have zI:=MK (f:=(n.dq st).top) (g:=g) a8.aV.cV a8.dS.1 a8.aZ.1 lS;generalize hI (n.dq st).top g2 dS aZ g=row at*;have bE:aN ak aO aL _ (a1 (R.n+1) [row]::a1 R.n [r]::a1 h.n [a3]::put c L i (n.dq st)):=bs.push [row];have cr:=bl.cons (a1 (R.n+1) [row]);have aW:=(bE.cell 0 rfl).1;have bD:=(bE.cell 1 rfl).1;have vj:kw j (((n.below.length+1:Nat):Int) - 1)=(n.below.length:Int):=Cf (by omega) (by have:=O.below;omega) (by have:=O.below;omega);have lC:=EQ (e:=gr) (b:=n.bp) (n:=n.below.length+1) (m:=n.below.length) (by omega);have Iy:cd 1 (.ptr c.bF 0 0)=o (.ptr c.bF 0 1):=rfl;have hk:row[8]? =o (.bool n.top.asked):=jC.2.2.2.2.1;have Iz:row[9]? =o g:=jC.2.2.2.1;have Ff:row.length=10:=jC.2.1;clear jC;cases zJ:n.top.asked with
 |false=>
   rw[zJ]at hk;simp only[mF,if_false,bt.ok];rw[if_neg (by simp)];obtain⟨h',pC⟩:=aiE bE cr O.below (Kk zJ) Z;rcases pC with⟨nu,I,c4,nv,b3⟩|⟨pn,t,sw,I,bq,c4,nv,b3,mn,c2⟩
   ·have nu:n.below=[]:=nu;rw[nu];have A8:aN ak aO aL I (a1 (R.n+1) [row]::a1 R.n [r]::a1 h.n [a3]::(put c L i (n.dq st)).set i (CS c.bF c.a0 n.bp (n.S.left:Int))):=b3;have d1:=(A8.cell 1 rfl).1;have d2:=(A8.cell 2 rfl).1;have c2:=A8.set 2 rfl [r];have d3:=(c2.cell 2 rfl).1;refine⟨.inl (.bS [.agg r,.bool J]),_,?_,r,rfl,Z,n.bp,by have:=c2.drop.drop.drop;rw[<-aiD (n:=n.dq st)];exact this⟩;have iY:decide ((n.below.length:Int)=0)=J:=decide_eq_true (by rw[nu];rfl);refine a4 Hq rfl ?_;unfold EH;simp only[ao,ar,av,ap,bN,ay,bz,bG,ec,Ix,Ff,zI,aW,hk,Iy,h',vj,lC,c4,nv,iY,d1,d2]
   ·have sw:n.below=pn++[t]:=sw;have hlen:n.below.length=pn.length+1:=by rw[sw];simp
    have Gi:n.below.getLast? =o t:=by rw[sw];simp
    have Ur:n.below.dropLast=pn:=by rw[sw];simp
    rw[Gi,Ur];have A8:aN ak aO aL I (a1 (R.n+1) [row]::a1 R.n [r]::a1 h.n [a3]::put c (put c L i (n.dq st)) i ⟨n.bp,n.S,pn,t⟩):=b3;have Us:aN ak aO aL bq (a1 (R.n+1) [row]::a1 R.n [r]::a1 h.n [a3]::put c (put c L i (n.dq st)) i ⟨n.bp,n.S,pn,{t with stack:=t.stack++[v]}⟩):=c2;have d1:=(A8.cell 1 rfl).1;have d2:=(Us.cell 1 rfl).1;have d3:=(Us.cell 2 rfl).1;have eW:=Us.set 2 rfl [r];have d4:=(eW.cell 2 rfl).1;refine⟨.inl (.bS [.agg r,.bool U]),_,?_,r,rfl,Z.cV,n.bp,by have:=eW.drop.drop.drop;rw[iB]at this;exact this⟩;have iY:decide ((n.below.length:Int)=0)=U:=decide_eq_false (by rw[hlen];omega);refine a4 Hq rfl ?_;unfold EH;simp only[ao,ar,av,ap,bN,ay,bz,bG,ec,Ix,Ff,zI,aW,hk,Iy,h',vj,lC,c4,nv,iY,d1,mn,d2,d3]
 |true=>
   rw[zJ]at hk;simp only[if_true];have M9:=EL zJ;clear Kk EL;rw[aiF];obtain⟨hT,cD,_⟩:=sa bE cr O.len;have f0:cd 0 (.ptr c.bF 0 0)=o (.ptr c.bF 0 0):=rfl;have f1:cd 0 (.ptr c.a0 0 0)=o (.ptr c.a0 0 0):=rfl;obtain⟨bq,⟨y,c4,bH⟩,b3⟩:=Ie bE cr (cJ:=λE=>∃br,aU aq aa 113 [.ptr c.cE 0 0,.agg r,g] ((R.push [r]).push [row])=o (.inl (.bS [.agg br,.int j (fg n.top.eU n.S.G v).2.2]),E)/\bZ (fg n.top.eU n.S.G v).2.1 br) λah al vs=>ahX vs O.S.wf Z awU (by omega);generalize fg n.top.eU n.S.G v=q at*;obtain⟨b7,a',i6⟩:=q;simp only at c4 bH b3 ⊢;rw[eZ,eZ,eZ,iB]at b3;obtain⟨ei,fd⟩:=bH.cV;have ej:=(((a.put {(n.dq st)with S:={n.S with G:=b7}}).cons (a1 h.n [a3])).cons (a1 R.n [r])).cons (a1 (R.n+1) [row]);have c2:=b3.push [a3];have jB:=ej.cons (a1 bq.n [a3]);obtain⟨fY,fA,_⟩:=sa c2 jB O.len;have d0:=(c2.cell 1 rfl).1;have d1:=(c2.cell 2 rfl).1;have eW:=b3.push [y];have u9:=ej.cons (a1 bq.n [y]);have d2:=(eW.cell 0 rfl).1;have d3:=(eW.cell 2 rfl).1;by_cases xi:i6=0
   ·subst xi;rw[if_neg (λh=>h rfl)];simp only[bt.ok];rw[if_neg (by simp)];have d5:decide ((0:Int)=0)=J:=rfl;have hP:aN ak aO aL _ (a1 bq.n [y]::a1 (R.n+1) [row]::a1 R.n [y]::a1 h.n [a3]::put c L i {(n.dq st)with S:={n.S with G:=b7}}):=eW.set 2 rfl [y];have wz:=(((a.put {(n.dq st)with S:={n.S with G:=b7}}).cons (a1 h.n [a3])).cons (a1 R.n [y])).cons (a1 (R.n+1) [row]) |>.cons (a1 bq.n [y]);obtain⟨h',pC⟩:=aiE hP wz O.below (M9 rfl) bH;rcases pC with⟨nu,I,qE,Ut,kc⟩|⟨pn,t,sw,I,rR,qE,Ut,kc,E9,vz⟩
    ·have nu:n.below=[]:=nu;rw[nu];have IA:aN ak aO aL I (a1 bq.n [y]::a1 (R.n+1) [row]::a1 R.n [y]::a1 h.n [a3]::(put c L i {(n.dq st)with S:={n.S with G:=b7}}).set i (CS c.bF c.a0 n.bp (n.S.left:Int))):=kc;have cS:=(IA.cell 2 rfl).1;have cf:=(IA.cell 3 rfl).1;have vA:=IA.set 3 rfl [y];have eQ:=(vA.cell 3 rfl).1;refine⟨.inl (.bS [.agg y,.bool J]),_,?_,y,rfl,bH,n.bp,by have:=vA.drop.drop.drop.drop;rw[<-aiD (n:={(n.dq st)with S:={n.S with G:=b7}})];exact this⟩;have iY:decide ((n.below.length:Int)=0)=J:=decide_eq_true (by rw[nu];rfl);refine a4 Hq rfl ?_;unfold EH;simp only[ao,ar,av,ap,bN,ay,bz,bG,ec,Ix,Ff,zI,aW,bD,hk,Iz,Iy,f0,f1,hT,cD,c4,fY,fA,d0,d1,d2,d3,pX,ei,fd,h',vj,lC,qE,Ut,iY,cS,cf]
    ·have sw:n.below=pn++[t]:=sw;have hlen:n.below.length=pn.length+1:=by rw[sw];simp
     have Gi:n.below.getLast? =o t:=by rw[sw];simp
     have Ur:n.below.dropLast=pn:=by rw[sw];simp
     rw[Gi,Ur];have IA:aN ak aO aL I (a1 bq.n [y]::a1 (R.n+1) [row]::a1 R.n [y]::a1 h.n [a3]::put c (put c L i {(n.dq st)with S:={n.S with G:=b7}}) i ⟨n.bp,{n.S with G:=b7},pn,t⟩):=kc;have Uu:aN ak aO aL rR (a1 bq.n [y]::a1 (R.n+1) [row]::a1 R.n [y]::a1 h.n [a3]::put c (put c L i {(n.dq st)with S:={n.S with G:=b7}}) i ⟨n.bp,{n.S with G:=b7},pn,{t with stack:=t.stack++[a']}⟩):=vz;have cS:=(IA.cell 2 rfl).1;have cf:=(Uu.cell 2 rfl).1;have eQ:=(Uu.cell 3 rfl).1;have vA:=Uu.set 3 rfl [y];have lv:=(vA.cell 3 rfl).1;refine⟨.inl (.bS [.agg y,.bool U]),_,?_,y,rfl,bH.cV,n.bp,by have:=vA.drop.drop.drop.drop;rw[iB]at this;exact this⟩;have iY:decide ((n.below.length:Int)=0)=U:=decide_eq_false (by rw[hlen];omega);refine a4 Hq rfl ?_;unfold EH;simp only[ao,ar,av,ap,bN,ay,bz,bG,ec,Ix,Ff,zI,aW,bD,hk,Iz,Iy,f0,f1,hT,cD,c4,fY,fA,d0,d1,d2,d3,pX,ei,fd,h',vj,lC,qE,Ut,iY,cS,E9,cf,eQ]
   ·rw[if_pos xi,if_pos (show((({n.S with G:=b7}:bt).no i6).2.2≠0) from xi)];simp only[bt.no];have d5:decide (i6=0)=U:=decide_eq_false xi;refine⟨_,_,?_,rfl,{(n.dq st)with S:={n.S with G:=b7}},rfl,eW.drop.drop.drop.drop⟩;refine a4 Hq rfl ?_;unfold EH;simp only[ao,ar,av,ap,bN,ay,bz,bG,ec,Ix,Ff,zI,aW,bD,hk,Iz,Iy,f0,f1,hT,cD,c4,fY,fA,d0,d1,d5,re,ei,fd]
end
end Go.Proofs.YtkdbjfncchmmpaaGreat
