/- More steps change nothing: the law's walk. Opened by its own alone: the law of what was sealed. What the laws of runs are handed: modules, steps, a call. The laws of runs, from what is handed in. -/
import Derived.Test.YtkdbjfncchmmpaaMg7
namespace Go.Proofs.Ytkdbjfncchmmpaa
set_option linter.unusedSimpArgs false
set_option linter.unusedVariables false
open Go
def oD (xs:List fg):StD:=⟨kb G0 xs,eW,[],j6,0⟩
theorem nB (xs:List fg):(oD xs).Good:=⟨BQ vb,rfl,rfl,fun v hv=>by
 have:v=aA:=by simpa[oD]using hv
 rw[this];exact fR⟩
theorem uK (bb gb wb:Nat) (Ms:List (List XD)) (xs:List fg):OkB ⟨bb,gb,wb,bZ Ms 4⟩ (oD xs):=⟨cH Ms 4,(xb Ms 4).good,(xb Ms 4).sized,nB xs,Nat.zero_le _⟩
theorem uX {Ms:List (List XD)} (h:qt Ms=false):Ms.length≤100000∧∀ M∈Ms,M.length≤100000∧∀ x∈M,x.size≤100000:=by
 unfold qt at h
 simp only[Bool.or_eq_false_iff,decide_eq_false_iff_not]at h
 obtain⟨h1,h2⟩:=h
 refine⟨by omega,fun M hM=> ?_⟩
 have:fL M=false:=by
  cases hg:fL M with
  | false=>rfl
  | true=>
    have:Ms.any fL=true:=List.any_eq_true.2 ⟨M,hM,hg⟩
    rw[this]at h1;cases h1
 obtain⟨q1,q2⟩:=EP this
 exact⟨by omega,fun x hx=>by have:=q2 x hx;omega⟩
section
variable {h:AH}
theorem Dn (m:Int):0≤(IntKind.wrap .u64 m).tmod 100∧(IntKind.wrap .u64 m).tmod 100<100:=by
 have h1:0≤IntKind.wrap .u64 m:=by rw[IntKind.wrap_u64];omega
 rw[Int.tmod_eq_emod_of_nonneg h1]
 omega
theorem gI {hh:AH} {b:Nat} {x0 x1 x2 r0 r1 r2:AV} (hc:hh.cell b=some [[x0,x1,x2,r0,r1,r2]]):aH true 3 hh (.ptr b 0 3)=some (.agg [r0,r1,r2]):=by rw[bW,hc];rfl
set_option maxRecDepth 100000 in
set_option maxHeartbeats 2000000 in
theorem zd {mv lv:AV} {rows:List (List AV)} {Ms:List (List XD)} (hm:SlA tMo mv rows) (hl:lS Ms rows) (hml:Ms.length≤9223372036854775807) {xs:List fg} (hs:IsL tGs lv (xs.map dS)) {p f fuel:Int} {v:VD} {r:List AV} (hv:VaA v r) (more:Int):
  ai Try.prog po 4 [mv,lv,.agg ([.int .i64 p,.int .i64 f,.int .i64 fuel]++r),.int .i64 more] h=some (.inl (.bool true),h):=by
 have s0:St h (fun _=>False) (fun _=>False) h []:=St.start (bg.nil _ _ _ (fun _ h=>h) (fun _ h=>h))
 obtain⟨r0,r1,r2,rfl⟩:∃ a b c,r=[a,b,c]:=by match r,hv.len3.1 with | [a,b,c],_=>exact⟨a,b,c,rfl⟩
 have o2:=hv.len3.2
 have s1:=s0.push [[.int .i64 p,.int .i64 f,.int .i64 fuel,r0,r1,r2]]
 have c1:=(s1.cell 0 rfl).1
 have gm:=fun(h:AH)=>nu (h:=h) hm hl hml
 have gv:=fun(h:AH)=>my (h:=h) hv
 simp only[List.cons_append,List.nil_append]at*
 simp only[List.all_cons,List.all_nil,Bool.and_true,Bool.and_eq_true]at o2
 obtain⟨z0,z1,z2⟩:=o2
 have f3:aF 3 (.ptr h.n 0 0)=some (.ptr h.n 0 3):=rfl
 have f2:aF 2 (.ptr h.n 0 0)=some (.ptr h.n 0 2):=rfl
 have f1:aF 1 (.ptr h.n 0 0)=some (.ptr h.n 0 1):=rfl
 have f0:aF 0 (.ptr h.n 0 0)=some (.ptr h.n 0 0):=rfl
 have g1:=s1.grewA
 have l3:=gI c1
 cases hgm:qt Ms with
 | true=>
   rw[hgm]at gm
   refine ag dZ rfl ?_;unfold dH
   simp only[sim,af,Nat.reduceAdd,Nat.reduceSub,List.replicate,reduceCtorEq,Nat.reduceLeDiff,Nat.reduceLT,aa,au,bk,c1,gm,z0,z1,z2]
   exact az g1 rfl
 | false=>
   rw[hgm]at gm
   by_cases hx:100<xs.length
   ·have d1:decide ((100:Int)<(xs.length:Int))=true:=decide_eq_true (by omega)
    refine ag dZ rfl ?_;unfold dH
    simp only[sim,af,Nat.reduceAdd,Nat.reduceSub,List.replicate,reduceCtorEq,Nat.reduceLeDiff,Nat.reduceLT,aa,au,bk,c1,gm,z0,z1,z2,hs.len,hs.fits,List.length_map,d1]
    exact az g1 rfl
   ·have d1:decide ((100:Int)<(xs.length:Int))=false:=decide_eq_false (by omega)
    cases hgv:v.great with
    | true=>
      rw[hgv]at gv
      refine ag dZ rfl ?_;unfold dH
      simp only[sim,af,Nat.reduceAdd,Nat.reduceSub,List.replicate,reduceCtorEq,Nat.reduceLeDiff,Nat.reduceLT,aa,au,bk,c1,gm,z0,z1,z2,hs.len,hs.fits,List.length_map,d1,f3,l3,gv]
      exact az g1 rfl
    | false=>
      rw[hgv]at gv
      by_cases hf0:fuel<0
      ·have d2:decide (fuel<0)=true:=decide_eq_true hf0
       refine ag dZ rfl ?_;unfold dH
       simp only[sim,af,Nat.reduceAdd,Nat.reduceSub,List.replicate,reduceCtorEq,Nat.reduceLeDiff,Nat.reduceLT,aa,au,bk,c1,gm,z0,z1,z2,hs.len,hs.fits,List.length_map,d1,d2,f2,f3,l3,gv]
       exact az g1 rfl
      ·have d2:decide (fuel<0)=false:=decide_eq_false hf0
       by_cases hf2:2000<fuel
       ·have d3:decide (2000<fuel)=true:=decide_eq_true hf2
        refine ag dZ rfl ?_;unfold dH
        simp only[sim,af,Nat.reduceAdd,Nat.reduceSub,List.replicate,reduceCtorEq,Nat.reduceLeDiff,Nat.reduceLT,aa,au,bk,c1,gm,z0,z1,z2,hs.len,hs.fits,List.length_map,d1,d2,d3,f2,f3,l3,gv]
        exact az g1 rfl
       ·have d3:decide (2000<fuel)=false:=decide_eq_false hf2
        obtain⟨hml2,hgr⟩:=uX hgm
        have hvs:v.size≤100000:=by
         unfold VD.great at hgv
         simp only[decide_eq_false_iff_not]at hgv
         omega
        obtain⟨h2,bb,gb,wb,hb,nb,GN,e2,s2⟩:=rf s1 hm hl hml2 hgr hs (by omega)
        obtain⟨h3,bb',gb',wb',hb',nb',GN',e3,s3⟩:=rf s2 hm hl hml2 hgr hs (by omega)
        have c3:=(s3.cell 10 rfl).1
        obtain⟨m1,m2⟩:=Dn more
        have w1:IntKind.wrap .i64 ((IntKind.wrap .u64 more).tmod 100)=(IntKind.wrap .u64 more).tmod 100:=w64 (by omega) (by omega)
        have w2:IntKind.wrap .i64 (fuel+(IntKind.wrap .u64 more).tmod 100)=fuel+(IntKind.wrap .u64 more).tmod 100:=w64 (by omega) (by omega)
        have hK:∃ K:Int,(if 2000<fuel+(IntKind.wrap .u64 more).tmod 100 then(2000:Int)else fuel+(IntKind.wrap .u64 more).tmod 100)=K∧fuel≤K∧K≤2000:=⟨_,rfl,by split<;>omega,by split<;>omega⟩
        obtain⟨K,hK,hK1,hK2⟩:=hK
        have a3:AtB ⟨bb,gb,wb,bZ Ms 4⟩ (bxL hb' nb' GN' bb' gb' wb' (bZ Ms 4) (kb G0 xs) (bxL hb nb GN bb gb wb (bZ Ms 4) (kb G0 xs) [ah h.n [[.int .i64 p,.int .i64 f,.int .i64 fuel,r0,r1,r2]]])) 7 (oD xs):=⟨rfl,rfl,rfl⟩
        obtain⟨h4,r4,e4,v4,s4⟩:=ns s3 a3 (uK bb gb wb Ms xs) hv hvs p f fuel
        have s5:=s4.push [r4]
        have c5:(h4.push [r4]).cell h.n=some [[.int .i64 p,.int .i64 f,.int .i64 fuel,r0,r1,r2]]:=(s5.cell 11 rfl).1
        have a5:AtB ⟨bb',gb',wb',bZ Ms 4⟩ (ah h4.n [r4]::zr ⟨bb,gb,wb,bZ Ms 4⟩ (bxL hb' nb' GN' bb' gb' wb' (bZ Ms 4) (kb G0 xs) (bxL hb nb GN bb gb wb (bZ Ms 4) (kb G0 xs) [ah h.n [[.int .i64 p,.int .i64 f,.int .i64 fuel,r0,r1,r2]]])) 7 (bS (bZ Ms 4) p f v fuel (oD xs)).1) 3 (oD xs):=⟨rfl,rfl,rfl⟩
        obtain⟨h6,r6,e6,v6,s6⟩:=ns s5 a5 (uK bb' gb' wb' Ms xs) hv hvs p f K
        have s7:=s6.push [r6]
        have c7:(h6.push [r6]).cell h.n=some [[.int .i64 p,.int .i64 f,.int .i64 fuel,r0,r1,r2]]:=(s7.cell 12 rfl).1
        have c8:(h6.push [r6]).cell h4.n=some [r4]:=(s7.cell 1 rfl).1
        have g7:=s7.grewA
        have law:=CQ (ms:=bZ Ms 4) (nB xs) (p:=p) (f:=f) (F:=fuel) (K:=K) (v:=v) (by omega) hK1 hK2
        have okc:=(AX (ms:=bZ Ms 4) (nB xs) (p:=p) (f:=f) (fuel:=fuel) (v:=v)).2.2
        have e4:ai Try.prog po 17 [.ptr bb 0 0,.int .i64 p,.int .i64 f,.agg [r0,r1,r2],.int .i64 fuel] h3=_:=e4
        have e6:ai Try.prog po 17 [.ptr bb' 0 0,.int .i64 p,.int .i64 f,.agg [r0,r1,r2],.int .i64 K] (h4.push [r4])=_:=e6
        clear s2 s3 s4 s5 s6 s7 a3 a5
        simp only at v4 v6 e4 e6
        generalize bS (bZ Ms 4) p f v fuel (oD xs)=q1 at*
        generalize bS (bZ Ms 4) p f v K (oD xs)=q2 at*
        obtain⟨S1,w1',n1,k1⟩:=q1
        obtain⟨S2,w2',n2,k2⟩:=q2
        simp only at v4 v6 e4 e6 law okc
        obtain⟨⟨b1,b2⟩,b3,b4⟩:=law
        obtain⟨y1,y2⟩:=v4.len3
        obtain⟨y3,y4⟩:=v6.len3
        have ck:=fun h=>eU (h:=h) v4
        have sv:=fun h=>km _ w1' (Nat.le_refl _) okc.2 w2' r4 r6 h v4 v6
        have r100:((100:Int)=0)=False:=by simp
        have dA:decide (n1<0)=false:=decide_eq_false (by omega)
        have dB:decide (fuel<n1)=false:=decide_eq_false (by omega)
        have dC:decide (n2<n1)=false:=decide_eq_false (by omega)
        by_cases hk:k1=0
        ·subst hk
         have hb4:(0:Int)=k2∧n1=n2∧w1'=w2':=by
          rcases b4 with⟨x1,_⟩ | x
          ·exact absurd x1 (by decide)
          ·exact x
         obtain⟨rfl,rfl,rfl⟩:=hb4
         rw[okc.1 rfl]at ck
         rw[iv]at sv
         refine ag dZ rfl ?_;unfold dH
         simp only[sim,af,Nat.reduceAdd,Nat.reduceSub,List.replicate,reduceCtorEq,Nat.reduceLeDiff,Nat.reduceLT,aa,au,bk,c1,gm,z0,z1,z2,hs.len,hs.fits,List.length_map,d1,d2,d3,f0,f1,f2,f3,l3,gv,e2,e3,c3,w1,w2,hK,gI c3,e4,y1,y2,c5,gI c5,e6,y3,y4,c7,c8,dA,dB,dC,r100,if_false,Int.reduceEq,decide_false,decide_true,ck,sv]
         exact az g7 rfl
        ·have dD:decide (k1=0)=false:=decide_eq_false hk
         by_cases hk2:k1=12∧n1=fuel
         ·obtain⟨rfl,rfl⟩:=hk2
          refine ag dZ rfl ?_;unfold dH
          simp only[sim,af,Nat.reduceAdd,Nat.reduceSub,List.replicate,reduceCtorEq,Nat.reduceLeDiff,Nat.reduceLT,aa,au,bk,c1,gm,z0,z1,z2,hs.len,hs.fits,List.length_map,d1,d2,d3,f0,f1,f2,f3,l3,gv,e2,e3,c3,w1,w2,hK,gI c3,e4,y1,y2,c5,gI c5,e6,y3,y4,c7,c8,dA,dB,dC,r100,if_false,Int.reduceEq,decide_false,decide_true,dD]
          exact az g7 rfl
         ·have hb4:k1=k2∧n1=n2∧w1'=w2':=by
           rcases b4 with x | x
           ·exact absurd x hk2
           ·exact x
          obtain⟨rfl,rfl,rfl⟩:=hb4
          rw[iv]at sv
          by_cases hk3:k1=12
          ·have dE:decide (n1=fuel)=false:=decide_eq_false fun e=>hk2 ⟨hk3,e⟩
           subst hk3
           refine ag dZ rfl ?_;unfold dH
           simp only[sim,af,Nat.reduceAdd,Nat.reduceSub,List.replicate,reduceCtorEq,Nat.reduceLeDiff,Nat.reduceLT,aa,au,bk,c1,gm,z0,z1,z2,hs.len,hs.fits,List.length_map,d1,d2,d3,f0,f1,f2,f3,l3,gv,e2,e3,c3,w1,w2,hK,gI c3,e4,y1,y2,c5,gI c5,e6,y3,y4,c7,c8,dA,dB,dC,r100,if_false,Int.reduceEq,decide_false,decide_true,dD,dE,sv]
           exact az g7 rfl
          ·have dE:decide (k1=12)=false:=decide_eq_false hk3
           refine ag dZ rfl ?_;unfold dH
           simp only[sim,af,Nat.reduceAdd,Nat.reduceSub,List.replicate,reduceCtorEq,Nat.reduceLeDiff,Nat.reduceLT,aa,au,bk,c1,gm,z0,z1,z2,hs.len,hs.fits,List.length_map,d1,d2,d3,f0,f1,f2,f3,l3,gv,e2,e3,c3,w1,w2,hK,gI c3,e4,y1,y2,c5,gI c5,e6,y3,y4,c7,c8,dA,dB,dC,r100,if_false,Int.reduceEq,decide_false,decide_true,dD,dE,sv]
           exact az g7 rfl
end
def jO:List XD:=[.mk 11 0 0 [.mk 3 0 0 []],.mk 12 0 0 [.mk 3 0 0 []]]
def qJ:List (List XD):=[jO,jO,jO,jO]
def msS:aG:=[some jO,some jO,some jO,some jO]
theorem Kh:bZ qJ 4=msS:=by rfl
theorem L6 {S:StD} {v:VD} {P:Int} (hP:P=0∨P=1∨P=2∨P=3) (hv:v.code=0) (hc:(VD.mk 3 P [v]).code=0):bS msS P 0 v 9 S=(S,VD.mk 3 P [v],2,0):=by
 have h1:¬ ((9:Int)<0∨2000<(9:Int)∨P<0∨4≤P):=by omega
 unfold bS
 rw[if_neg h1]
 rcases hP with rfl | rfl | rfl | rfl<;>
 ·rw[if_neg (by decide),if_neg (fun h=>h hv)]
  have e:∀ T:StD,∀ P:Int,bo P 11 0 0 [v] T=if(VD.mk 3 P [v]).code≠0 then T.no 3 else T.ok (VD.mk 3 P [v]):=fun _ _=>rfl
  have e2:=e {S with left:=7}
  show(match bo _ 11 0 0 [v] {S with left:=7}with
   | (S',w,c)=>({S' with left:=S.left},if c=0 then w else aA,9 - (S'.left:Int),c))=_
  rw[e2,if_neg (fun h=>h hc)]
  rfl
theorem Lo {S:StD} {v:VD} {P Q:Int} (hQ:Q=0∨Q=1∨Q=2∨Q=3) (hc:(VD.mk 3 P [v]).code=0):bS msS Q 1 (VD.mk 3 P [v]) 9 S=(S,if P=Q then v else aA,2,if P=Q then 0 else 10):=by
 have h1:¬ ((9:Int)<0∨2000<(9:Int)∨Q<0∨4≤Q):=by omega
 unfold bS
 rw[if_neg h1]
 have e:∀ T:StD,∀ Q:Int,bo Q 12 0 0 [VD.mk 3 P [v]] T=if P≠Q then T.no 10 else T.ok v:=fun _ _=>rfl
 by_cases h2:P=Q
 ·rw[if_pos h2,if_pos h2]
  rcases hQ with rfl | rfl | rfl | rfl<;>
  ·rw[if_neg (by decide),if_neg (fun h=>h hc)]
   show(match bo _ 12 0 0 [VD.mk 3 P [v]] {S with left:=7}with
    | (S',w,c)=>({S' with left:=S.left},if c=0 then w else aA,9 - (S'.left:Int),c))=_
   rw[e,if_neg (fun h=>h h2)]
   rfl
 ·rw[if_neg h2,if_neg h2]
  rcases hQ with rfl | rfl | rfl | rfl<;>
  ·rw[if_neg (by decide),if_neg (fun h=>h hc)]
   show(match bo _ 12 0 0 [VD.mk 3 P [v]] {S with left:=7}with
    | (S',w,c)=>({S' with left:=S.left},if c=0 then w else aA,9 - (S'.left:Int),c))=_
   rw[e,if_pos h2]
   rfl
theorem Cu {v:VD} {P:Int} (hP:0≤P) (hc:(VD.mk 3 0 [v]).code=0) (hv:v.code=0):(VD.mk 3 P [v]).code=0:=by
 have h1:=(cO hc).1
 refine oT ?_ ?_ (fun x hx=> ?_)
 ·rw[VD.size_eq]at h1 ⊢;exact h1
 ·unfold cS
  rw[if_neg (by decide),if_neg (fun h=>h rfl),if_neg (by omega),if_neg (by omega)]
 ·have:x=v:=by simpa using hx
  rw[this];exact hv
theorem DJ (i:Option Nat):ExL jO [[.int .i64 11,.int .i64 0,.int .i64 0,.isl i tE [[.int .i64 3,.int .i64 0,.int .i64 0,.nils]]],[.int .i64 12,.int .i64 0,.int .i64 0,.isl i tE [[.int .i64 3,.int .i64 0,.int .i64 0,.nils]]]]:=by
 have a:∀ k:Int,ExA (.mk k 0 0 [.mk 3 0 0 []]) [.int .i64 k,.int .i64 0,.int .i64 0,.isl i tE [[.int .i64 3,.int .i64 0,.int .i64 0,.nils]]]:=fun k=>by
  refine⟨_,_,rfl,.inr ⟨_,rfl⟩,?_⟩
  exact⟨_,[],rfl,⟨_,_,rfl,.inl ⟨rfl,rfl⟩,rfl⟩,rfl⟩
 exact⟨_,_,rfl,a 11,_,_,rfl,a 12,rfl⟩
theorem LP (m:Int):(IntKind.wrap .u64 m).tmod 4=0∨(IntKind.wrap .u64 m).tmod 4=1∨(IntKind.wrap .u64 m).tmod 4=2∨(IntKind.wrap .u64 m).tmod 4=3:=by
 have h1:0≤IntKind.wrap .u64 m:=by rw[IntKind.wrap_u64];omega
 rw[Int.tmod_eq_emod_of_nonneg h1]
 omega
section
variable {h:AH}
abbrev slX (i j:Option Nat):AV:= .isl j tE [[.int .i64 11,.int .i64 0,.int .i64 0,.isl i tE [[.int .i64 3,.int .i64 0,.int .i64 0,.nils]]],[.int .i64 12,.int .i64 0,.int .i64 0,.isl i tE [[.int .i64 3,.int .i64 0,.int .i64 0,.nils]]]]
abbrev L0 (i j k:Option Nat):AV:= .isl k tMo [[slX i j],[slX i j],[slX i j],[slX i j]]
theorem zm {h0:AH} {F0 J0:Nat→Prop} {L:List Asn} (s:St h0 F0 J0 h L) (i j k:Option Nat):∃ h' bb gb wb hb nb GN,ai Try.prog po 16 [L0 i j k,.nils] h=some (.inl (.tup [.ptr bb 0 0,.ptr hb 0 0]),h')∧St h0 F0 J0 h' (bxL hb nb GN bb gb wb msS G0 L):=by
 have m1:Ck jO [slX i j]:=⟨_,_,rfl,.inr ⟨_,rfl⟩,DJ i⟩
 have m2:lS qJ [[slX i j],[slX i j],[slX i j],[slX i j]]:=⟨_,_,rfl,m1,_,_,rfl,m1,_,_,rfl,m1,_,_,rfl,m1,rfl⟩
 have hgr:∀ M∈qJ,M.length≤100000∧∀ x∈M,x.size≤100000:=by
  intro M hM
  have:M=jO:=by simpa[qJ]using hM
  subst this
  refine⟨by decide,fun x hx=> ?_⟩
  have:x= .mk 11 0 0 [.mk 3 0 0 []]∨x= .mk 12 0 0 [.mk 3 0 0 []]:=by simpa[jO]using hx
  rcases this with rfl | rfl<;>decide
 have b:=rf s (mv:=L0 i j k) (lv:= .nils) (.inr ⟨_,rfl⟩) m2 (by decide) hgr (xs:=[]) (kh _) (by decide)
 rw[Kh]at b
 exact b
set_option maxRecDepth 100000 in
set_option maxHeartbeats 2000000 in
theorem xh {v:VD} {r:List AV} (hv:VaA v r) (p q:Int):
  ai Try.prog po 5 [.agg r,.int .i64 p,.int .i64 q] h=some (.inl (.bool true),h):=by
 have s0:St h (fun _=>False) (fun _=>False) h []:=St.start (bg.nil _ _ _ (fun _ h=>h) (fun _ h=>h))
 obtain⟨r0,r1,r2,rfl⟩:∃ a b c,r=[a,b,c]:=by match r,hv.len3.1 with | [a,b,c],_=>exact⟨a,b,c,rfl⟩
 have o2:=hv.len3.2
 have s1:=s0.push [[r0,r1,r2]]
 have c1:=(s1.cell 0 rfl).1
 have gv:=fun(h:AH)=>my (h:=h) hv
 have cv:=fun(h:AH)=>eU (h:=h) hv
 have cs:=fun(h:AH) (i:Option Nat)=>eU (h:=h) (x:= .mk 3 0 [v]) (r:=[.int .i64 3,.int .i64 0,.isl i tV [[r0,r1,r2]]]) ⟨_,_,rfl,.inr ⟨_,rfl⟩,_,_,rfl,hv,rfl⟩
 simp only[List.all_cons,List.all_nil,Bool.and_true,Bool.and_eq_true]at o2
 obtain⟨z0,z1,z2⟩:=o2
 have g1:=s1.grewA
 cases hgv:v.great with
 | true=>
   rw[hgv]at gv
   refine ag iq rfl ?_;unfold fM
   simp only[sim,af,Nat.reduceAdd,Nat.reduceSub,List.replicate,reduceCtorEq,Nat.reduceLeDiff,Nat.reduceLT,aa,au,bk,c1,gv,z0,z1,z2]
   exact az g1 rfl
 | false=>
   rw[hgv]at gv
   by_cases hc:v.code=0
   ·have d1:decide (v.code=0)=true:=decide_eq_true hc
    by_cases hc2:(VD.mk 3 0 [v]).code=0
    ·have d2:decide ((VD.mk 3 0 [v]).code=0)=true:=decide_eq_true hc2
     have r4:((4:Int)=0)=False:=by simp
     have hP:=LP p
     have hQ:=LP q
     have w1:IntKind.wrap .i64 ((IntKind.wrap .u64 p).tmod 4)=(IntKind.wrap .u64 p).tmod 4:=w64 (by omega) (by omega)
     have w2:IntKind.wrap .i64 ((IntKind.wrap .u64 q).tmod 4)=(IntKind.wrap .u64 q).tmod 4:=w64 (by omega) (by omega)
     obtain⟨P,eP⟩:∃ P,(IntKind.wrap .u64 p).tmod 4=P:=⟨_,rfl⟩
     obtain⟨Q,eQ⟩:∃ Q,(IntKind.wrap .u64 q).tmod 4=Q:=⟨_,rfl⟩
     rw[eP]at hP w1
     rw[eQ]at hQ w2
     have g3:ab (h.push [[r0,r1,r2]]) ((((h.push [[r0,r1,r2]]).fresh 1).fresh 1).fresh 2):=((ab.fresh _ 1).trans (ab.fresh _ 1)).trans (ab.fresh _ 2)
     have s2:=(s1.grew g3).push [[.nils]]
     have c2:(((((h.push [[r0,r1,r2]]).fresh 1).fresh 1).fresh 2).push [[.nils]]).cell (h.n+1)=some [[.nils]]:=(s2.cell 0 rfl).1
     have m2:∀ x,(((((h.push [[r0,r1,r2]]).fresh 1).fresh 1).fresh 2).push [[.nils]]).set (h.n+1) (some x)=((((h.push [[r0,r1,r2]]).fresh 1).fresh 1).fresh 2).push x:=fun x=>eB
     have s3:=(s1.grew g3).push [[slX (some (h.ids+1)) (some (h.ids+1+1))]]
     have c3:(((((h.push [[r0,r1,r2]]).fresh 1).fresh 1).fresh 2).push [[slX (some (h.ids+1)) (some (h.ids+1+1))]]).cell (h.n+1)=some [[slX (some (h.ids+1)) (some (h.ids+1+1))]]:=(s3.cell 0 rfl).1
     have s4:=s3.grew (ab.fresh _ 4)
     obtain⟨h5,bb,gb,wb,hb,nb,GN,e5,s5⟩:=zm s4 (some (h.ids+1)) (some (h.ids+1+1)) (some (h.ids+1+1+1))
     have c5:=(s5.cell 6 rfl).1
     have oB:OkB ⟨bb,gb,wb,msS⟩ (oD []):=uK bb gb wb qJ []
     have aB:AtB ⟨bb,gb,wb,msS⟩ (bxL hb nb GN bb gb wb msS G0 [ah ((((h.push [[r0,r1,r2]]).fresh 1).fresh 1).fresh 2).n [[slX (some (h.ids+1)) (some (h.ids+1+1))]],ah h.n [[r0,r1,r2]]]) 2 (oD []):=⟨rfl,rfl,rfl⟩
     have hP0:0≤P:=by omega
     have hsz:v.size≤100000:=by have:=(cO hc).1;omega
     have hcP:=Cu hP0 hc2 hc
     obtain⟨h6,r6,e6,v6,s6⟩:=ns s5 aB oB hv hsz P 0 9
     simp only[L6 (S:=oD []) hP hc hcP]at e6 v6 s6
     rw[aB.same]at s6
     have s7:=s6.push [r6]
     have c7:=(s7.cell 0 rfl).1
     have hr6:∃ w,r6=[.int .i64 3,.int .i64 P,w]∧w.one=true:=v6.cells3
     obtain⟨w6,rfl,w6o⟩:=hr6
     have hsz2:(VD.mk 3 P [v]).size≤100000:=by have:=(cO hcP).1;omega
     obtain⟨h8,r8,e8,v8,s8⟩:=ns s7 (aB.cons _) oB v6 hsz2 Q 1 9
     simp only[Lo (S:=oD []) hQ hcP]at e8 v8 s8
     have s9:=s8.push [r8]
     have c9:=(s9.cell 0 rfl).1
     have c10:=(s9.cell 8 rfl).1
     obtain⟨y1,y2⟩:=v8.len3
     have g9:=s9.grewA
     clear s1 s2 s3 s4 s5 s6 s7 s8 s9 aB oB
     have e6:ai Try.prog po 17 [.ptr bb 0 0,.int .i64 P,.int .i64 0,.agg [r0,r1,r2],.int .i64 9] h5=_:=e6
     have e8:ai Try.prog po 17 [.ptr bb 0 0,.int .i64 Q,.int .i64 1,.agg [.int .i64 3,.int .i64 P,w6],.int .i64 9] (h6.push [[.int .i64 3,.int .i64 P,w6]])=_:=e8
     by_cases hPQ:P=Q
     ·have dPQ:decide (P=Q)=true:=decide_eq_true hPQ
      simp only[if_pos hPQ]at e8 v8
      have sv:=fun h=>km _ v (Nat.le_refl _) hsz v r8 [r0,r1,r2] h v8 hv
      rw[iv]at sv
      refine ag iq rfl ?_;unfold fM
      simp only[sim,af,Nat.reduceAdd,Nat.reduceSub,List.replicate,reduceCtorEq,Nat.reduceLeDiff,Nat.reduceLT,aa,au,bk,c1,gv,cv,cs,d1,d2,z0,z1,z2,r4,if_false,eP,eQ,w1,w2,c2,m2,c3,e5,c5,e6,w6o,aZ,eB,c7,e8,y1,y2,c9,c10,dPQ,sv,eq_self,decide_true]
      exact az g9 rfl
     ·have dPQ:decide (P=Q)=false:=decide_eq_false hPQ
      simp only[if_neg hPQ]at e8 v8
      have sv:=fun h=>km _ aA (Nat.le_refl _) (by decide) aA r8 zR3 h v8 dk
      rw[iv]at sv
      refine ag iq rfl ?_;unfold fM
      simp only[sim,af,Nat.reduceAdd,Nat.reduceSub,List.replicate,reduceCtorEq,Nat.reduceLeDiff,Nat.reduceLT,aa,au,bk,c1,gv,cv,cs,d1,d2,z0,z1,z2,r4,if_false,eP,eQ,w1,w2,c2,m2,c3,e5,c5,e6,w6o,aZ,eB,c7,e8,y1,y2,c9,c10,dPQ,sv,eq_self,decide_true]
      exact az g9 rfl
    ·have d2:decide ((VD.mk 3 0 [v]).code=0)=false:=decide_eq_false hc2
     refine ag iq rfl ?_;unfold fM
     simp only[sim,af,Nat.reduceAdd,Nat.reduceSub,List.replicate,reduceCtorEq,Nat.reduceLeDiff,Nat.reduceLT,aa,au,bk,c1,gv,cv,cs,d1,d2,z0,z1,z2]
     exact az (g1.trans (ab.fresh _ _)) rfl
   ·have d1:decide (v.code=0)=false:=decide_eq_false hc
    refine ag iq rfl ?_;unfold fM
    simp only[sim,af,Nat.reduceAdd,Nat.reduceSub,List.replicate,reduceCtorEq,Nat.reduceLeDiff,Nat.reduceLT,aa,au,bk,c1,gv,cv,d1,z0,z1,z2]
    exact az g1 rfl
end
theorem Mf:(Try.prog).underlying 25=some (.slice 48):=by kernel_rfl
theorem Kl:jJ Try.prog 31=some [3,3,3,29]:=by kernel_rfl
theorem Ak:∀ {es:List (List AV)},(∀ r∈es,∃ L,Ck L r)→∃ Ms,lS Ms es
 | [],_=>⟨[],rfl⟩
 | r::es,h=>by
   obtain⟨L,hL⟩:=h r (by simp)
   obtain⟨Ms,hm⟩:=Ak fun q hq=>h q (List.mem_cons_of_mem _ hq)
   exact⟨L::Ms,r,es,rfl,hL,hm⟩
theorem HZ {n:Nat} {av:AV} (h:TyA Try.prog n 25 [av]):∃ (es:List (List AV)) (Ms:List (List XD)),SlA tMo av es∧lS Ms es∧Ms.length≤9223372036854775807:=by
 obtain⟨m,v,es,rfl,e,hv,hlen,hr⟩:=ru Mf h
 obtain rfl:av=v:=by simpa using e
 obtain⟨Ms,hm⟩:=Ak (es:=es) fun r hr'=>Kc (hr r hr').2
 refine⟨es,Ms,hv.sla,hm,?_⟩
 rw[←hm.len]
 unfold maxLen at hlen
 omega
theorem G4 {n:Nat} {r:List AV} (h:TyA Try.prog n 31 r):∃ (p f fuel:Int) (v:VD) (q:List AV),r=[.int .i64 p,.int .i64 f,.int .i64 fuel]++q∧VaA v q:=by
 obtain⟨m2,rfl,parts,rfl,hl,hf⟩:=i7 Kl h
 obtain⟨p0,a0,_,b0⟩:=hf 0 _ rfl
 obtain⟨p1,a1,_,b1⟩:=hf 1 _ rfl
 obtain⟨p2,a2,_,b2⟩:=hf 2 _ rfl
 obtain⟨p3,a3,_,b3⟩:=hf 3 _ rfl
 obtain⟨z0,rfl,_⟩:=fQ nP b0
 obtain⟨z1,rfl,_⟩:=fQ nP b1
 obtain⟨z2,rfl,_⟩:=fQ nP b2
 obtain⟨x,hx,_⟩:=IU _ _ b3
 obtain⟨c0,c1,c2,c3,rfl⟩:=JF hl
 obtain rfl:=Option.some.inj a0
 obtain rfl:=Option.some.inj a1
 obtain rfl:=Option.some.inj a2
 obtain rfl:=Option.some.inj a3
 exact⟨z0,z1,z2,x,c3,by simp only[List.flatten_cons,List.flatten_nil,List.append_nil,List.cons_append,List.nil_append],hx⟩
def Fs:List TypeId:=[3,2,46,44,48,25]
theorem CN:jq Try.prog Fs=true:=by kernel_rfl
def FL:List TypeId:=[3,120,26]
theorem CC:jq Try.prog FL=true:=by kernel_rfl
def E1:List TypeId:=[3,2,29,27,31]
theorem Cb:jq Try.prog E1=true:=by kernel_rfl
theorem vP {n0 n1 n2:Nat} {mv lv:AV} {r:List AV} {x0 x1 x2:Value} (a3:Int) (W:World) (t0:TyA Try.prog n0 25 [mv]) (u0:VR Try.prog (m0A W) h0A mv x0) (t1:TyA Try.prog n1 26 [lv]) (u1:VR Try.prog (m0A W) h0A lv x1) (t2:TyA Try.prog n2 31 r) (u2:VR Try.prog (m0A W) h0A (.agg r) x2) (_:eh a3):
  Law Try.prog 4 #[x0,x1,x2,.int .i64 a3] W:=by
 obtain⟨es,Ms,hm,hl,hml⟩:=HZ t0
 obtain⟨xs,hs⟩:=ET t1
 obtain⟨p,f,fuel,v,q,rfl,hv⟩:=G4 t2
 exact zk (vs:=[x0,x1,x2,.int .i64 a3]) (zd hm hl hml hs hv a3) (VRs.cons u0 (VRs.cons u1 (VRs.cons u2 (VRs.cons (ny a3) VRs.nil))))
theorem vj {n0:Nat} {r:List AV} {x0:Value} (a1 a2:Int) (W:World) (t0:TyA Try.prog n0 29 r) (u0:VR Try.prog (m0A W) h0A (.agg r) x0) (_:eh a1) (_:eh a2):
  Law Try.prog 5 #[x0,.int .i64 a1,.int .i64 a2] W:=by
 obtain⟨x,hx,_⟩:=IU _ _ t0
 exact zk (vs:=[x0,.int .i64 a1,.int .i64 a2]) (xh hx a1 a2) (VRs.cons u0 (VRs.cons (ny a1) (VRs.cons (ny a2) VRs.nil)))
end Go.Proofs.Ytkdbjfncchmmpaa
