/- Run: the machine runs till all is over, or it gives up. -/
import Derived.Test.YtkdbjfncchmmpaaMg7
namespace Go.Proofs.Ytkdbjfncchmmpaa
open Nat (reduceAdd reduceSub reduceLeDiff reduceLT)
open List (replicate)
set_option linter.unusedSimpArgs false
set_option linter.unusedVariables false
open Go Go.RowKit
theorem LQ {ms:aN} (hg:qs ms) {p f:Int} {v:VD} {S:StD} (hS:S.Good) (hmu:S.mu≤1000000) (hl:S.left≤2000) (hv:v.code=0) (hp:0≤p) (ht:(ms.getD p.toNat none).isSome) (hf:0≤f) (hf1:f.toNat<(cI ms p).length) {N:Nat} (hN:S.left≤N):
  gM ms ⟨S,⟨p,f,0,v,[],[],false,[]⟩,[]⟩ (match ofD ms N p (cX ms p f) v [] 1 S with
   | (S',w,c)=>if c≠0 then .fail S' c else .over S' w):=by
 have hG:(⟨S,⟨p,f,0,v,[],[],false,[]⟩,[]⟩:MaD).Good ms:=⟨hS,⟨hp,ht,hf,hf1,hv,by simp,by simp,by simp⟩,hmu,by simp only[List.length_nil];omega,by simp only[List.length_nil];omega,by simp⟩
 have h3:=O6 hg N (cX ms p f) ⟨S,⟨p,f,0,v,[],[],false,[]⟩,[]⟩ hG hN (tD hg hf1) ⟨[],[⟨105,0,0⟩],by simp[d7],rfl⟩
 have hox3:=ie ms N p (cX ms p f) v [] 1 S hS hv (by simp)
 simp only[List.length_nil,Nat.zero_add]at h3
 rcases hq3:ofD ms N p (cX ms p f) v [] 1 S with⟨S3,v3,c3⟩
 rw[hq3]at h3 hox3
 unfold fT at h3
 simp only at h3 ⊢
 by_cases hz:c3=0
 ·rw[if_neg (by simpa using hz)]at h3 ⊢
  have st3:bk ms (MaD.after ⟨S,⟨p,f,0,v,[],[],false,[]⟩,[]⟩ S3 (ay (cX ms p f) 0).length [v3]) [⟨105,0,0⟩]:=⟨ay (cX ms p f) 0,[],by simp[d7,MaD.after],by simp[MaD.after]⟩
  have bst:=pJ (c:=[]) (st:=[]) (v:=v3) st3 rfl
  have ok3:=bk.at st3 (hG.after1 hox3 hz) ⟨by simp,by simp[MaD.after],by simp,by simp,by simp,by simp⟩
  simp only[MaD.after,Bool.false_eq_true,if_false,List.getLast?_nil,StD.ok]at bst
  rw[if_neg (by simp)]at bst
  exact h3 _ (.over ok3 bst)
 ·rw[if_pos hz]at h3 ⊢
  exact h3
theorem gM.ok {ms:aN} {m:MaD} {r:i8} (h:gM ms m r):Ok ms m:=by cases h<;>assumption
theorem Ce {h:AH} {a b c d e:AV} {m:Mm} {w:World} {ps:List Value} (hw:WR Try.prog m h w) (hv:VRs Try.prog m h [a,b,c,d,e] ps):
  CallsD Try.prog fRc ps.toArray .returning w fun e u'' w'=>(∃ v,e= .returned v)∧u''= .returning∧∃ m',Ext m h m' h∧WR Try.prog m' h w'∧Below m.base w w':=by
 refine clG pok Ji D8 HY Py JC GZ (bQ Mk) Mi Jq (V':=[a,b,c,d,e,.nili,.junk,.junk,.bool false,.junk]) ?_ (My _ _ _ _ _ .nili) hw hv (by simp) .nili .returning fun c hc cs=> .inr ⟨FW c hc cs,rfl,rfl⟩
 unfold Cq
 have ifG_no:mH .iface none true .neq .nili .nili=some (.bool false):=rfl
 simp only[sim,ag,reduceAdd,reduceSub,replicate,reduceCtorEq,reduceLeDiff,reduceLT,aa,ifG_no]
theorem EE {h:AH} {cf cm co cu cc mb:Nat} {m:Mm} {w:World} {ps:List Value} {u:Value} {k fuel left:Int} {z1 z2:AV} {o1:List AV} {o2 o3:AV} (hw:WR Try.prog m h w) (hv:VRs Try.prog m h [.ptr cf 0 0,.ptr cm 0 0,.ptr co 0 0,.ptr cu 0 0,.ptr cc 0 0] ps) (vu:VR Try.prog m h (.iface tGo (.int .i64 k)) u)
  (hf:h.cell cf=some [[.int .i64 fuel]]) (hm:h.cell cm=some [[.ptr mb 0 0]]) (hb:h.cell mb=some [[z1,z2,.int .i64 left]]) (ho:h.cell co=some [o1]) (hl:o1.length=3) (hu:h.cell cu=some [[o2]]) (hc:h.cell cc=some [[o3]]) (n1:cu≠co) (n2:cc≠co) (n3:cc≠cu) (hwr:IntKind.wrap .i64 (fuel - left)=fuel - left):
  CallsD Try.prog fRc ps.toArray (.panicking [{v:=u,recovered:=false}]) w fun e u'' w'=>(∃ v,e= .returned v)∧u''= .panicking [{v:=u,recovered:=true}]∧
   ∃ m',Ext m h m' (((h.set co (some [zR3])).set cu (some [[.int .i64 (fuel - left)]])).set cc (some [[.int .i64 k]]))∧WR Try.prog m' (((h.set co (some [zR3])).set cu (some [[.int .i64 (fuel - left)]])).set cc (some [[.int .i64 k]])) w'∧Below m.base w w':=by
 have k7:(h.set co (some [zR3])).cell cu=some [[o2]]:=(bc n1).trans hu
 have k8:((h.set co (some [zR3])).set cu (some [[.int .i64 (fuel - left)]])).cell cc=some [[o3]]:=(bc n3).trans ((bc n2).trans hc)
 refine clG pok Ji D8 HY Py JC GZ (bQ Mk) Mi Jq (V':=[.ptr cf 0 0,.ptr cm 0 0,.ptr co 0 0,.ptr cu 0 0,.ptr cc 0 0,.iface tGo (.int .i64 k),.int .i64 k,.bool true,.bool true,.bool false]) ?_ (My _ _ _ _ _ (.iface tGo (.int .i64 k))) hw hv (by simp) vu (.panicking [{v:=u,recovered:=true}]) fun c hc cs=> .inl (A0 c hc cs)
 unfold Cq
 have ifG_yes:mH .iface none true .neq (.iface tGo (.int .i64 k)) .nili=some (.bool true):=rfl
 have tasG_yes:Fa tGo true (.iface tGo (.int .i64 k))=some (.tup [.int .i64 k,.bool true]):=by simp[Fa]
 simp only[sim,ag,reduceAdd,reduceSub,replicate,reduceCtorEq,reduceLeDiff,reduceLT,aa,ifG_yes,tasG_yes,hf,hm,hb,ho,hl,k7,k8,hwr]
open Go Go.RowKit
abbrev six (b mb:Nat) (code used:Int) (out:List AV) (fuel:Int) (r:List AV) (L:List Asn):List Asn:=
 ai (b+1+1+1+1+1+1) [[.ptr mb 0 0]]::ai (b+1+1+1+1) [[.int .i64 code]]::ai (b+1+1+1) [[.int .i64 used]]::ai (b+1+1) [out]::ai (b+1) [[.int .i64 fuel]]::ai b [r]::L
abbrev Vv (bb b:Nat) (p f:Int) (r:List AV) (fuel:Int) (x y z:AV):List AV:=
 [.ptr bb 0 0,.int .i64 p,.int .i64 f,.agg r,.int .i64 fuel,.ptr b 0 0,.ptr (b+1) 0 0,.ptr (b+1+1) 0 0,.ptr (b+1+1+1) 0 0,.ptr (b+1+1+1+1) 0 0,.int .i64 0,.ptr (b+1+1+1+1+1+1) 0 0,x,y,.bool false,.bool false,.bool false,z]
def PU (h0:AH) (F0 J0:Nat→Prop) (c:Cfg) (L:List Asn) (b:Nat) (p f:Int) (r:List AV) (fuel:Int) (q:i8) (x:AEx) (V:List AV) (h':AH):Prop:=(∃ x y z,V=Vv c.bb b p f r fuel x y z)∧match q with
 | .go _=>False
 | .over S v=>x= .ret∧∃ fb' r',VaA v r'∧St h0 F0 J0 h' (six b c.mb 0 (fuel - (S.left:Int)) r' fuel r (lh c L 0 fb' S))
 | .fail S k=>x= .panic (.iface tGo (.int .i64 k))∧∃ n':Now,n'.S=S∧St h0 F0 J0 h' (six b c.mb 0 0 zR3 fuel r (put c L 0 n'))
section
variable {h h' h0:AH} {F J F0 J0:Nat→Prop} {L:List Asn} {c:Cfg}
theorem OS {A1 A2 A3 A4 A5 A6:Asn} {n':Now} {fb':Nat} {S:StD}:lh c (A1::A2::A3::A4::A5::A6::put c L 0 n') (0+1+1+1+1+1+1) fb' S=A1::A2::A3::A4::A5::A6::lh c L 0 fb' S:=by
 have:lh c (put c L 0 n') 0 fb' S=lh c L 0 fb' S:=by
  unfold lh
  rw[aR]
 exact congrArg (fun l=>A1::A2::A3::A4::A5::A6::l) this
theorem PR {A1 A2 A3 A4 A5 A6:Asn} {n n':Now}:put c (A1::A2::A3::A4::A5::A6::put c L 0 n) (0+1+1+1+1+1+1) n'=A1::A2::A3::A4::A5::A6::put c L 0 n':=by
 have:put c (put c L 0 n) 0 n'=put c L 0 n':=aR
 exact congrArg (fun l=>A1::A2::A3::A4::A5::A6::l) this
theorem Ol {i:Nat} (hl:i+3<L.length) (n':Now):At c (put c L i n') i n':=by
 refine⟨?_,?_,?_,?_⟩<;>rw[fD]
 ·rw[if_pos (by omega),if_neg (by omega),if_neg (by omega),if_neg (by omega),if_pos rfl]
 ·rw[if_pos (by omega),if_neg (by omega),if_neg (by omega),if_pos rfl]
 ·rw[if_pos (by omega),if_neg (by omega),if_pos rfl]
 ·rw[if_pos (by omega),if_pos rfl]
theorem CA {b mb:Nat} {code used:Int} {out:List AV} {fuel:Int} {r:List AV} (hl:3<L.length) (n:Now):At c (six b mb code used out fuel r (put c L 0 n)) (0+1+1+1+1+1+1) n:=
 ((((((Ol (i:=0) hl n).cons (ai b [r])).cons (ai (b+1) [[.int .i64 fuel]])).cons (ai (b+1+1) [out])).cons (ai (b+1+1+1) [[.int .i64 used]])).cons (ai (b+1+1+1+1) [[.int .i64 code]])).cons (ai (b+1+1+1+1+1+1) [[.ptr mb 0 0]])
def OP:i8→Prop
 | .go _=>False
 | .over S v=>S.left≤2000∧v.size≤100000
 | .fail S _=>S.left≤2000
set_option maxRecDepth 100000 in
set_option maxHeartbeats 2000000 in
theorem yS (hL:3<L.length) (hc:c.ms.length=4) (hm:kz c.ms) {b:Nat} {p f:Int} {r:List AV} {fuel:Int} (hfu:0≤fuel∧fuel≤2000) {m:MaD} {q:i8} (hr:gM c.ms m q):OP q→∀ (n:Now) (h:AH) (x y z:AV),n.m=m→St h0 F0 J0 h (six b c.mb 0 0 zR3 fuel r (put c L 0 n))→
  ∃ e V' h3,aq (aj Try.prog po) 18 [.lp iX,.ss [],.blk 1,.ss [],.halt []] (Vv c.bb b p f r fuel x y z) [] h=some (e,V',h3)∧PU h0 F0 J0 c L b p f r fuel q e V' h3:=by
 induction hr with
 | @go m m' q ok hs hr ih=>
   intro hq n h x y z hn s
   subst hn
   have a6:=CA (c:=c) (b:=b) (mb:=c.mb) (code:=0) (used:=0) (out:=zR3) (fuel:=fuel) (r:=r) hL n
   obtain⟨fr,h1,e1,ob⟩:=xf s a6 hc hm ok fun m'' e=>by rw[hs]at e;cases e;exact hr.ok.good
   rw[hs]at ob
   obtain⟨r1,rfl,⟨o1,o2⟩,fb',s1⟩:=ob
   rw[PR]at s1
   have c0:=(s.cell 0 rfl).1
   have s2:=s1.push [r1]
   obtain⟨e,V',h3,e3,o3⟩:=ih hq ⟨fb',m'.S,m'.below,m'.top⟩ (h1.push [r1]) (.ptr h1.n 0 0) (.bool false) (.bool false) rfl s2.drop
   refine⟨e,V',h3,?_,o3⟩
   rw[←e3]
   rw[aB iX.eq_1]
   simp only[sim,ag,reduceAdd,reduceSub,replicate,reduceCtorEq,reduceLeDiff,reduceLT,aa,az,c0,e1,o1,o2]
 | @over m S v ok hs=>
   intro hq n h x y z hn s
   subst hn
   have a6:=CA (c:=c) (b:=b) (mb:=c.mb) (code:=0) (used:=0) (out:=zR3) (fuel:=fuel) (r:=r) hL n
   obtain⟨fr,h1,e1,ob⟩:=xf s a6 hc hm ok fun m'' e=>by rw[hs]at e;cases e
   rw[hs]at ob
   obtain⟨r1,rfl,hv,fb',s1⟩:=ob
   rw[OS]at s1
   obtain⟨hq1,hq2⟩:=hq
   obtain⟨o1,o2⟩:=hv.len3
   have c0:=(s.cell 0 rfl).1
   have s2:St h0 F0 J0 (h1.push [r1]) (ai h1.n [r1]::six b c.mb 0 0 zR3 fuel r (lh c L 0 fb' S)):=s1.push [r1]
   obtain⟨r2,e2,hv2⟩:=AB _ v (Nat.le_refl _) hq2 r1 (h1.push [r1]) hv
   have hv2:VaA v r2:=by rw[id_eq]at hv2;exact hv2
   obtain⟨o3,o4⟩:=hv2.len3
   have hend:(lh c L 0 fb' S)[0]? =some (AY c.mb c.bb fb' (S.left:Int)):=by
    unfold lh
    rw[List.getElem?_set_self (by rw[qP];omega)]
   have cm:=(s2.cell 7 hend).1
   have cp:=(s2.cell 1 rfl).1
   have cf:=(s2.cell 5 rfl).1
   have co:=(s2.cell 4 rfl).1
   have s3:=s2.set 4 rfl [r2]
   have s3:St h0 F0 J0 _ (ai h1.n [r1]::six b c.mb 0 0 r2 fuel r (lh c L 0 fb' S)):=s3
   have cm3:=(s3.cell 7 hend).1
   have cp3:=(s3.cell 1 rfl).1
   have cf3:=(s3.cell 5 rfl).1
   have cu3:=(s3.cell 3 rfl).1
   have s4:=s3.set 3 rfl [[.int .i64 (fuel - (S.left:Int))]]
   have s4:St h0 F0 J0 _ (ai h1.n [r1]::six b c.mb 0 (fuel - (S.left:Int)) r2 fuel r (lh c L 0 fb' S)):=s4
   have cc4:=(s4.cell 2 rfl).1
   have s5:=s4.set 2 rfl [[.int .i64 0]]
   have w:IntKind.wrap .i64 (fuel - (S.left:Int))=fuel - (S.left:Int):=w64 (by omega) (by omega)
   have f2:aI 2 (.ptr c.mb 0 0)=some (.ptr c.mb 0 2):=rfl
   refine⟨.ret,Vv c.bb b p f r fuel (.ptr h1.n 0 0) (.bool true) (.bool true),_,?_,⟨_,_,_,rfl⟩,rfl,fb',r2,hv2,s5.drop⟩
   rw[aB iX.eq_1]
   simp only[sim,ag,reduceAdd,reduceSub,replicate,reduceCtorEq,reduceLeDiff,reduceLT,aa,az,c0,e1,o1,o2,o3,o4,e2,cm,cp,cf,co,cm3,cp3,cf3,cu3,cc4,w,f2]
 | @fail m S k ok hs=>
   intro hq n h x y z hn s
   subst hn
   have a6:=CA (c:=c) (b:=b) (mb:=c.mb) (code:=0) (used:=0) (out:=zR3) (fuel:=fuel) (r:=r) hL n
   obtain⟨fr,h1,e1,ob⟩:=xf s a6 hc hm ok fun m'' e=>by rw[hs]at e;cases e
   rw[hs]at ob
   obtain⟨rfl,n',hn',s1⟩:=ob
   rw[PR]at s1
   have c0:=(s.cell 0 rfl).1
   refine⟨.panic (.iface tGo (.int .i64 k)),Vv c.bb b p f r fuel x y z,_,?_,⟨_,_,_,rfl⟩,rfl,n',hn',s1⟩
   rw[aB iX.eq_1]
   simp only[sim,ag,reduceAdd,reduceSub,replicate,reduceCtorEq,reduceLeDiff,reduceLT,aa,az,c0,e1]
end
open Go Go.RowKit
abbrev rsR:List k9:=[.cell true 3 7,.cell false 1 8,.cell false 1 9]
noncomputable def zC (V:List AV) (h:AH):Option ((AV ⊕ AV)×AH):=((fz V h rsR).map fU).map fun v=>(.inl v,h)
noncomputable def wO (x:jI) (k:List AV→AH→Option ((AV ⊕ AV)×AH)):Option ((AV ⊕ AV)×AH):=match x with
 | some (.halt _,V,h)=>k V h
 | some (.ret,V,h)=>zC V h
 | _=>none
noncomputable def DL (args:List AV) (h:AH) (x:jI):Option ((AV ⊕ AV)×AH):=match x with
 | some (.ret,V,h6)=>zC V h6
 | some (.panic (.iface _ (.int _ k)),V,h6)=>match h6.cell (h.n+1+1+1+1+1),args with
   | some [[_,_,.int _ left]],[_,_,_,_,.int _ fuel]=>zC V (((h6.set (h.n+1+1) (some [zR3])).set (h.n+1+1+1) (some [[.int .i64 (fuel - left)]])).set (h.n+1+1+1+1) (some [[.int .i64 k]]))
   | _,_=>none
 | _=>none
noncomputable abbrev mI:=aj (Try.prog) po
noncomputable def ER (args:List AV) (h:AH):Option ((AV ⊕ AV)×AH):=
 wO (aq mI 18 [.ss xo,.halt [.code cR1]] (args++replicate (vRu.length - args.length) .junk) [] h) fun V1 h1=>
 wO (aq mI 18 [.ss lQ,.halt [.code cR2]] V1 [] h1) fun V2 h2=>
 wO (aq mI 18 [.ss xF,.halt [.code cR3]] V2 [] h2) fun V3 h3=>
 wO (aq mI 18 [.ss wJ,.halt [.code cR4]] V3 [] h3) fun V4 h4=>
 wO (aq mI 18 [.ss xK,.halt [.code cR5]] V4 [] h4) fun V5 h5=>
 DL args h (aq mI 18 [.ss sa,.halt []] V5 [] h5)
def M5 (F J:Nat→Prop) (bb gb wb:Nat) (ms:aN) (S:StD) (h:AH) (d:StD×VD×Int×Int) (q:(AV ⊕ AV)×AH):Prop:=
 ∃ r' h',q=(.inl (.tup [.agg r',.int .i64 d.2.2.1,.int .i64 d.2.2.2]),h')∧VaA d.2.1 r'∧Did h F J h' (aY [dH bb gb wb ms d.1.kept,br gb d.1.G,bj wb d.1.cells d.1.log])
def C6 (F J:Nat→Prop) (bb gb wb:Nat) (ms:aN) (S:StD) (h:AH) (args:List AV) (d:StD×VD×Int×Int):Prop:=∃ q,ER args h=some q∧AC Try.prog fq args h q∧M5 F J bb gb wb ms S h d q
section
variable {h h' h0:AH} {F J F0 J0:Nat→Prop} {L:List Asn} {bb gb wb:Nat} {ms:aN} {S:StD} {p f fuel:Int} {v:VD} {r:List AV}
abbrev ej (b:Nat) (code used:Int) (out:List AV) (fuel:Int) (r:List AV) (L:List Asn):List Asn:=
 ai (b+1+1+1+1) [[.int .i64 code]]::ai (b+1+1+1) [[.int .i64 used]]::ai (b+1+1) [out]::ai (b+1) [[.int .i64 fuel]]::ai b [r]::L
abbrev V5q (bb b:Nat) (p f:Int) (r:List AV) (fuel:Int) (c x y z:AV):List AV:=
 [.ptr bb 0 0,.int .i64 p,.int .i64 f,.agg r,.int .i64 fuel,.ptr b 0 0,.ptr (b+1) 0 0,.ptr (b+1+1) 0 0,.ptr (b+1+1+1) 0 0,.ptr (b+1+1+1+1) 0 0,c,.junk,.junk,.junk,x,y,z,.junk]
abbrev h5q (h:AH) (r:List AV) (fuel:Int):AH:=((((h.push [r]).push [[.int .i64 fuel]]).push [zR3]).push [[.int .i64 0]]).push [[.int .i64 0]]
abbrev od (bb:Nat) (p f:Int) (r:List AV) (fuel:Int):List AV:=[.ptr bb 0 0,.int .i64 p,.int .i64 f,.agg r,.int .i64 fuel]
theorem nZ (hv:VaA v r):aq mI 18 [.ss xo,.halt [.code cR1]] (od bb p f r fuel++replicate (vRu.length - (od bb p f r fuel).length) .junk) [] h=some (.halt [.code cR1],V5q bb h.n p f r fuel .junk .junk .junk .junk,h5q h r fuel):=by
 obtain⟨o1,o2⟩:=hv.len3
 unfold xo
 simp only[sim,ag,reduceAdd,reduceSub,replicate,reduceCtorEq,reduceLeDiff,reduceLT,aa,o1,o2]
theorem ow (s:St h0 F0 J0 h L):St h0 F0 J0 (h5q h r fuel) (ej h.n 0 0 zR3 fuel r L):=((((s.push [r]).push [[.int .i64 fuel]]).push [zR3]).push [[.int .i64 0]]).push [[.int .i64 0]]
theorem wQ {V:List AV} {h':AH} {o u c:Nat} {r':List AV} {used code:Int} (h7:V.getD 7 .junk= .ptr o 0 0) (h8:V.getD 8 .junk= .ptr u 0 0) (h9:V.getD 9 .junk= .ptr c 0 0) (ho:h'.cell o=some [r']) (hr:r'.length=3) (hu:h'.cell u=some [[.int .i64 used]]) (hc:h'.cell c=some [[.int .i64 code]]):
  (fz V h' rsR).map fU=some (.tup [.agg r',.int .i64 used,.int .i64 code]):=by
 have e1:aE true 3 h' (.ptr o 0 0)=some (.agg r'):=by rw[bD,ho];exact bo hr
 have e2:aE false 1 h' (.ptr u 0 0)=some (.int .i64 used):=by rw[bD,hu];rfl
 have e3:aE false 1 h' (.ptr c 0 0)=some (.int .i64 code):=by rw[bD,hc];rfl
 simp only[fz,h7,h8,h9,e1,e2,e3,Option.bind_some,Option.map_some,fU]
theorem JY (hv:VaA v r):nD Try.prog po fq 93 vRu (od bb p f r fuel) h (.halt [.code cR1]) (V5q bb h.n p f r fuel .junk .junk .junk .junk) (h5q h r fuel):=
 (nD.start uU LN P3 (O9 _ _ _ _ _)).next (nv:=18) pok OA (bQ lH) NN LZ (nZ hv)
abbrev Bb (h:AH) (r:List AV) (fuel code:Int):AH:=(((h5q h r fuel).set (h.n+1+1) (some [zR3])).set (h.n+1+1+1) (some [[.int .i64 0]])).set (h.n+1+1+1+1) (some [[.int .i64 code]])
theorem GA (s:St h0 F0 J0 h L) (code:Int):St h0 F0 J0 (Bb h r fuel code) (ej h.n code 0 zR3 fuel r L):=by
 have s1:St h0 F0 J0 (h5q h r fuel) (ej h.n 0 0 zR3 fuel r L):=ow s
 have s2:St h0 F0 J0 _ (ej h.n 0 0 zR3 fuel r L):=s1.set 2 rfl [zR3]
 have s3:St h0 F0 J0 _ (ej h.n 0 0 zR3 fuel r L):=s2.set 1 rfl [[.int .i64 0]]
 exact s3.set 0 rfl [[.int .i64 code]]
theorem mf {V:List AV} (h7:V.getD 7 .junk= .ptr (h.n+1+1) 0 0) (h8:V.getD 8 .junk= .ptr (h.n+1+1+1) 0 0) (h9:V.getD 9 .junk= .ptr (h.n+1+1+1+1) 0 0) (s:St h0 F0 J0 h L) (code:Int):(fz V (Bb h r fuel code) rsR).map fU=some (.tup [.agg zR3,.int .i64 0,.int .i64 code]):=by
 have s1:St h0 F0 J0 (Bb h r fuel code) (ej h.n code 0 zR3 fuel r L):=GA s code
 exact wQ h7 h8 h9 (s1.cell 2 rfl).1 rfl (s1.cell 1 rfl).1 (s1.cell 0 rfl).1
theorem rQ (x:(aY [dH bb gb wb ms S.kept,br gb S.G,bj wb S.cells S.log]).A h F J) (code:Int):M5 F J bb gb wb ms S h (S,au,0,code) (.inl (.tup [.agg zR3,.int .i64 0,.int .i64 code]),Bb h r fuel code):=
 ⟨zR3,_,rfl,eE,(GA (St.start x) code).drop.drop.drop.drop.drop⟩
theorem yx (hv:VaA v r) (x:(aY [dH bb gb wb ms S.kept,br gb S.G,bj wb S.cells S.log]).A h F J) (hr:fuel<0∨2000<fuel∨p<0∨4≤p):C6 F J bb gb wb ms S h (od bb p f r fuel) (S,au,0,1):=by
 have s1:St h F J (h5q h r fuel) (ej h.n 0 0 zR3 fuel r _):=ow (St.start x)
 have c1:=(s1.cell 0 rfl).1
 have c2:=(s1.cell 1 rfl).1
 have c3:=(s1.cell 2 rfl).1
 have c4:=(s1.cell 3 rfl).1
 have s2:St h F J _ (ej h.n 0 0 zR3 fuel r _):=s1.set 2 rfl [zR3]
 have d2:=(s2.cell 1 rfl).1
 have s3:St h F J _ (ej h.n 0 0 zR3 fuel r _):=s2.set 1 rfl [[.int .i64 0]]
 have e2:=(s3.cell 0 rfl).1
 have run:aq mI 18 [.ss lQ,.halt [.code cR2]] (V5q bb h.n p f r fuel .junk .junk .junk .junk) [] (h5q h r fuel)=some (.ret,V5q bb h.n p f r fuel .junk (.bool true) .junk .junk,Bb h r fuel 1):=by
  unfold lQ
  by_cases h1:fuel<0
  ·have k1:decide (fuel<0)=true:=decide_eq_true h1
   simp only[sim,ag,reduceAdd,reduceSub,replicate,reduceCtorEq,reduceLeDiff,reduceLT,aa,c1,c2,c3,c4,d2,e2,k1]
  ·have k1:decide (fuel<0)=false:=decide_eq_false h1
   by_cases h2:2000<fuel
   ·have k2:decide (2000<fuel)=true:=decide_eq_true h2
    simp only[sim,ag,reduceAdd,reduceSub,replicate,reduceCtorEq,reduceLeDiff,reduceLT,aa,c1,c2,c3,c4,d2,e2,k1,k2]
   ·have k2:decide (2000<fuel)=false:=decide_eq_false h2
    by_cases h3:p<0
    ·have k3:decide (p<0)=true:=decide_eq_true h3
     simp only[sim,ag,reduceAdd,reduceSub,replicate,reduceCtorEq,reduceLeDiff,reduceLT,aa,c1,c2,c3,c4,d2,e2,k1,k2,k3]
    ·have k3:decide (p<0)=false:=decide_eq_false h3
     have k4:decide (4≤p)=true:=decide_eq_true (by omega)
     simp only[sim,ag,reduceAdd,reduceSub,replicate,reduceCtorEq,reduceLeDiff,reduceLT,aa,c1,c2,c3,c4,d2,e2,k1,k2,k3,k4]
 refine⟨_,?_,((JY hv).next (nv:=18) pok qL (bQ lH) xq qT run).ret uU tq (mf rfl rfl rfl (St.start x) 1),rQ x 1⟩
 unfold ER
 rw[nZ hv]
 simp only[wO]
 rw[run]
 simp only[zC]
 rw[mf rfl rfl rfl (St.start x) 1]
 rfl
theorem PL {i:Nat} (s:St h0 F0 J0 h L) {kept:List VD} (hi:L[i]? =some (dH bb gb wb ms kept)) (hl:ms.length=kept.length) (h4:ms.length=4) {P:Nat} (hp:P<4):(∀ q:IntKind,bT none (some (4,5)) (.ptr bb 0 2) (.int q (P:Int))=some (.ptr bb 0 (2+P*5)))∧(∀ k:Nat,aE false k h (.ptr bb 0 (2+P*5))=some (.bool (ms.getD P none).isSome))∧(∀ k:Nat,aE false k h (.ptr bb 0 (2+P*5+1))=some (ji (ms.getD P none))):=by
 obtain⟨F,J,x⟩:=s.get i hi
 obtain⟨row,c1,cn,_,_,_,hpl⟩:=ya x hl
 obtain⟨q1,q2,_⟩:=hpl P (by rw[h4];exact hp)
 refine⟨fun q=>by simp[bT,hp],fun k=> ?_,fun k=> ?_⟩
 ·rw[bD,c1,Option.bind_some,List.getElem?_cons_zero,Option.bind_some,fL,q1]
 ·rw[bD,c1,Option.bind_some,List.getElem?_cons_zero,Option.bind_some,fL,q2]
theorem uM (m:Option (List XD)):dR (ji m)=some (m.getD []).length∧∀ s,de s (some tFs) (ji m)=true:=by
 cases m with
 | none=>exact⟨rfl,fun s=>rfl⟩
 | some L=>exact⟨(eI L).1,fun s=>(eI L).2.1 s⟩
theorem CC (hv:VaA v r) (x:(aY [dH bb gb wb ms S.kept,br gb S.G,bj wb S.cells S.log]).A h F J) (h4:ms.length=4) (hS:S.Good) (hr:¬ (fuel<0∨2000<fuel∨p<0∨4≤p)) (hn:(ms.getD p.toNat none).isNone∨f<0∨((cI ms p).length:Int)≤f):C6 F J bb gb wb ms S h (od bb p f r fuel) (S,au,0,8):=by
 have s1:St h F J (h5q h r fuel) (ej h.n 0 0 zR3 fuel r [dH bb gb wb ms S.kept,br gb S.G,bj wb S.cells S.log]):=ow (St.start x)
 have c1:=(s1.cell 0 rfl).1
 have c2:=(s1.cell 1 rfl).1
 have c3:=(s1.cell 2 rfl).1
 have c4:=(s1.cell 3 rfl).1
 have s2:St h F J _ (ej h.n 0 0 zR3 fuel r _):=s1.set 2 rfl [zR3]
 have d2:=(s2.cell 1 rfl).1
 have s3:St h F J _ (ej h.n 0 0 zR3 fuel r _):=s2.set 1 rfl [[.int .i64 0]]
 have e2:=(s3.cell 0 rfl).1
 have k1:decide (fuel<0)=false:=decide_eq_false (by omega)
 have k2:decide (2000<fuel)=false:=decide_eq_false (by omega)
 have k3:decide (p<0)=false:=decide_eq_false (by omega)
 have k4:decide (4≤p)=false:=decide_eq_false (by omega)
 obtain⟨P,hP⟩:=Int.eq_ofNat_of_zero_le (show 0≤p by omega)
 subst hP
 obtain⟨ix,b0,b1⟩:=PL s1 (i:=5) (kept:=S.kept) rfl (h4.trans hS.kept.symm) h4 (P:=P) (by omega)
 obtain⟨cl,cf⟩:=uM (ms.getD P none)
 have f2:aI 2 (.ptr bb 0 0)=some (.ptr bb 0 2):=rfl
 have f0:aI 0 (.ptr bb 0 (2+P*5))=some (.ptr bb 0 (2+P*5)):=rfl
 have f1:aI 1 (.ptr bb 0 (2+P*5))=some (.ptr bb 0 (2+P*5+1)):=rfl
 have run:aq mI 18 [.ss lQ,.halt [.code cR2]] (V5q bb h.n P f r fuel .junk .junk .junk .junk) [] (h5q h r fuel)=some (.ret,V5q bb h.n P f r fuel .junk (.bool false) (.bool true) .junk,Bb h r fuel 8):=by
  unfold lQ
  by_cases h1:(ms.getD P none).isSome=true
  ·by_cases h2:f<0
   ·have k5:decide (f<0)=true:=decide_eq_true h2
    simp only[sim,ag,reduceAdd,reduceSub,replicate,reduceCtorEq,reduceLeDiff,reduceLT,aa,c1,c2,c3,c4,d2,e2,k1,k2,k3,k4,ix,b0,b1,f0,f1,f2,h1,k5]
   ·have k5:decide (f<0)=false:=decide_eq_false h2
    have k6:decide ((((ms.getD P none).getD []).length:Int)≤f)=true:=decide_eq_true (by
     rcases hn with hn | hn | hn
     ·rw[show((P:Nat):Int).toNat=P from rfl]at hn
      cases hm:ms.getD P none with
      | none=>rw[hm]at h1;cases h1
      | some l=>rw[hm]at hn;cases hn
     ·exact absurd hn h2
     ·exact hn)
    simp only[sim,ag,reduceAdd,reduceSub,replicate,reduceCtorEq,reduceLeDiff,reduceLT,aa,c1,c2,c3,c4,d2,e2,k1,k2,k3,k4,ix,b0,b1,f0,f1,f2,h1,k5,cl,cf,k6]
  ·have h1':(ms.getD P none).isSome=false:=by simpa using h1
   simp only[sim,ag,reduceAdd,reduceSub,replicate,reduceCtorEq,reduceLeDiff,reduceLT,aa,c1,c2,c3,c4,d2,e2,k1,k2,k3,k4,ix,b0,b1,f0,f1,f2,h1']
 refine⟨_,?_,((JY hv).next (nv:=18) pok qL (bQ lH) xq qT run).ret uU tq (mf rfl rfl rfl (St.start x) 8),rQ x 8⟩
 unfold ER
 rw[nZ hv]
 simp only[wO]
 rw[run]
 simp only[zC]
 rw[mf rfl rfl rfl (St.start x) 8]
 rfl
theorem G6 (s1:St h0 F0 J0 (h5q h r fuel) (ej h.n 0 0 zR3 fuel r (dH bb gb wb ms S.kept::L))) (h4:ms.length=4) (hS:S.Good) (hr:¬ (fuel<0∨2000<fuel∨p<0∨4≤p)) (hn:¬ ((ms.getD p.toNat none).isNone∨f<0∨((cI ms p).length:Int)≤f)):
  aq mI 18 [.ss lQ,.halt [.code cR2]] (V5q bb h.n p f r fuel .junk .junk .junk .junk) [] (h5q h r fuel)=some (.halt [.code cR2],V5q bb h.n p f r fuel .junk (.bool false) (.bool false) .junk,h5q h r fuel):=by
 have c4:=(s1.cell 3 rfl).1
 have k1:decide (fuel<0)=false:=decide_eq_false (by omega)
 have k2:decide (2000<fuel)=false:=decide_eq_false (by omega)
 have k3:decide (p<0)=false:=decide_eq_false (by omega)
 have k4:decide (4≤p)=false:=decide_eq_false (by omega)
 obtain⟨P,hP⟩:=Int.eq_ofNat_of_zero_le (show 0≤p by omega)
 subst hP
 obtain⟨ix,b0,b1⟩:=PL s1 (i:=5) (kept:=S.kept) rfl (h4.trans hS.kept.symm) h4 (P:=P) (by omega)
 obtain⟨cl,cf⟩:=uM (ms.getD P none)
 have f2:aI 2 (.ptr bb 0 0)=some (.ptr bb 0 2):=rfl
 have f0:aI 0 (.ptr bb 0 (2+P*5))=some (.ptr bb 0 (2+P*5)):=rfl
 have f1:aI 1 (.ptr bb 0 (2+P*5))=some (.ptr bb 0 (2+P*5+1)):=rfl
 have hn1:¬ (ms.getD P none).isNone=true:=fun e=>hn (.inl e)
 have h1:(ms.getD P none).isSome=true:=by cases hm:ms.getD P none with
  | none=>rw[hm]at hn1;exact absurd rfl hn1
  | some l=>rfl
 have k5:decide (f<0)=false:=decide_eq_false fun e=>hn (.inr (.inl e))
 have k6:decide ((((ms.getD P none).getD []).length:Int)≤f)=false:=decide_eq_false fun e=>hn (.inr (.inr e))
 unfold lQ
 simp only[sim,ag,reduceAdd,reduceSub,replicate,reduceCtorEq,reduceLeDiff,reduceLT,aa,c4,k1,k2,k3,k4,ix,b0,b1,f0,f1,f2,h1,k5,cl,cf,k6]
theorem CF (s1:St h0 F0 J0 (h5q h r fuel) (ej h.n 0 0 zR3 fuel r L)) (hv:VaA v r):aq mI 18 [.ss xF,.halt [.code cR3]] (V5q bb h.n p f r fuel .junk (.bool false) (.bool false) .junk) [] (h5q h r fuel)=
  if v.code=0 then some (.halt [.code cR3],V5q bb h.n p f r fuel (.int .i64 0) (.bool false) (.bool false) (.bool false),h5q h r fuel)else some (.ret,V5q bb h.n p f r fuel (.int .i64 v.code) (.bool false) (.bool false) (.bool true),Bb h r fuel v.code):=by
 have c1:=(s1.cell 0 rfl).1
 have c2:=(s1.cell 1 rfl).1
 have c3:=(s1.cell 2 rfl).1
 have c5:=(s1.cell 4 rfl).1
 have s2:St h0 F0 J0 _ (ej h.n 0 0 zR3 fuel r _):=s1.set 2 rfl [zR3]
 have d2:=(s2.cell 1 rfl).1
 have s3:St h0 F0 J0 _ (ej h.n 0 0 zR3 fuel r _):=s2.set 1 rfl [[.int .i64 0]]
 have e2:=(s3.cell 0 rfl).1
 have ck:=kI (h:=h5q h r fuel) hv
 obtain⟨o1,o2⟩:=hv.len3
 unfold xF
 by_cases hz:v.code=0
 ·have k:decide (v.code=0)=true:=decide_eq_true hz
  rw[if_pos hz]
  rw[hz]at ck k
  simp only[sim,ag,reduceAdd,reduceSub,replicate,reduceCtorEq,reduceLeDiff,reduceLT,aa,az,c1,c2,c3,c5,d2,e2,o1,o2,ck,k]
 ·have k:decide (v.code=0)=false:=decide_eq_false hz
  rw[if_neg hz]
  simp only[sim,ag,reduceAdd,reduceSub,replicate,reduceCtorEq,reduceLeDiff,reduceLT,aa,az,c1,c2,c3,c5,d2,e2,o1,o2,ck,k]
end
open Go Go.RowKit
section
variable {h h' h0:AH} {F J F0 J0:Nat→Prop} {L:List Asn} {bb gb wb:Nat} {ms:aN} {S:StD} {p f fuel:Int} {v:VD} {r:List AV}
theorem L0 {mb fb:Nat} {left:Int} {top:FrD} {a:List AV} {g:AV} (ha:VaA top.arg a) (hg:SlA 3 g (bq top.gates)) (hs:top.stack=[]) (hn:top.names=[]) (x:(aY (ai mb [[.ptr bb 0 0,.msl fb 0 1 tFr,.int .i64 left]]::ai fb [cS top a .nils .nils g]::L)).A h F J):(aY (eG mb bb fb left [] top::L)).A h F J:=by
 refine fv (fun h F J x=> ?_) (fun _ _ _ y=>y) (qb x)
 obtain⟨F1,J1,F2,J2,x1,x2,r⟩:=x
 refine⟨⟨[],cS top a .nils .nils g,[]⟩,F1,J1,F2,J2,x1,⟨F2,J2,fun _=>False,fun _=>False,x2,⟨fun _=>False,fun _=>False,fun _=>False,fun _=>False,vD ha hg hs hn,⟨trivial,fun _ h=>h,fun _ h=>h⟩,fun k=>by simp,fun j=>by simp,fun _ h=>h.elim,fun _ h=>h.elim⟩,fun k=>by simp,fun j=>by simp,fun _ _ h=>h,fun _ _ h=>h⟩,r⟩
abbrev Ao (p f:Int) (v:VD):FrD:=⟨p,f,0,v,[],[],false,[]⟩
abbrev h7q (h:AH) (bb:Nat) (r:List AV) (fuel:Int):AH:=((h5q h r fuel).push [[.ptr bb 0 0,.nils,.int .i64 fuel]]).push [[.ptr (h.n+1+1+1+1+1) 0 0]]
abbrev fbq (h:AH):Nat:=h.n+1+1+1+1+1+1+1
abbrev h8q (h:AH) (bb:Nat) (p f:Int) (v:VD) (r r2:List AV) (fuel:Int):AH:=((h7q h bb r fuel).push [cS (Ao p f v) r2 .nils .nils .nils]).set (h.n+1+1+1+1+1) (some [[.ptr bb 0 0,.msl (fbq h) 0 1 tFr,.int .i64 fuel]])
theorem LS (s1:St h0 F0 J0 (h5q h r fuel) (ej h.n 0 0 zR3 fuel r L)):aq mI 18 [.ss wJ,.halt [.code cR4]] (V5q bb h.n p f r fuel (.int .i64 0) (.bool false) (.bool false) (.bool false)) [] (h5q h r fuel)=
  some (.halt [.code cR4],Vv bb h.n p f r fuel .junk .junk .junk,h7q h bb r fuel):=by
 have c4:=(s1.cell 3 rfl).1
 have c5:((((h5q h r fuel).push [[.ptr bb 0 0,.nils,.int .i64 fuel]]).push [[.nilp]]).cell (h.n+1+1+1+1+1+1))=some [[.nilp]]:=aC (h:=(h5q h r fuel).push [[.ptr bb 0 0,.nils,.int .i64 fuel]])
 have c6:∀ x,(((h5q h r fuel).push [[.ptr bb 0 0,.nils,.int .i64 fuel]]).push [[.nilp]]).set (h.n+1+1+1+1+1+1) (some x)=((h5q h r fuel).push [[.ptr bb 0 0,.nils,.int .i64 fuel]]).push x:=fun x=>bm (h:=(h5q h r fuel).push [[.ptr bb 0 0,.nils,.int .i64 fuel]])
 unfold wJ
 simp only[sim,ag,reduceAdd,reduceSub,replicate,reduceCtorEq,reduceLeDiff,reduceLT,aa,c4,c5,c6]
theorem zm (s1:St h0 F0 J0 (h5q h r fuel) (ej h.n 0 0 zR3 fuel r L)):St h0 F0 J0 (h7q h bb r fuel) (ai (h.n+1+1+1+1+1+1) [[.ptr (h.n+1+1+1+1+1) 0 0]]::ai (h.n+1+1+1+1+1) [[.ptr bb 0 0,.nils,.int .i64 fuel]]::ej h.n 0 0 zR3 fuel r L):=
 (s1.push _).push _
set_option maxRecDepth 100000 in
theorem LV (s1:St h0 F0 J0 (h5q h r fuel) (ej h.n 0 0 zR3 fuel r L)) (hv:VaA v r) (hvs:v.size≤100000):∃ r2,VaA v r2∧aq mI 18 [.ss xK,.halt [.code cR5]] (Vv bb h.n p f r fuel .junk .junk .junk) [] (h7q h bb r fuel)=
  some (.halt [.code cR5],Vv bb h.n p f r fuel .junk .junk .junk,h8q h bb p f v r r2 fuel):=by
 obtain⟨r2,e2,hv2⟩:=AB _ v (Nat.le_refl _) hvs r (h7q h bb r fuel) hv
 have hv2:VaA v r2:=by rw[id_eq]at hv2;exact hv2
 refine⟨r2,hv2,?_⟩
 obtain⟨o1,o2⟩:=hv.len3
 obtain⟨o3,o4⟩:=hv2.len3
 have s7:St h0 F0 J0 (h7q h bb r fuel) (ai (h.n+1+1+1+1+1+1) [[.ptr (h.n+1+1+1+1+1) 0 0]]::ai (h.n+1+1+1+1+1) [[.ptr bb 0 0,.nils,.int .i64 fuel]]::ej h.n 0 0 zR3 fuel r L):=zm s1
 have c0:=(s7.cell 0 rfl).1
 have c6:=(s7.cell 6 rfl).1
 have s8:=s7.push [cS (Ao p f v) r2 .nils .nils .nils]
 have d0:=(s8.cell 1 rfl).1
 have d1:=(s8.cell 2 rfl).1
 have f1:aI 1 (.ptr (h.n+1+1+1+1+1) 0 0)=some (.ptr (h.n+1+1+1+1+1) 0 1):=rfl
 obtain⟨y0,y1,y2,rfl⟩:∃ a b c,r2=[a,b,c]:=by match r2,o3 with | [a,b,c],_=>exact⟨a,b,c,rfl⟩
 simp only[List.all_cons,List.all_nil,Bool.and_true,Bool.and_eq_true]at o4
 obtain⟨z3,z4,z5⟩:=o4
 have en:(h7q h bb r fuel).n=fbq h:=rfl
 unfold h8q
 generalize h7q h bb r fuel=hx at*
 simp only[cS,Int.natCast_zero,List.cons_append,List.nil_append]at d0 d1 ⊢
 unfold xK
 simp only[sim,ag,reduceAdd,reduceSub,replicate,reduceCtorEq,reduceLeDiff,reduceLT,aa,az,c0,c6,o1,o2,e2,d0,d1,f1,z3,z4,z5,en]
abbrev mb5 (h:AH):Nat:=h.n+1+1+1+1+1
abbrev L4 (h:AH) (bb gb wb:Nat) (ms:aN) (S:StD) (p f:Int) (v:VD):List Asn:=[eG (mb5 h) bb (fbq h) (S.left:Int) [] (Ao p f v),dH bb gb wb ms S.kept,br gb S.G,bj wb S.cells S.log]
theorem Jc {r2:List AV} (s1:St h0 F0 J0 (h5q h r fuel) (ej h.n 0 0 zR3 fuel r [dH bb gb wb ms S.kept,br gb S.G,bj wb S.cells S.log])) (hv2:VaA v r2) (hf:(S.left:Int)=fuel):St h0 F0 J0 (h8q h bb p f v r r2 fuel) (six h.n (mb5 h) 0 0 zR3 fuel r (L4 h bb gb wb ms S p f v)):=by
 have s7:St h0 F0 J0 (h7q h bb r fuel) (ai (h.n+1+1+1+1+1+1) [[.ptr (h.n+1+1+1+1+1) 0 0]]::ai (h.n+1+1+1+1+1) [[.ptr bb 0 0,.nils,.int .i64 fuel]]::ej h.n 0 0 zR3 fuel r [dH bb gb wb ms S.kept,br gb S.G,bj wb S.cells S.log]):=zm s1
 have s8:=s7.push [cS (Ao p f v) r2 .nils .nils .nils]
 have s9:=s8.set 2 rfl [[.ptr bb 0 0,.msl (fbq h) 0 1 tFr,.int .i64 fuel]]
 have s10:=s9.front 2 rfl
 have s11:St h0 F0 J0 (h8q h bb p f v r r2 fuel) (eG (mb5 h) bb (fbq h) (S.left:Int) [] (Ao p f v)::([ai (h.n+1+1+1+1+1+1) [[.ptr (mb5 h) 0 0]],ai (h.n+1+1+1+1) [[.int .i64 0]],ai (h.n+1+1+1) [[.int .i64 0]],ai (h.n+1+1) [zR3],ai (h.n+1) [[.int .i64 fuel]],ai h.n [r]]++[dH bb gb wb ms S.kept,br gb S.G,bj wb S.cells S.log])):=
  s10.imp fun _ _ _ x=>L0 (top:=Ao p f v) hv2 (.inl ⟨rfl,rfl⟩) rfl rfl (by rw[hf];exact x)
 exact s11.imp fun _ _ _=>St.perm List.perm_middle.symm
theorem FF (hv:VaA v r) (hvs:v.size≤100000) (x:(aY [dH bb gb wb ms S.kept,br gb S.G,bj wb S.cells S.log]).A h F J) (h4:ms.length=4) (hg:qs ms) (hm:kz ms) (hS:S.Good) (hlog:S.log.length≤900000) (hr:¬ (fuel<0∨2000<fuel∨p<0∨4≤p)) (hn:¬ ((ms.getD p.toNat none).isNone∨f<0∨((cI ms p).length:Int)≤f)) (hc:v.code=0):
  C6 F J bb gb wb ms S h (od bb p f r fuel) (match ofD ms fuel.toNat p (cX ms p f) v [] 1 {S with left:=fuel.toNat}with
  | (S',w,c)=>({S' with left:=S.left},if c=0 then w else au,fuel - (S'.left:Int),c)):=by
 have s1:St h F J (h5q h r fuel) (ej h.n 0 0 zR3 fuel r [dH bb gb wb ms S.kept,br gb S.G,bj wb S.cells S.log]):=ow (St.start x)
 have rS:=G6 (p:=p) (f:=f) s1 h4 hS hr hn
 have rC:=CF (bb:=bb) (p:=p) (f:=f) s1 hv
 rw[if_pos hc]at rC
 have r1:=LS (bb:=bb) (p:=p) (f:=f) s1
 obtain⟨r2,hv2,r2e⟩:=LV (bb:=bb) (p:=p) (f:=f) s1 hv hvs
 have hfl:((fuel.toNat:Nat):Int)=fuel:=Int.toNat_of_nonneg (by omega)
 have s8:St h F J (h8q h bb p f v r r2 fuel) (six h.n (mb5 h) 0 0 zR3 fuel r (L4 h bb gb wb ms {S with left:=fuel.toNat} p f v)):=Jc (S:={S with left:=fuel.toNat}) s1 hv2 hfl
 have p1:=JY (bb:=bb) (p:=p) (f:=f) (fuel:=fuel) (h:=h) hv
 have p2:=p1.next (nv:=18) pok qL (bQ lH) xq qT rS
 have p3:=p2.next (nv:=18) pok D9 (bQ lH) HU Dl rC
 have p4:=p3.next (nv:=18) pok Lh (bQ lH) OI Kf r1
 have p5:=p4.next (nv:=18) pok L8 (bQ lH) Nq Lu r2e
 have hQ:∀ q,DL (od bb p f r fuel) h (aq mI 18 [.ss sa,.halt []] (Vv bb h.n p f r fuel .junk .junk .junk) [] (h8q h bb p f v r r2 fuel))=some q→ER (od bb p f r fuel) h=some q:=fun q hq=>by
  unfold ER
  rw[nZ hv]
  simp only[wO]
  rw[rS]
  simp only
  rw[rC]
  simp only
  rw[r1]
  simp only
  rw[r2e]
  simp only
  exact hq
 have hS0:({S with left:=fuel.toNat}:StD).Good:=⟨hS.wf,hS.cells,hS.kept,hS.keptV⟩
 have hp0:0≤p:=by omega
 have hth:(ms.getD p.toNat none).isSome=true:=by
  cases hm:ms.getD p.toNat none with
  | none=>rw[hm]at hn;exact absurd (.inl rfl) hn
  | some l=>rfl
 have hf0:0≤f:=by
  rcases Int.lt_or_le f 0 with h | h
  ·exact absurd (.inr (.inl h)) hn
  ·exact h
 have hf1:f.toNat<(cI ms p).length:=by
  rcases Int.lt_or_le f ((cI ms p).length:Int)with h | h
  ·omega
  ·exact absurd (.inr (.inr h)) hn
 have runs:=LQ hg (p:=p) (f:=f) (v:=v) (N:=fuel.toNat) hS0 (by unfold StD.mu;simp only;omega) (by simp only;omega) hc hp0 hth hf0 hf1 (Nat.le_refl _)
 have hox:=ie ms fuel.toNat p (cX ms p f) v [] 1 _ hS0 hc (by simp)
 have hle:=j9 ms fuel.toNat p (cX ms p f) v [] 1 {S with left:=fuel.toNat}
 generalize ofD ms fuel.toNat p (cX ms p f) v [] 1 {S with left:=fuel.toNat}=qq at runs hox hle ⊢
 obtain⟨S',w,c⟩:=qq
 simp only at runs hox hle ⊢
 have hl:∀ V h',aq mI 18 [.ss sa,.halt []] V [] h'=aq mI 18 [.lp iX,.ss [],.blk 1,.ss [],.halt []] V [] h':=fun V h'=>by
  unfold sa
  rw[wz,Be]
 rw[hl]at hQ
 have hcf:∃ fnC,(Try.prog).funcs[(fRc:Nat)]? =some fnC∧(fnC.body.isNone=false∧(fnC.name== "runtime.NumGoroutine")=false):=⟨_,Ji,by kernel_rfl,by kernel_rfl⟩
 have ne:∀ {a b:Nat},a<b→¬ (b=a):=fun h e=>by omega
 by_cases hz:c=0
 ·subst hz
  rw[if_neg (by simp)]at runs
  obtain⟨e,V',h3,e3,⟨x1,y1,z1,rfl⟩,rfl,fb',r',hv',s9⟩:=yS (c:=⟨mb5 h,bb,gb,wb,ms⟩) (L:=L4 h bb gb wb ms {S with left:=fuel.toNat} p f v) (b:=h.n) (p:=p) (f:=f) (r:=r) (fuel:=fuel) (show 3<4 by decide) h4 hm (by omega) runs ⟨by omega,by have:=(fJ (hox.1.val rfl)).1;simp only at this;omega⟩ ⟨fbq h,{S with left:=fuel.toNat},[],Ao p f v⟩ _ .junk .junk .junk rfl s8
  have hres:=wQ (V:=Vv bb h.n p f r fuel x1 y1 z1) rfl rfl rfl (s9.cell 3 rfl).1 hv'.len3.1 (s9.cell 2 rfl).1 (s9.cell 1 rfl).1
  refine⟨_,hQ _ ?_,Ag (nv:=18) (caps:=[9,14,10,11,12]) (js:=[6,11,7,8,9]) pok p5 uU hcf (by decide) rfl (by decide) GI (bQ lH) H9 D5 ((hl _ _).trans e3) Mb (.ret fun m w ps hw hps=>Ce hw hps) tq hres,r',h3,rfl,hv',?_⟩
  ·rw[e3]
   simp only[DL,zC]
   rw[hres]
   rfl
  ·exact s9.drop.drop.drop.drop.drop.drop.drop
 ·rw[if_pos hz]at runs
  obtain⟨e,V',h3,e3,⟨x1,y1,z1,rfl⟩,rfl,n',hn',s9⟩:=yS (c:=⟨mb5 h,bb,gb,wb,ms⟩) (L:=L4 h bb gb wb ms {S with left:=fuel.toNat} p f v) (b:=h.n) (p:=p) (f:=f) (r:=r) (fuel:=fuel) (show 3<4 by decide) h4 hm (by omega) runs (show S'.left≤2000 by omega) ⟨fbq h,{S with left:=fuel.toNat},[],Ao p f v⟩ _ .junk .junk .junk rfl s8
  subst hn'
  have s9:St h F J h3 (six h.n (mb5 h) 0 0 zR3 fuel r [eG (mb5 h) bb n'.fb (n'.S.left:Int) n'.below n'.top,dH bb gb wb ms n'.S.kept,br gb n'.S.G,bj wb n'.S.cells n'.S.log]):=s9
  have k0:=(s9.cell 0 rfl).1
  have k1:=(s9.cell 1 rfl).1
  have k2:=(s9.cell 2 rfl).1
  have k3:=(s9.cell 3 rfl).1
  have k4:=(s9.cell 4 rfl).1
  obtain⟨ar,sv,nv,g,mv⟩:=dA s9 6 rfl
  have s10:St h F J _ (six h.n (mb5 h) 0 0 zR3 fuel r _):=s9.set 3 rfl [zR3]
  have s11:St h F J _ (six h.n (mb5 h) 0 (fuel - (n'.S.left:Int)) zR3 fuel r _):=s10.set 2 rfl [[.int .i64 (fuel - (n'.S.left:Int))]]
  have s12:St h F J _ (six h.n (mb5 h) c (fuel - (n'.S.left:Int)) zR3 fuel r [eG (mb5 h) bb n'.fb (n'.S.left:Int) n'.below n'.top,dH bb gb wb ms n'.S.kept,br gb n'.S.G,bj wb n'.S.cells n'.S.log]):=s11.set 1 rfl [[.int .i64 c]]
  have hres:=wQ (V:=Vv bb h.n p f r fuel x1 y1 z1) rfl rfl rfl (s12.cell 3 rfl).1 rfl (s12.cell 2 rfl).1 (s12.cell 1 rfl).1
  refine⟨_,hQ _ ?_,Ag (nv:=18) (caps:=[9,14,10,11,12]) (js:=[6,11,7,8,9]) pok p5 uU hcf (by decide) rfl (by decide) GI (bQ lH) H9 D5 ((hl _ _).trans e3) Mb (.panic _ fun m w ps u hw hps hu=>EE hw hps hu k4 k0 mv.m k3 rfl k2 k1 (ne (by omega)) (ne (by omega)) (ne (by omega)) (w64 (by omega) (by omega))) tq hres,zR3,((h3.set (h.n+1+1) (some [zR3])).set (h.n+1+1+1) (some [[.int .i64 (fuel - (n'.S.left:Int))]])).set (h.n+1+1+1+1) (some [[.int .i64 c]]),rfl,?_,?_⟩
  ·rw[e3]
   simp only[DL,mv.m,zC]
   rw[hres]
   rfl
  ·simp only
   rw[if_neg hz];exact eE
  ·exact s12.drop.drop.drop.drop.drop.drop.drop
theorem Ar (hv:VaA v r) (hvs:v.size≤100000) (x:(aY [dH bb gb wb ms S.kept,br gb S.G,bj wb S.cells S.log]).A h F J) (h4:ms.length=4) (hg:qs ms) (hm:kz ms) (hS:S.Good) (hlog:S.log.length≤900000):C6 F J bb gb wb ms S h (od bb p f r fuel) (cO ms p f v fuel S):=by
 unfold cO
 by_cases h1:fuel<0∨2000<fuel∨p<0∨4≤p
 ·rw[if_pos h1]
  exact yx hv x h1
 rw[if_neg h1]
 by_cases h2:(ms.getD p.toNat none).isNone∨f<0∨((cI ms p).length:Int)≤f
 ·rw[if_pos h2]
  exact CC hv x h4 hS h1 h2
 rw[if_neg h2]
 by_cases h3:v.code=0
 ·rw[if_neg (fun e=>e h3)]
  exact FF hv hvs x h4 hg hm hS hlog h1 h2 h3
 ·rw[if_pos h3]
  have s1:St h F J (h5q h r fuel) (ej h.n 0 0 zR3 fuel r [dH bb gb wb ms S.kept,br gb S.G,bj wb S.cells S.log]):=ow (St.start x)
  have rS:=G6 (p:=p) (f:=f) s1 h4 hS h1 h2
  have rC:=CF (bb:=bb) (p:=p) (f:=f) s1 hv
  rw[if_neg h3]at rC
  have p1:=JY (bb:=bb) (p:=p) (f:=f) (fuel:=fuel) (h:=h) hv
  have p2:=p1.next (nv:=18) pok qL (bQ lH) xq qT rS
  refine⟨_,?_,(p2.next (nv:=18) pok D9 (bQ lH) HU Dl rC).ret uU tq (mf rfl rfl rfl (St.start x) v.code),rQ x v.code⟩
  unfold ER
  rw[nZ hv]
  simp only[wO]
  rw[rS]
  simp only
  rw[rC]
  simp only[zC]
  rw[mf rfl rfl rfl (St.start x) v.code]
  rfl
theorem Ld (hv:VaA v r) (hvs:v.size≤100000) (x:(aY [dH bb gb wb ms S.kept,br gb S.G,bj wb S.cells S.log]).A h F J) (h4:ms.length=4) (hg:qs ms) (hm:kz ms) (hS:S.Good) (hlog:S.log.length≤900000):
  ∃ h',(∃ r',aj Try.prog po fq (od bb p f r fuel) h=some (.inl (.tup [.agg r',.int .i64 (cO ms p f v fuel S).2.2.1,.int .i64 (cO ms p f v fuel S).2.2.2]),h')∧VaA (cO ms p f v fuel S).2.1 r')∧
    Did h F J h' (aY [dH bb gb wb ms (cO ms p f v fuel S).1.kept,br gb (cO ms p f v fuel S).1.G,bj wb (cO ms p f v fuel S).1.cells (cO ms p f v fuel S).1.log]):=by
 obtain⟨q,hq,ac,_⟩:=Ar (p:=p) (f:=f) (fuel:=fuel) hv hvs x h4 hg hm hS hlog
 have good:wK (od bb p f r fuel) h q:=by
  intro F2 J2 bb2 gb2 wb2 ms2 S2 p2 f2 fuel2 v2 r2 ea hv2 hvs2 h42 hg2 hm2 hS2 hl2 x2
  injection ea with e1 ea
  injection ea with e2 ea
  injection ea with e3 ea
  injection ea with e4 ea
  injection ea with e5 ea
  injection e1 with e1
  injection e2 with _ e2
  injection e3 with _ e3
  injection e4 with e4
  injection e5 with _ e5
  subst e1 e2 e3 e4 e5
  obtain⟨q2,hq2,_,r',h',p1,p2,p3⟩:=Ar (p:=p) (f:=f) (fuel:=fuel) hv2 hvs2 x2 h42 hg2 hm2 hS2 hl2
  rw[hq]at hq2
  injection hq2 with hq2
  exact⟨r',h',hq2.trans p1,p2,p3⟩
 have H:∃ q,AC Try.prog fq (od bb p f r fuel) h q∧wK (od bb p f r fuel) h q:=⟨q,ac,good⟩
 obtain⟨r',h',e,hv',d⟩:=(Classical.choose_spec H).2 F J bb gb wb ms S p f fuel v r rfl hv hvs h4 hg hm hS hlog x
 refine⟨h',⟨r',?_,hv'⟩,d⟩
 unfold aj
 rw[Lc]
 show ug _ _=_
 unfold ug
 rw[dif_pos H,e]
end
section
variable {h h' h0:AH} {F J F0 J0:Nat→Prop} {L A B:List Asn} {X Y Z:Asn}
theorem Hh (y:Y.A h F J):(dE (xE True) Y).A h F J:=⟨fun _=>False,fun _=>False,F,J,⟨trivial,fun _ h=>h,fun _ h=>h⟩,y,fun k=>by simp,fun j=>by simp,fun _ h=>h.elim,fun _ h=>h.elim⟩
theorem Id (x:(dE (xE True) Y).A h F J):Y.A h F J:=by
 obtain⟨F1,J1,F2,J2,⟨_,a,b⟩,y,hF,hJ,_,_⟩:=x
 have e1:F=F2:=by funext k;exact propext ⟨fun h=>((hF k).1 h).resolve_left (a k),fun h=>(hF k).2 (.inr h)⟩
 have e2:J=J2:=by funext k;exact propext ⟨fun h=>((hJ k).1 h).resolve_left (b k),fun h=>(hJ k).2 (.inr h)⟩
 rw[e1,e2];exact y
theorem aY.app:∀ {A B:List Asn} {h:AH} {F J:Nat→Prop},(aY (A++B)).A h F J↔(dE (aY A) (aY B)).A h F J
 | [],B,h,F,J=>⟨Hh,Id⟩
 | X::A,B,h,F,J=>⟨fun x=>qb (fv (fun _ _ _ y=>y) (fun _ _ _ y=>aY.app.1 y) x),fun x=>fv (fun _ _ _ y=>y) (fun _ _ _ y=>aY.app.2 y) (jp x)⟩
theorem St.callL {M M':List Asn} {R:AH→Prop} (s:St h0 F0 J0 h (A++M++B)) (c:∀ F J,(aY M).A h F J→∃ h',R h'∧Did h F J h' (aY M')):∃ h',R h'∧St h0 F0 J0 h' (A++M'++B):=by
 have p:∀ M:List Asn,List.Perm (A++M++B) (M++(A++B)):=fun M=>by
  have:=(List.perm_append_comm (l₁:=A) (l₂:=M)).append_right B
  simpa[List.append_assoc]using this
 obtain⟨F,J,x,ch,a,b⟩:=s
 have x2:=aY.app.1 (St.perm (p M) x)
 obtain⟨h',r,d⟩:=vi x2 c
 exact⟨h',r,Did.chain ch a b (d.imp fun _ _ _ y=>St.perm (p M').symm (aY.app.2 y))⟩
end
theorem qp:∀ {ms:aN} {kept:List VD} {ks:List (List AV)} {p:Nat} {M:List XD} {v:VD} {r:List AV},VaL kept ks→ms.length=kept.length→p<ms.length→VaA v r→
  ∃ ks',VaL (kept.set p v) ks'∧stA (dO ms ks) (p*5) (.bool true::eD M::r)=dO (ms.set p (some M)) ks'
 | [],kept,ks,p,_,_,_,_,_,hp,_=>by simp at hp
 | m::ms,[],ks,p,_,_,_,_,hl,_,_=>by simp at hl
 | m::ms,k::kept,ks,p,M,v,r,h,hl,hp,hv=>by
   obtain⟨r0,rs,rfl,h1,h2⟩:=h
   have h3:=h1.len3.1
   have h4:=hv.len3.1
   match r0,h3,r,h4 with
   | [a,b,c],_,[x,y,z],_=>
     cases p with
     | zero=>exact⟨[x,y,z]::rs,⟨_,_,rfl,hv,h2⟩,rfl⟩
     | succ p=>
       obtain⟨ks',q1,q2⟩:=qp (ms:=ms) (p:=p) (M:=M) h2 (by simpa using hl) (by simpa using hp) hv
       refine⟨[a,b,c]::ks',⟨_,_,rfl,h1,q1⟩,?_⟩
       have:(p+1)*5=p*5+5:=by omega
       rw[this]
       unfold stA at q2 ⊢
       simp only[dO,List.set_cons_succ,List.cons_append,List.nil_append,List.take_succ_cons,List.length_cons,List.length_nil]
       rw[show p*5+5+(0+1+1+1+1+1)=p*5+5+5 by omega]
       simp only[List.drop_succ_cons]
       rw[←q2]
       simp
section
variable {h h' h0:AH} {F J F0 J0:Nat→Prop} {L:List Asn}
theorem Hz {b gb wb:Nat} {ms:aN} {kept:List VD} (s:St h0 F0 J0 h L) (i:Nat) (hi:L[i]? =some (dH b gb wb ms kept)) (hl:ms.length=kept.length) {p:Nat} (hp:p<ms.length) {M:List XD} {v:VD} {r:List AV} (hv:VaA v r):
  ∃ h',aJ 5 h (.ptr b 0 (2+p*5)) (.agg (.bool true::eD M::r))=some h'∧St h0 F0 J0 h' (L.set i (dH b gb wb (ms.set p (some M)) (kept.set p v))):=by
 refine s.call (R:=fun h'=>aJ 5 h (.ptr b 0 (2+p*5)) (.agg (.bool true::eD M::r))=some h') i hi fun F J x=> ?_
 obtain⟨ks,hk,a1,a2,a3,a4⟩:=x
 obtain⟨ks',q1,q2⟩:=qp (M:=M) hk hl hp hv
 have hlen:=jl hk hl
 have ho:(AV.bool true::eD M::r).all AV.one=true:=by
  simp only[List.all_cons,(eI M).2.2,hv.len3.2,Bool.and_true];rfl
 refine⟨_,bp (es:=[kg gb wb ms ks]) (e:=kg gb wb ms ks) a4 rfl ho (by simp[AV.cells,hv.len3.1]) (by simp only[kg,List.length_cons,hlen];omega),F,J,⟨ks',q1,a1,a2,a3,?_⟩,⟨Nat.le_refl _,Nat.le_refl _,fun k _ hk'=>bc fun e=>hk' ((a1 k).2 e),fun _ _ _=>rfl⟩,fun _=> .inl,fun _=> .inl⟩
 rw[aO,List.set_cons_zero]
 have:stA (kg gb wb ms ks) (2+p*5) (.bool true::eD M::r)=kg gb wb (ms.set p (some M)) ks':=by
  unfold kg
  rw[←q2]
  unfold stA
  rw[show 2+p*5=p*5+1+1 by omega]
  simp only[List.take_succ_cons,List.cons_append]
  rw[show p*5+1+1+(AV.bool true::eD M::r).length=p*5+(AV.bool true::eD M::r).length+1+1 by omega]
  simp only[List.drop_succ_cons]
 simp only[AV.cells,this]
abbrev ms0:aN:=[none,none,none,none]
abbrev uh:List VD:=[au,au,au,au]
abbrev jt:List Int:=[0,0,0,0,0,0,0,0,0,0,0,0]
abbrev G0:ae:=⟨[],[]⟩
def L1 (l:Nat):StD:=⟨G0,jt,[],uh,l⟩
theorem FM (l:Nat):(L1 l).Good:=⟨I5,rfl,rfl,fun v hv=>by
 have:v=au:=by simpa[L1]using hv
 rw[this];exact dY⟩
theorem ED:(br h.n G0).A (h.push [[.nils,.nils]]) (fun k=>k=h.n) (fun _=>False):=LK h
theorem Es {b:Nat} (hb:b=h.n):(bj b jt []).A (h.push [jt.map (AV.int .i64)++[AV.nils]]) (fun k=>k=b) (fun _=>False):=by
 subst hb
 exact⟨.nils,fun k=>k=h.n,fun _=>False,fun _=>False,fun _=>False,⟨fun _=>Iff.rfl,fun _ h=>h,Nat.lt_succ_self _,aC⟩,.inl ⟨⟨rfl,rfl⟩,fun _ h=>h,fun _ h=>h⟩,fun k=>by simp,fun j=>by simp,fun _ _ h=>h,fun _ h=>h.elim⟩
theorem Kz {b gb wb:Nat} (hb:b=h.n):(dH b gb wb ms0 uh).A (h.push [kg gb wb ms0 [zR3,zR3,zR3,zR3]]) (fun k=>k=b) (fun _=>False):=by
 subst hb
 exact⟨[zR3,zR3,zR3,zR3],⟨_,_,rfl,eE,_,_,rfl,eE,_,_,rfl,eE,_,_,rfl,eE,rfl⟩,fun _=>Iff.rfl,fun _ h=>h,Nat.lt_succ_self _,aC⟩
theorem Ib (s:St h0 F0 J0 h L):∃ h' bb gb wb,aj Try.prog po 39 [] h=some (.inl (.ptr bb 0 0),h')∧St h0 F0 J0 h' (dH bb gb wb ms0 uh::br gb G0::bj wb jt []::L):=by
 have s1:St h0 F0 J0 _ (br h.n G0::L):=s.add (af.push h _) ED (fun k hk=>Nat.le_of_eq hk.symm) (fun _ h=>h.elim)
 have s2:St h0 F0 J0 _ (bj (h.n+1) jt []::br h.n G0::L):=s1.add (X:=bj (h.n+1) jt []) (h':=(h.push [[.nils,.nils]]).push [jt.map (AV.int .i64)++[AV.nils]]) (F1:=fun k=>k=h.n+1) (J1:=fun _=>False) (af.push _ _) (Es (h:=h.push [[.nils,.nils]]) rfl) (fun k hk=>Nat.le_of_eq hk.symm) (fun _ h=>h.elim)
 have s3:St h0 F0 J0 _ (dH (h.n+1+1) h.n (h.n+1) ms0 uh::bj (h.n+1) jt []::br h.n G0::L):=s2.add (X:=dH (h.n+1+1) h.n (h.n+1) ms0 uh) (h':=((h.push [[.nils,.nils]]).push [jt.map (AV.int .i64)++[AV.nils]]).push [kg h.n (h.n+1) ms0 [zR3,zR3,zR3,zR3]]) (F1:=fun k=>k=h.n+1+1) (J1:=fun _=>False) (af.push _ _) (Kz (h:=(h.push [[.nils,.nils]]).push [jt.map (AV.int .i64)++[AV.nils]]) rfl) (fun k hk=>Nat.le_of_eq hk.symm) (fun _ h=>h.elim)
 have s4:=s3.imp fun _ _ _ x=>St.perm (List.Perm.cons _ (List.Perm.swap _ _ _)) x
 obtain⟨h1,e1,rfl⟩:=PE (h:=h)
 have e2:aj Try.prog po 69 [] (h.push [[.nils,.nils]])=some (.inl (.ptr (h.n+1) 0 0),(h.push [[.nils,.nils]]).push [jt.map (AV.int .i64)++[AV.nils]]):=by
  refine ah Kx rfl ?_;unfold C9
  simp only[sim,ag,reduceAdd,reduceSub,replicate,reduceCtorEq,reduceLeDiff,reduceLT,aa]
 refine⟨_,h.n+1+1,h.n,h.n+1,?_,s4⟩
 refine ah If rfl ?_;unfold yC
 simp only[sim,ag,reduceAdd,reduceSub,replicate,reduceCtorEq,reduceLeDiff,reduceLT,aa,az,e1,e2]
 rfl
variable {gb nb i j:Nat} {G H:ae}
theorem Fx {X:Asn} (hi:L[i]? =some X):L.set i X=L:=by
 have hl:i<L.length:=(List.getElem?_eq_some_iff.1 hi).1
 have:X=L[i]:=by have:=(List.getElem?_eq_some_iff.1 hi).2;exact this.symm
 rw[this];exact List.set_getElem_self hl
end
theorem td:(Try.prog).underlying 3=some (.int .i64):=by kernel_rfl
theorem Lt {ms:aN} {S:StD} (hS:S.Good) {p f fuel:Int} {v:VD}:(cO ms p f v fuel S).1.Good∧(cO ms p f v fuel S).1.log.length≤S.log.length+2000∧((cO ms p f v fuel S).2.2.2=0→(cO ms p f v fuel S).2.1.code=0)∧(cO ms p f v fuel S).2.1.size≤100000:=by
 unfold cO
 have z:au.size≤100000:=by decide
 split
 ·exact⟨hS,by simp only;omega,fun h=>by simp at h,z⟩
 ·split
  ·exact⟨hS,by simp only;omega,fun h=>by simp at h,z⟩
  ·split
   ·rename_i h1;exact⟨hS,by simp only;omega,fun h=>absurd h h1,z⟩
   ·rename_i h1 h2 h3
    have hS0:({S with left:=fuel.toNat}:StD).Good:=⟨hS.wf,hS.cells,hS.kept,hS.keptV⟩
    have hox:=ie ms fuel.toNat p (cX ms p f) v [] 1 _ hS0 (by simpa using h3) (by simp)
    generalize ofD ms fuel.toNat p (cX ms p f) v [] 1 {S with left:=fuel.toNat}=q at hox
    obtain⟨S',w,c⟩:=q
    have g:=hox.1.good
    have m:=hox.1.mu
    unfold StD.mu at m
    simp only at g m ⊢
    refine⟨⟨g.wf,g.cells,g.kept,g.keptV⟩,by omega,fun hc=> ?_,?_⟩
    ·rw[if_pos hc];exact hox.1.val hc
    ·by_cases hc:c=0
     ·rw[if_pos hc]
      have:=(fJ (hox.1.val hc)).1
      simp only at this
      omega
     ·rw[if_neg hc];exact z
def mT (ms:aN):Prop:=∀ M,some M∈ms→(be M).1=0
theorem mT.fun {ms:aN} (h:mT ms) {p:Int}:∀ x∈cI ms p,x.fault (cI ms p).length 0=0∧x.size≤120:=by
 intro x hx
 unfold cI at hx ⊢
 cases hm:ms.getD p.toNat none with
 | none=>rw[hm]at hx;simp at hx
 | some M=>
   rw[hm]at hx
   have hin:some M∈ms:=by
    rw[List.getD]at hm
    cases hg:ms[p.toNat]? with
    | none=>rw[hg]at hm;simp at hm
    | some o=>
      rw[hg]at hm
      simp only[Option.getD_some]at hm
      subst hm
      exact List.mem_of_getElem? hg
   exact(tT (h M hin)).2.2 x hx
theorem mT.good {ms:aN} (h:mT ms):qs ms:=fun _ x hx=>(h.fun x hx).1
theorem mT.sized {ms:aN} (h:mT ms):kz ms:=fun p f=>by
 unfold d7
 have h1:=ff _ (cX ms p f) (Nat.le_refl _) 0
 have h2:(cX ms p f).size≤120:=by
  unfold cX
  by_cases hk:f.toNat<(cI ms p).length
  ·have e:(cI ms p).getD f.toNat cB=(cI ms p)[f.toNat]:=by simp[List.getD,hk]
   rw[e]
   exact(h.fun _ (List.getElem_mem hk)).2
  ·have e:(cI ms p).getD f.toNat cB=cB:=by simp[List.getD,List.getElem?_eq_none (Nat.le_of_not_lt hk)]
   rw[e]
   decide
 simp only[List.length_append,List.length_singleton]
 omega
section
variable {h:AH}
theorem St.grewA {h':AH} {L:List Asn} (s:St h (fun _=>False) (fun _=>False) h' L):af h h':=by
 obtain⟨_,_,_,c,_⟩:=s
 exact⟨c.n,c.ids,fun k hk=>c.cell k hk (fun h=>h),fun j hj=>c.hw j hj (fun h=>h)⟩
end
structure cG where
 (kind p q k h r g n:Int)
 m:List XD
structure EvD where
 (code fuel:Int)
 v:VD
structure HoD where
 ms:aN
 S:StD
 hands:List (List VD)
def EvD.no (c:Int):EvD:=⟨c,0,au⟩
def EvD.ok (v:VD):EvD:=⟨0,0,v⟩
def inP (p:Int):Bool:=decide (0≤p) && decide (p<4)
theorem dB {p:Int}:inP p=true↔0≤p∧p<4:=by simp[inP]
def HoD.hand (H:HoD) (p:Int):List VD:=H.hands.getD p.toNat []
def HoD.load (H:HoD) (p:Int) (m:List XD):HoD×Int:=
 if inP p=false then(H,1)
 else if(be m).1≠0 then(H,(be m).1)
 else({H with ms:=H.ms.set p.toNat (some m),S:={H.S with kept:=H.S.kept.set p.toNat au}},0)
def HoD.graph (H:HoD) (G:ae):HoD:={H with S:={H.S with G:=G}}
def HoD.give (H:HoD) (p n c:Int):HoD×EvD:=
 if c≠0 then(H,.no c)else({H with hands:=H.hands.set p.toNat (H.hand p++[fA n])},.ok (fA n))
def HoD.call (H:HoD) (x:cG):HoD×EvD:=
 if 0≤x.h∧(inP x.p=false∨((H.hand x.p).length:Int)≤x.h)then(H,.no 8)
 else match cO H.ms x.p x.k (if 0≤x.h then(H.hand x.p).getD x.h.toNat au else iH x.n) 2000 H.S with
  | (S',v,n,c)=>({H with S:=S'},⟨c,n,v⟩)
def HoD.step (H:HoD) (x:cG):HoD×EvD:=
 if x.kind=1 then((H.load x.p x.m).1,.no (H.load x.p x.m).2)
 else if x.kind=2∨x.kind=3 then
  (if inP x.p=false then(H,.no 1)
  else if x.kind=2 then(H.graph (H.S.G.cellC x.k x.r x.g).1).give x.p (H.S.G.cellC x.k x.r x.g).2.1 (H.S.G.cellC x.k x.r x.g).2.2
  else(H.graph (H.S.G.funcC x.q x.k x.r x.g).1).give x.p (H.S.G.funcC x.q x.k x.r x.g).2.1 (H.S.G.funcC x.q x.k x.r x.g).2.2)
 else if x.kind=4 then H.call x
 else if x.kind=5 then(H.graph (H.S.G.cut x.g).1,.no (H.S.G.cut x.g).2)
 else if x.kind=6 then(H.graph H.S.G.gate.1,if H.S.G.gate.2.2≠0 then .no H.S.G.gate.2.2 else .ok (iH H.S.G.gate.2.1))
 else(H,.no 2)
def ho0:HoD:=⟨ms0,L1 0,[[],[],[],[]]⟩
structure HoD.Good (H:HoD):Prop where
 ms:H.ms.length=4
 ok:mT H.ms
 st:H.S.Good
 hands:H.hands.length=4
 cap:∀ l∈H.hands,∀ v∈l,∃ n:Int,v=fA n∧0≤n
theorem yi:ho0.Good:=⟨rfl,fun M hM=>by simp[ho0]at hM,FM 0,rfl,fun l hl v hv=>by
 have:l=[]:=by simpa[ho0]using hl
 rw[this]at hv
 cases hv⟩
theorem mT.set {ms:aN} (h:mT ms) {p:Nat} {M:List XD} (hz:(be M).1=0):mT (ms.set p (some M)):=by
 intro N hN
 rcases List.mem_or_eq_of_mem_set hN with h1 | h1
 ·exact h N h1
 ·injection h1 with h1
  rw[h1];exact hz
theorem StD.Good.keep {S:StD} (h:S.Good) {p:Nat} {v:VD} (hv:v.code=0):({S with kept:=S.kept.set p v}:StD).Good:=
 ⟨h.wf,h.cells,by simpa using h.kept,fun w hw=>by
  rcases List.mem_or_eq_of_mem_set hw with h1 | h1
  ·exact h.keptV w h1
  ·rw[h1];exact hv⟩
theorem HoD.Good.hand {H:HoD} (g:H.Good) {p:Int}:∀ v∈H.hand p,∃ n:Int,v=fA n∧0≤n:=by
 intro v hv
 unfold HoD.hand at hv
 by_cases hp:p.toNat<H.hands.length
 ·rw[List.getD,List.getElem?_eq_getElem hp]at hv
  exact g.cap _ (List.getElem_mem hp) v hv
 ·rw[List.getD,List.getElem?_eq_none (by omega)]at hv
  cases hv
theorem HoD.Good.graph {H:HoD} (g:H.Good) {G:ae} (hG:G.Wf):(H.graph G).Good:=⟨g.ms,g.ok,⟨hG,g.st.cells,g.st.kept,g.st.keptV⟩,g.hands,g.cap⟩
theorem HoD.Good.give {H:HoD} (g:H.Good) {p n c:Int} (hn:0≤n):(H.give p n c).1.Good:=by
 unfold HoD.give
 split
 ·exact g
 ·refine⟨g.ms,g.ok,g.st,by simpa using g.hands,fun l hl v hv=> ?_⟩
  rcases List.mem_or_eq_of_mem_set hl with h1 | h1
  ·exact g.cap l h1 v hv
  ·rw[h1]at hv
   rcases List.mem_append.1 hv with h2 | h2
   ·exact g.hand v h2
   ·exact⟨n,by simpa using h2,hn⟩
theorem wy {G:ae} {n:aX}:0≤(G.add n).2.1:=by
 unfold ae.add
 split
 ·exact Int.le_refl _
 ·split
  ·exact Int.le_refl _
  ·split
   ·exact Int.le_refl _
   ·exact Int.natCast_nonneg _
theorem FZ {G:ae} {c r g:Int}:0≤(G.cellC c r g).2.1:=by
 unfold ae.cellC
 split
 ·exact wy
 ·exact Int.le_refl _
theorem FQ {G:ae} {p f r g:Int}:0≤(G.funcC p f r g).2.1:=by
 unfold ae.funcC
 split
 ·exact wy
 ·exact Int.le_refl _
theorem vI (n:Int):(fA n).size≤100000:=by simp[fA,VD.size,bE]
theorem vj (n:Int):(iH n).size≤100000:=by simp[iH,VD.size,bE]
theorem HoD.Good.arg {H:HoD} (g:H.Good) (x:cG):(if 0≤x.h then(H.hand x.p).getD x.h.toNat au else iH x.n).code=0∧(if 0≤x.h then(H.hand x.p).getD x.h.toNat au else iH x.n).size≤100000:=by
 split
 ·by_cases hi:x.h.toNat<(H.hand x.p).length
  ·have e:(H.hand x.p).getD x.h.toNat au=(H.hand x.p)[x.h.toNat]:=by simp[List.getD,hi]
   rw[e]
   obtain⟨n,h1,h2⟩:=g.hand _ (List.getElem_mem hi)
   rw[h1]
   exact⟨oM h2,vI n⟩
  ·have e:(H.hand x.p).getD x.h.toNat au=au:=by simp[List.getD,List.getElem?_eq_none (Nat.le_of_not_lt hi)]
   rw[e]
   exact⟨dY,by decide⟩
 ·exact⟨kh _,vj _⟩
structure xw (H:HoD) (q:HoD×EvD):Prop where
 good:q.1.Good
 log:q.1.S.log.length≤H.S.log.length+2000
 val:q.2.code=0→q.2.v.code=0
 size:q.2.v.size≤100000
 hand:∀ l∈q.1.hands,l.length≤1000∨∃ l'∈H.hands,l.length≤l'.length+1
theorem iC (c:Int):(EvD.no c).v.size≤100000:=(by decide:au.size≤100000)
theorem xw.same {H H':HoD} {e:EvD} (g:H'.Good) (hl:H'.S.log=H.S.log) (hh:H'.hands=H.hands) (h1:e.code=0→e.v.code=0) (h2:e.v.size≤100000):xw H (H',e):=
 ⟨g,by rw[hl];exact Nat.le_add_right _ _,h1,h2,fun l hm=> .inr ⟨l,by rw[←hh];exact hm,Nat.le_succ _⟩⟩
theorem D3 {H H':HoD} (g:H'.Good) (hl:H'.S.log=H.S.log) (hh:H'.hands=H.hands) {p n c:Int} (hn:0≤n):xw H (H'.give p n c):=by
 refine⟨g.give hn,?_,?_,?_,?_⟩
 ·unfold HoD.give
  split
  ·rw[hl];exact Nat.le_add_right _ _
  ·show H'.S.log.length≤_
   rw[hl];exact Nat.le_add_right _ _
 ·unfold HoD.give
  split
  ·rename_i h;exact fun h'=>absurd h' h
  ·exact fun _=>oM hn
 ·unfold HoD.give
  split
  ·exact iC _
  ·exact vI _
 ·unfold HoD.give
  split
  ·exact fun l hm=> .inr ⟨l,by rw[←hh];exact hm,Nat.le_succ _⟩
  ·intro l hm
   rcases List.mem_or_eq_of_mem_set hm with h1 | h1
   ·exact .inr ⟨l,by rw[←hh];exact h1,Nat.le_succ _⟩
   ·unfold HoD.hand at h1
    by_cases hp:p.toNat<H'.hands.length
    ·rw[List.getD,List.getElem?_eq_getElem hp,Option.getD_some]at h1
     exact .inr ⟨H'.hands[p.toNat],by rw[←hh];exact List.getElem_mem hp,by rw[h1];simp⟩
    ·rw[List.getD,List.getElem?_eq_none (by omega),Option.getD_none]at h1
     exact .inl (by rw[h1];simp)
theorem HoD.Good.step {H:HoD} (g:H.Good) (x:cG):xw H (H.step x):=by
 unfold HoD.step
 by_cases k1:x.kind=1
 ·rw[if_pos k1]
  unfold HoD.load
  by_cases h1:inP x.p=false
  ·rw[if_pos h1]
   exact .same g rfl rfl (fun h=>absurd h (by simp[EvD.no])) (iC _)
  ·rw[if_neg h1]
   by_cases h2:(be x.m).1≠0
   ·rw[if_pos h2]
    exact .same g rfl rfl (fun h=>absurd h h2) (iC _)
   ·rw[if_neg h2]
    exact .same ⟨by simpa using g.ms,g.ok.set (Classical.not_not.1 h2),g.st.keep dY,g.hands,g.cap⟩ rfl rfl (fun _=>dY) (iC _)
 rw[if_neg k1]
 by_cases k2:x.kind=2∨x.kind=3
 ·rw[if_pos k2]
  by_cases h1:inP x.p=false
  ·rw[if_pos h1]
   exact .same g rfl rfl (fun h=>absurd h (by simp[EvD.no])) (iC _)
  ·rw[if_neg h1]
   split
   ·exact D3 (H:=H) (H':=H.graph (H.S.G.cellC x.k x.r x.g).1) (g.graph (g.st.wf.cellC _ _ _)) rfl rfl FZ
   ·exact D3 (H:=H) (H':=H.graph (H.S.G.funcC x.q x.k x.r x.g).1) (g.graph (g.st.wf.funcC _ _ _ _)) rfl rfl FQ
 rw[if_neg k2]
 by_cases k4:x.kind=4
 ·rw[if_pos k4]
  unfold HoD.call
  by_cases h1:0≤x.h∧(inP x.p=false∨((H.hand x.p).length:Int)≤x.h)
  ·rw[if_pos h1]
   exact .same g rfl rfl (fun h=>absurd h (by simp[EvD.no])) (iC _)
  ·rw[if_neg h1]
   have:=Lt (ms:=H.ms) (p:=x.p) (f:=x.k) (fuel:=2000) (v:=if 0≤x.h then(H.hand x.p).getD x.h.toNat au else iH x.n) g.st
   generalize cO H.ms x.p x.k (if 0≤x.h then(H.hand x.p).getD x.h.toNat au else iH x.n) 2000 H.S=q at this
   obtain⟨S',v,n,c⟩:=q
   obtain⟨h2,h3,h4,h5⟩:=this
   exact⟨⟨g.ms,g.ok,h2,g.hands,g.cap⟩,h3,h4,h5,fun l hm=> .inr ⟨l,hm,Nat.le_succ _⟩⟩
 rw[if_neg k4]
 by_cases k5:x.kind=5
 ·rw[if_pos k5]
  exact .same (g.graph (g.st.wf.cut _)) rfl rfl (fun _=>dY) (iC _)
 rw[if_neg k5]
 by_cases k6:x.kind=6
 ·rw[if_pos k6]
  refine .same (g.graph g.st.wf.gate) rfl rfl ?_ ?_
  ·split
   ·rename_i h;exact fun h'=>absurd h' h
   ·exact fun _=>kh _
  ·split
   ·exact iC _
   ·exact vj _
 ·rw[if_neg k6]
  exact .same g rfl rfl (fun h=>absurd h (by simp[EvD.no])) (iC _)
theorem EF {H:HoD} {x:cG} (hx:x.kind=1):H.step x=((H.load x.p x.m).1,.no (H.load x.p x.m).2):=by
 unfold HoD.step
 rw[if_pos hx]
theorem lj {G:ae} {n:aX} (h:(G.add n).2.2≠0):(G.add n).1=G:=by
 unfold ae.add at h ⊢
 split
 ·rfl
 ·split
  ·rfl
  ·split
   ·rfl
   ·rename_i h1 h2 h3
    rw[if_neg h1,if_neg h2,if_neg h3]at h
    exact absurd rfl h
theorem ur {G:ae} {c r g:Int} (h:(G.cellC c r g).2.2≠0):(G.cellC c r g).1=G:=by
 unfold ae.cellC at h ⊢
 split
 ·rename_i h1
  rw[if_pos h1]at h
  exact lj h
 ·rfl
theorem ut {G:ae} {p f r g:Int} (h:(G.funcC p f r g).2.2≠0):(G.funcC p f r g).1=G:=by
 unfold ae.funcC at h ⊢
 split
 ·rename_i h1
  rw[if_pos h1]at h
  exact lj h
 ·rfl
theorem EQ {G:ae} {n r g:Int} (h:(G.derive n r g).2.2≠0):(G.derive n r g).1=G:=by
 unfold ae.derive at h ⊢
 split
 ·rename_i h1
  rw[if_pos h1]at h
  exact lj h
 ·rfl
section
variable {p0:Int} {z:Bool}
theorem I6 (k:Nat):ew 0 k=false:=by simp[ew];decide
theorem Ht {H:HoD} {p q:Int} (hp:inP p=true) (hq:0≤q) {l:List VD} {v:VD} (h:v∈(H.hands.set p.toNat l).getD q.toNat []):v∈H.hand q∨p=q∧v∈l:=by
 obtain⟨p1,p2⟩:=dB.1 hp
 by_cases e:p.toNat=q.toNat
 ·have e2:p=q:=by omega
  rw[List.getD,List.getElem?_set,if_pos e]at h
  split at h
  ·exact .inr ⟨e2,h⟩
  ·cases h
 ·rw[List.getD,List.getElem?_set_ne e]at h
  exact .inl h
theorem Jy {G:ae} {nd:aX} (hW:G.Wf) (hz:(G.add nd).2.2=0) (hW':(G.add nd).1.Wf) (hp:nd.parent= -1):(G.add nd).1.has (G.add nd).2.1=true∧(G.add nd).1.path (G.add nd).2.1=[nd]∧G.Later (G.add nd).1∧(G.add nd).1.nodes=G.nodes++[nd]:=by
 obtain⟨e,_⟩:=wA hz
 have hl:G.Later (G.add nd).1:=by
  obtain⟨⟨ext,h1,_⟩,h2⟩:=vY G nd
  exact⟨⟨ext,h1⟩,by rw[h2];exact⟨Nat.le_refl _,fun _=>id⟩⟩
 have h1:=wW (G:=G) (nd:=nd)
 rw[e]at hl hW' ⊢
 refine⟨h1.1,?_,hl,rfl⟩
 rw[ae.path_yes hW' h1.1,h1.2,hp,ae.path_no (by simp[ae.has])]
theorem Fj {G:ae} {k r g:Int} (hz:(G.cellC k r g).2.2=0):gn k=true∧G.cellC k r g=G.add ⟨-1,g,r,k, -1,0⟩:=by
 unfold ae.cellC at hz ⊢
 split
 ·rename_i h;exact⟨h,rfl⟩
 ·rename_i h;rw[if_neg h]at hz;exact absurd hz (by simp)
theorem pq {G:ae} {q k r g:Int} (hz:(G.funcC q k r g).2.2=0):lJ q k=true∧G.funcC q k r g=G.add ⟨-1,g,r,0,q,k⟩:=by
 unfold ae.funcC at hz ⊢
 split
 ·rename_i h;exact⟨h,rfl⟩
 ·rename_i h;rw[if_neg h]at hz;exact absurd hz (by simp)
end
def CX:List RS:=[(.ops [(.i (.v 0) (.mv (.c .nilp)))]),(.ops [(.i .l (.call (.c (.fn 39 [] [])) [])),(.i .l (.build [.nilp,.nils,.nils,.nils,.nils] [(0,1),(1,4)] [(0,(.l 0))])),(.i .l (.box 5 (.l 0))),(.i (.v 0) (.mv (.l 0)))]),.ret]
theorem LU:FnR Try.prog po 22 0 1 [0] CX [(.v 0)] false:=⟨_,_,Try.func22,rfl,rfl,by kernel_rfl,by kernel_rfl,by kernel_rfl,by kernel_rfl,by kernel_rfl⟩
def rf:List RS:=[(.ops [(.i (.v 1) (.mv (.c (.bool false))))]),(.ops [(.i .l (.mv (.v 0))),(.i .l (.bin (.int .i64) .geq (.l 0) (.c (.int .i64 0)))),(.i .l (.mv (.l 0))),(.g (.l 0) true .l (.mv (.v 0))),(.g (.l 1) true .l (.bin (.int .i64) .lss (.l 0) (.c (.int .i64 4)))),(.i .l (.pick (.l 2) (.l 0) (.c (.bool false)))),(.i (.v 1) (.mv (.l 0)))]),.ret]
theorem Bk:FnR Try.prog po 52 1 2 [0,2] rf [(.v 1)] true:=⟨_,_,Try.func52,rfl,rfl,by kernel_rfl,by kernel_rfl,by kernel_rfl,by kernel_rfl,by kernel_rfl⟩
def oT:List RS:=[(.ops [(.i (.v 3) (.box 1 (.v 2))),(.i (.v 4) (.mv (.c (.int .i64 0))))]),(.ops [(.i .l (.mv (.v 1))),(.i .l (.call (.c (.fn 52 [] [])) [(.l 0)])),(.i (.v 7) (.un .not (.l 0)))]),(.cond (.v 7) [(.ops [(.i (.v 4) (.mv (.c (.int .i64 1))))]),.ret] []),(.ops [(.i .l (.load true 1 (.v 3))),(.i .l (.call (.c (.fn 40 [] [])) [(.l 0)])),(.i .l (.mv (.l 0))),(.i .l (.ext (.l 0) 0)),(.i .l (.ext (.l 1) 1)),(.i (.v 6) (.alloc [(.int .i64 0),(.int .i64 0)])),(.i (.v 5) (.mv (.l 1))),(.i .n (.store 2 (.v 6) (.l 0)))]),(.ops [(.i .l (.fad 0 (.v 6))),(.i .l (.load false 1 (.l 0))),(.i (.v 8) (.bin (.int .i64) .neq (.l 0) (.c (.int .i64 0))))]),(.cond (.v 8) [(.ops [(.i .l (.fad 0 (.v 6))),(.i .l (.load false 1 (.l 0))),(.i (.v 4) (.mv (.l 0)))]),.ret] []),(.ops [(.i .l (.mv (.v 0))),(.i .l (.nilc (.l 0))),(.i .l (.fad 0 (.l 0))),(.i .l (.load false 1 (.l 0))),(.i .l (.mv (.v 1))),(.i .l (.mv (.v 5))),(.i .l (.build [(.bool false),.nils,(.int .i64 0),(.int .i64 0),.nils] [(0,1),(1,1),(2,3)] [(0,(.c (.bool true))),(1,(.l 0))])),(.i .l (.nilc (.l 3))),(.i .l (.fad 2 (.l 0))),(.i .l (.ixa none (some (4,5)) (.l 0) (.l 4))),(.i .n (.store 5 (.l 0) (.l 3)))]),(.ops [(.i (.v 4) (.mv (.c (.int .i64 0))))]),.ret]
theorem sE:FnR Try.prog po 51 3 9 [0,1,2,5,6,7,8,11,19] oT [(.v 4)] false:=⟨_,_,Try.func51,rfl,rfl,by kernel_rfl,by kernel_rfl,by kernel_rfl,by kernel_rfl,by kernel_rfl⟩
def tv:List RS:=[(.ops [(.i (.v 4) (.alloc [(.int .i64 0),(.int .i64 0),(.int .i64 0),(.int .i64 0),.nils]))]),(.ops [(.i .l (.mv (.v 3))),(.i (.v 6) (.bin (.int .i64) .neq (.l 0) (.c (.int .i64 0))))]),(.cond (.v 6) [(.ops [(.i .l (.mv (.v 3))),(.i .l (.build [(.int .i64 0),(.int .i64 0),(.int .i64 0),(.int .i64 0),.nils] [(0,1),(1,1),(2,3)] [(0,(.l 0))])),(.i .n (.store 5 (.v 4) (.l 0)))]),.ret] []),(.ops [(.i .l (.mv (.v 2))),(.i .l (.build [(.int .i64 0),(.int .i64 0),.nils] [(0,1),(1,1),(2,1)] [(0,(.c (.int .i64 4))),(1,(.l 0))])),(.i (.v 5) (.alloc [(.int .i64 0),(.int .i64 0),.nils])),(.i .n (.store 3 (.v 5) (.l 0)))]),(.ops [(.i .l (.mv (.v 0))),(.i .l (.mv (.v 1))),(.i .l (.nilc (.l 1))),(.i .l (.fad 1 (.l 0))),(.i .l (.ixa none (some (4,1)) (.l 0) (.l 2))),(.i .l (.load false 1 (.l 0))),(.i .l (.load true 3 (.v 5))),(.i .l (.len false (some 29) (.l 1))),(.i .l (.nilc (.l 7))),(.i .l (.fad 1 (.l 0))),(.i .l (.bsl true 29 [(.int .i64 0),(.int .i64 0),.nils] 3 1 [(0,(.c (.agg [(.int .i64 0),(.int .i64 0),.nils])))])),(.ck [⟨none,false,1,(.l 6),(.l 5)⟩,⟨none,true,3,(.v 5),(.l 4)⟩]),(.i .l (.app true 29 (.l 5) (.l 0))),(.i .l (.ixa (some 29) none (.l 0) (.l 4))),(.i .l (.ixa none (some (4,1)) (.l 3) (.l 11))),(.i .n (.store 3 (.l 1) (.l 7))),(.i .n (.store 1 (.l 0) (.l 2))),(.ck [⟨none,true,3,(.l 1),(.l 7)⟩])]),(.ops [(.i .l (.load true 3 (.v 5))),(.i .l (.build [(.int .i64 0),(.int .i64 0),(.int .i64 0),(.int .i64 0),.nils] [(0,1),(1,1),(2,3)] [(2,(.l 0))])),(.i .n (.store 5 (.v 4) (.l 0)))]),.ret]
theorem AK:FnR Try.prog po 54 4 7 [0,1,2,3,8,9,11] tv [(.cell true 5 4)] false:=⟨_,_,Try.func54,rfl,rfl,by kernel_rfl,by kernel_rfl,by kernel_rfl,by kernel_rfl,by kernel_rfl⟩
def md:List RS:=[(.ops [(.i (.v 2) (.box 9 (.v 1))),(.i (.v 3) (.alloc [(.int .i64 0),(.int .i64 0),(.int .i64 0),(.int .i64 0),.nils]))]),(.ops [(.i .l (.fad 7 (.v 2))),(.i .l (.load false 1 (.l 0))),(.i .l (.build [(.int .i64 0),(.int .i64 0),.nils] [(0,1),(1,1),(2,1)] [(0,(.c (.int .i64 1))),(1,(.l 0))])),(.i (.v 4) (.alloc [(.int .i64 0),(.int .i64 0),.nils])),(.i .n (.store 3 (.v 4) (.l 0)))]),(.ops [(.i .l (.fad 4 (.v 2))),(.i .l (.load false 1 (.l 0))),(.i (.v 8) (.bin (.int .i64) .geq (.l 0) (.c (.int .i64 0))))]),(.cond (.v 8) [(.ops [(.i .l (.fad 1 (.v 2))),(.i .l (.load false 1 (.l 0))),(.i .l (.call (.c (.fn 52 [] [])) [(.l 0)])),(.i .l (.un .not (.l 0))),(.i .l (.mv (.l 0))),(.g (.l 0) false .l (.fad 4 (.v 2))),(.g (.l 1) false .l (.load false 1 (.l 0))),(.g (.l 2) false .l (.mv (.v 0))),(.g (.l 3) false .l (.fad 1 (.v 2))),(.g (.l 4) false .l (.load false 1 (.l 0))),(.g (.l 5) false .l (.nilc (.l 2))),(.g (.l 6) false .l (.fad 1 (.l 0))),(.g (.l 7) false .l (.ixa none (some (4,1)) (.l 0) (.l 2))),(.g (.l 8) false .l (.load false 1 (.l 0))),(.g (.l 9) false .l (.len false (some 29) (.l 0))),(.g (.l 10) false .l (.bin (.int .i64) .geq (.l 8) (.l 0))),(.i (.v 9) (.pick (.l 11) (.c (.bool true)) (.l 0)))]),(.cond (.v 9) [(.ops [(.i .l (.build [(.int .i64 0),(.int .i64 0),(.int .i64 0),(.int .i64 0),.nils] [(0,1),(1,1),(2,3)] [(0,(.c (.int .i64 8)))])),(.i .n (.store 5 (.v 3) (.l 0)))]),.ret] []),(.ops [(.i .l (.mv (.v 0))),(.i .l (.fad 1 (.v 2))),(.i .l (.load false 1 (.l 0))),(.i .l (.nilc (.l 2))),(.i .l (.fad 1 (.l 0))),(.i .l (.ixa none (some (4,1)) (.l 0) (.l 2))),(.i .l (.load false 1 (.l 0))),(.i .l (.fad 4 (.v 2))),(.i .l (.load false 1 (.l 0))),(.i .l (.ixa (some 29) none (.l 2) (.l 0))),(.i .l (.load true 3 (.l 0))),(.i .n (.store 3 (.v 4) (.l 0)))])] []),(.ops [(.i .l (.mv (.v 0))),(.i .l (.nilc (.l 0))),(.i .l (.fad 0 (.l 0))),(.i .l (.load false 1 (.l 0))),(.i .l (.fad 1 (.v 2))),(.i .l (.load false 1 (.l 0))),(.i .l (.fad 3 (.v 2))),(.i .l (.load false 1 (.l 0))),(.i .l (.load true 3 (.v 4))),(.i .l (.call (.c (.fn 17 [] [])) [(.l 5),(.l 3),(.l 1),(.l 0),(.c (.int .i64 2000))])),(.i .l (.mv (.l 0))),(.i .l (.ext (.l 0) 0)),(.i .l (.ext (.l 1) 1)),(.i .l (.ext (.l 2) 2)),(.i (.v 5) (.alloc [(.int .i64 0),(.int .i64 0),.nils])),(.ck [⟨none,false,1,(.l 11),(.l 10)⟩,⟨none,false,1,(.l 9),(.l 8)⟩,⟨none,false,1,(.l 7),(.l 6)⟩,⟨none,true,3,(.v 4),(.l 5)⟩]),(.i .n (.store 3 (.v 5) (.l 2))),(.i (.v 6) (.mv (.l 1))),(.i (.v 7) (.mv (.l 0)))]),(.ops [(.i .l (.mv (.v 7))),(.i .l (.mv (.v 6))),(.i .l (.load true 3 (.v 5))),(.i .l (.build [(.int .i64 0),(.int .i64 0),(.int .i64 0),(.int .i64 0),.nils] [(0,1),(1,1),(2,3)] [(0,(.l 2)),(1,(.l 1)),(2,(.l 0))])),(.i .n (.store 5 (.v 3) (.l 0)))]),.ret]
theorem nH:FnR Try.prog po 56 2 10 [0,1,3,4,5,6,7,8,14,31] md [(.cell true 5 3)] false:=⟨_,_,Try.func56,rfl,rfl,by kernel_rfl,by kernel_rfl,by kernel_rfl,by kernel_rfl,by kernel_rfl⟩
def je:List RS:=[(.ops [(.i (.v 2) (.box 9 (.v 1))),(.i (.v 3) (.alloc [(.int .i64 0),(.int .i64 0),(.int .i64 0),(.int .i64 0),.nils]))]),(.ops [(.i .l (.fad 0 (.v 2))),(.i (.v 10) (.load false 1 (.l 0)))]),(.block 0 [(.ops [(.i .l (.bin (.int .i64) .eql (.v 10) (.c (.int .i64 1)))),(.i (.v 11) (.mv (.l 0)))]),(.cond (.v 11) [(.ops [(.i .l (.mv (.v 0))),(.i .l (.fad 1 (.v 2))),(.i .l (.load false 1 (.l 0))),(.i .l (.fad 8 (.v 2))),(.i .l (.load true 1 (.l 0))),(.i .l (.call (.c (.fn 51 [] [])) [(.l 4),(.l 2),(.l 0)])),(.i .l (.build [(.int .i64 0),(.int .i64 0),(.int .i64 0),(.int .i64 0),.nils] [(0,1),(1,1),(2,3)] [(0,(.l 0))])),(.i .n (.store 5 (.v 3) (.l 0)))]),.ret] [(.ops [(.i .l (.bin (.int .i64) .eql (.v 10) (.c (.int .i64 2)))),(.i (.v 12) (.mv (.l 0)))]),(.cond (.v 12) [] [(.ops [(.i .l (.bin (.int .i64) .eql (.v 10) (.c (.int .i64 3)))),(.i (.v 12) (.mv (.l 0)))])]),(.cond (.v 12) [(.ops [(.i .l (.fad 1 (.v 2))),(.i .l (.load false 1 (.l 0))),(.i .l (.call (.c (.fn 52 [] [])) [(.l 0)])),(.i (.v 13) (.un .not (.l 0)))]),(.cond (.v 13) [(.ops [(.i .l (.build [(.int .i64 0),(.int .i64 0),(.int .i64 0),(.int .i64 0),.nils] [(0,1),(1,1),(2,3)] [(0,(.c (.int .i64 1)))])),(.i .n (.store 5 (.v 3) (.l 0)))]),.ret] []),(.ops [(.i .l (.fad 0 (.v 2))),(.i .l (.load false 1 (.l 0))),(.i (.v 14) (.bin (.int .i64) .eql (.l 0) (.c (.int .i64 2))))]),(.cond (.v 14) [(.ops [(.i .l (.mv (.v 0))),(.i .l (.nilc (.l 0))),(.i .l (.fad 0 (.l 0))),(.i .l (.load false 1 (.l 0))),(.i .l (.nilc (.l 0))),(.i .l (.fad 0 (.l 0))),(.i .l (.load false 1 (.l 0))),(.i .l (.fad 3 (.v 2))),(.i .l (.load false 1 (.l 0))),(.i .l (.fad 5 (.v 2))),(.i .l (.load false 1 (.l 0))),(.i .l (.fad 6 (.v 2))),(.i .l (.load false 1 (.l 0))),(.i .l (.call (.c (.fn 53 [] [])) [(.l 6),(.l 4),(.l 2),(.l 0)])),(.i .l (.mv (.l 0))),(.i .l (.ext (.l 0) 0)),(.i .l (.ext (.l 1) 1)),(.i (.v 4) (.mv (.l 1))),(.i (.v 5) (.mv (.l 0)))]),(.ops [(.i .l (.mv (.v 0))),(.i .l (.fad 1 (.v 2))),(.i .l (.load false 1 (.l 0))),(.i .l (.mv (.v 4))),(.i .l (.mv (.v 5))),(.i .l (.call (.c (.fn 54 [] [])) [(.l 4),(.l 2),(.l 1),(.l 0)])),(.i .n (.store 5 (.v 3) (.l 0)))]),.ret] []),(.ops [(.i .l (.mv (.v 0))),(.i .l (.nilc (.l 0))),(.i .l (.fad 0 (.l 0))),(.i .l (.load false 1 (.l 0))),(.i .l (.nilc (.l 0))),(.i .l (.fad 0 (.l 0))),(.i .l (.load false 1 (.l 0))),(.i .l (.fad 2 (.v 2))),(.i .l (.load false 1 (.l 0))),(.i .l (.fad 3 (.v 2))),(.i .l (.load false 1 (.l 0))),(.i .l (.fad 5 (.v 2))),(.i .l (.load false 1 (.l 0))),(.i .l (.fad 6 (.v 2))),(.i .l (.load false 1 (.l 0))),(.i .l (.call (.c (.fn 55 [] [])) [(.l 8),(.l 6),(.l 4),(.l 2),(.l 0)])),(.i .l (.mv (.l 0))),(.i .l (.ext (.l 0) 0)),(.i .l (.ext (.l 1) 1)),(.i (.v 6) (.mv (.l 1))),(.i (.v 7) (.mv (.l 0)))]),(.ops [(.i .l (.mv (.v 0))),(.i .l (.fad 1 (.v 2))),(.i .l (.load false 1 (.l 0))),(.i .l (.mv (.v 6))),(.i .l (.mv (.v 7))),(.i .l (.call (.c (.fn 54 [] [])) [(.l 4),(.l 2),(.l 1),(.l 0)])),(.i .n (.store 5 (.v 3) (.l 0)))]),.ret] [(.ops [(.i .l (.bin (.int .i64) .eql (.v 10) (.c (.int .i64 4)))),(.i (.v 15) (.mv (.l 0)))]),(.cond (.v 15) [(.ops [(.i .l (.mv (.v 0))),(.i .l (.load true 9 (.v 2))),(.i .l (.call (.c (.fn 56 [] [])) [(.l 1),(.l 0)])),(.i .n (.store 5 (.v 3) (.l 0)))]),.ret] [(.ops [(.i .l (.bin (.int .i64) .eql (.v 10) (.c (.int .i64 5)))),(.i (.v 16) (.mv (.l 0)))]),(.cond (.v 16) [(.ops [(.i .l (.mv (.v 0))),(.i .l (.nilc (.l 0))),(.i .l (.fad 0 (.l 0))),(.i .l (.load false 1 (.l 0))),(.i .l (.nilc (.l 0))),(.i .l (.fad 0 (.l 0))),(.i .l (.load false 1 (.l 0))),(.i .l (.fad 6 (.v 2))),(.i .l (.load false 1 (.l 0))),(.i .l (.call (.c (.fn 57 [] [])) [(.l 2),(.l 0)])),(.i .l (.build [(.int .i64 0),(.int .i64 0),(.int .i64 0),(.int .i64 0),.nils] [(0,1),(1,1),(2,3)] [(0,(.l 0))])),(.i .n (.store 5 (.v 3) (.l 0)))]),.ret] [(.ops [(.i .l (.bin (.int .i64) .eql (.v 10) (.c (.int .i64 6)))),(.i (.v 17) (.mv (.l 0)))]),(.cond (.v 17) [(.ops [(.i .l (.mv (.v 0))),(.i .l (.nilc (.l 0))),(.i .l (.fad 0 (.l 0))),(.i .l (.load false 1 (.l 0))),(.i .l (.nilc (.l 0))),(.i .l (.fad 0 (.l 0))),(.i .l (.load false 1 (.l 0))),(.i .l (.call (.c (.fn 58 [] [])) [(.l 0)])),(.i .l (.mv (.l 0))),(.i .l (.ext (.l 0) 0)),(.i .l (.ext (.l 1) 1)),(.i (.v 8) (.mv (.l 1))),(.i (.v 9) (.mv (.l 0)))]),(.ops [(.i .l (.mv (.v 9))),(.i (.v 18) (.bin (.int .i64) .neq (.l 0) (.c (.int .i64 0))))]),(.cond (.v 18) [(.ops [(.i .l (.mv (.v 9))),(.i .l (.build [(.int .i64 0),(.int .i64 0),(.int .i64 0),(.int .i64 0),.nils] [(0,1),(1,1),(2,3)] [(0,(.l 0))])),(.i .n (.store 5 (.v 3) (.l 0)))]),.ret] []),(.ops [(.i .l (.mv (.v 8))),(.i .l (.build [(.int .i64 0),(.int .i64 0),.nils] [(0,1),(1,1),(2,1)] [(0,(.c (.int .i64 1))),(1,(.l 0))])),(.i .l (.build [(.int .i64 0),(.int .i64 0),(.int .i64 0),(.int .i64 0),.nils] [(0,1),(1,1),(2,3)] [(2,(.l 0))])),(.i .n (.store 5 (.v 3) (.l 0)))]),.ret] [])])])])])]),(.ops [(.i .l (.build [(.int .i64 0),(.int .i64 0),(.int .i64 0),(.int .i64 0),.nils] [(0,1),(1,1),(2,3)] [(0,(.c (.int .i64 2)))])),(.i .n (.store 5 (.v 3) (.l 0)))]),.ret]
theorem jK:FnR Try.prog po 23 2 19 [0,1,3,4,5,6,7,8,9,10,12,13,22,28,32,81,86,99,113] je [(.cell true 5 3)] false:=⟨_,_,Try.func23,rfl,rfl,by kernel_rfl,by kernel_rfl,by kernel_rfl,by kernel_rfl,by kernel_rfl⟩
def nV:List RS:=[(.ops [(.i (.v 2) (.mv (.c .nils)))]),(.ops [(.i .l (.mv (.v 1))),(.i .l (.call (.c (.fn 52 [] [])) [(.l 0)])),(.i (.v 3) (.un .not (.l 0)))]),(.cond (.v 3) [(.ops [(.i (.v 2) (.mv (.c .nils)))]),.ret] []),(.ops [(.i .l (.mv (.v 0))),(.i .l (.mv (.v 1))),(.i .l (.nilc (.l 1))),(.i .l (.fad 1 (.l 0))),(.i .l (.ixa none (some (4,1)) (.l 0) (.l 2))),(.i .l (.load false 1 (.l 0))),(.i .l (.call (.c (.fn 61 [] [])) [(.l 0)])),(.i (.v 2) (.mv (.l 0)))]),.ret]
theorem tF:FnR Try.prog po 27 2 4 [0,1,4,7] nV [(.v 2)] true:=⟨_,_,Try.func27,rfl,rfl,by kernel_rfl,by kernel_rfl,by kernel_rfl,by kernel_rfl,by kernel_rfl⟩
def ph:List RS:=[(.ops [(.i (.v 1) (.mv (.c .nils)))]),(.ops [(.i .l (.mv (.v 0))),(.i (.v 2) (.bin .slice .eql (.l 0) (.c .nils)))]),(.cond (.v 2) [(.ops [(.i (.v 1) (.mv (.c .nils)))]),.ret] []),(.ops [(.i .l (.bsl false 29 [(.int .i64 0),(.int .i64 0),.nils] 3 0 [])),(.i .l (.mv (.v 0))),(.i .l (.app false 29 (.l 1) (.l 0))),(.i (.v 1) (.mv (.l 0)))]),.ret]
theorem uG:FnR Try.prog po 61 1 3 [0,2,4] ph [(.v 1)] true:=⟨_,_,Try.func61,rfl,rfl,by kernel_rfl,by kernel_rfl,by kernel_rfl,by kernel_rfl,by kernel_rfl⟩
def bB:List RS:=[(.ops [(.i .l (.mv (.v 3))),(.i .l (.mv (.v 0))),(.i .l (.len false (some 56) (.l 0))),(.i .l (.bin (.int .i64) .lss (.l 2) (.l 0))),(.i .l (.mv (.l 0))),(.g (.l 0) true .l (.mv (.v 3))),(.g (.l 1) true .l (.mv (.v 1))),(.g (.l 2) true .l (.bin (.int .i64) .lss (.l 1) (.l 0))),(.i (.v 4) (.pick (.l 3) (.l 0) (.c (.bool false))))]),(.cond (.v 4) [] [(.exit 0)]),(.block 1 [(.ops [(.i .l (.mv (.v 0))),(.i .l (.mv (.v 3))),(.i .l (.ixa (some 56) none (.l 1) (.l 0))),(.i .l (.fad 8 (.l 0))),(.i .l (.load true 1 (.l 0))),(.i (.v 5) (.call (.c (.fn 26 [] [])) [(.l 0)]))]),(.cond (.v 5) [(.ops [(.i (.v 2) (.mv (.c (.bool true))))]),.ret] [])]),(.ops [(.i .l (.mv (.v 3))),(.i .l (.bin (.int .i64) .add (.l 0) (.c (.int .i64 1)))),(.i (.v 3) (.mv (.l 0)))])]
def jN:List RS:=[(.ops [(.i (.v 2) (.mv (.c (.bool false))))]),(.ops [(.i (.v 3) (.mv (.c (.int .i64 0))))]),(.block 0 [(.loop bB)]),(.ops [(.i .l (.mv (.v 0))),(.i .l (.len false (some 56) (.l 0))),(.i .l (.mv (.v 1))),(.i .l (.bin (.int .i64) .gtr (.l 1) (.l 0))),(.i (.v 2) (.mv (.l 0)))]),.ret]
theorem mU:FnR Try.prog po 21 2 6 [0,1,4,5,14,22] jN [(.v 2)] true:=⟨_,_,Try.func21,rfl,rfl,by kernel_rfl,by kernel_rfl,by kernel_rfl,by kernel_rfl,by kernel_rfl⟩
def da (b bb:Nat) (hands:List (List VD)):Asn:=oV fun vs:List AV=>wr (vs.length=hands.length) (dE (ai b [.ptr bb 0 0::vs]) (aY (List.zipWith cM vs hands)))
section
variable {h h' h0:AH} {F J F0 J0:Nat→Prop} {L:List Asn} {hb bb:Nat} {hands:List (List VD)}
theorem tM (x:(da hb bb hands).A h F J):∃ vs,vs.length=hands.length∧St h F J h (ai hb [.ptr bb 0 0::vs]::List.zipWith cM vs hands):=by
 obtain⟨vs,hl,x⟩:=x
 exact⟨vs,hl,St.start x⟩
theorem EI {vs:List AV} (hl:vs.length=hands.length) (s:St h0 F0 J0 h (ai hb [.ptr bb 0 0::vs]::List.zipWith cM vs hands)):Did h0 F0 J0 h (da hb bb hands):=Did.imp (fun _ _ _ x=>⟨vs,hl,x⟩) s
theorem Ea {vs:List AV} (hl:vs.length=hands.length) {p:Nat} (hp:p<hands.length):∃ v,vs[p]? =some v∧(List.zipWith cM vs hands)[p]? =some (cM v (hands.getD p [])):=by
 have hv:p<vs.length:=by omega
 refine⟨vs[p],List.getElem?_eq_getElem hv,?_⟩
 rw[List.getElem?_zipWith,List.getElem?_eq_getElem hv,List.getElem?_eq_getElem hp]
 simp[List.getD,hp]
theorem K8 {vs:List AV} {p:Nat} {v:AV} {l:List VD}:(List.zipWith cM vs hands).set p (cM v l)=List.zipWith cM (vs.set p v) (hands.set p l):=by
 refine List.ext_getElem? fun j=> ?_
 by_cases e:p=j
 ·subst e
  rw[List.getElem?_zipWith,List.getElem?_set,List.getElem?_set,List.getElem?_set]
  simp only[if_true,List.length_zipWith]
  by_cases h1:p<vs.length
  ·by_cases h2:p<hands.length
   ·simp[h1,h2,show p<min vs.length hands.length by omega]
   ·simp[h1,h2,show ¬ p<min vs.length hands.length by omega]
  ·simp[h1,show ¬ p<min vs.length hands.length by omega]
 ·rw[List.getElem?_set_ne e,List.getElem?_zipWith,List.getElem?_zipWith,List.getElem?_set_ne e,List.getElem?_set_ne e]
structure AE (h:AH) (v:AV) (l:List VD):Prop where
 one:v.one=true
 cells:v.cells=[v]
 len:dR v=some l.length
 fits:∀ s,de s (some tV) v=true
 ix:∀ (q:IntKind) (i:Nat) (y:VD),l[i]? =some y→∃ p r,bT (some tV) none v (.int q (i:Int))=some p∧aE true 3 h p=some (.agg r)∧VaA y r
 sl:(l=[]∧v= .nils)∨∃ b rows,v= .msl b 0 l.length tV∧VaL l rows∧bM h tV v=some rows
theorem BX {v:AV} {l:List VD} (x:(cM v l).A h F J):AE h v l:=by
 obtain⟨a1,a2,a3,a4,a5⟩:=gL x
 refine⟨a1,a2,a3,a4,a5,?_⟩
 obtain⟨rows,hl,x⟩:=x
 have hlen:=hl.len
 rcases x with⟨⟨rfl,rfl⟩,_⟩ | ⟨⟨b,es⟩,⟨rfl,h1,h2⟩,_,_,_,hc⟩
 ·exact .inl ⟨List.length_eq_zero_iff.1 (by simpa using hlen.symm),rfl⟩
 ·simp only at h1 h2 hc
  refine .inr ⟨b,rows,by rw[hlen],hl,?_⟩
  simp only[bM,if_true,hc,Option.bind_some,Nat.zero_add,h1,List.drop_zero]
  rw[←h2]
structure xI (h:AH) (hb bb:Nat) (hands:List (List VD)) (vs:List AV):Prop where
 c:h.cell hb=some [.ptr bb 0 0::vs]
 lt:hb<h.n
 len:vs.length=hands.length
 v:∀ p:Nat,p<hands.length→∃ v,vs[p]? =some v∧AE h v (hands.getD p [])
theorem eo (s:St h0 F0 J0 h L) (i:Nat) (hi:L[i]? =some (da hb bb hands)):∃ vs,xI h hb bb hands vs:=by
 obtain⟨F,J,x⟩:=s.get i hi
 obtain⟨vs,hl,s1⟩:=tM x
 have c:=s1.cell 0 rfl
 refine⟨vs,c.1,c.2,hl,fun p hp=> ?_⟩
 obtain⟨v,h1,h2⟩:=Ea hl hp
 obtain⟨F1,J1,x1⟩:=s1.get (p+1) h2
 exact⟨v,h1,BX x1⟩
theorem xI.push {vs:List AV} {es:List (List AV)} (v:xI h hb bb hands vs) (s:St h0 F0 J0 (h.push es) L) (i:Nat) (hi:L[i]? =some (da hb bb hands)):xI (h.push es) hb bb hands vs:=by
 obtain⟨vs',v'⟩:=eo s i hi
 have e:=v'.c
 rw[aL v.lt,v.c]at e
 obtain rfl:vs=vs':=by simpa using e
 exact v'
theorem xI.box {vs:List AV} (v:xI h hb bb hands vs) (n:Nat):aE false n h (.ptr hb 0 0)=some (.ptr bb 0 0):=by rw[bD,v.c];rfl
theorem xI.ld {vs:List AV} (v:xI h hb bb hands vs) {p:Nat} {w:AV} (hw:vs[p]? =some w) (n:Nat):aE false n h (.ptr hb 0 (1+p))=some w:=by
 rw[bD,v.c]
 show(AV.ptr bb 0 0::vs)[1+p]? =some w
 rw[Nat.add_comm,List.getElem?_cons_succ]
 exact hw
theorem ix4 {b p:Nat} (q:IntKind) (hp:p<4):bT none (some (4,1)) (.ptr b 0 1) (.int q (p:Int))=some (.ptr b 0 (1+p)):=by simp[bT,hp]
theorem Fv (s0:St h0 F0 J0 h L) (i:Nat) (hi:L[i]? =some (da hb bb hands)) {p:Nat} (hp:p<hands.length) {v:VD} {r:List AV} (hv:VaA v r) (hl:(hands.getD p []).length≤1000000) {bz:Nat} (hz:h.cell bz=some [zR3]) {vs:List AV} {w:AV} (hvs:xI h hb bb hands vs) (hw:vs[p]? =some w):
  ∃ q h1 h2 h3,aF true tV w (.msl bz 0 1 tV) h=some (.msl q 0 ((hands.getD p []).length+1) tV,h1)∧aJ 3 h1 (.ptr q (hands.getD p []).length 0) (.agg r)=some h2∧aJ 1 h2 (.ptr hb 0 (1+p)) (.msl q 0 ((hands.getD p []).length+1) tV)=some h3∧aE true 3 h3 (.ptr q (hands.getD p []).length 0)=some (.agg r)∧
    St h0 F0 J0 h3 (L.set i (da hb bb (hands.set p (hands.getD p []++[v])))):=by
 have zv:VaA au zR3:=eE
 obtain⟨h3,⟨q,h1,h2⟩,⟨e1,e2,e3,e4⟩,s'⟩:=s0.callE (R:=fun h3 (q:Nat×AH×AH)=>aF true tV w (.msl bz 0 1 tV) h=some (.msl q.1 0 ((hands.getD p []).length+1) tV,q.2.1)∧aJ 3 q.2.1 (.ptr q.1 (hands.getD p []).length 0) (.agg r)=some q.2.2∧aJ 1 q.2.2 (.ptr hb 0 (1+p)) (.msl q.1 0 ((hands.getD p []).length+1) tV)=some h3∧aE true 3 h3 (.ptr q.1 (hands.getD p []).length 0)=some (.agg r)) i hi (Y:=fun _=>da hb bb (hands.set p (hands.getD p []++[v]))) fun F J x=>by
  obtain⟨vs',hl',s⟩:=tM x
  have c0:=s.cell 0 rfl
  have ev:vs'=vs:=by
   have:=hvs.c
   rw[c0.1]at this
   simpa using this
  subst ev
  obtain⟨w',hw',hz'⟩:=Ea hl' hp
  rw[hw]at hw'
  injection hw' with hw'
  subst hw'
  have hi':(ai hb [.ptr bb 0 0::vs']::List.zipWith cM vs' hands)[p+1]? =some (cM w (hands.getD p [])):=hz'
  generalize hands.getD p []=l at*
  obtain⟨h1,e1,s1⟩:=s.app (p+1) hi' hz zv hl
  have hlt:p+1<(ai hb [.ptr bb 0 0::vs']::List.zipWith cM vs' hands).length:=(List.getElem?_eq_some_iff.1 hi').1
  obtain⟨h2,e2,s2⟩:=s1.call (R:=fun h2=>aJ 3 h1 (.ptr h.n l.length 0) (.agg r)=some h2) (X:=cM (.msl h.n 0 (l.length+1) tV) (l++[au])) (Y:=cM (.msl h.n 0 (l.length+1) tV) ((l++[au]).set l.length v)) (p+1) (by rw[List.getElem?_set];simp only[if_true,hlt]) fun F J x=>zK x (i:=l.length) (by simp) hv
  rw[List.set_set,show(l++[au]).set l.length v=l++[v] from xi l [] au v rfl]at s2
  have s2:St h F J h2 (ai hb [.ptr bb 0 0::vs']::List.zipWith cM (vs'.set p (.msl h.n 0 (l.length+1) tV)) (hands.set p (l++[v]))):=by
   rw[←K8];exact s2
  have c2:=s2.cell 0 rfl
  have s3:=s2.set 0 rfl [.ptr bb 0 0::vs'.set p (.msl h.n 0 (l.length+1) tV)]
  have hpl:p<vs'.length:=by omega
  refine⟨_,(h.n,h1,h2),⟨e1,e2,bp c2.1 rfl rfl rfl (by simp;omega),?_⟩,?_⟩
  ·have hne:hb≠h.n:=by have:=c0.2;omega
   rw[bD,bc (Ne.symm hne),←bD (agg:=true) (n:=3)]
   exact sg e2
  ·refine EI (vs:=vs'.set p (.msl h.n 0 (l.length+1) tV)) (by simp[hl']) ?_
   have e:stA (AV.ptr bb 0 0::vs') (1+p) (AV.msl h.n 0 (l.length+1) tV).cells= .ptr bb 0 0::vs'.set p (.msl h.n 0 (l.length+1) tV):=by
    rw[Nat.add_comm]
    unfold stA
    simp only[AV.cells,List.take_succ_cons,List.length_singleton,List.drop_succ_cons,List.cons_append]
    rw[List.set_eq_take_append_cons_drop,if_pos hpl]
    simp
   simp only[List.set_cons_zero]
   rw[e]
   exact s3
 exact⟨q,h1,h2,h3,e1,e2,e3,e4,s'⟩
end
structure HoC where
 (hb bb gb wb:Nat)
abbrev dj (c:HoC) (H:HoD):List Asn:=[da c.hb c.bb H.hands,dH c.bb c.gb c.wb H.ms H.S.kept,br c.gb H.S.G,bj c.wb H.S.cells H.S.log]
structure OkH (H:HoD):Prop where
 good:H.Good
 log:H.S.log.length≤800000
 hands:∀ l∈H.hands,l.length≤90000
theorem OkH.len {H:HoD} (o:OkH H):H.ms.length=H.S.kept.length:=o.good.ms.trans o.good.st.kept.symm
section
variable {h h' h0:AH} {F J F0 J0:Nat→Prop} {L:List Asn} {hb bb:Nat} {hands:List (List VD)} {c:HoC} {H:HoD}
theorem bF (p:Int):aj Try.prog po 52 [.int .i64 p] h=some (.inl (.bool (inP p)),h):=by
 refine ah Bk rfl ?_;unfold rf
 unfold inP
 cases h1:decide (0≤p)<;>simp only[sim,ag,reduceAdd,reduceSub,replicate,reduceCtorEq,reduceLeDiff,reduceLT,aa,h1]
abbrev evR (c f:Int) (r:List AV):List AV:= .int .i64 c:: .int .i64 f::r
theorem Ko (x:(da hb bb hands).A h F J) {k:Int} (hk:k≠0) (p n:Int):∃ h',aj Try.prog po 54 [.ptr hb 0 0,.int .i64 p,.int .i64 n,.int .i64 k] h=some (.inl (.agg (evR k 0 zR3)),h')∧Did h F J h' (da hb bb hands):=by
 have s0:St h F J h [da hb bb hands]:=St.start (aY.one x)
 have s1:=s0.push [evR k 0 zR3]
 have d1:decide (k=0)=false:=decide_eq_false hk
 refine⟨_,?_,Did.imp (fun _ _ _=>aY.one') s1.drop⟩
 refine ah AK rfl ?_;unfold tv
 simp only[sim,ag,reduceAdd,reduceSub,replicate,reduceCtorEq,reduceLeDiff,reduceLT,aa,d1,aC,bm]
theorem I9 (x:(da hb bb hands).A h F J) (h4:hands.length=4) (hl:∀ l∈hands,l.length≤90000) {p:Int} (hp:0≤p∧p<4) (n:Int):∃ h',aj Try.prog po 54 [.ptr hb 0 0,.int .i64 p,.int .i64 n,.int .i64 0] h=some (.inl (.agg (evR 0 0 [.int .i64 4,.int .i64 n,.nils])),h')∧Did h F J h' (da hb bb (hands.set p.toNat (hands.getD p.toNat []++[fA n]))):=by
 obtain⟨j,rfl⟩:∃ j:Nat,p=(j:Int):=⟨p.toNat,by omega⟩
 have hj:j<4:=by omega
 have s0:St h F J h [da hb bb hands]:=St.start (aY.one x)
 have s1:=s0.push [evR 0 0 zR3]
 have s2:=s1.push [[.int .i64 4,.int .i64 n,.nils]]
 have s3:=s2.push [zR3]
 have c0:=(s3.cell 0 rfl).1
 have c1:=(s3.cell 1 rfl).1
 have c2:=(s3.cell 2 rfl).1
 obtain⟨vs,hv2⟩:=eo s2 2 rfl
 have hv:=hv2.push s3 3 rfl
 obtain⟨w,hw,hh⟩:=hv.v j (by omega)
 have ld:=hv.ld hw
 have ld2:=hv2.ld hw
 have b1:=(s2.cell 0 rfl).1
 have hlj:(hands.getD j []).length≤1000000:=by
  have:hands.getD j []∈hands:=by
   rw[List.getD,List.getElem?_eq_getElem (by omega),Option.getD_some]
   exact List.getElem_mem _
  have:=hl _ this
  omega
 obtain⟨q,h1,h2,h3,a1,a2,a3,a4,s4⟩:=Fv s3 3 rfl (p:=j) (by omega) (wx n) hlj c0 hv hw
 have s4:St h F J h3 [ai (h.n+1+1) [zR3],ai (h.n+1) [[.int .i64 4,.int .i64 n,.nils]],ai h.n [evR 0 0 zR3],da hb bb (hands.set j (hands.getD j []++[fA n]))]:=s4
 have a1:aF true tV w (.msl (h.n+1+1) 0 1 tV) _=_:=a1
 have e1:=(s4.cell 1 rfl).1
 have e2:=(s4.cell 2 rfl).1
 have s5:=s4.set 2 rfl [evR 0 0 [.int .i64 4,.int .i64 n,.nils]]
 have f1:aI 1 (.ptr hb 0 0)=some (.ptr hb 0 1):=rfl
 have ix:∀ q,bT none (some (4,1)) (.ptr hb 0 1) (.int q (j:Int))=some (.ptr hb 0 (1+j)):=fun q=>ix4 q hj
 have iq:∀ k,bT (some tV) none (.msl q 0 ((hands.getD j []).length+1) tV) (.int k ((hands.getD j []).length:Int))=some (.ptr q (hands.getD j []).length 0):=fun k=>by
  rw[rA rfl (Nat.lt_succ_self _),Nat.zero_add]
 obtain⟨l1,l2,l3,l4⟩:=hh.fits |> fun f=>And.intro hh.len (And.intro f (And.intro hh.one hh.cells))
 rw[Int.toNat_natCast]
 generalize hands.getD j []=l at*
 refine⟨_,?_,Did.imp (fun _ _ _=>aY.one') s5.drop.drop.drop⟩
 have p1:∀ x,(h.push [evR 0 0 zR3]).push x=(h.push [evR 0 0 zR3]).push x:=fun _=>rfl
 refine ah AK rfl ?_;unfold tv
 simp only[sim,ag,reduceAdd,reduceSub,replicate,reduceCtorEq,reduceLeDiff,reduceLT,aa,aC,bm,bO,jR,c0,c1,c2,f1,ix,iq,ld,ld2,b1,l1,l2,l3,l4,a1,a2,a3,a4,e1,e2]
theorem NC {bb p:Nat} (q:IntKind) (hp:p<4):bT none (some (4,5)) (.ptr bb 0 2) (.int q (p:Int))=some (.ptr bb 0 (2+p*5)):=by simp[bT];omega
set_option maxHeartbeats 1000000 in
theorem E4 (x:(aY (dj c H)).A h F J) (o:OkH H) (p:Int) {M:List XD} {v:AV} {es:List (List AV)} (q3:SlA tE v es) (q4:ExL M es) (hL:M.length≤100000) (hs:∀ x∈M,x.size≤100000):
  ∃ h',aj Try.prog po 51 [.ptr c.hb 0 0,.int .i64 p,.agg [v]] h=some (.inl (.int .i64 (H.load p M).2),h')∧Did h F J h' (aY (dj c (H.load p M).1)):=by
 have s0:St h F J h (dj c H):=St.start x
 have s1:=s0.push [[v]]
 have mm:∀ h,gC h v M:=fun h=>gC.of q3 q4
 have ov:=(mm h).one
 have c1:=(s1.cell 0 rfl).1
 unfold HoD.load
 cases hp:inP p with
 | false=>
   refine⟨_,?_,s1.drop⟩
   refine ah sE rfl ?_;unfold oT
   simp only[sim,ag,reduceAdd,reduceSub,replicate,reduceCtorEq,reduceLeDiff,reduceLT,aa,bF,hp,ov,if_true]
 | true=>
   obtain⟨p0,p1⟩:=dB.1 hp
   rw[if_neg (by decide)]
   have mk:=fun(h:AH)=>EP (h:=h) q3 q4 mm hL hs
   unfold sP at mk
   have s2:=s1.push [[.int .i64 (be M).1,.int .i64 (be M).2]]
   have c2:=(s2.cell 0 rfl).1
   by_cases hz:(be M).1=0
   ·have dz:decide ((be M).1=0)=true:=decide_eq_true hz
    rw[if_neg (fun h=>h hz)]
    obtain⟨j,rfl⟩:∃ j:Nat,p=(j:Int):=⟨p.toNat,by omega⟩
    obtain⟨f1,f2,f3⟩:=eI M
    have f4:(eD M).cells=[eD M]:=by unfold eD;rfl
    have hj:j<4:=by omega
    obtain⟨vs,hv⟩:=eo s2 2 rfl
    have lb:=hv.box 1
    obtain⟨h3,e3,s3⟩:=Hz s2 3 rfl o.len (p:=j) (by rw[o.good.ms];exact hj) (M:=M) eE
    have ix:∀ q,bT none (some (4,5)) (.ptr c.bb 0 2) (.int q (j:Int))=some (.ptr c.bb 0 (2+j*5)):=fun q=>NC q hj
    have g1:aI 2 (.ptr c.bb 0 0)=some (.ptr c.bb 0 2):=rfl
    have g0:aI 0 (.ptr c.hb 0 0)=some (.ptr c.hb 0 0):=rfl
    refine⟨h3,?_,s3.drop.drop⟩
    rw[if_pos hz]at mk
    rw[Int.toNat_natCast]
    generalize eD M=cv at*
    refine ah sE rfl ?_;unfold oT
    simp only[sim,ag,reduceAdd,reduceSub,replicate,reduceCtorEq,reduceLeDiff,reduceLT,aa,az,bF,hp,ov,c1,mk,aC,bm,bO,jR,c2,dz,lb,ix,g0,g1,f3,f4,e3]
   ·have dz:decide ((be M).1=0)=false:=decide_eq_false hz
    rw[if_pos hz]
    rw[if_neg hz]at mk
    refine⟨_,?_,s2.drop.drop⟩
    refine ah sE rfl ?_;unfold oT
    simp only[sim,ag,reduceAdd,reduceSub,replicate,reduceCtorEq,reduceLeDiff,reduceLT,aa,az,bF,hp,ov,c1,mk,aC,bm,bO,jR,c2,dz]
def aQ (x:cG) (m:AV):List AV:=[.int .i64 x.kind,.int .i64 x.p,.int .i64 x.q,.int .i64 x.k,.int .i64 x.h,.int .i64 x.r,.int .i64 x.g,.int .i64 x.n,m]
def EvR (e:EvD) (r:List AV):Prop:=∃ q,r=evR e.code e.fuel q∧VaA e.v q
theorem EvR.no {c:Int}:EvR (EvD.no c) (evR c 0 zR3):=⟨zR3,rfl,eE⟩
theorem Nx {b:Nat} {p:Int} (q:IntKind) (h0:0≤p) (h1:p<4):bT none (some (4,1)) (.ptr b 0 1) (.int q p)=some (.ptr b 0 (1+p.toNat)):=by
 obtain⟨j,rfl⟩:=Int.eq_ofNat_of_zero_le h0
 rw[Int.toNat_natCast]
 exact ix4 q (by omega)
abbrev DE (n0:Nat) (y:cG) (m:AV) (ra:List AV) (c:HoC) (H:HoD):List Asn:=[ai (n0+1+1) [ra],ai (n0+1) [evR 0 0 zR3],ai n0 [aQ y m],da c.hb c.bb H.hands,dH c.bb c.gb c.wb H.ms H.S.kept,br c.gb H.S.G,bj c.wb H.S.cells H.S.log]
structure O4 (h0:AH) (F0 J0:Nat→Prop) (n0:Nat) (hA:AH) (y:cG) (m:AV) (ra:List AV) (c:HoC) (H:HoD) (S':StD) (v:VD) (n k:Int) (h5:AH) (r':List AV):Prop where
 e:aj Try.prog po fq (od c.bb y.p y.k ra 2000) hA=some (.inl (.tup [.agg r',.int .i64 n,.int .i64 k]),h5)
 va:VaA v r'
 a0:hA.cell (n0+1+1)=some [ra]
 a2:hA.cell n0=some [aQ y m]
 ab:aE false 1 hA (.ptr c.hb 0 0)=some (.ptr c.bb 0 0)
 b0:(h5.push [zR3]).cell (n0+1+1)=some [ra]
 b2:(h5.push [zR3]).cell n0=some [aQ y m]
 bb:aE false 1 (h5.push [zR3]) (.ptr c.hb 0 0)=some (.ptr c.bb 0 0)
 d1:(h5.push [r']).cell (n0+1)=some [evR 0 0 zR3]
 s:St h0 F0 J0 ((h5.push [r']).set (n0+1) (some [evR k n r'])) (dj c {H with S:=S'})
theorem vd {n0:Nat} {hA:AH} {y:cG} {m:AV} {ra:List AV} {arg:VD} (s:St h0 F0 J0 hA (DE n0 y m ra c H)) (o:OkH H) (hv:VaA arg ra) (hsz:arg.size≤100000):
  ∃ h5 r',O4 h0 F0 J0 n0 hA y m ra c H (cO H.ms y.p y.k arg 2000 H.S).1 (cO H.ms y.p y.k arg 2000 H.S).2.1 (cO H.ms y.p y.k arg 2000 H.S).2.2.1 (cO H.ms y.p y.k arg 2000 H.S).2.2.2 h5 r':=by
 obtain⟨h5,⟨r',e5,v5⟩,s5⟩:=s.callL (A:=[ai (n0+1+1) [ra],ai (n0+1) [evR 0 0 zR3],ai n0 [aQ y m],da c.hb c.bb H.hands]) (M:=[dH c.bb c.gb c.wb H.ms H.S.kept,br c.gb H.S.G,bj c.wb H.S.cells H.S.log]) (B:=[])
  (M':=[dH c.bb c.gb c.wb H.ms (cO H.ms y.p y.k arg 2000 H.S).1.kept,br c.gb (cO H.ms y.p y.k arg 2000 H.S).1.G,bj c.wb (cO H.ms y.p y.k arg 2000 H.S).1.cells (cO H.ms y.p y.k arg 2000 H.S).1.log])
  fun F J x=>Ld (p:=y.p) (f:=y.k) (fuel:=2000) hv hsz x o.good.ms o.good.ok.good o.good.ok.sized o.good.st (by have:=o.log;omega)
 have s5:St h0 F0 J0 h5 (DE n0 y m ra c {H with S:=(cO H.ms y.p y.k arg 2000 H.S).1}):=s5
 obtain⟨vs,hv1⟩:=eo s 3 rfl
 have s6:=s5.push [zR3]
 obtain⟨vs6,hv6⟩:=eo s6 4 rfl
 have s7:=s5.push [r']
 have s8:=s7.set 2 rfl [evR (cO H.ms y.p y.k arg 2000 H.S).2.2.2 (cO H.ms y.p y.k arg 2000 H.S).2.2.1 r']
 exact⟨h5,r',e5,v5,(s.cell 0 rfl).1,(s.cell 2 rfl).1,hv1.box 1,(s6.cell 1 rfl).1,(s6.cell 3 rfl).1,hv6.box 1,(s7.cell 2 rfl).1,s8.drop.drop.drop.drop⟩
set_option maxHeartbeats 1000000 in
theorem FD (x:(aY (dj c H)).A h F J) (o:OkH H) (y:cG) {m:AV} (hm:m.one=true):
  ∃ h',(∃ r,aj Try.prog po 56 [.ptr c.hb 0 0,.agg (aQ y m)] h=some (.inl (.agg r),h')∧EvR (H.call y).2 r)∧Did h F J h' (aY (dj c (H.call y).1)):=by
 have s0:St h F J h (dj c H):=St.start x
 have s1:=s0.push [aQ y m]
 have s2:=s1.push [evR 0 0 zR3]
 have s3:St h F J _ (DE h.n y m [.int .i64 1,.int .i64 y.n,.nils] c H):=s2.push [[.int .i64 1,.int .i64 y.n,.nils]]
 have c0:=(s3.cell 0 rfl).1
 have c1:=(s3.cell 1 rfl).1
 have c2:=(s3.cell 2 rfl).1
 have d2:=(s2.cell 1 rfl).1
 obtain⟨vs,hv⟩:=eo s3 3 rfl
 have mset:∀ x,(((h.push [aQ y m]).push [evR 0 0 zR3]).push [zR3]).set (h.n+1+1) (some x)=((h.push [aQ y m]).push [evR 0 0 zR3]).push x:=fun x=>bm
 have mget:(((h.push [aQ y m]).push [evR 0 0 zR3]).push [zR3]).cell (h.n+1+1)=some [zR3]:=aC (h:=(h.push [aQ y m]).push [evR 0 0 zR3])
 have f4:∀ b o k,aI o (.ptr b 0 k)=some (.ptr b 0 (k+o)):=fun _ _ _=>rfl
 simp only[aQ]at c2 d2 mset mget
 unfold HoD.call
 by_cases hc:0≤y.h∧(inP y.p=false∨((H.hand y.p).length:Int)≤y.h)
 ·rw[if_pos hc]
  obtain⟨hc1,hc2⟩:=hc
  have dh:decide (0≤y.h)=true:=decide_eq_true hc1
  have s4:=s3.set 1 rfl [evR 8 0 zR3]
  refine⟨_,⟨_,?_,EvR.no⟩,s4.drop.drop.drop⟩
  cases hp:inP y.p with
  | false=>
    refine ah nH rfl ?_;unfold md
    simp only[sim,ag,reduceAdd,reduceSub,replicate,reduceCtorEq,reduceLeDiff,reduceLT,aa,aQ,bF,hp,hm,dh,c0,c1,c2,d2,mget,mset,aO]
  | true=>
    obtain⟨p0,p1⟩:=dB.1 hp
    have hl:((H.hand y.p).length:Int)≤y.h:=hc2.resolve_left (by simp[hp])
    have dl:decide (((H.hand y.p).length:Int)≤y.h)=true:=decide_eq_true hl
    obtain⟨w,hw,hh⟩:=hv.v y.p.toNat (by rw[o.good.hands];omega)
    have ld:=hv.ld hw
    simp only[aQ]at ld
    have ix:=fun q=>Nx (b:=c.hb) q p0 p1
    have hh:AE _ w (H.hand y.p):=hh
    have l1:=hh.len
    have l2:=hh.fits
    refine ah nH rfl ?_;unfold md
    simp only[sim,ag,reduceAdd,reduceSub,replicate,reduceCtorEq,reduceLeDiff,reduceLT,aa,aQ,bF,hp,hm,dh,c0,c1,c2,d2,mget,mset,aO,ix,ld,l1,l2,dl]
 ·rw[if_neg hc]
  have oa:=o.good.arg y
  by_cases h1:0≤y.h
  ·have hp:inP y.p=true:=by
    cases hp:inP y.p with
    | true=>rfl
    | false=>exact absurd ⟨h1,.inl hp⟩ hc
   have hl:¬ ((H.hand y.p).length:Int)≤y.h:=fun h=>hc ⟨h1,.inr h⟩
   obtain⟨p0,p1⟩:=dB.1 hp
   have dl:decide (((H.hand y.p).length:Int)≤y.h)=false:=decide_eq_false hl
   have dh:decide (0≤y.h)=true:=decide_eq_true h1
   obtain⟨w,hw,hh⟩:=hv.v y.p.toNat (by rw[o.good.hands];omega)
   have ld:=hv.ld hw
   simp only[aQ]at ld
   have ix:=fun q=>Nx (b:=c.hb) q p0 p1
   have hh:AE _ w (H.hand y.p):=hh
   have l1:=hh.len
   have l2:=hh.fits
   rw[if_pos h1]at oa ⊢
   have hi:y.h.toNat<(H.hand y.p).length:=by omega
   have eg:(H.hand y.p)[y.h.toNat]? =some ((H.hand y.p).getD y.h.toNat au):=by simp[List.getD,hi]
   generalize (H.hand y.p).getD y.h.toNat au=arg at*
   obtain⟨pr,ra,i1,i2,va⟩:=hh.ix .i64 _ _ eg
   rw[Int.toNat_of_nonneg h1]at i1
   have i2s:=i2
   simp only[aQ]at i2s
   have s4:St h F J _ (DE h.n y m ra c H):=s2.push [ra]
   obtain⟨r1,r2⟩:=va.len3
   have ms2:((((h.push [aQ y m]).push [evR 0 0 zR3]).push [[.int .i64 1,.int .i64 y.n,.nils]]).set (h.n+1+1) (some [ra]))=((h.push [aQ y m]).push [evR 0 0 zR3]).push [ra]:=bm
   simp only[aQ]at ms2
   obtain⟨h5,r',e,v',a0,a2,ab,b0,b2,bb,d1,sF⟩:=vd s4 o va oa.2
   generalize cO H.ms y.p y.k arg 2000 H.S=q at*
   obtain⟨S',v,n,k⟩:=q
   simp only at e v' a0 a2 ab b0 b2 bb d1 sF ⊢
   obtain⟨z1,z2⟩:=v'.len3
   refine⟨_,⟨_,?_,⟨r',rfl,v'⟩⟩,sF⟩
   simp only[aQ]at e a0 a2 ab b0 b2
   refine ah nH rfl ?_;unfold md
   simp only[sim,ag,reduceAdd,reduceSub,replicate,reduceCtorEq,reduceLeDiff,reduceLT,aa,aQ,bF,hp,hm,dh,c0,c1,c2,d2,mget,mset,aO,ix,ld,l1,l2,dl,ms2,i1,i2s,r1,r2,e,a0,a2,ab,b0,b2,bb,d1,z1,z2,aC,bm]
  ·rw[if_neg h1]at oa ⊢
   have dh:decide (0≤y.h)=false:=decide_eq_false h1
   obtain⟨h5,r',e,v',a0,a2,ab,b0,b2,bb,d1,sF⟩:=vd s3 o (tZ y.n) oa.2
   generalize cO H.ms y.p y.k (iH y.n) 2000 H.S=q at*
   obtain⟨S',v,n,k⟩:=q
   simp only at e v' a0 a2 ab b0 b2 bb d1 sF ⊢
   obtain⟨z1,z2⟩:=v'.len3
   refine⟨_,⟨_,?_,⟨r',rfl,v'⟩⟩,sF⟩
   simp only[aQ]at e a0 a2 ab b0 b2
   refine ah nH rfl ?_;unfold md
   simp only[sim,ag,reduceAdd,reduceSub,replicate,reduceCtorEq,reduceLeDiff,reduceLT,aa,aQ,bF,hm,dh,c0,c1,c2,d2,mget,mset,aO,e,a0,a2,ab,b0,b2,bb,d1,z1,z2,aC,bm]
end
section
variable {h h' h0:AH} {F J F0 J0:Nat→Prop} {L:List Asn} {c:HoC} {H:HoD}
abbrev doL (n0:Nat) (y:cG) (m:AV) (c:HoC) (H:HoD):List Asn:=[ai (n0+1) [evR 0 0 zR3],ai n0 [aQ y m],da c.hb c.bb H.hands,dH c.bb c.gb c.wb H.ms H.S.kept,br c.gb H.S.G,bj c.wb H.S.cells H.S.log]
theorem jh {n0:Nat} {hA:AH} {y:cG} {m:AV} (s:St h0 F0 J0 hA (doL n0 y m c H)) (q:List AV):hA.cell (n0+1)=some [evR 0 0 zR3]∧hA.cell n0=some [aQ y m]∧St h0 F0 J0 (hA.set (n0+1) (some [q])) (dj c H):=
 ⟨(s.cell 0 rfl).1,(s.cell 1 rfl).1,(s.set 0 rfl [q]).drop.drop⟩
theorem ot {n0:Nat} {hA:AH} {y:cG} {m:AV} (s:St h0 F0 J0 hA (doL n0 y m c H)) (o:OkH H) {R:AH→Prop} {G':ae} (cc:∀ F J,IsG hA F J c.gb H.S.G→∃ h',R h'∧dk hA F J c.gb h' G'):
  aE false 1 hA (.ptr c.hb 0 0)=some (.ptr c.bb 0 0)∧aE false 1 hA (.ptr c.bb 0 0)=some (.ptr c.gb 0 0)∧∃ h',R h'∧St h0 F0 J0 h' (doL n0 y m c (H.graph G')):=by
 obtain⟨vs,hv⟩:=eo s 2 rfl
 have l2:=(jP s (ib:=3) rfl o.len).1 1
 obtain⟨h',r,s'⟩:=s.call (R:=R) (Y:=br c.gb G') 4 rfl cc
 exact⟨hv.box 1,l2,h',r,s'⟩
theorem Eo {n0:Nat} {hA:AH} {y:cG} {m:AV} (s:St h0 F0 J0 hA (doL n0 y m c H)) (o:OkH H) {p:Int} (hp:inP p=true) (n k:Int):
  ∃ h' r,aj Try.prog po 54 [.ptr c.hb 0 0,.int .i64 p,.int .i64 n,.int .i64 k] hA=some (.inl (.agg r),h')∧EvR (H.give p n k).2 r∧St h0 F0 J0 h' (doL n0 y m c (H.give p n k).1):=by
 unfold HoD.give
 by_cases hk:k≠0
 ·rw[if_pos hk]
  obtain⟨h',e,s'⟩:=s.call (R:=fun h'=>aj Try.prog po 54 [.ptr c.hb 0 0,.int .i64 p,.int .i64 n,.int .i64 k] hA=some (.inl (.agg (evR k 0 zR3)),h')) 2 rfl fun F J x=>Ko x hk p n
  exact⟨h',_,e,EvR.no,s'⟩
 ·rw[if_neg hk]
  have hk:=Classical.not_not.1 hk
  subst hk
  obtain⟨h',e,s'⟩:=s.call (R:=fun h'=>aj Try.prog po 54 [.ptr c.hb 0 0,.int .i64 p,.int .i64 n,.int .i64 0] hA=some (.inl (.agg (evR 0 0 [.int .i64 4,.int .i64 n,.nils])),h')) 2 rfl fun F J x=>I9 x o.good.hands o.hands (dB.1 hp) n
  exact⟨h',_,e,⟨_,rfl,wx n⟩,s'⟩
theorem EvR.all {e:EvD} {r:List AV} (h:EvR e r):r.length=5∧r.all AV.one=true:=by
 obtain⟨q,rfl,hq⟩:=h
 obtain⟨q1,q2⟩:=hq.len3
 refine⟨by simp[q1],?_⟩
 simp only[List.all_cons,q2,Bool.and_true]
 rfl
set_option maxHeartbeats 2000000 in
theorem KZ (x:(aY (dj c H)).A h F J) (o:OkH H) (y:cG) {m:AV} {es:List (List AV)} (q3:SlA tE m es) (q4:ExL y.m es) (hL:y.m.length≤100000) (hs:∀ x∈y.m,x.size≤100000):
  ∃ h',(∃ r,aj Try.prog po 23 [.ptr c.hb 0 0,.agg (aQ y m)] h=some (.inl (.agg r),h')∧EvR (H.step y).2 r)∧Did h F J h' (aY (dj c (H.step y).1)):=by
 have s0:St h F J h (dj c H):=St.start x
 have s1:=s0.push [aQ y m]
 have s2:St h F J _ (doL h.n y m c H):=s1.push [evR 0 0 zR3]
 have hm:m.one=true:=(gC.of (h:=h) q3 q4).one
 have c1:((h.push [aQ y m]).push [evR 0 0 zR3]).cell h.n=some [aQ y m]:=(s2.cell 1 rfl).1
 have mset:∀ x,((h.push [aQ y m]).push [evR 0 0 zR3]).set (h.n+1) (some x)=(h.push [aQ y m]).push x:=fun x=>bm
 have mget:∀ x,((h.push [aQ y m]).push x).cell (h.n+1)=some x:=fun x=>aC (h:=h.push [aQ y m])
 unfold HoD.step
 by_cases k1:y.kind=1
 ·have d1:decide (y.kind=1)=true:=decide_eq_true k1
  rw[if_pos k1]
  obtain⟨h5,e5,s5⟩:=s2.callL (A:=[ai (h.n+1) [evR 0 0 zR3],ai h.n [aQ y m]]) (M:=dj c H) (B:=[]) (M':=dj c (H.load y.p y.m).1) (R:=fun h'=>aj Try.prog po 51 [.ptr c.hb 0 0,.int .i64 y.p,.agg [m]] _=some (.inl (.int .i64 (H.load y.p y.m).2),h')) fun F J x=>E4 x o y.p q3 q4 hL hs
  have s5:St h F J h5 (doL h.n y m c (H.load y.p y.m).1):=s5
  obtain⟨b1,b2,s6⟩:=jh s5 (evR (H.load y.p y.m).2 0 zR3)
  refine⟨_,⟨_,?_,EvR.no⟩,s6⟩
  have lm:ldA true 1 (aQ y m) 8=some (.agg [m]):=rfl
  simp only[aQ]at c1 mset mget e5 lm
  refine ah jK rfl ?_;unfold je
  simp only[sim,ag,reduceAdd,reduceSub,replicate,reduceCtorEq,reduceLeDiff,reduceLT,aa,aQ,hm,d1,c1,mget,mset,lm,e5,b1,aO]
 have d1:decide (y.kind=1)=false:=decide_eq_false k1
 rw[if_neg k1]
 by_cases k23:y.kind=2∨y.kind=3
 ·rw[if_pos k23]
  cases hp:inP y.p with
  | false=>
    have s6:=(jh s2 (evR 1 0 zR3)).2.2
    refine⟨_,⟨_,?_,EvR.no⟩,s6⟩
    simp only[aQ]at c1 mset mget
    rcases k23 with k2 | k3
    ·have d2:decide (y.kind=2)=true:=decide_eq_true k2
     refine ah jK rfl ?_;unfold je
     simp only[sim,ag,reduceAdd,reduceSub,replicate,reduceCtorEq,reduceLeDiff,reduceLT,aa,aQ,bF,hp,hm,d1,d2,c1,mget,mset,aO]
    ·have d2:decide (y.kind=2)=false:=decide_eq_false (by omega)
     have d3:decide (y.kind=3)=true:=decide_eq_true k3
     refine ah jK rfl ?_;unfold je
     simp only[sim,ag,reduceAdd,reduceSub,replicate,reduceCtorEq,reduceLeDiff,reduceLT,aa,aQ,bF,hp,hm,d1,d2,d3,c1,mget,mset,aO]
  | true=>
    rw[if_neg (by decide)]
    by_cases k2:y.kind=2
    ·have d2:decide (y.kind=2)=true:=decide_eq_true k2
     rw[if_pos k2]
     obtain⟨l1,l2,h3,e3,s3⟩:=ot s2 o (fun F J g=>NX g o.good.st.wf y.k y.r y.g)
     have o':OkH (H.graph (H.S.G.cellC y.k y.r y.g).1):=⟨o.good.graph (o.good.st.wf.cellC _ _ _),o.log,o.hands⟩
     obtain⟨h5,r5,e5,v5,s5⟩:=Eo s3 o' hp (H.S.G.cellC y.k y.r y.g).2.1 (H.S.G.cellC y.k y.r y.g).2.2
     obtain⟨a1,a2,_⟩:=jh s3 r5
     obtain⟨b1,b2,s6⟩:=jh s5 r5
     obtain⟨z1,z2⟩:=v5.all
     refine⟨_,⟨_,?_,v5⟩,s6⟩
     simp only[aQ]at c1 mset mget l1 l2 e3 a2
     refine ah jK rfl ?_;unfold je
     simp only[sim,ag,reduceAdd,reduceSub,replicate,reduceCtorEq,reduceLeDiff,reduceLT,aa,aQ,bF,hp,hm,d1,d2,c1,mget,mset,l1,l2,e3,a2,e5,b1,z1,z2,aO]
    ·have d2:decide (y.kind=2)=false:=decide_eq_false k2
     have d3:decide (y.kind=3)=true:=decide_eq_true (k23.resolve_left k2)
     rw[if_neg k2]
     obtain⟨l1,l2,h3,e3,s3⟩:=ot s2 o (fun F J g=>Ov g o.good.st.wf y.q y.k y.r y.g)
     have o':OkH (H.graph (H.S.G.funcC y.q y.k y.r y.g).1):=⟨o.good.graph (o.good.st.wf.funcC _ _ _ _),o.log,o.hands⟩
     obtain⟨h5,r5,e5,v5,s5⟩:=Eo s3 o' hp (H.S.G.funcC y.q y.k y.r y.g).2.1 (H.S.G.funcC y.q y.k y.r y.g).2.2
     obtain⟨a1,a2,_⟩:=jh s3 r5
     obtain⟨b1,b2,s6⟩:=jh s5 r5
     obtain⟨z1,z2⟩:=v5.all
     refine⟨_,⟨_,?_,v5⟩,s6⟩
     simp only[aQ]at c1 mset mget l1 l2 e3 a2
     refine ah jK rfl ?_;unfold je
     simp only[sim,ag,reduceAdd,reduceSub,replicate,reduceCtorEq,reduceLeDiff,reduceLT,aa,aQ,bF,hp,hm,d1,d2,d3,c1,mget,mset,l1,l2,e3,a2,e5,b1,z1,z2,aO]
 rw[if_neg k23]
 have d2:decide (y.kind=2)=false:=decide_eq_false fun h=>k23 (.inl h)
 have d3:decide (y.kind=3)=false:=decide_eq_false fun h=>k23 (.inr h)
 by_cases k4:y.kind=4
 ·have d4:decide (y.kind=4)=true:=decide_eq_true k4
  rw[if_pos k4]
  obtain⟨h5,⟨r5,e5,v5⟩,s5⟩:=s2.callL (A:=[ai (h.n+1) [evR 0 0 zR3],ai h.n [aQ y m]]) (M:=dj c H) (B:=[]) (M':=dj c (H.call y).1) (R:=fun h'=>∃ r,aj Try.prog po 56 [.ptr c.hb 0 0,.agg (aQ y m)] _=some (.inl (.agg r),h')∧EvR (H.call y).2 r) fun F J x=>FD x o y hm
  have s5:St h F J h5 (doL h.n y m c (H.call y).1):=s5
  obtain⟨b1,b2,s6⟩:=jh s5 r5
  obtain⟨z1,z2⟩:=v5.all
  refine⟨_,⟨_,?_,v5⟩,s6⟩
  simp only[aQ]at c1 mset mget e5
  refine ah jK rfl ?_;unfold je
  simp only[sim,ag,reduceAdd,reduceSub,replicate,reduceCtorEq,reduceLeDiff,reduceLT,aa,aQ,hm,d1,d2,d3,d4,c1,mget,mset,e5,b1,z1,z2,aO]
 have d4:decide (y.kind=4)=false:=decide_eq_false k4
 rw[if_neg k4]
 by_cases k5:y.kind=5
 ·have d5:decide (y.kind=5)=true:=decide_eq_true k5
  rw[if_pos k5]
  obtain⟨l1,l2,h3,e3,s3⟩:=ot s2 o (fun F J g=>Mt g y.g)
  obtain⟨b1,b2,s6⟩:=jh s3 (evR (H.S.G.cut y.g).2 0 zR3)
  refine⟨_,⟨_,?_,EvR.no⟩,s6⟩
  simp only[aQ]at c1 mset mget l1 l2 e3
  refine ah jK rfl ?_;unfold je
  simp only[sim,ag,reduceAdd,reduceSub,replicate,reduceCtorEq,reduceLeDiff,reduceLT,aa,aQ,hm,d1,d2,d3,d4,d5,c1,mget,mset,l1,l2,e3,b1,aO]
 have d5:decide (y.kind=5)=false:=decide_eq_false k5
 rw[if_neg k5]
 by_cases k6:y.kind=6
 ·have d6:decide (y.kind=6)=true:=decide_eq_true k6
  rw[if_pos k6]
  obtain⟨l1,l2,h3,e3,s3⟩:=ot s2 o (fun F J g=>G8 g o.good.st.wf)
  by_cases hz:H.S.G.gate.2.2=0
  ·have dz:decide (H.S.G.gate.2.2=0)=true:=decide_eq_true hz
   obtain⟨b1,b2,s6⟩:=jh s3 (evR 0 0 [.int .i64 1,.int .i64 H.S.G.gate.2.1,.nils])
   refine⟨_,⟨evR 0 0 [.int .i64 1,.int .i64 H.S.G.gate.2.1,.nils],?_,?_⟩,s6⟩
   rotate_left
   ·simp only[if_neg (fun h:H.S.G.gate.2.2≠0=>h hz)]
    exact⟨_,rfl,tZ _⟩
   simp only[aQ]at c1 mset mget l1 l2 e3
   refine ah jK rfl ?_;unfold je
   simp only[sim,ag,reduceAdd,reduceSub,replicate,reduceCtorEq,reduceLeDiff,reduceLT,aa,aQ,hm,d1,d2,d3,d4,d5,d6,c1,mget,mset,l1,l2,e3,b1,dz,aO]
  ·have dz:decide (H.S.G.gate.2.2=0)=false:=decide_eq_false hz
   obtain⟨b1,b2,s6⟩:=jh s3 (evR H.S.G.gate.2.2 0 zR3)
   refine⟨_,⟨evR H.S.G.gate.2.2 0 zR3,?_,?_⟩,s6⟩
   rotate_left
   ·simp only[if_pos (show H.S.G.gate.2.2≠0 from hz)]
    exact EvR.no
   simp only[aQ]at c1 mset mget l1 l2 e3
   refine ah jK rfl ?_;unfold je
   simp only[sim,ag,reduceAdd,reduceSub,replicate,reduceCtorEq,reduceLeDiff,reduceLT,aa,aQ,hm,d1,d2,d3,d4,d5,d6,c1,mget,mset,l1,l2,e3,b1,dz,aO]
 have d6:decide (y.kind=6)=false:=decide_eq_false k6
 rw[if_neg k6]
 have s6:=(jh s2 (evR 2 0 zR3)).2.2
 refine⟨_,⟨_,?_,EvR.no⟩,s6⟩
 simp only[aQ]at c1 mset mget
 refine ah jK rfl ?_;unfold je
 simp only[sim,ag,reduceAdd,reduceSub,replicate,reduceCtorEq,reduceLeDiff,reduceLT,aa,aQ,hm,d1,d2,d3,d4,d5,d6,c1,mget,mset,aO]
end
abbrev tSt:TypeId:=56
section
variable {h h' h0:AH} {F J F0 J0:Nat→Prop} {L:List Asn} {c:HoC} {H:HoD} {hb bb:Nat} {hands:List (List VD)}
theorem H3:(cM .nils []).A h (fun _=>False) (fun _=>False):=⟨[],rfl,.inl ⟨⟨rfl,rfl⟩,fun _ h=>h,fun _ h=>h⟩⟩
theorem aY.vals_nils:∀ n:Nat,(aY (List.zipWith cM (replicate n .nils) (replicate n []))).A h (fun _=>False) (fun _=>False)
 | 0=>⟨trivial,fun _ h=>h,fun _ h=>h⟩
 | n+1=>⟨fun _=>False,fun _=>False,fun _=>False,fun _=>False,H3,aY.vals_nils n,fun k=>by simp,fun j=>by simp,fun _ h=>h.elim,fun _ h=>h.elim⟩
theorem Fl {b:Nat} (hb:b=h.n):(da b bb [[],[],[],[]]).A (h.push [[.ptr bb 0 0,.nils,.nils,.nils,.nils]]) (fun k=>k=b) (fun _=>False):=by
 subst hb
 exact⟨[.nils,.nils,.nils,.nils],rfl,fun k=>k=h.n,fun _=>False,fun _=>False,fun _=>False,⟨fun _=>Iff.rfl,fun _ h=>h,Nat.lt_succ_self _,aC⟩,aY.vals_nils 4,fun k=>by simp,fun j=>by simp,fun _ _ h=>h,fun _ h=>h.elim⟩
theorem KM (s:St h0 F0 J0 h L):∃ h' c,aj Try.prog po 22 [] h=some (.inl (.ptr c.hb 0 0),h')∧St h0 F0 J0 h' (dj c ho0++L):=by
 obtain⟨h1,bb,gb,wb,e1,s1⟩:=Ib s
 have s2:=s1.add (X:=da h1.n bb [[],[],[],[]]) (h':=h1.push [[.ptr bb 0 0,.nils,.nils,.nils,.nils]]) (F1:=fun k=>k=h1.n) (J1:=fun _=>False) (af.push _ _) (Fl rfl) (fun k hk=>Nat.le_of_eq hk.symm) (fun _ h=>h.elim)
 refine⟨_,⟨h1.n,bb,gb,wb⟩,?_,s2⟩
 refine ah LU rfl ?_;unfold CX
 simp only[sim,ag,reduceAdd,reduceSub,replicate,reduceCtorEq,reduceLeDiff,reduceLT,aa,e1]
theorem Ch (b:Nat) (n:Nat) {l:List VD} {rows:List (List AV)} (hl:VaL l rows) (he:bM h tV (.msl b 0 n tV)=some rows) (hn:l.length≤1000000):∃ es,aj Try.prog po 61 [.msl b 0 n tV] h=some (.inl (.isl none tV es),h)∧VaL l es:=by
 have hlen:=hl.len
 have he0:∀ m,bM (h.fresh m) tV (.msl b 0 n tV)=some rows:=fun m=>he
 have ho:∀ r∈rows,r.all AV.one=true:=by
  intro r hr
  obtain⟨i,hi⟩:=List.mem_iff_getElem?.1 hr
  have h1:i<l.length:=by rw[←hlen];exact(List.getElem?_eq_some_iff.1 hi).1
  obtain⟨r',q1,q2⟩:=hl.get (List.getElem?_eq_getElem h1)
  rw[hi]at q1
  injection q1 with q1
  rw[q1]
  exact q2.len3.2
 have e1:aF false tV (.isl (some h.ids) tV []) (.msl b 0 n tV) (h.fresh 0)=some (.isl (some h.ids) tV rows,if rows.length=0 then h.fresh 0 else(h.fresh 0).grow h.ids rows.length):=by
  simp only[aF,he0,Option.bind_some]
  by_cases hz:rows.length=0
  ·simp[hz,kW,List.length_eq_zero_iff.1 hz]
  ·rw[if_neg hz,if_neg hz]
   unfold eF
   rw[if_pos ⟨by omega,by omega,by rw[List.all_eq_true];exact ho⟩]
   simp[jW]
 have hg:af h (if rows.length=0 then h.fresh 0 else(h.fresh 0).grow h.ids rows.length):=by
  split
  ·exact af.fresh h 0
  ·exact(af.fresh h 0).grow (Nat.le_refl _)
 obtain⟨es,w1,w2⟩:=wB hl
 have hw:wkA (.isl (some h.ids) tV rows)=some (.isl none tV es):=by simp only[wkA,w1,Option.map_some]
 refine⟨es,?_,w2⟩
 refine ah uG rfl ?_;unfold ph
 simp only[sim,ag,reduceAdd,reduceSub,replicate,reduceCtorEq,reduceLeDiff,reduceLT,aa,e1,aA hg hw]
theorem AZ:aj Try.prog po 61 [.nils] h=some (.inl .nils,h):=by
 refine ah uG rfl ?_;unfold ph
 simp only[sim,ag,reduceAdd,reduceSub,replicate,reduceCtorEq,reduceLeDiff,reduceLT,aa]
 exact aA (af.refl h) rfl
def HoD.handO (H:HoD) (p:Int):List VD:=if inP p then H.hand p else[]
theorem IP (s:St h0 F0 J0 h L) (i:Nat) (hi:L[i]? =some (da hb bb H.hands)) (h4:H.hands.length=4) (hlen:∀ l∈H.hands,l.length≤90000) (p:Int):
  ∃ v es,aj Try.prog po 27 [.ptr hb 0 0,.int .i64 p] h=some (.inl v,h)∧SlA tV v es∧VaL (H.handO p) es:=by
 unfold HoD.handO
 cases hp:inP p with
 | false=>
   refine⟨.nils,[],?_,.inl ⟨rfl,rfl⟩,by simp[VaL]⟩
   refine ah tF rfl ?_;unfold nV
   simp only[sim,ag,reduceAdd,reduceSub,replicate,reduceCtorEq,reduceLeDiff,reduceLT,aa,bF,hp]
   exact aA (af.refl h) rfl
 | true=>
   obtain⟨p0,p1⟩:=dB.1 hp
   obtain⟨vs,hv⟩:=eo s i hi
   obtain⟨w,hw,hh⟩:=hv.v p.toNat (by omega)
   have ld:=hv.ld hw
   have ix:=fun q=>Nx (b:=hb) q p0 p1
   have f1:aI 1 (.ptr hb 0 0)=some (.ptr hb 0 1):=rfl
   have hl:(H.hand p).length≤1000000:=by
    have:H.hand p∈H.hands:=by
     unfold HoD.hand
     rw[List.getD,List.getElem?_eq_getElem (by omega),Option.getD_some]
     exact List.getElem_mem _
    have:=hlen _ this
    omega
   have hh:AE h w (H.hand p):=hh
   rw[if_pos rfl]
   rcases hh.sl with⟨e1,rfl⟩ | ⟨b,rows,rfl,e2,e3⟩
   ·refine⟨.nils,[],?_,.inl ⟨rfl,rfl⟩,by rw[e1];simp[VaL]⟩
    refine ah tF rfl ?_;unfold nV
    simp only[sim,ag,reduceAdd,reduceSub,replicate,reduceCtorEq,reduceLeDiff,reduceLT,aa,bF,hp,f1,ix,ld,AZ]
    exact aA (af.refl h) rfl
   ·obtain⟨es,e4,e5⟩:=Ch b _ e2 e3 hl
    obtain⟨es',w1,w2⟩:=wB e5
    refine⟨.isl none tV es',es',?_,.inr ⟨_,rfl⟩,w2⟩
    have hwk:wkA (.isl none tV es)=some (.isl none tV es'):=by simp only[wkA,w1,Option.map_some]
    refine ah tF rfl ?_;unfold nV
    simp only[sim,ag,reduceAdd,reduceSub,replicate,reduceCtorEq,reduceLeDiff,reduceLT,aa,bF,hp,f1,ix,ld,e4]
    exact aA (af.refl h) hwk
def gk:List cG→List (List AV)→Prop
 | [],es=>es=[]
 | x::xs,es=>∃ m ms rs,es=aQ x m::rs∧SlA tE m ms∧ExL x.m ms∧gk xs rs
theorem gk.len:∀ {xs:List cG} {es:List (List AV)},gk xs es→es.length=xs.length
 | [],es,h=>by simp only[gk]at h;subst h;rfl
 | x::xs,es,h=>by
   obtain⟨m,ms,rs,rfl,_,_,h2⟩:=h
   simp[h2.len]
theorem gk.get:∀ {xs:List cG} {es:List (List AV)} {i:Nat} {x:cG},gk xs es→xs[i]? =some x→∃ m ms,es[i]? =some (aQ x m)∧SlA tE m ms∧ExL x.m ms
 | [],es,i,x,h,hi=>by simp at hi
 | y::xs,es,i,x,h,hi=>by
   obtain⟨m,ms,rs,rfl,h1,h2,h3⟩:=h
   cases i with
   | zero=>obtain rfl:y=x:=by simpa using hi
           exact⟨m,ms,rfl,h1,h2⟩
   | succ i=>exact h3.get (by simpa using hi)
def sZ (xs:List cG) (most:Nat):Bool:=(xs.take most).any (fun x=>gm x.m) || decide (most<xs.length)
theorem FH {xs:List cG} {most:Nat} (h:sZ xs most=false):xs.length≤most∧∀ x∈xs,x.m.length≤100000∧∀ e∈x.m,e.size≤100000:=by
 unfold sZ at h
 simp only[Bool.or_eq_false_iff,decide_eq_false_iff_not,Nat.not_lt]at h
 obtain⟨h1,h2⟩:=h
 rw[List.take_of_length_le h2]at h1
 refine⟨h2,fun x hx=> ?_⟩
 have hg:gm x.m=false:=by
  cases hg:gm x.m with
  | false=>rfl
  | true=>
    have:xs.any (fun x=>gm x.m)=true:=List.any_eq_true.2 ⟨x,hx,hg⟩
    rw[this]at h1;cases h1
 obtain⟨q1,q2⟩:=Iv hg
 exact⟨by omega,fun e he=>by have:=q2 e he;omega⟩
theorem yl {lv:AV} {rows:List (List AV)} {xs:List cG} (hs:SlA tSt lv rows) (hl:gk xs rows) (hxl:xs.length≤9223372036854775807) {most:Nat} (hm:most≤1000) (K:List RK):∀ (d k:Nat) (h':AH) (v4 v5:AV),k+d=most→af h h'→
  (((xs.take most).drop k).any (fun x=>gm x.m)=true→∃ V,aq (aj Try.prog po) 6 (.lp bB:: .ss []:: .blk 0::K) [lv,.int .i64 (most:Int),.bool false,.int .i64 (k:Int),v4,v5] [] h'=some (.ret,V,h')∧V.getD 2 .junk= .bool true)∧
  (((xs.take most).drop k).any (fun x=>gm x.m)=false→∃ w3 w4 w5,aq (aj Try.prog po) 6 (.lp bB:: .ss []:: .blk 0::K) [lv,.int .i64 (most:Int),.bool false,.int .i64 (k:Int),v4,v5] [] h'=aq (aj Try.prog po) 6 K [lv,.int .i64 (most:Int),.bool false,w3,w4,w5] [] h'):=by
 have hll:=hl.len
 have end_:∀ (k:Nat) (h':AH) (v4 v5:AV),(xs.length≤k∨most≤k)→∃ w3 w4 w5,aq (aj Try.prog po) 6 (.lp bB:: .ss []:: .blk 0::K) [lv,.int .i64 (most:Int),.bool false,.int .i64 (k:Int),v4,v5] [] h'=aq (aj Try.prog po) 6 K [lv,.int .i64 (most:Int),.bool false,w3,w4,w5] [] h':=by
  intro k h' v4 v5 hk
  by_cases h1:k<xs.length
  ·have d1:decide ((k:Int)<(xs.length:Int))=true:=decide_eq_true (by omega)
   have d2:decide ((k:Int)<(most:Int))=false:=decide_eq_false (by omega)
   refine⟨.int .i64 (k:Int),.bool false,v5,?_⟩
   rw[aB bB.eq_1]
   simp only[sim,ag,reduceAdd,reduceSub,replicate,reduceCtorEq,reduceLeDiff,reduceLT,aa,hs.isL.len,hs.isL.fits,hll,d1,d2]
  ·have d1:decide ((k:Int)<(xs.length:Int))=false:=decide_eq_false (by omega)
   refine⟨.int .i64 (k:Int),.bool false,v5,?_⟩
   rw[aB bB.eq_1]
   simp only[sim,ag,reduceAdd,reduceSub,replicate,reduceCtorEq,reduceLeDiff,reduceLT,aa,hs.isL.len,hs.isL.fits,hll,d1]
 intro d
 induction d with
 | zero=>
   intro k h' v4 v5 hk hg
   refine⟨fun h=> ?_,fun _=>end_ k h' v4 v5 (.inr (by omega))⟩
   rw[List.drop_eq_nil_of_le (by simp;omega)]at h
   cases h
 | succ d ih=>
   intro k h' v4 v5 hk hg
   by_cases h1:k<xs.length
   ·have d1:decide ((k:Int)<(xs.length:Int))=true:=decide_eq_true (by omega)
    have d2:decide ((k:Int)<(most:Int))=true:=decide_eq_true (by omega)
    have hx:xs[k]? =some xs[k]:=List.getElem?_eq_getElem h1
    have hk2:k<(xs.take most).length:=by simp;omega
    have ed:(xs.take most).drop k=xs[k]::(xs.take most).drop (k+1):=by
     rw[List.drop_eq_getElem_cons hk2]
     simp
    rw[ed,List.any_cons]
    generalize xs[k]=x at hx
    obtain⟨m,ms,q1,q3,q4⟩:=hl.get hx
    have ix:=hs.isL.ix .i64 k _ q1
    have mm:∀ h,gC h m x.m:=fun h=>gC.of q3 q4
    have gr:=Fh (h:=h') m x.m (mm h')
    have om:=(mm h').one
    have f8:aI 8 (.ip (aQ x m) 0)=some (.ip (aQ x m) 8):=rfl
    have lm:ldA true 1 (aQ x m) 8=some (.agg [m]):=rfl
    have w:=w64 (n:=(k:Int)+1) (by omega) (by omega)
    obtain⟨i1,i2⟩:=ih (k+1) h' (.bool true) (.bool (gm x.m)) (by omega) hg
    have ek:((k+1:Nat):Int)=(k:Int)+1:=by omega
    cases hgx:gm x.m with
    | true=>
      rw[hgx]at gr
      refine⟨fun _=>⟨[lv,.int .i64 (most:Int),.bool true,.int .i64 (k:Int),.bool true,.bool true],?_,rfl⟩,fun h=>by simp at h⟩
      rw[aB bB.eq_1]
      simp only[sim,ag,reduceAdd,reduceSub,replicate,reduceCtorEq,reduceLeDiff,reduceLT,aa,az,hs.isL.len,hs.isL.fits,hll,d1,d2,ix,f8,lm,gr]
    | false=>
      rw[hgx]at gr i1 i2
      rw[Bool.false_or]
      refine⟨fun h=> ?_,fun h=> ?_⟩
      ·obtain⟨V,r1,r2⟩:=i1 h
       refine⟨V,?_,r2⟩
       rw[←r1,ek]
       conv=>lhs;rw[aB bB.eq_1]
       simp only[sim,ag,reduceAdd,reduceSub,replicate,reduceCtorEq,reduceLeDiff,reduceLT,aa,az,hs.isL.len,hs.isL.fits,hll,d1,d2,ix,f8,lm,gr,w]
      ·obtain⟨w3,w4,w5,r1⟩:=i2 h
       refine⟨w3,w4,w5,?_⟩
       rw[←r1,ek]
       conv=>lhs;rw[aB bB.eq_1]
       simp only[sim,ag,reduceAdd,reduceSub,replicate,reduceCtorEq,reduceLeDiff,reduceLT,aa,az,hs.isL.len,hs.isL.fits,hll,d1,d2,ix,f8,lm,gr,w]
   ·refine⟨fun h=> ?_,fun _=>end_ k h' v4 v5 (.inl (by omega))⟩
    rw[List.drop_eq_nil_of_le (by simp;omega)]at h
    cases h
theorem uc {lv:AV} {rows:List (List AV)} {xs:List cG} (hs:SlA tSt lv rows) (hl:gk xs rows) (hxl:xs.length≤9223372036854775807) (most:Nat) (hm:most≤1000):aj Try.prog po 21 [lv,.int .i64 (most:Int)] h=some (.inl (.bool (sZ xs most)),h):=by
 obtain⟨i1,i2⟩:=yl (h:=h) hs hl hxl hm [.ss [.ops [(.i .l (.mv (.v 0))),(.i .l (.len false (some 56) (.l 0))),(.i .l (.mv (.v 1))),(.i .l (.bin (.int .i64) .gtr (.l 1) (.l 0))),(.i (.v 2) (.mv (.l 0)))],.ret]] most 0 h .junk .junk (Nat.zero_add _) (af.refl h)
 rw[List.drop_zero]at i1 i2
 simp only[Int.natCast_zero]at i1 i2
 have hll:=hl.len
 unfold sZ
 cases hg:(xs.take most).any (fun x=>gm x.m)with
 | true=>
   obtain⟨V,r1,r2⟩:=i1 hg
   refine ah mU rfl ?_;unfold jN
   simp only[sim,ag,reduceAdd,reduceSub,replicate,reduceCtorEq,reduceLeDiff,reduceLT,aa]
   rw[r1]
   simp only[sim,ag,reduceAdd,reduceSub,replicate,reduceCtorEq,reduceLeDiff,reduceLT,aa,r2]
 | false=>
   obtain⟨w3,w4,w5,r1⟩:=i2 hg
   refine ah mU rfl ?_;unfold jN
   simp only[sim,ag,reduceAdd,reduceSub,replicate,reduceCtorEq,reduceLeDiff,reduceLT,aa]
   rw[r1]
   simp only[sim,ag,reduceAdd,reduceSub,replicate,reduceCtorEq,reduceLeDiff,reduceLT,aa,hs.isL.len,hs.isL.fits,hll]
   have e:decide ((most:Int)<(xs.length:Int))=decide (most<xs.length):=by rw[decide_eq_decide];omega
   simp only[e,Bool.false_or]
end
structure AP (n:Nat) (H:HoD):Prop where
 good:H.Good
 log:H.S.log.length≤2000*n
 hands:∀ l∈H.hands,l.length≤1000+n
theorem AP.ok {n:Nat} {H:HoD} (o:AP n H) (hn:n≤400):OkH H:=⟨o.good,by have:=o.log;omega,fun l hl=>by have:=o.hands l hl;omega⟩
theorem AP.step {n:Nat} {H:HoD} (o:AP n H) (x:cG):AP (n+1) (H.step x).1:=by
 have s:=o.good.step x
 refine⟨s.good,by have:=s.log;have:=o.log;omega,fun l hl=> ?_⟩
 rcases s.hand l hl with h1 | ⟨l',h1,h2⟩
 ·omega
 ·have:=o.hands l' h1;omega
theorem NJ:AP 0 ho0:=⟨yi,by simp[ho0,L1],fun l hl=>by
 have:l=[]:=by simpa[ho0]using hl
 rw[this];simp⟩
def OZ:List XD:=[.mk 13 0 0 [.mk 3 0 0 []]]
def hb1:cG:=⟨1,1,0,0,0,0,0,0,OZ⟩
def hb2:cG:=⟨2,1,0,3,0,1, -1,0,[]⟩
def hb3:cG:=⟨4,1,0,0,0,0,0,0,[]⟩
section
variable {h h' h0:AH} {F J F0 J0:Nat→Prop} {L A B:List Asn} {c:HoC} {H:HoD}
theorem Od (s:St h0 F0 J0 h (A++dj c H++B)) (o:OkH H) (y:cG) {m:AV} {es:List (List AV)} (q3:SlA tE m es) (q4:ExL y.m es) (hL:y.m.length≤100000) (hs:∀ x∈y.m,x.size≤100000):
  ∃ h' r,aj Try.prog po 23 [.ptr c.hb 0 0,.agg (aQ y m)] h=some (.inl (.agg r),h')∧EvR (H.step y).2 r∧St h0 F0 J0 h' (A++dj c (H.step y).1++B):=by
 obtain⟨h',⟨r,e,v⟩,s'⟩:=s.callL (M':=dj c (H.step y).1) fun F J x=>KZ x o y q3 q4 hL hs
 exact⟨h',r,e,v,s'⟩
end
def qH (a x y:Int) (out:List Int):List Int:=if x=a∧out.contains y=false then out++[y]else out
def pK (a:Int) (out:List Int) (l:Int×Int):List Int:=qH a l.2 l.1 (qH a l.1 l.2 out)
def kT (links:List (Int×Int)):Nat→Nat→List Int→List Int
 | 0,_,out=>out
 | f+1,i,out=>if i<out.length then kT links f (i+1) (links.foldl (pK (out.getD i 0)) out)else out
def ic (links:List (Int×Int)) (p:Int):List Int:=kT links (2*links.length+2) 0 [p]
structure jF where
 (plugin cell rights:Int)
def BS (gifts:List jF) (links:List (Int×Int)) (p cell right:Int):Bool:=gifts.any fun g=>decide (g.cell=cell) && (decide (dT g.rights right=right) && (ic links p).contains g.plugin)
structure WaD where
 H:HoD
 gifts:List jF
 links:List (Int×Int)
 (code at_ n:Int)
def WaD.note (W:WaD) (x:cG):WaD:=if x.kind=2 then{W with gifts:=W.gifts++[⟨x.p,x.k,x.r⟩]}else if x.kind=3 then{W with links:=W.links++[(x.p,x.q)]}else W
def WaD.see (W:WaD) (y:ca):WaD:=if W.code=0∧BS W.gifts W.links y.plugin y.cell y.right=false then{W with code:=14,at_:=W.n}else W
def WaD.step (W:WaD) (x:cG):WaD×EvD×Int×Int:=
 let W1:WaD:={W with H:=(W.H.step x).1}
 let W2:=if(W.H.step x).2.code=0 then W1.note x else W1
 let W3:=((W.H.step x).1.S.log.drop W.H.S.log.length).foldl WaD.see W2
 ({W3 with n:=W3.n+1},(W.H.step x).2,W3.code,W3.at_)
def wa0:WaD:=⟨ho0,[],[],0,0,0⟩
theorem tz {a x y:Int} {out:List Int}:out.length≤(qH a x y out).length∧∃ e,qH a x y out=out++e:=by
 unfold qH
 split
 ·exact⟨by simp,[y],rfl⟩
 ·exact⟨Nat.le_refl _,[],by simp⟩
theorem z8 {a:Int} {out:List Int} {l:Int×Int}:∃ e,pK a out l=out++e:=by
 unfold pK
 obtain⟨_,e1,h1⟩:=tz (a:=a) (x:=l.1) (y:=l.2) (out:=out)
 obtain⟨_,e2,h2⟩:=tz (a:=a) (x:=l.2) (y:=l.1) (out:=qH a l.1 l.2 out)
 exact⟨e1++e2,by rw[h2,h1,List.append_assoc]⟩
theorem Aj {a:Int}:∀ (ls:List (Int×Int)) (out:List Int),∃ e,ls.foldl (pK a) out=out++e
 | [],out=>⟨[],by simp⟩
 | l::ls,out=>by
   obtain⟨e1,h1⟩:=z8 (a:=a) (out:=out) (l:=l)
   obtain⟨e2,h2⟩:=Aj (a:=a) ls (pK a out l)
   exact⟨e1++e2,by rw[List.foldl_cons,h2,h1,List.append_assoc]⟩
def F8 (links:List (Int×Int)):List Int:=links.flatMap fun l=>[l.1,l.2]
theorem Jt (links:List (Int×Int)):(F8 links).length=2*links.length:=by
 induction links with
 | nil=>rfl
 | cons l ls ih=>
   simp only[F8,List.flatMap_cons,List.length_append,List.length_cons,List.length_nil]at ih ⊢
   omega
structure kZ (links:List (Int×Int)) (p:Int) (out:List Int):Prop where
 nd:out.Nodup
 sub:∀ x∈out,x∈p::F8 links
theorem Fr {l m:List Int} (h:l.Nodup) (hs:∀ x∈l,x∈m):l.length≤m.length:=by
 induction l generalizing m with
 | nil=>simp
 | cons x l ih=>
   have hx:=hs x (by simp)
   rw[List.nodup_cons]at h
   have h2:∀ y∈l,y∈m.erase x:=fun y hy=>by
    have hy':=hs y (by simp[hy])
    refine(List.mem_erase_of_ne ?_).2 hy'
    rintro rfl
    exact h.1 hy
   have:=ih h.2 h2
   rw[List.length_erase_of_mem hx]at this
   have:0<m.length:=List.length_pos_of_mem hx
   simp only[List.length_cons]
   omega
theorem kZ.addK {links:List (Int×Int)} {p a x y:Int} {out:List Int} (g:kZ links p out) (hy:y∈F8 links):kZ links p (qH a x y out):=by
 unfold Go.Proofs.Ytkdbjfncchmmpaa.qH
 split
 ·rename_i h
  refine⟨?_,fun z hz=> ?_⟩
  ·rw[List.nodup_append]
   refine⟨g.nd,by simp,fun u hu v hv e=> ?_⟩
   obtain rfl:v=y:=by simpa using hv
   subst e
   have:=h.2
   rw[List.contains_eq_mem]at this
   simp at this
   exact this hu
  ·rcases List.mem_append.1 hz with hz | hz
   ·exact g.sub z hz
   ·obtain rfl:z=y:=by simpa using hz
    exact List.mem_cons_of_mem _ hy
 ·exact g
theorem kZ.fold {links:List (Int×Int)} {p a:Int}:∀ (ls:List (Int×Int)) (out:List Int),(∀ l∈ls,l∈links)→kZ links p out→kZ links p (ls.foldl (pK a) out)
 | [],out,_,g=>g
 | l::ls,out,hs,g=>by
   have hl:=hs l (by simp)
   have e1:l.2∈F8 links:=List.mem_flatMap.2 ⟨l,hl,by simp⟩
   have e2:l.1∈F8 links:=List.mem_flatMap.2 ⟨l,hl,by simp⟩
   exact kZ.fold ls _ (fun m hm=>hs m (by simp[hm])) ((g.addK e1).addK e2)
theorem kZ.len {links:List (Int×Int)} {p:Int} {out:List Int} (g:kZ links p out):out.length≤2*links.length+1:=by
 have:=Fr g.nd g.sub
 rw[List.length_cons,Jt]at this
 exact this
theorem vN (links:List (Int×Int)) (p:Int):kZ links p [p]:=⟨by simp,fun x hx=>by
 obtain rfl:x=p:=by simpa using hx
 simp⟩
inductive Lk (links:List (Int×Int)) (p:Int):Int→Prop where
 | refl:Lk links p p
 | fwd {a b:Int}:Lk links p a→(a,b)∈links→Lk links p b
 | bwd {a b:Int}:Lk links p b→(a,b)∈links→Lk links p a
theorem Lk.trans {links:List (Int×Int)} {p q r:Int} (h:Lk links p q) (g:Lk links q r):Lk links p r:=by
 induction g with
 | refl=>exact h
 | fwd _ hm ih=>exact ih.fwd hm
 | bwd _ hm ih=>exact ih.bwd hm
theorem Lk.symm {links:List (Int×Int)} {p q:Int} (h:Lk links p q):Lk links q p:=by
 induction h with
 | refl=>exact .refl
 | fwd _ hm ih=>exact(Lk.bwd .refl hm).trans ih
 | bwd _ hm ih=>exact(Lk.fwd .refl hm).trans ih
theorem Lk.mono {l m:List (Int×Int)} (hs:∀ x∈l,x∈m) {p q:Int} (h:Lk l p q):Lk m p q:=by
 induction h with
 | refl=>exact .refl
 | fwd _ hm ih=>exact ih.fwd (hs _ hm)
 | bwd _ hm ih=>exact ih.bwd (hs _ hm)
abbrev dK:=List (cG×EvD)
def ba (d:dK):List (Int×Int):=(d.filter fun z=>decide (z.1.kind=3) && decide (z.2.code=0)).map fun z=>(z.1.p,z.1.q)
theorem mc (d e:dK):ba (d++e)=ba d++ba e:=by simp[ba]
def Pz (d:dK) (own:Int→Int) (i:Int) (nd:aX):Prop:=∃ z∈d,z.1.kind=2∧z.2.code=0∧z.1.p=own i∧z.1.k=nd.cell∧z.1.r=nd.rights
def RtG (d:dK) (own:Int→Int) (G:ae):Prop:=G.Wf∧∀ (i:Nat) (nd:aX),G.nodes[i]? =some nd→nd.parent= -1→(0≤nd.plugin→Lk (ba d) (own i) nd.plugin)∧(nd.plugin<0→Pz d own i nd)
def RtA (d:dK) (own:Int→Int) (G:ae) (p n:Int):Prop:=G.has n=true∧Lk (ba d) p (own (G.root n))
section
variable {d:dK} {own:Int→Int}
theorem Dy {G:ae} {i:Int} (h:G.has i=true):G.nodes[i.toNat]? =some (G.at_ i):=by
 simp only[ae.has,decide_eq_true_eq]at h
 unfold ae.at_
 have:i.toNat<G.nodes.length:=by omega
 simp[List.getD,this]
theorem RtG.target {G:ae} (g:RtG d own G) {n:Int} (h:G.has n=true) (ht:¬ (G.target n).1.plugin<0):Lk (ba d) (own (G.root n)) (G.target n).1.plugin:=by
 obtain⟨h1,h2,h3⟩:=lK g.1 h
 have hg:=Dy h2
 have:=(g.2 _ _ hg h3).1 (by rw[←h1];omega)
 have e:(((G.root n).toNat:Nat):Int)=G.root n:=by
  simp only[ae.has,decide_eq_true_eq]at h2;omega
 rw[e,←h1]at this
 exact this
theorem RtG.same {G G':ae} (g:RtG d own G) (hW:G'.Wf) (hn:G'.nodes=G.nodes):RtG d own G':=⟨hW,by rw[hn];exact g.2⟩
theorem RtG.derive {G:ae} (g:RtG d own G) (n r k:Int):RtG d own (G.derive n r k).1:=by
 by_cases hz:(G.derive n r k).2.2=0
 ·obtain⟨h1,h2⟩:=nx hz
  refine⟨g.1.derive _ _ _,fun i nd hi hp=> ?_⟩
  rw[h2]at hi
  have hi:(G.nodes++[(⟨n,k,r,0, -1,0⟩:aX)])[i]? =some nd:=hi
  by_cases hlt:i<G.nodes.length
  ·rw[List.getElem?_append_left hlt]at hi
   exact g.2 i nd hi hp
  ·rw[List.getElem?_append_right (by omega)]at hi
   have hi0:i - G.nodes.length=0:=by
    have:=(List.getElem?_eq_some_iff.1 hi).1
    simpa using this
   rw[hi0]at hi
   obtain rfl:(⟨n,k,r,0, -1,0⟩:aX)=nd:=by simpa using hi
   simp only[ae.has,decide_eq_true_eq]at h1
   simp only at hp
   omega
 ·rw[EQ hz];exact g
theorem qW (d:dK) (own:Int→Int):mK (fun p=>0≤p) (RtA d own) (RtG d own) where
 pos:=fun p h=>h
 wf:=fun G h=>h.1
 has:=fun G p n _ h=>h.1
 mono:=fun G G' p n hG hG' l h=>⟨(l.has h.1).1,by rw[Later.root l hG.1 hG'.1 h.1];exact h.2⟩
 gate:=fun G h=>h.same h.1.gate (na G).1
 cut:=fun G k h=>h.same (h.1.cut k) (pI G k).1
 inv:=fun G n r g h=>h.derive n r g
 der:=fun G p n r g _ hG h hz=>⟨(nt hG.1 hz).1,by rw[qk hG.1 hz];exact h.2⟩
 ask:=fun G p n _ _ _ _ h=>by omega
 give:=fun G p n m _ _ hG hn ht hm hz=>by
  obtain⟨a,b⟩:=px (G.gatesC n) G m hG.1 hm.1 hz
  exact⟨a,by rw[b];exact((hG.target hn.1 ht).symm.trans (hn.2.symm)).trans hm.2⟩
 take:=fun G p n m _ _ hG hn ht hm hz=>by
  obtain⟨a,b⟩:=px (G.gatesC n) G m hG.1 hm.1 hz
  exact⟨a,by rw[b];exact(hn.2.trans (hG.target hn.1 ht)).trans hm.2⟩
end
theorem wm {G:ae} (hW:G.Wf) {n:Int} {k:Nat} (hk:k<4) {r:Int} (hr:r=(BitVec.twoPow 64 k).toInt) (h:ew (G.rights n) k=true):∀ nd∈G.path n,dT nd.rights r=r:=by
 intro nd hnd
 have hok:=ae.path_ok hW (n.toNat+1) n
 have hP:∀ m∈G.path n,fK m.rights=true:=fun m hm=>(hok m hm).1
 unfold ae.rights at h
 split at h
 ·rw[I6]at h;cases h
 ·have e15:(15:Int)=(15#64).toInt:=by decide
  rw[e15,sD _ hP,qZ _ (k:=k) (by omega),I2]at h
  simp only[Bool.and_eq_true]at h
  have hb:=List.all_eq_true.1 h.2 nd hnd
  have hs:=G3 (hP nd hnd)
  have hh:=CW (x:=BitVec.ofInt 64 nd.rights) (k:=k) (by omega) hr
  rw[qZ _ (k:=k) (by omega),hb,←hs]at hh
  unfold Cy at hh
  simpa using hh
def Ax (d:dK) (G:ae) (e:ca):Prop:=
 (∃ z∈d,z.1.kind=2∧z.2.code=0∧z.1.k=e.cell∧dT z.1.r e.right=e.right∧Lk (ba d) e.plugin z.1.p)∧G.has e.node=true∧(G.target e.node).1.plugin<0∧(G.target e.node).1.cell=e.cell∧(∀ nd∈G.path e.node,dT nd.rights e.right=e.right)∧0≤e.plugin
structure lW (d:dK) (own:Int→Int) (H:HoD):Prop where
 good:H.Good
 g:RtG d own H.S.G
 kept:dX (fun p=>0≤p) (RtA d own) H.S
 hand:∀ p:Int,0≤p→∀ v∈H.hand p,Hv (RtA d own) H.S.G p v
section
variable {d:dK} {own:Int→Int} {H:HoD}
theorem lW.more (c:lW d own H) (e:dK):lW (d++e) own H:=by
 have hm:∀ x∈ba d,x∈ba (d++e):=fun x hx=>by rw[mc];exact List.mem_append_left _ hx
 have ha:∀ G p n,RtA d own G p n→RtA (d++e) own G p n:=fun G p n h=>⟨h.1,h.2.mono hm⟩
 exact⟨c.good,⟨c.g.1,fun i nd h1 h2=>⟨fun h3=>((c.g.2 i nd h1 h2).1 h3).mono hm,fun h3=>by
  obtain⟨z,hz,r⟩:=(c.g.2 i nd h1 h2).2 h3
  exact⟨z,List.mem_append_left _ hz,r⟩⟩⟩,fun p hp n hn=>ha _ _ _ (c.kept p hp n hn),fun p hp v hv n hn=>ha _ _ _ (c.hand p hp v hv n hn)⟩
theorem lW.graph (c:lW d own H) {G':ae} (hG:RtG d own G') (l:H.S.G.Later G'):lW d own (H.graph G'):=
 ⟨c.good.graph hG.1,hG,fun p hp n hn'=>by
  have:=c.kept p hp n hn'
  exact(qW _ _).mono _ _ _ _ c.g hG l this,fun p hp v hv n hn'=>(qW _ _).mono _ _ _ _ c.g hG l (c.hand p hp v hv n hn')⟩
theorem lW.newRoot (c:lW d own H) {x:cG} (hp:inP x.p=true) {q:ae×Int×Int} {nd:aX} (hq:q.2.2=0→q=H.S.G.add nd) (hno:q.2.2≠0→q.1=H.S.G) (hW:q.1.Wf) (h1:nd.parent= -1) (hk:x.kind=2∧nd.plugin<0∧nd.cell=x.k∧nd.rights=x.r∨x.kind=3∧nd.plugin=x.q∧(q.2.2=0→0≤x.q)) (e:EvD) (he:q.2.2=0→e.code=0):∃ own',lW (d++[(x,e)]) own' ((H.graph q.1).give x.p q.2.1 q.2.2).1:=by
 by_cases hz:q.2.2=0
 ·have eq:=hq hz
  rw[eq]at hz hW
  have hze:e.code=0:=he (by rw[eq];exact hz)
  obtain⟨a1,a2,a3,a4⟩:=Jy c.g.1 hz hW h1
  have e3:(H.S.G.add nd).2.1=(H.S.G.nodes.length:Int):=by rw[(wA hz).1]
  have hm:∀ y∈ba d,y∈ba (d++[(x,e)]):=fun y hy=>by rw[mc];exact List.mem_append_left _ hy
  let own':Int→Int:=fun i=>if i=(H.S.G.nodes.length:Int)then x.p else own i
  have hold:∀ n,H.S.G.has n=true→own' (H.S.G.root n)=own (H.S.G.root n):=fun n hn=>by
   have:=(lK c.g.1 hn).2.1
   simp only[ae.has,decide_eq_true_eq]at this
   show(if H.S.G.root n=(H.S.G.nodes.length:Int)then x.p else own (H.S.G.root n))=_
   rw[if_neg (by omega)]
  have hA:∀ p n,RtA d own H.S.G p n→RtA (d++[(x,e)]) own' (H.S.G.add nd).1 p n:=fun p n h=>by
   refine⟨(a3.has h.1).1,?_⟩
   rw[Later.root a3 c.g.1 hW h.1,hold n h.1]
   exact h.2.mono hm
  have hroot:(H.S.G.add nd).1.root (H.S.G.add nd).2.1=(H.S.G.nodes.length:Int):=by
   unfold ae.root
   have hn:=wW (G:=H.S.G) (nd:=nd)
   rw[e3]at a1 ⊢
   have e4:(H.S.G.add nd).1.nodes.getD ((H.S.G.nodes.length:Int)).toNat bH=nd:=by rw[a4];exact hn.2
   rw[ae.way_yes hW a1,e4,h1,ae.way_no (by simp[ae.has])]
   rfl
  have hnew:RtA (d++[(x,e)]) own' (H.S.G.add nd).1 x.p (H.S.G.add nd).2.1:=⟨a1,by
   rw[hroot]
   show Lk _ x.p (if(H.S.G.nodes.length:Int)=(H.S.G.nodes.length:Int)then x.p else own (H.S.G.nodes.length:Int))
   rw[if_pos rfl]
   exact .refl⟩
  have hcases:∀ (i:Nat) (m:aX),(H.S.G.add nd).1.nodes[i]? =some m→(H.S.G.nodes[i]? =some m∧own' i=own i)∨(i=H.S.G.nodes.length∧m=nd):=fun i m hi=>by
   rw[a4]at hi
   by_cases hlt:i<H.S.G.nodes.length
   ·rw[List.getElem?_append_left hlt]at hi
    exact .inl ⟨hi,by show(if(i:Int)=(H.S.G.nodes.length:Int)then x.p else own i)=_;rw[if_neg (by omega)]⟩
   ·rw[List.getElem?_append_right (by omega)]at hi
    have hi0:i - H.S.G.nodes.length=0:=by
     have:=(List.getElem?_eq_some_iff.1 hi).1
     simpa using this
    rw[hi0]at hi
    obtain rfl:nd=m:=by simpa using hi
    exact .inr ⟨by omega,rfl⟩
  refine⟨own',?_⟩
  rw[eq]
  have hgood:=(c.good.graph hW).give (p:=x.p) (n:=(H.S.G.add nd).2.1) (c:=(H.S.G.add nd).2.2) wy
  have eg:((H.graph (H.S.G.add nd).1).give x.p (H.S.G.add nd).2.1 (H.S.G.add nd).2.2).1={(H.graph (H.S.G.add nd).1)with hands:=H.hands.set x.p.toNat (H.hand x.p++[fA (H.S.G.add nd).2.1])}:=by
   unfold HoD.give
   rw[if_neg (fun h=>h hz)]
   rfl
  rw[eg]at hgood ⊢
  refine⟨hgood,⟨hW,fun i m hi hpar=>⟨fun hpl=> ?_,fun hpl=> ?_⟩⟩,fun p hp n hn=>hA p n (c.kept p hp n hn),fun p hp' v hv n hn=> ?_⟩
  ·rcases hcases i m hi with⟨b1,b2⟩ | ⟨b1,b2⟩
   ·rw[b2];exact((c.g.2 i m b1 hpar).1 hpl).mono hm
   ·subst b2
    rcases hk with⟨_,k2,_⟩ | ⟨k1,k2,_⟩
    ·omega
    ·rw[b1]
     show Lk _ (if((H.S.G.nodes.length:Nat):Int)=(H.S.G.nodes.length:Int)then x.p else own (H.S.G.nodes.length:Int)) m.plugin
     rw[if_pos rfl,k2]
     refine .fwd .refl ?_
     rw[mc]
     refine List.mem_append_right _ ?_
     simp[ba,k1,hze]
  ·rcases hcases i m hi with⟨b1,b2⟩ | ⟨b1,b2⟩
   ·obtain⟨z,hz',r⟩:=(c.g.2 i m b1 hpar).2 hpl
    refine⟨z,List.mem_append_left _ hz',?_⟩
    rw[b2]
    exact r
   ·subst b2
    rcases hk with⟨k1,k2,k3,k4⟩ | ⟨k1,k2,k3⟩
    ·refine⟨(x,e),by simp,k1,hze,?_,k3.symm,k4.symm⟩
     rw[b1]
     show x.p=(if((H.S.G.nodes.length:Nat):Int)=(H.S.G.nodes.length:Int)then x.p else own (H.S.G.nodes.length:Int))
     rw[if_pos rfl]
    ·exfalso
     have:=k3 (by rw[eq];exact hz)
     omega
  ·rcases Ht hp hp' hv with h | ⟨ep,h⟩
   ·exact hA p n (c.hand p hp' v h n hn)
   ·rcases List.mem_append.1 h with h | h
    ·exact hA p n (c.hand p hp' v (by rw[←ep];exact h) n hn)
    ·obtain rfl:v=_:=by simpa using h
     rw[←ep]
     have:n=(H.S.G.add nd).2.1:=by simpa[fA,VD.caps,dm]using hn
     rw[this]
     exact hnew
 ·refine⟨own,?_⟩
  rw[hno hz]
  have eg:((H.graph H.S.G).give x.p q.2.1 q.2.2).1=H:=by
   unfold HoD.give
   rw[if_pos hz]
   rfl
  rw[eg]
  exact c.more _
theorem NV (c:lW d own H) {G:ae} (hG:RtG d own G) {e:ca} {G0:ae} (h0:RtG d own G0) (l:G0.Later G) (hp:0≤e.plugin) (h:DS (RtA d own) G0 e):Ax d G e:=by
 obtain⟨⟨h1,h2⟩,h3,h4,h5⟩:=h
 have hpath:G.path e.node=G0.path e.node:=l.path h0.1 hG.1 (e.node.toNat+1) e.node (by omega) h1
 have htg:G.target e.node=G0.target e.node:=by unfold ae.target;rw[hpath]
 obtain⟨r1,r2,r3⟩:=lK h0.1 h1
 have hb:∀ nd∈G0.path e.node,dT nd.rights e.right=e.right:=by
  rcases h5 with⟨e5,b5⟩ | ⟨e5,b5⟩
  ·rw[e5];exact wm h0.1 (k:=0) (by decide) (by decide) b5
  ·rw[e5];exact wm h0.1 (k:=1) (by decide) (by decide) b5
 obtain⟨z,hz,z1,z2,z3,z4,z5⟩:=(h0.2 _ _ (Dy r2) r3).2 (by rw[←r1];exact h3)
 have er:(((G0.root e.node).toNat:Nat):Int)=G0.root e.node:=by
  simp only[ae.has,decide_eq_true_eq]at r2;omega
 rw[er]at z3
 have hin:G0.at_ (G0.root e.node)∈G0.path e.node:=by
  rw[←ae.way_path]
  refine List.mem_map.2 ⟨_,?_,rfl⟩
  unfold ae.root
  rw[List.getLastD_eq_getLast?]
  cases hl:(G0.way e.node).getLast? with
  | none=>rw[List.getLast?_eq_none_iff]at hl;exact absurd hl (BH h0.1 h1)
  | some a=>exact List.mem_of_getLast? hl
 refine⟨⟨z,hz,z1,z2,by rw[z4,h4,r1],?_,by rw[z3];exact h2⟩,(l.has h1).1,by rw[htg];exact h3,by rw[htg];exact h4.symm,by rw[hpath];exact hb,hp⟩
 rw[z5]
 exact hb _ hin
theorem lW.step (c:lW d own H) (x:cG):∃ own',lW (d++[(x,(H.step x).2)]) own' (H.step x).1∧∃ ext,(H.step x).1.S.log=H.S.log++ext∧∀ e∈ext,Ax d (H.step x).1.S.G e:=by
 have nolog:∀ {H':HoD},H'.S.log=H.S.log→∃ ext,H'.S.log=H.S.log++ext∧∀ e∈ext,Ax d H'.S.G e:=fun h=>⟨[],by simp[h],fun e he=>by cases he⟩
 unfold HoD.step
 by_cases k1:x.kind=1
 ·rw[if_pos k1]
  unfold HoD.load
  split
  ·exact⟨own,c.more _,nolog rfl⟩
  ·split
   ·exact⟨own,c.more _,nolog rfl⟩
   ·rename_i h1 h2
    have hg:=(c.good.step {x with kind:=1}).good
    rw[EF rfl]at hg
    unfold HoD.load at hg
    rw[if_neg h1,if_neg h2]at hg
    refine⟨own,lW.more ⟨hg,c.g,fun p hp=> ?_,c.hand⟩ _,nolog rfl⟩
    show Hv (RtA d own) H.S.G p ((H.S.kept.set x.p.toNat au).getD p.toNat au)
    by_cases e:x.p.toNat=p.toNat
    ·rw[List.getD,List.getElem?_set,if_pos e]
     split<;>exact Hv.zero
    ·rw[List.getD,List.getElem?_set_ne e]
     exact c.kept p hp
 rw[if_neg k1]
 by_cases k2:x.kind=2∨x.kind=3
 ·rw[if_pos k2]
  by_cases hp:inP x.p=false
  ·rw[if_pos hp]
   exact⟨own,c.more _,nolog rfl⟩
  ·rw[if_neg hp]
   have hp:inP x.p=true:=by simpa using hp
   have hec:∀ {H':HoD} {p n k:Int},k=0→(H'.give p n k).2.code=0:=fun h=>by
    unfold HoD.give
    rw[if_neg (fun h'=>h' h)]
    rfl
   split
   ·rename_i h2
    obtain⟨own',h⟩:=c.newRoot hp (nd:=⟨-1,x.g,x.r,x.k, -1,0⟩) (fun h=>(Fj h).2) ur (c.g.1.cellC _ _ _) rfl (.inl ⟨h2,by show(-1:Int)<0;decide,rfl,rfl⟩) ((H.graph (H.S.G.cellC x.k x.r x.g).1).give x.p (H.S.G.cellC x.k x.r x.g).2.1 (H.S.G.cellC x.k x.r x.g).2.2).2 hec
    refine⟨own',h,nolog ?_⟩
    unfold HoD.give
    split<;>rfl
   ·rename_i h2
    obtain⟨own',h⟩:=c.newRoot hp (nd:=⟨-1,x.g,x.r,0,x.q,x.k⟩) (fun h=>(pq h).2) ut (c.g.1.funcC _ _ _ _) rfl (.inr ⟨k2.resolve_left h2,rfl,fun hz=>by
     have:=(pq hz).1
     simp only[lJ,decide_eq_true_eq]at this
     exact this.1⟩) ((H.graph (H.S.G.funcC x.q x.k x.r x.g).1).give x.p (H.S.G.funcC x.q x.k x.r x.g).2.1 (H.S.G.funcC x.q x.k x.r x.g).2.2).2 hec
    refine⟨own',h,nolog ?_⟩
    unfold HoD.give
    split<;>rfl
 rw[if_neg k2]
 by_cases k4:x.kind=4
 ·rw[if_pos k4]
  have hg:=(c.good.step x).good
  unfold HoD.step at hg
  rw[if_neg k1,if_neg k2,if_pos k4]at hg
  unfold HoD.call at hg ⊢
  split
  ·exact⟨own,c.more _,nolog rfl⟩
  ·rename_i h1
   rw[if_neg h1]at hg
   by_cases hp:0≤x.p
   ·have ha:Hv (RtA d own) H.S.G x.p (if 0≤x.h then(H.hand x.p).getD x.h.toNat au else iH x.n):=by
     split
     ·exact Hv.getD (c.hand x.p hp) _
     ·exact Hv.int
    generalize (if 0≤x.h then(H.hand x.p).getD x.h.toNat au else iH x.n)=arg at ha hg
    have r:=FO (qW d own) (ms:=H.ms) (p:=x.p) (f:=x.k) (fuel:=2000) (v:=arg) hp c.g c.kept ha
    generalize cO H.ms x.p x.k arg 2000 H.S=q at hg r
    obtain⟨S',v,n,k⟩:=q
    obtain⟨i1,i2,i3,_,ext,i5,i6⟩:=r
    refine⟨own,lW.more ⟨hg,i1,i3,fun p hp v hv n hn=>(qW _ _).mono _ _ _ _ c.g i1 i2 (c.hand p hp v hv n hn)⟩ _,ext,i5,fun e he=> ?_⟩
    obtain⟨j0,G0,j1,j2,j3⟩:=i6 e he
    exact NV c i1 j1 j2 j0 j3
   ·have hq:cO H.ms x.p x.k (if 0≤x.h then(H.hand x.p).getD x.h.toNat au else iH x.n) 2000 H.S=(H.S,au,0,1):=by
     unfold cO
     rw[if_pos (by omega)]
    rw[hq]
    exact⟨own,c.more _,nolog rfl⟩
 rw[if_neg k4]
 by_cases k5:x.kind=5
 ·rw[if_pos k5]
  exact⟨own,(c.graph (c.g.same (c.g.1.cut _) (pI _ _).1) (uT _ _)).more _,nolog rfl⟩
 rw[if_neg k5]
 by_cases k6:x.kind=6
 ·rw[if_pos k6]
  exact⟨own,(c.graph (c.g.same c.g.1.gate (na _).1) (kG _)).more _,nolog rfl⟩
 ·rw[if_neg k6]
  exact⟨own,c.more _,nolog rfl⟩
theorem Qf:lW [] (fun _=>0) ho0:=by
 refine⟨yi,⟨I5,fun i nd h=>by
  have h:([]:List aX)[i]? =some nd:=h
  simp at h⟩,fun p _ n hn=> ?_,fun p _ v hv=> ?_⟩
 ·exfalso
  have hz:uh.getD p.toNat au=au:=by
   have:p.toNat=0∨p.toNat=1∨p.toNat=2∨p.toNat=3∨4≤p.toNat:=by omega
   rcases this with e | e | e | e | e
   ·rw[e];rfl
   ·rw[e];rfl
   ·rw[e];rfl
   ·rw[e];rfl
   ·rw[List.getD,List.getElem?_eq_none (by simpa using e)];rfl
  have hn:n∈(uh.getD p.toNat au).caps:=hn
  rw[hz,vT]at hn
  cases hn
 ·exfalso
  have hv:v∈([[],[],[],[]]:List (List VD)).getD p.toNat []:=hv
  have hz:([[],[],[],[]]:List (List VD)).getD p.toNat []=[]:=by
   have:p.toNat=0∨p.toNat=1∨p.toNat=2∨p.toNat=3∨4≤p.toNat:=by omega
   rcases this with e | e | e | e | e
   ·rw[e];rfl
   ·rw[e];rfl
   ·rw[e];rfl
   ·rw[e];rfl
   ·rw[List.getD,List.getElem?_eq_none (by simpa using e)];rfl
  rw[hz]at hv
  cases hv
end
def inB (S:List Bool) (p:Int):Bool:=S.getD p.toNat false
def eL (S:List Bool) (p:Int):List Bool:=S.set p.toNat true
def ki (S:List Bool) (z:Int×Int):List Bool:=if(inB S z.1 || inB S z.2)=true then eL (eL S z.1) z.2 else S
def gA (links:List (Int×Int)) (S:List Bool):List Bool:=links.foldl ki S
def lx (p:Int):List Bool:=if inP p then eL [false,false,false,false] p else[false,false,false,false]
def cE (links:List (Int×Int)) (p:Int):List Bool:=gA links (gA links (gA links (gA links (lx p))))
def zr (links:List (Int×Int)):Prop:=∀ z∈links,inP z.1=true∧inP z.2=true
theorem jc (S:List Bool) (p:Int):(eL S p).length=S.length:=by simp[eL]
theorem yg (S:List Bool) (z:Int×Int):(ki S z).length=S.length:=by
 unfold ki
 split
 ·rw[jc,jc]
 ·rfl
theorem eJ:∀ (links:List (Int×Int)) (S:List Bool),(gA links S).length=S.length
 | [],S=>rfl
 | z::l,S=>by
   show(gA l (ki S z)).length=_
   rw[eJ l,yg]
theorem lI (p:Int):(lx p).length=4:=by
 unfold lx
 split
 ·rw[jc];rfl
 ·rfl
theorem qe {S:List Bool} {p q:Int} (h:inB S q=true):inB (eL S p) q=true:=by
 unfold inB eL at*
 rw[List.getD,List.getElem?_set]
 split
 ·split
  ·rfl
  ·rename_i h1 h2
   rw[List.getD,List.getElem?_eq_none (by omega)]at h
   cases h
 ·exact h
theorem pY {S:List Bool} {p:Int} (hp:inP p=true) (hl:S.length=4):inB (eL S p) p=true:=by
 have:=dB.1 hp
 unfold inB eL
 rw[List.getD,List.getElem?_set,if_pos rfl,if_pos (by omega)]
 rfl
theorem pS {S:List Bool} {p q:Int} (hp:inP p=true) (hq:inP q=true) (h:inB (eL S p) q=true):q=p∨inB S q=true:=by
 have h1:=dB.1 hp
 have h2:=dB.1 hq
 by_cases e:p.toNat=q.toNat
 ·exact .inl (by omega)
 ·unfold inB eL at h
  rw[List.getD,List.getElem?_set_ne e]at h
  exact .inr h
theorem pG {S:List Bool} {z:Int×Int} {q:Int} (h:inB S q=true):inB (ki S z) q=true:=by
 unfold ki
 split
 ·exact qe (qe h)
 ·exact h
theorem fO:∀ (links:List (Int×Int)) {S:List Bool} {q:Int},inB S q=true→inB (gA links S) q=true
 | [],S,q,h=>h
 | z::l,S,q,h=>fO l (pG h)
theorem pM:∀ {links:List (Int×Int)} {S:List Bool},zr links→S.length=4→∀ z∈links,(inB S z.1=true∨inB S z.2=true)→inB (gA links S) z.1=true∧inB (gA links S) z.2=true
 | [],S,_,_,z,hz,_=>by cases hz
 | y::l,S,ho,hl,z,hz,h=>by
   have hy:=ho y (by simp)
   rcases List.mem_cons.1 hz with rfl | hz
   ·have h1:inB (ki S z) z.1=true∧inB (ki S z) z.2=true:=by
     unfold ki
     rw[if_pos (by rw[Bool.or_eq_true];exact h)]
     exact⟨qe (pY hy.1 hl),pY hy.2 (by rw[jc];exact hl)⟩
    exact⟨fO l h1.1,fO l h1.2⟩
   ·show inB (gA l (ki S y)) z.1=true∧inB (gA l (ki S y)) z.2=true
    exact pM (links:=l) (S:=ki S y) (fun w hw=>ho w (by simp[hw])) (by rw[yg];exact hl) z hz (h.imp pG pG)
theorem jf {all:List (Int×Int)} {p:Int}:∀ {links:List (Int×Int)} {S:List Bool},(∀ z∈links,z∈all)→zr links→(∀ q,inP q=true→inB S q=true→Lk all p q)→∀ q,inP q=true→inB (gA links S) q=true→Lk all p q
 | [],S,_,_,h=>h
 | z::l,S,hs,ho,h=>by
   have hz:=ho z (by simp)
   show ∀ q,inP q=true→inB (gA l (ki S z)) q=true→Lk all p q
   refine jf (links:=l) (S:=ki S z) (fun w hw=>hs w (by simp[hw])) (fun w hw=>ho w (by simp[hw])) fun q hq hm=> ?_
   have hm:inB (ki S z) q=true:=hm
   unfold ki at hm
   split at hm
   ·rename_i hc
    rw[Bool.or_eq_true]at hc
    have hb:Lk all p z.1∧Lk all p z.2:=by
     rcases hc with hc | hc
     ·have:=h _ hz.1 hc
      exact⟨this,this.fwd (hs z (by simp))⟩
     ·have:=h _ hz.2 hc
      exact⟨this.bwd (hs z (by simp)),this⟩
    rcases pS hz.2 hq hm with rfl | hm
    ·exact hb.2
    ·rcases pS hz.1 hq hm with rfl | hm
     ·exact hb.1
     ·exact h q hq hm
   ·exact h q hq hm
def xD (S:List Bool):Nat:=S.countP id
theorem Qi:∀ a b c d a' b' c' d':Bool,(a=true→a'=true)→(b=true→b'=true)→(c=true→c'=true)→(d=true→d'=true)→([a,b,c,d]=[a',b',c',d']∨xD [a,b,c,d]+1≤xD [a',b',c',d']):=by decide
theorem IL {S T:List Bool} (hS:S.length=4) (hT:T.length=4) (h:∀ q:Int,inB S q=true→inB T q=true):S=T∨xD S+1≤xD T:=by
 match S,hS,T,hT with
 | [a,b,c,d],_,[a',b',c',d'],_=>
   exact Qi a b c d a' b' c' d' (h 0) (h 1) (h 2) (h 3)
theorem JV {S:List Bool} (hS:S.length=4):xD S≤4:=by
 unfold xD
 have:=List.countP_le_length (p:=id) (l:=S)
 omega
theorem Jb {p:Int} (hp:inP p=true):1≤xD (lx p):=by
 have h:=dB.1 hp
 unfold lx
 rw[if_pos hp]
 unfold eL
 have:p.toNat=0∨p.toNat=1∨p.toNat=2∨p.toNat=3:=by omega
 rcases this with e | e | e | e<;>rw[e]<;>decide
theorem Bj (links:List (Int×Int)) {p:Int} (hp:inP p=true):gA links (cE links p)=cE links p:=by
 unfold cE
 have st:∀ S:List Bool,S.length=4→gA links S=S∨xD S+1≤xD (gA links S):=fun S hS=>by
  rcases IL hS (T:=gA links S) (by rw[eJ];exact hS) (fun q=>fO links)with h | h
  ·exact .inl h.symm
  ·exact .inr h
 have l0:=lI p
 have c0:=Jb hp
 generalize lx p=S0 at l0 c0 ⊢
 have l1:(gA links S0).length=4:=by rw[eJ];exact l0
 have l2:(gA links (gA links S0)).length=4:=by rw[eJ];exact l1
 have l3:(gA links (gA links (gA links S0))).length=4:=by rw[eJ];exact l2
 have l4:(gA links (gA links (gA links (gA links S0)))).length=4:=by rw[eJ];exact l3
 rcases st S0 l0 with h | h
 ·rw[h,h,h,h,h]
 rcases st _ l1 with h1 | h1
 ·rw[h1,h1,h1,h1]
 rcases st _ l2 with h2 | h2
 ·rw[h2,h2,h2]
 rcases st _ l3 with h3 | h3
 ·rw[h3,h3]
 ·have:=JV l4
  omega
theorem Br {links:List (Int×Int)} (ho:zr links) {p q:Int} (hp:inP p=true) (hq:inP q=true):inB (cE links p) q=true↔Lk links p q:=by
 have s0:∀ q,inP q=true→inB (lx p) q=true→Lk links p q:=fun q hq h=>by
  unfold lx at h
  rw[if_pos hp]at h
  rcases pS hp hq h with rfl | h
  ·exact .refl
  ·exfalso
   unfold inB at h
   have:q.toNat=0∨q.toNat=1∨q.toNat=2∨q.toNat=3:=by have:=dB.1 hq;omega
   rcases this with e | e | e | e<;>rw[e]at h<;>cases h
 constructor
 ·intro h
  have id':∀ z∈links,z∈links:=fun z hz=>hz
  exact jf id' ho (jf id' ho (jf id' ho (jf id' ho s0))) q hq h
 ·intro h
  have hl:(cE links p).length=4:=by unfold cE;rw[eJ,eJ,eJ,eJ,lI]
  have hf:=Bj links hp
  clear hq
  induction h with
  | refl=>
    have:inB (lx p) p=true:=by unfold lx;rw[if_pos hp];exact pY hp rfl
    exact fO _ (fO _ (fO _ (fO _ this)))
  | fwd _ hm ih=>
    have:=pM ho hl _ hm (.inl ih)
    rw[hf]at this
    exact this.2
  | bwd _ hm ih=>
    have:=pM ho hl _ hm (.inr ih)
    rw[hf]at this
    exact this.1
theorem Lk.out {links:List (Int×Int)} (ho:zr links) {p q:Int} (hp:Go.Proofs.Ytkdbjfncchmmpaa.inP p=false) (h:Lk links p q):q=p:=by
 induction h with
 | refl=>rfl
 | fwd _ hm ih=>rw[ih]at hm;rw[(ho _ hm).1]at hp;cases hp
 | bwd _ hm ih=>rw[ih]at hm;rw[(ho _ hm).2]at hp;cases hp
def LF (d:dK) (p cell right:Int):Bool:=d.any fun z=>decide (z.1.kind=2) && (decide (z.2.code=0) && (decide (z.1.k=cell) && (decide (dT z.1.r right=right) && (inB (cE (ba d) p) z.1.p || decide (z.1.p=p)))))
def pW (d:dK):Prop:=∀ z∈d,z.2.code=0→(z.1.kind=2→inP z.1.p=true)∧(z.1.kind=3→inP z.1.p=true∧inP z.1.q=true)
theorem pW.links {d:dK} (h:pW d):zr (ba d):=by
 intro z hz
 unfold ba at hz
 obtain⟨w,hw,rfl⟩:=List.mem_map.1 hz
 rw[List.mem_filter,Bool.and_eq_true,decide_eq_true_eq,decide_eq_true_eq]at hw
 exact(h w hw.1 hw.2.2).2 hw.2.1
theorem L5 {d:dK} (hd:pW d) {G:ae} {e:ca} (h:Ax d G e):LF d e.plugin e.cell e.right=true:=by
 obtain⟨⟨z,hz,z1,z2,z3,z4,z5⟩,_⟩:=h
 unfold LF
 refine List.any_eq_true.2 ⟨z,hz,?_⟩
 have hzp:=(hd z hz z2).1 z1
 have:(inB (cE (ba d) e.plugin) z.1.p || decide (z.1.p=e.plugin))=true:=by
  rw[Bool.or_eq_true,decide_eq_true_eq]
  cases hp:inP e.plugin with
  | true=>exact .inl ((Br hd.links hp hzp).2 z5)
  | false=>exact .inr (Lk.out hd.links hp z5)
 simp[z1,z2,z3,z4,this]
theorem Eu (H:HoD) (x:cG):(H.step x).2.code=0→(x.kind=2→inP x.p=true)∧(x.kind=3→inP x.p=true∧inP x.q=true):=by
 intro hc
 unfold HoD.step at hc
 by_cases k1:x.kind=1
 ·exact⟨fun h=>by omega,fun h=>by omega⟩
 rw[if_neg k1]at hc
 by_cases k2:x.kind=2∨x.kind=3
 ·rw[if_pos k2]at hc
  by_cases hp:inP x.p=false
  ·rw[if_pos hp]at hc
   exact absurd hc (by simp[EvD.no])
  ·rw[if_neg hp]at hc
   have hp:inP x.p=true:=by simpa using hp
   refine⟨fun _=>hp,fun k3=>⟨hp,?_⟩⟩
   rw[if_neg (by omega)]at hc
   unfold HoD.give at hc
   by_cases hz:(H.S.G.funcC x.q x.k x.r x.g).2.2=0
   ·have:=(pq hz).1
    simp only[lJ,decide_eq_true_eq]at this
    exact dB.2 ⟨this.1,this.2.1⟩
   ·rw[if_pos hz]at hc
    exact absurd hc hz
 ·exact⟨fun h=>absurd (.inl h) k2,fun h=>absurd (.inr h) k2⟩
section
variable {h h' h0:AH} {F J F0 J0:Nat→Prop} {L:List Asn} {c:HoC} {H:HoD}
theorem zE {log:List ca}:∀ r∈log.map cz,r.all AV.one=true∧r.all lF=true:=fun r hr=>by
 obtain⟨e,_,rfl⟩:=List.mem_map.1 hr
 exact⟨rfl,rfl⟩
theorem Cn (id:Option Nat) (rows:List (List AV)) (hf:∀ r∈rows,r.all AV.one=true∧r.all lF=true) (hl:rows.length≤1000000):
  aj Try.prog po 63 [.isl id tEn rows] h=some (.inl (.isl none tEn rows),h):=by
 refine ah uV rfl ?_;unfold pN
 have e1:aF false tEn (.isl (some h.ids) tEn []) (.isl id tEn rows) (h.fresh 0)=some (.isl (some h.ids) tEn rows,if rows.length=0 then h.fresh 0 else(h.fresh 0).grow h.ids rows.length):=by
  simp only[aF,bM,if_true,Option.bind_some]
  by_cases hz:rows.length=0
  ·simp[hz,kW,List.length_eq_zero_iff.1 hz]
  ·rw[if_neg hz,if_neg hz]
   unfold eF
   rw[if_pos ⟨by omega,by omega,by rw[List.all_eq_true];exact fun r hr=>(hf r hr).1⟩]
   simp[jW]
 have hg:af h (if rows.length=0 then h.fresh 0 else(h.fresh 0).grow h.ids rows.length):=by
  split
  ·exact af.fresh h 0
  ·exact(af.fresh h 0).grow (Nat.le_refl _)
 have hw:wkA (.isl (some h.ids) tEn rows)=some (.isl none tEn rows):=by
  simp only[wkA,i7 fun r hr=>(hf r hr).2,Option.map_some]
 simp only[sim,ag,reduceAdd,reduceSub,replicate,reduceCtorEq,reduceLeDiff,reduceLT,aa,e1,aA hg hw]
theorem BF:aj Try.prog po 63 [.nils] h=some (.inl .nils,h):=by
 refine ah uV rfl ?_;unfold pN
 simp only[sim,ag,reduceAdd,reduceSub,replicate,reduceCtorEq,reduceLeDiff,reduceLT,aa]
 exact aA (af.refl h) rfl
theorem Lx (s:St h0 F0 J0 h L) (i:Nat) {wb:Nat} {cells:List Int} {log:List ca} (hi:L[i]? =some (bj wb cells log)) (hc:cells.length=12) (hn:log.length≤1000000):aj Try.prog po 31 [.ptr wb 0 0] h=some (.inl (cQ tEn (log.map cz)),h):=by
 obtain⟨F,J,x⟩:=s.get i hi
 obtain⟨v,s1⟩:=kw x
 have cw:=(s1.cell 0 rfl).1
 have c12:=(j8 (v:=v) hc (j:=0) (by decide)).2.1
 have ld:∀ n,aE false n h (.ptr wb 0 12)=some v:=fun n=>by rw[bD,cw];exact c12
 have f12:aI 12 (.ptr wb 0 0)=some (.ptr wb 0 12):=rfl
 obtain⟨F1,J1,x1⟩:=s1.get 1 rfl
 rcases x1 with⟨⟨e1,rfl⟩,_⟩ | ⟨id,⟨e1,rfl⟩,_⟩
 ·rw[e1]
  refine ah Ei rfl ?_;unfold xc
  simp only[sim,ag,reduceAdd,reduceSub,replicate,reduceCtorEq,reduceLeDiff,reduceLT,aa,f12,ld,BF]
  exact aA (af.refl h) rfl
 ·have hcl:=Cn (h:=h) (some id) (log.map cz) zE (by simpa using hn)
  have hw:wkA (.isl none tEn (log.map cz))=some (cQ tEn (log.map cz)):=by
   simp only[wkA,i7 fun r hr=>(zE r hr).2,Option.map_some,cQ,if_neg e1]
  refine ah Ei rfl ?_;unfold xc
  simp only[sim,ag,reduceAdd,reduceSub,replicate,reduceCtorEq,reduceLeDiff,reduceLT,aa,f12,ld,hcl,aA (af.refl h) hw]
theorem Fg (s:St h0 F0 J0 h L) (i:Nat) {wb:Nat} {cells:List Int} {log:List ca} (hi:L[i]? =some (bj wb cells log)) (hc:cells.length=12):aj Try.prog po 25 [.ptr wb 0 0] h=some (.inl (.isl none tL (cells.map fun x=>[.int .i64 x])),h):=by
 obtain⟨F,J,x⟩:=s.get i hi
 obtain⟨v,s1⟩:=kw x
 exact Bd (s1.cell 0 rfl).1 hc
structure Pi (h:AH) (c:HoC) (H:HoD):Prop where
 lb:aE false 1 h (.ptr c.hb 0 0)=some (.ptr c.bb 0 0)
 lg:aE false 1 h (.ptr c.bb 0 0)=some (.ptr c.gb 0 0)
 lw:aE false 1 h (.ptr c.bb 0 1)=some (.ptr c.wb 0 0)
 no:aj Try.prog po 30 [.ptr c.gb 0 0] h=some (.inl (cQ tN (H.S.G.nodes.map aH)),h)
 ce:aj Try.prog po 25 [.ptr c.wb 0 0] h=some (.inl (.isl none tL (H.S.cells.map fun x=>[.int .i64 x])),h)
 lo:aj Try.prog po 31 [.ptr c.wb 0 0] h=some (.inl (cQ tEn (H.S.log.map cz)),h)
theorem KQ (s:St h0 F0 J0 h L) (i:Nat) (o:OkH H) (h1:L[i]? =some (da c.hb c.bb H.hands)) (h2:L[i+1]? =some (dH c.bb c.gb c.wb H.ms H.S.kept)) (h3:L[i+1+1]? =some (br c.gb H.S.G)) (h4:L[i+1+1+1]? =some (bj c.wb H.S.cells H.S.log)):Pi h c H:=by
 obtain⟨vs,hv⟩:=eo s i h1
 have bg:=jP s h2 o.len
 obtain⟨F,J,g⟩:=s.get _ h3
 exact⟨hv.box 1,bg.1 1,bg.2 1,KB g o.good.st.wf,Fg s _ h4 o.good.st.cells,Lx s _ h4 o.good.st.cells (by have:=o.log;omega)⟩
variable {lv:AV} {b4 b5 b10:Nat} {hs ks:List AV}
end
def AI:List RS:=[(.ops [(.i (.v 0) (.mv (.c .nilp)))]),(.ops [(.i .l (.call (.c (.fn 22 [] [])) [])),(.i .l (.build [.nilp,.nils,.nils,(.int .i64 0),(.int .i64 0),(.int .i64 0)] [(0,1),(1,1),(2,1),(3,2),(5,1)] [(0,(.l 0))])),(.i .l (.box 6 (.l 0))),(.i (.v 0) (.mv (.l 0)))]),.ret]
theorem GD:FnR Try.prog po 35 0 1 [0] AI [(.v 0)] false:=⟨_,_,Try.func35,rfl,rfl,by kernel_rfl,by kernel_rfl,by kernel_rfl,by kernel_rfl,by kernel_rfl⟩
def dv:List RS:=[(.ops [(.i (.v 13) (.bin (.int .i64) .lss (.v 12) (.c (.int .i64 2))))]),(.cond (.v 13) [] [(.exit 4)]),(.block 5 [(.ops [(.i .l (.mv (.v 12))),(.i (.v 6) (.mv (.l 0)))]),(.ops [(.i .l (.mv (.v 6))),(.i .l (.ixa none (some (2,1)) (.v 5) (.l 0))),(.i .l (.load false 1 (.l 0))),(.i .l (.mv (.v 3))),(.i .l (.mv (.v 4))),(.i .l (.ixa (some 3) none (.l 1) (.l 0))),(.i .l (.load false 1 (.l 0))),(.i .l (.bin (.int .i64) .eql (.l 4) (.l 0))),(.i .l (.mv (.l 0))),(.g (.l 0) true .l (.mv (.v 3))),(.g (.l 1) true .l (.mv (.v 6))),(.g (.l 2) true .l (.bin (.int .i64) .sub (.c (.int .i64 1)) (.l 0))),(.g (.l 3) true .l (.ixa none (some (2,1)) (.v 5) (.l 0))),(.g (.l 4) true .l (.load false 1 (.l 0))),(.g (.l 5) true .l (.call (.c (.fn 93 [] [])) [(.l 4),(.l 0)])),(.g (.l 6) true .l (.un .not (.l 0))),(.i (.v 14) (.pick (.l 7) (.l 0) (.c (.bool false))))]),(.cond (.v 14) [(.ops [(.i .l (.mv (.v 3))),(.i .l (.mv (.v 6))),(.i .l (.bin (.int .i64) .sub (.c (.int .i64 1)) (.l 0))),(.i .l (.ixa none (some (2,1)) (.v 5) (.l 0))),(.i .l (.load false 1 (.l 0))),(.i .l (.bsl false 3 [(.int .i64 0)] 1 1 [(0,(.l 0))])),(.i .l (.app false 3 (.l 5) (.l 0))),(.i (.v 3) (.mv (.l 0)))])] [])]),(.ops [(.i .l (.bin (.int .i64) .add (.v 12) (.c (.int .i64 1)))),(.i (.v 12) (.mv (.l 0)))])]
def iI:List RS:=[(.ops [(.i (.v 11) (.bin (.int .i64) .lss (.v 10) (.v 9)))]),(.cond (.v 11) [] [(.exit 2)]),(.block 3 [(.ops [(.i .l (.ixa (some 181) none (.v 8) (.v 10))),(.i .l (.load true 2 (.l 0))),(.i (.v 5) (.alloc [(.int .i64 0),(.int .i64 0)])),(.i .n (.store 2 (.v 5) (.l 0)))]),(.ops [(.i (.v 12) (.mv (.c (.int .i64 0))))]),(.block 4 [(.loop dv)])]),(.ops [(.i .l (.bin (.int .i64) .add (.v 10) (.c (.int .i64 1)))),(.i (.v 10) (.mv (.l 0)))])]
def iD:List RS:=[(.ops [(.i .l (.mv (.v 4))),(.i .l (.mv (.v 3))),(.i .l (.len false (some 3) (.l 0))),(.i (.v 7) (.bin (.int .i64) .lss (.l 2) (.l 0)))]),(.cond (.v 7) [] [(.exit 0)]),(.block 1 [(.ops [(.i .l (.mv (.v 0))),(.i .l (.nilc (.l 0))),(.i .l (.fad 2 (.l 0))),(.i (.v 8) (.load false 1 (.l 0))),(.i (.v 9) (.len false (some 181) (.v 8))),(.i (.v 10) (.mv (.c (.int .i64 0))))]),(.block 2 [(.loop iI)])]),(.ops [(.i .l (.mv (.v 4))),(.i .l (.bin (.int .i64) .add (.l 0) (.c (.int .i64 1)))),(.i (.v 4) (.mv (.l 0)))])]
def vG:List RS:=[(.ops [(.i (.v 2) (.mv (.c .nils)))]),(.ops [(.i .l (.mv (.v 1))),(.i .l (.bsl false 3 [(.int .i64 0)] 1 1 [(0,(.l 0))])),(.i (.v 3) (.mv (.l 0)))]),(.ops [(.i (.v 4) (.mv (.c (.int .i64 0))))]),(.block 0 [(.loop iD)]),(.ops [(.i .l (.mv (.v 3))),(.i (.v 2) (.mv (.l 0)))]),.ret]
theorem FY:FnR Try.prog po 90 2 15 [0,1,4,5,6,8,9,15,21,22,23,24,27,28,46] vG [(.v 2)] true:=⟨_,_,Try.func90,rfl,rfl,by kernel_rfl,by kernel_rfl,by kernel_rfl,by kernel_rfl,by kernel_rfl⟩
def CK:List RS:=[(.ops [(.i (.v 4) (.box 1 (.v 2))),(.i (.v 5) (.box 1 (.v 3))),(.i (.v 6) (.mv (.c (.bool false))))]),(.ops [(.i .l (.mv (.v 0))),(.i .l (.mv (.v 1))),(.i .l (.call (.c (.fn 90 [] [])) [(.l 1),(.l 0)])),(.i (.v 7) (.alloc [.nils])),(.i .n (.store 1 (.v 7) (.l 0)))]),(.ops [(.i .l (.mv (.v 0))),(.i .l (.nilc (.l 0))),(.i .l (.fad 1 (.l 0))),(.i .l (.load false 1 (.l 0))),(.i .l (.mkf 92 [] [(.v 4),(.v 5),(.v 7)])),(.i .l (.call (.c (.fn 91 [] [])) [(.l 1),(.l 0)])),(.i (.v 6) (.mv (.l 0)))]),.ret]
theorem Ky:FnR Try.prog po 64 4 8 [0,1,2,3,6,7,8,9] CK [(.v 6)] true:=⟨_,_,Try.func64,rfl,rfl,by kernel_rfl,by kernel_rfl,by kernel_rfl,by kernel_rfl,by kernel_rfl⟩
def zi:List RS:=[(.ops [(.i (.v 4) (.box 3 (.v 0))),(.i (.v 5) (.mv (.c (.bool false))))]),(.ops [(.i .l (.fad 1 (.v 4))),(.i .l (.load false 1 (.l 0))),(.i .l (.load false 1 (.v 1))),(.i .l (.bin (.int .i64) .eql (.l 1) (.l 0))),(.i .l (.mv (.l 0))),(.g (.l 0) true .l (.fad 2 (.v 4))),(.g (.l 1) true .l (.load false 1 (.l 0))),(.g (.l 2) true .l (.load false 1 (.v 2))),(.g (.l 3) true .l (.bin (.int .i64) .and (.l 1) (.l 0))),(.g (.l 4) true .l (.load false 1 (.v 2))),(.g (.l 5) true .l (.bin (.int .i64) .eql (.l 1) (.l 0))),(.i .l (.pick (.l 6) (.l 0) (.c (.bool false)))),(.i .l (.mv (.l 0))),(.g (.l 0) true .l (.load false 1 (.v 3))),(.g (.l 1) true .l (.fad 0 (.v 4))),(.g (.l 2) true .l (.load false 1 (.l 0))),(.g (.l 3) true .l (.call (.c (.fn 93 [] [])) [(.l 2),(.l 0)])),(.i .l (.pick (.l 4) (.l 0) (.c (.bool false)))),(.i (.v 5) (.mv (.l 0)))]),.ret]
theorem Hq:FnR Try.prog po 92 4 6 [0,1,2,3,4,5] zi [(.v 5)] true:=⟨_,_,Try.func92,rfl,rfl,by kernel_rfl,by kernel_rfl,by kernel_rfl,by kernel_rfl,by kernel_rfl⟩
def oz:List RS:=[(.ops [(.i (.v 2) (.mv (.c (.bool false))))]),(.ops [(.i .l (.mv (.v 0))),(.i .l (.mv (.v 1))),(.i .l (.call (.c (.fn 113 [] [])) [(.l 1),(.l 0)])),(.i .l (.bin (.int .i64) .geq (.l 0) (.c (.int .i64 0)))),(.i (.v 2) (.mv (.l 0)))]),.ret]
theorem xn:FnR Try.prog po 91 2 3 [0,1,4] oz [(.v 2)] true:=⟨_,_,Try.func91,rfl,rfl,by kernel_rfl,by kernel_rfl,by kernel_rfl,by kernel_rfl,by kernel_rfl⟩
def fW:List RS:=[(.ops [(.i (.v 6) (.bin (.int .i64) .lss (.v 5) (.v 4)))]),(.cond (.v 6) [] [(.exit 0)]),(.block 1 [(.ops [(.i .l (.mv (.v 5))),(.i (.v 3) (.mv (.l 0)))]),(.ops [(.i .l (.mv (.v 1))),(.i .l (.mv (.v 0))),(.i .l (.mv (.v 3))),(.i .l (.ixa (some 178) none (.l 1) (.l 0))),(.i .l (.load true 3 (.l 0))),(.i (.v 7) (.call (.l 4) [(.l 0)]))]),(.cond (.v 7) [(.ops [(.i .l (.mv (.v 3))),(.i (.v 2) (.mv (.l 0)))]),.ret] [])]),(.ops [(.i .l (.bin (.int .i64) .add (.v 5) (.c (.int .i64 1)))),(.i (.v 5) (.mv (.l 0)))])]
def vF:List RS:=[(.ops [(.i (.v 2) (.mv (.c (.int .i64 0))))]),(.ops [(.i .l (.mv (.v 0))),(.i (.v 4) (.len false (some 178) (.l 0))),(.i (.v 5) (.mv (.c (.int .i64 0))))]),(.block 0 [(.loop fW)]),(.ops [(.i (.v 2) (.mv (.c (.int .i64 (-1)))))]),.ret]
theorem E3:FnR Try.prog po 113 2 8 [0,1,4,5,7,8,9,16] vF [(.v 2)] true:=⟨_,_,Try.func113,rfl,rfl,by kernel_rfl,by kernel_rfl,by kernel_rfl,by kernel_rfl,by kernel_rfl⟩
def oG:List RS:=[(.ops [(.i (.v 2) (.mv (.c (.bool false))))]),(.ops [(.i .l (.mv (.v 0))),(.i .l (.mv (.v 1))),(.i .l (.call (.c (.fn 114 [] [])) [(.l 1),(.l 0)])),(.i .l (.bin (.int .i64) .geq (.l 0) (.c (.int .i64 0)))),(.i (.v 2) (.mv (.l 0)))]),.ret]
theorem xO:FnR Try.prog po 93 2 3 [0,1,4] oG [(.v 2)] true:=⟨_,_,Try.func93,rfl,rfl,by kernel_rfl,by kernel_rfl,by kernel_rfl,by kernel_rfl,by kernel_rfl⟩
def fX:List RS:=[(.ops [(.i (.v 6) (.bin (.int .i64) .lss (.v 5) (.v 4)))]),(.cond (.v 6) [] [(.exit 0)]),(.block 1 [(.ops [(.i .l (.mv (.v 5))),(.i (.v 3) (.mv (.l 0)))]),(.ops [(.i .l (.mv (.v 1))),(.i .l (.mv (.v 0))),(.i .l (.mv (.v 3))),(.i .l (.ixa (some 3) none (.l 1) (.l 0))),(.i .l (.load false 1 (.l 0))),(.i (.v 7) (.bin (.int .i64) .eql (.l 4) (.l 0)))]),(.cond (.v 7) [(.ops [(.i .l (.mv (.v 3))),(.i (.v 2) (.mv (.l 0)))]),.ret] [])]),(.ops [(.i .l (.bin (.int .i64) .add (.v 5) (.c (.int .i64 1)))),(.i (.v 5) (.mv (.l 0)))])]
def vR:List RS:=[(.ops [(.i (.v 2) (.mv (.c (.int .i64 0))))]),(.ops [(.i .l (.mv (.v 0))),(.i (.v 4) (.len false (some 3) (.l 0))),(.i (.v 5) (.mv (.c (.int .i64 0))))]),(.block 0 [(.loop fX)]),(.ops [(.i (.v 2) (.mv (.c (.int .i64 (-1)))))]),.ret]
theorem EB:FnR Try.prog po 114 2 8 [0,1,4,5,7,8,9,16] vR [(.v 2)] true:=⟨_,_,Try.func114,rfl,rfl,by kernel_rfl,by kernel_rfl,by kernel_rfl,by kernel_rfl,by kernel_rfl⟩
def oX:List RS:=[(.ops [(.i (.v 2) (.box 9 (.v 1)))]),(.ops [(.i .l (.fad 0 (.v 2))),(.i (.v 3) (.load false 1 (.l 0)))]),(.block 0 [(.ops [(.i .l (.bin (.int .i64) .eql (.v 3) (.c (.int .i64 2)))),(.i (.v 4) (.mv (.l 0)))]),(.cond (.v 4) [(.ops [(.i .l (.mv (.v 0))),(.i .l (.mv (.v 0))),(.i .l (.nilc (.l 0))),(.i .l (.fad 1 (.l 0))),(.i .l (.load false 1 (.l 0))),(.i .l (.fad 1 (.v 2))),(.i .l (.load false 1 (.l 0))),(.i .l (.fad 3 (.v 2))),(.i .l (.load false 1 (.l 0))),(.i .l (.fad 5 (.v 2))),(.i .l (.load false 1 (.l 0))),(.i .l (.build [(.int .i64 0),(.int .i64 0),(.int .i64 0)] [(0,1),(1,1),(2,1)] [(0,(.l 4)),(1,(.l 2)),(2,(.l 0))])),(.i .l (.bsl false 178 [(.int .i64 0),(.int .i64 0),(.int .i64 0)] 3 1 [(0,(.l 0))])),(.ck [⟨none,false,1,(.l 9),(.l 8)⟩]),(.i .l (.app false 178 (.l 8) (.l 0))),(.i .l (.nilc (.l 13))),(.i .l (.fad 1 (.l 0))),(.i .n (.store 1 (.l 0) (.l 2)))])] [(.ops [(.i .l (.bin (.int .i64) .eql (.v 3) (.c (.int .i64 3)))),(.i (.v 5) (.mv (.l 0)))]),(.cond (.v 5) [(.ops [(.i .l (.mv (.v 0))),(.i .l (.mv (.v 0))),(.i .l (.nilc (.l 0))),(.i .l (.fad 2 (.l 0))),(.i .l (.load false 1 (.l 0))),(.i .l (.fad 1 (.v 2))),(.i .l (.load false 1 (.l 0))),(.i .l (.fad 2 (.v 2))),(.i .l (.load false 1 (.l 0))),(.i .l (.build [(.int .i64 0),(.int .i64 0)] [(0,1),(1,1)] [(0,(.l 2)),(1,(.l 0))])),(.i .l (.bsl false 181 [(.int .i64 0),(.int .i64 0)] 2 1 [(0,(.l 0))])),(.ck [⟨none,false,1,(.l 7),(.l 6)⟩]),(.i .l (.app false 181 (.l 6) (.l 0))),(.i .l (.nilc (.l 11))),(.i .l (.fad 2 (.l 0))),(.i .n (.store 1 (.l 0) (.l 2)))])] [])])])]
theorem sc:FnR Try.prog po 65 2 6 [0,1,3,5,6,24] oX [] false:=⟨_,_,Try.func65,rfl,rfl,by kernel_rfl,by kernel_rfl,by kernel_rfl,by kernel_rfl,by kernel_rfl⟩
def gN:List RS:=[(.ops [(.i (.v 12) (.bin (.int .i64) .lss (.v 11) (.v 10)))]),(.cond (.v 12) [] [(.exit 0)]),(.block 1 [(.ops [(.i .l (.ixa (some 98) none (.v 9) (.v 11))),(.i .l (.load true 4 (.l 0))),(.i (.v 7) (.alloc [(.int .i64 0),(.int .i64 0),(.int .i64 0),(.int .i64 0)])),(.i .n (.store 4 (.v 7) (.l 0)))]),(.ops [(.i .l (.mv (.v 0))),(.i .l (.nilc (.l 0))),(.i .l (.fad 3 (.l 0))),(.i .l (.fad 0 (.l 0))),(.i .l (.load false 1 (.l 0))),(.i .l (.bin (.int .i64) .eql (.l 0) (.c (.int .i64 0)))),(.i .l (.mv (.l 0))),(.g (.l 0) true .l (.mv (.v 0))),(.g (.l 1) true .l (.fad 0 (.v 7))),(.g (.l 2) true .l (.load false 1 (.l 0))),(.g (.l 3) true .l (.fad 1 (.v 7))),(.g (.l 4) true .l (.load false 1 (.l 0))),(.g (.l 5) true .l (.fad 2 (.v 7))),(.g (.l 6) true .l (.load false 1 (.l 0))),(.g (.l 7) true .l (.call (.c (.fn 64 [] [])) [(.l 6),(.l 4),(.l 2),(.l 0)])),(.g (.l 8) true .l (.un .not (.l 0))),(.i (.v 13) (.pick (.l 9) (.l 0) (.c (.bool false))))]),(.cond (.v 13) [(.ops [(.i .l (.mv (.v 0))),(.i .l (.mv (.v 0))),(.i .l (.nilc (.l 0))),(.i .l (.fad 5 (.l 0))),(.i .l (.load false 1 (.l 0))),(.i .l (.build [(.int .i64 0),(.int .i64 0)] [(0,1),(1,1)] [(0,(.c (.int .i64 14))),(1,(.l 0))])),(.i .l (.nilc (.l 5))),(.i .l (.fad 3 (.l 0))),(.i .n (.store 2 (.l 0) (.l 2)))])] [])]),(.ops [(.i .l (.bin (.int .i64) .add (.v 11) (.c (.int .i64 1)))),(.i (.v 11) (.mv (.l 0)))])]
def Bt:List RS:=[(.ops [(.i (.v 2) (.box 9 (.v 1))),(.i (.v 3) (.alloc [(.int .i64 0),(.int .i64 0),(.int .i64 0),(.int .i64 0),.nils])),(.i (.v 4) (.alloc [(.int .i64 0),(.int .i64 0)]))]),(.ops [(.i .l (.mv (.v 0))),(.i .l (.nilc (.l 0))),(.i .l (.fad 0 (.l 0))),(.i .l (.load false 1 (.l 0))),(.i .l (.nilc (.l 0))),(.i .l (.fad 0 (.l 0))),(.i .l (.load false 1 (.l 0))),(.i .l (.nilc (.l 0))),(.i .l (.fad 1 (.l 0))),(.i .l (.load false 1 (.l 0))),(.i .l (.call (.c (.fn 31 [] [])) [(.l 0)])),(.i .l (.len false (some 98) (.l 0))),(.i (.v 5) (.mv (.l 0)))]),(.ops [(.i .l (.mv (.v 0))),(.i .l (.nilc (.l 0))),(.i .l (.fad 0 (.l 0))),(.i .l (.load false 1 (.l 0))),(.i .l (.load true 9 (.v 2))),(.i .l (.call (.c (.fn 23 [] [])) [(.l 1),(.l 0)])),(.i (.v 6) (.alloc [(.int .i64 0),(.int .i64 0),(.int .i64 0),(.int .i64 0),.nils])),(.ck [⟨none,false,1,(.l 3),(.l 2)⟩,⟨none,true,9,(.v 2),(.l 1)⟩]),(.i .n (.store 5 (.v 6) (.l 0)))]),(.ops [(.i .l (.fad 0 (.v 6))),(.i .l (.load false 1 (.l 0))),(.i (.v 8) (.bin (.int .i64) .eql (.l 0) (.c (.int .i64 0))))]),(.cond (.v 8) [(.ops [(.i .l (.mv (.v 0))),(.i .l (.load true 9 (.v 2))),(.i .l (.call (.c (.fn 65 [] [])) [(.l 1),(.l 0)]))])] []),(.ops [(.i .l (.mv (.v 0))),(.i .l (.nilc (.l 0))),(.i .l (.fad 0 (.l 0))),(.i .l (.load false 1 (.l 0))),(.i .l (.nilc (.l 0))),(.i .l (.fad 0 (.l 0))),(.i .l (.load false 1 (.l 0))),(.i .l (.nilc (.l 0))),(.i .l (.fad 1 (.l 0))),(.i .l (.load false 1 (.l 0))),(.i .l (.call (.c (.fn 31 [] [])) [(.l 0)])),(.i .l (.mv (.v 5))),(.i (.v 9) (.slc false (some 98) (.l 1) (some (.l 0)) none)),(.i (.v 10) (.len false (some 98) (.v 9))),(.i (.v 11) (.mv (.c (.int .i64 0))))]),(.block 0 [(.loop gN)]),(.ops [(.i .l (.mv (.v 0))),(.i .l (.nilc (.l 0))),(.i .l (.fad 5 (.l 0))),(.i .l (.load false 1 (.l 0))),(.i .l (.bin (.int .i64) .add (.l 0) (.c (.int .i64 1)))),(.i .l (.nilc (.l 4))),(.i .l (.fad 5 (.l 0))),(.i .n (.store 1 (.l 0) (.l 2)))]),(.ops [(.i .l (.load true 5 (.v 6))),(.i .l (.mv (.v 0))),(.i .l (.nilc (.l 0))),(.i .l (.fad 3 (.l 0))),(.i .l (.load true 2 (.l 0))),(.i .n (.store 5 (.v 3) (.l 4))),(.ck [⟨none,true,2,(.l 1),(.l 0)⟩]),(.i .n (.store 2 (.v 4) (.l 0)))]),.ret]
theorem Ip:FnR Try.prog po 36 2 14 [0,1,3,4,5,6,7,9,30,46,47,48,49,68] Bt [(.cell true 5 3),(.cell true 2 4)] false:=⟨_,_,Try.func36,rfl,rfl,by kernel_rfl,by kernel_rfl,by kernel_rfl,by kernel_rfl,by kernel_rfl⟩
def dC:List RS:=[(.ops [(.i .l (.mv (.v 6))),(.i .l (.mv (.v 0))),(.i .l (.len false (some 56) (.l 0))),(.i .l (.bin (.int .i64) .lss (.l 2) (.l 0))),(.i .l (.mv (.l 0))),(.g (.l 0) true .l (.mv (.v 6))),(.g (.l 1) true .l (.mv (.v 1))),(.g (.l 2) true .l (.len false (some 58) (.l 0))),(.g (.l 3) true .l (.bin (.int .i64) .lss (.l 2) (.l 0))),(.i (.v 10) (.pick (.l 4) (.l 0) (.c (.bool false))))]),(.cond (.v 10) [] [(.exit 2)]),(.block 3 [(.ops [(.i .l (.mv (.v 0))),(.i .l (.mv (.v 6))),(.i .l (.ixa (some 56) none (.l 1) (.l 0))),(.i .l (.load true 9 (.l 0))),(.i (.v 7) (.alloc [(.int .i64 0),(.int .i64 0),(.int .i64 0),(.int .i64 0),(.int .i64 0),(.int .i64 0),(.int .i64 0),(.int .i64 0),.nils])),(.i .n (.store 9 (.v 7) (.l 0)))]),(.ops [(.i .l (.fad 0 (.v 7))),(.i .l (.load false 1 (.l 0))),(.i .l (.bin (.int .i64) .eql (.l 0) (.c (.int .i64 3)))),(.i .l (.mv (.l 0))),(.g (.l 0) true .l (.mv (.v 1))),(.g (.l 1) true .l (.mv (.v 6))),(.g (.l 2) true .l (.ixa (some 58) none (.l 1) (.l 0))),(.g (.l 3) true .l (.fad 0 (.l 0))),(.g (.l 4) true .l (.load false 1 (.l 0))),(.g (.l 5) true .l (.bin (.int .i64) .eql (.l 0) (.c (.int .i64 0)))),(.i .l (.pick (.l 6) (.l 0) (.c (.bool false)))),(.i .l (.mv (.l 0))),(.g (.l 0) true .l (.fad 1 (.v 7))),(.g (.l 1) true .l (.load false 1 (.l 0))),(.g (.l 2) true .l (.ixa none (some (4,1)) (.v 4) (.l 0))),(.g (.l 3) true .l (.load false 1 (.l 0))),(.g (.l 4) true .l (.mv (.l 0))),(.g (.l 0) false .l (.fad 2 (.v 7))),(.g (.l 1) false .l (.load false 1 (.l 0))),(.g (.l 2) false .l (.ixa none (some (4,1)) (.v 4) (.l 0))),(.g (.l 3) false .l (.load false 1 (.l 0))),(.g (.l 9) true .l (.pick (.l 4) (.c (.bool true)) (.l 0))),(.i (.v 11) (.pick (.l 10) (.l 0) (.c (.bool false))))]),(.cond (.v 11) [(.ops [(.i .l (.fad 1 (.v 7))),(.i .l (.load false 1 (.l 0))),(.i .l (.fad 2 (.v 7))),(.i .l (.load false 1 (.l 0))),(.i .l (.ixa none (some (4,1)) (.v 4) (.l 2))),(.i .n (.store 1 (.l 0) (.c (.bool true)))),(.ck [⟨none,false,1,(.l 2),(.l 1)⟩]),(.i .l (.ixa none (some (4,1)) (.v 4) (.l 1))),(.i .n (.store 1 (.l 0) (.c (.bool true))))])] [])]),(.ops [(.i .l (.mv (.v 6))),(.i .l (.bin (.int .i64) .add (.l 0) (.c (.int .i64 1)))),(.i (.v 6) (.mv (.l 0)))])]
def gh:List RS:=[(.ops [(.i .l (.mv (.v 5))),(.i (.v 9) (.bin (.int .i64) .lss (.l 0) (.c (.int .i64 4))))]),(.cond (.v 9) [] [(.exit 0)]),(.block 1 [(.ops [(.i (.v 6) (.mv (.c (.int .i64 0))))]),(.block 2 [(.loop dC)])]),(.ops [(.i .l (.mv (.v 5))),(.i .l (.bin (.int .i64) .add (.l 0) (.c (.int .i64 1)))),(.i (.v 5) (.mv (.l 0)))])]
def mE:List RS:=[(.ops [(.i (.v 3) (.alloc [(.bool false),(.bool false),(.bool false),(.bool false)]))]),(.ops [(.i (.v 4) (.alloc [(.bool false),(.bool false),(.bool false),(.bool false)]))]),(.ops [(.i .l (.mv (.v 2))),(.i .l (.bin (.int .i64) .geq (.l 0) (.c (.int .i64 0)))),(.i .l (.mv (.l 0))),(.g (.l 0) true .l (.mv (.v 2))),(.g (.l 1) true .l (.bin (.int .i64) .lss (.l 0) (.c (.int .i64 4)))),(.i (.v 8) (.pick (.l 2) (.l 0) (.c (.bool false))))]),(.cond (.v 8) [(.ops [(.i .l (.mv (.v 2))),(.i .l (.ixa none (some (4,1)) (.v 4) (.l 0))),(.i .n (.store 1 (.l 0) (.c (.bool true))))])] []),(.ops [(.i (.v 5) (.mv (.c (.int .i64 0))))]),(.block 0 [(.loop gh)]),(.ops [(.i .l (.load true 4 (.v 4))),(.i .n (.store 4 (.v 3) (.l 0)))]),.ret]
theorem pm:FnR Try.prog po 66 3 12 [0,1,2,6,7,8,9,10,16,20,32,61] mE [(.cell true 4 3)] true:=⟨_,_,Try.func66,rfl,rfl,by kernel_rfl,by kernel_rfl,by kernel_rfl,by kernel_rfl,by kernel_rfl⟩
def cT:List RS:=[(.ops [(.i .l (.mv (.v 7))),(.i .l (.mv (.v 0))),(.i .l (.len false (some 56) (.l 0))),(.i .l (.bin (.int .i64) .lss (.l 2) (.l 0))),(.i .l (.mv (.l 0))),(.g (.l 0) true .l (.mv (.v 7))),(.g (.l 1) true .l (.mv (.v 1))),(.g (.l 2) true .l (.len false (some 58) (.l 0))),(.g (.l 3) true .l (.bin (.int .i64) .lss (.l 2) (.l 0))),(.i (.v 9) (.pick (.l 4) (.l 0) (.c (.bool false))))]),(.cond (.v 9) [] [(.exit 0)]),(.block 1 [(.ops [(.i .l (.mv (.v 0))),(.i .l (.mv (.v 7))),(.i .l (.ixa (some 56) none (.l 1) (.l 0))),(.i .l (.load true 9 (.l 0))),(.i (.v 8) (.alloc [(.int .i64 0),(.int .i64 0),(.int .i64 0),(.int .i64 0),(.int .i64 0),(.int .i64 0),(.int .i64 0),(.int .i64 0),.nils])),(.i .n (.store 9 (.v 8) (.l 0)))]),(.ops [(.i .l (.fad 0 (.v 8))),(.i .l (.load false 1 (.l 0))),(.i .l (.bin (.int .i64) .eql (.l 0) (.c (.int .i64 2)))),(.i .l (.mv (.l 0))),(.g (.l 0) true .l (.mv (.v 1))),(.g (.l 1) true .l (.mv (.v 7))),(.g (.l 2) true .l (.ixa (some 58) none (.l 1) (.l 0))),(.g (.l 3) true .l (.fad 0 (.l 0))),(.g (.l 4) true .l (.load false 1 (.l 0))),(.g (.l 5) true .l (.bin (.int .i64) .eql (.l 0) (.c (.int .i64 0)))),(.i .l (.pick (.l 6) (.l 0) (.c (.bool false)))),(.i .l (.mv (.l 0))),(.g (.l 0) true .l (.fad 3 (.v 8))),(.g (.l 1) true .l (.load false 1 (.l 0))),(.g (.l 2) true .l (.mv (.v 3))),(.g (.l 3) true .l (.bin (.int .i64) .eql (.l 1) (.l 0))),(.i .l (.pick (.l 4) (.l 0) (.c (.bool false)))),(.i .l (.mv (.l 0))),(.g (.l 0) true .l (.fad 5 (.v 8))),(.g (.l 1) true .l (.load false 1 (.l 0))),(.g (.l 2) true .l (.mv (.v 4))),(.g (.l 3) true .l (.bin (.int .i64) .and (.l 1) (.l 0))),(.g (.l 4) true .l (.mv (.v 4))),(.g (.l 5) true .l (.bin (.int .i64) .eql (.l 1) (.l 0))),(.i .l (.pick (.l 6) (.l 0) (.c (.bool false)))),(.i .l (.mv (.l 0))),(.g (.l 0) true .l (.fad 1 (.v 8))),(.g (.l 1) true .l (.load false 1 (.l 0))),(.g (.l 2) true .l (.ixa none (some (4,1)) (.v 6) (.l 0))),(.g (.l 3) true .l (.load false 1 (.l 0))),(.g (.l 4) true .l (.mv (.l 0))),(.g (.l 0) false .l (.fad 1 (.v 8))),(.g (.l 1) false .l (.load false 1 (.l 0))),(.g (.l 2) false .l (.mv (.v 2))),(.g (.l 3) false .l (.bin (.int .i64) .eql (.l 1) (.l 0))),(.g (.l 9) true .l (.pick (.l 4) (.c (.bool true)) (.l 0))),(.i (.v 10) (.pick (.l 10) (.l 0) (.c (.bool false))))]),(.cond (.v 10) [(.ops [(.i (.v 5) (.mv (.c (.bool true))))]),.ret] [])]),(.ops [(.i .l (.mv (.v 7))),(.i .l (.bin (.int .i64) .add (.l 0) (.c (.int .i64 1)))),(.i (.v 7) (.mv (.l 0)))])]
def zB:List RS:=[(.ops [(.i (.v 5) (.mv (.c (.bool false))))]),(.ops [(.i .l (.mv (.v 0))),(.i .l (.mv (.v 1))),(.i .l (.mv (.v 2))),(.i .l (.call (.c (.fn 66 [] [])) [(.l 2),(.l 1),(.l 0)])),(.i (.v 6) (.alloc [(.bool false),(.bool false),(.bool false),(.bool false)])),(.i .n (.store 4 (.v 6) (.l 0)))]),(.ops [(.i (.v 7) (.mv (.c (.int .i64 0))))]),(.block 0 [(.loop cT)]),(.ops [(.i (.v 5) (.mv (.c (.bool false))))]),.ret]
theorem JK:FnR Try.prog po 37 5 11 [0,1,2,3,4,10,11,12,13,27,70] zB [(.v 5)] true:=⟨_,_,Try.func37,rfl,rfl,by kernel_rfl,by kernel_rfl,by kernel_rfl,by kernel_rfl,by kernel_rfl⟩
def mO:List RS:=[(.ops [(.i (.v 0) (.mv (.c (.bool false))))]),(.ops [(.i .l (.call (.c (.fn 35 [] [])) [])),(.i (.v 1) (.mv (.l 0)))]),(.ops [(.i .l (.mv (.v 1))),(.i (.v 4) (.bin .ptr .eql (.l 0) (.c .nilp)))]),(.cond (.v 4) [(.ops [(.i (.v 0) (.mv (.c (.bool false))))]),.ret] []),(.ops [(.i .l (.mv (.v 1))),(.i .l (.build [(.int .i64 0),(.int .i64 0),(.int .i64 0),(.int .i64 0),(.int .i64 0),(.int .i64 0),(.int .i64 0),(.int .i64 0),.nils] [(0,1),(1,1),(2,1),(3,1),(4,1),(5,1),(6,1),(7,1),(8,1)] [(0,(.c (.int .i64 2))),(1,(.c (.int .i64 1))),(3,(.c (.int .i64 3))),(5,(.c (.int .i64 1))),(6,(.c (.int .i64 (-1))))])),(.i .l (.call (.c (.fn 36 [] [])) [(.l 1),(.l 0)])),(.i .l (.mv (.l 0))),(.i .l (.ext (.l 0) 0)),(.i .l (.ext (.l 1) 1)),(.i (.v 2) (.alloc [(.int .i64 0),(.int .i64 0),(.int .i64 0),(.int .i64 0),.nils])),(.i (.v 3) (.alloc [(.int .i64 0),(.int .i64 0)])),(.i .n (.store 5 (.v 2) (.l 1))),(.i .n (.store 2 (.v 3) (.l 0)))]),(.ops [(.i .l (.fad 0 (.v 2))),(.i .l (.load false 1 (.l 0))),(.i .l (.bin (.int .i64) .eql (.l 0) (.c (.int .i64 0)))),(.i .l (.mv (.l 0))),(.g (.l 0) true .l (.fad 0 (.v 3))),(.g (.l 1) true .l (.load false 1 (.l 0))),(.g (.l 2) true .l (.bin (.int .i64) .eql (.l 0) (.c (.int .i64 0)))),(.i .l (.pick (.l 3) (.l 0) (.c (.bool false)))),(.i .l (.mv (.l 0))),(.g (.l 0) true .l (.mv (.v 1))),(.g (.l 1) true .l (.call (.c (.fn 64 [] [])) [(.l 0),(.c (.int .i64 1)),(.c (.int .i64 3)),(.c (.int .i64 1))])),(.i .l (.pick (.l 2) (.l 0) (.c (.bool false)))),(.i .l (.mv (.l 0))),(.g (.l 0) true .l (.mv (.v 1))),(.g (.l 1) true .l (.call (.c (.fn 64 [] [])) [(.l 0),(.c (.int .i64 1)),(.c (.int .i64 3)),(.c (.int .i64 2))])),(.g (.l 2) true .l (.un .not (.l 0))),(.i .l (.pick (.l 3) (.l 0) (.c (.bool false)))),(.i .l (.mv (.l 0))),(.g (.l 0) true .l (.mv (.v 1))),(.g (.l 1) true .l (.call (.c (.fn 64 [] [])) [(.l 0),(.c (.int .i64 0)),(.c (.int .i64 3)),(.c (.int .i64 1))])),(.g (.l 2) true .l (.un .not (.l 0))),(.i .l (.pick (.l 3) (.l 0) (.c (.bool false)))),(.i .l (.mv (.l 0))),(.g (.l 0) true .l (.mv (.v 1))),(.g (.l 1) true .l (.nilc (.l 0))),(.g (.l 2) true .l (.fad 0 (.l 0))),(.g (.l 3) true .l (.load false 1 (.l 0))),(.g (.l 4) true .l (.call (.c (.fn 27 [] [])) [(.l 0),(.c (.int .i64 1))])),(.g (.l 5) true .l (.len false (some 29) (.l 0))),(.g (.l 6) true .l (.bin (.int .i64) .eql (.l 0) (.c (.int .i64 1)))),(.i .l (.pick (.l 7) (.l 0) (.c (.bool false)))),(.i (.v 0) (.mv (.l 0)))]),.ret]
theorem uq:FnR Try.prog po 34 0 5 [0,1,2,3,6] mO [(.v 0)] true:=⟨_,_,Try.func34,rfl,rfl,by kernel_rfl,by kernel_rfl,by kernel_rfl,by kernel_rfl,by kernel_rfl⟩
def dM:List RS:=[(.ops [(.i .l (.mv (.v 12))),(.i (.v 19) (.bin (.int .i64) .geq (.l 0) (.c (.int .i64 0))))]),(.cond (.v 19) [] [(.exit 4)]),(.block 5 [(.ops [(.i .l (.mv (.v 12))),(.i .l (.mv (.v 11))),(.i .l (.len false (some 103) (.l 0))),(.i .l (.bin (.int .i64) .geq (.l 2) (.l 0))),(.i .l (.mv (.l 0))),(.g (.l 0) false .l (.mv (.v 11))),(.g (.l 1) false .l (.mv (.v 12))),(.g (.l 2) false .l (.ixa (some 103) none (.l 1) (.l 0))),(.g (.l 3) false .l (.fad 0 (.l 0))),(.g (.l 4) false .l (.load false 1 (.l 0))),(.g (.l 5) false .l (.mv (.v 12))),(.g (.l 6) false .l (.bin (.int .i64) .geq (.l 1) (.l 0))),(.i .l (.pick (.l 7) (.c (.bool true)) (.l 0))),(.i .l (.mv (.l 0))),(.g (.l 0) false .l (.mv (.v 11))),(.g (.l 1) false .l (.mv (.v 12))),(.g (.l 2) false .l (.ixa (some 103) none (.l 1) (.l 0))),(.g (.l 3) false .l (.fad 2 (.l 0))),(.g (.l 4) false .l (.load false 1 (.l 0))),(.g (.l 5) false .l (.fad 2 (.v 8))),(.g (.l 6) false .l (.load false 1 (.l 0))),(.g (.l 7) false .l (.bin (.int .i64) .and (.l 2) (.l 0))),(.g (.l 8) false .l (.fad 2 (.v 8))),(.g (.l 9) false .l (.load false 1 (.l 0))),(.g (.l 10) false .l (.bin (.int .i64) .neq (.l 2) (.l 0))),(.i (.v 20) (.pick (.l 11) (.c (.bool true)) (.l 0)))]),(.cond (.v 20) [(.ops [(.i (.v 1) (.mv (.c (.bool false))))]),.ret] [])]),(.ops [(.i .l (.mv (.v 11))),(.i .l (.mv (.v 12))),(.i .l (.ixa (some 103) none (.l 1) (.l 0))),(.i .l (.fad 0 (.l 0))),(.i .l (.load false 1 (.l 0))),(.i (.v 12) (.mv (.l 0)))])]
def eU:List RS:=[(.ops [(.i .l (.mv (.v 4))),(.i .l (.mv (.v 7))),(.i .l (.len false (some 98) (.l 0))),(.i (.v 16) (.bin (.int .i64) .lss (.l 2) (.l 0)))]),(.cond (.v 16) [] [(.exit 2)]),(.block 3 [(.ops [(.i .l (.mv (.v 7))),(.i .l (.mv (.v 4))),(.i .l (.ixa (some 98) none (.l 1) (.l 0))),(.i .l (.load true 4 (.l 0))),(.i (.v 8) (.alloc [(.int .i64 0),(.int .i64 0),(.int .i64 0),(.int .i64 0)])),(.i .n (.store 4 (.v 8) (.l 0)))]),(.ops [(.i .l (.mv (.v 0))),(.i .l (.mv (.v 5))),(.i .l (.slc false (some 56) (.l 1) none (some (.l 0)))),(.i .l (.mv (.v 3))),(.i .l (.mv (.v 5))),(.i .l (.slc false (some 58) (.l 1) none (some (.l 0)))),(.i .l (.fad 0 (.v 8))),(.i .l (.load false 1 (.l 0))),(.i .l (.fad 1 (.v 8))),(.i .l (.load false 1 (.l 0))),(.i .l (.fad 2 (.v 8))),(.i .l (.load false 1 (.l 0))),(.i .l (.call (.c (.fn 37 [] [])) [(.l 9),(.l 6),(.l 4),(.l 2),(.l 0)])),(.i (.v 17) (.un .not (.l 0)))]),(.cond (.v 17) [(.ops [(.i (.v 1) (.mv (.c (.bool false))))]),.ret] []),(.ops [(.i .l (.mv (.v 2))),(.i .l (.nilc (.l 0))),(.i .l (.fad 0 (.l 0))),(.i .l (.load false 1 (.l 0))),(.i .l (.nilc (.l 0))),(.i .l (.fad 0 (.l 0))),(.i .l (.load false 1 (.l 0))),(.i .l (.nilc (.l 0))),(.i .l (.fad 0 (.l 0))),(.i .l (.load false 1 (.l 0))),(.i .l (.fad 3 (.v 8))),(.i .l (.load false 1 (.l 0))),(.i .l (.call (.c (.fn 38 [] [])) [(.l 2),(.l 0)])),(.i .l (.mv (.l 0))),(.i .l (.ext (.l 0) 0)),(.i .l (.ext (.l 1) 1)),(.i (.v 9) (.alloc [(.int .i64 0),(.int .i64 0),(.int .i64 0),(.int .i64 0),(.int .i64 0),(.int .i64 0)])),(.ck [⟨none,false,1,(.l 13),(.l 12)⟩,⟨none,false,1,(.l 10),(.l 9)⟩,⟨none,false,1,(.l 7),(.l 6)⟩,⟨none,false,1,(.l 5),(.l 4)⟩]),(.i .n (.store 6 (.v 9) (.l 1))),(.i (.v 10) (.mv (.l 0)))]),(.ops [(.i .l (.mv (.v 2))),(.i .l (.nilc (.l 0))),(.i .l (.fad 0 (.l 0))),(.i .l (.load false 1 (.l 0))),(.i .l (.nilc (.l 0))),(.i .l (.fad 0 (.l 0))),(.i .l (.load false 1 (.l 0))),(.i .l (.nilc (.l 0))),(.i .l (.fad 0 (.l 0))),(.i .l (.load false 1 (.l 0))),(.i .l (.call (.c (.fn 30 [] [])) [(.l 0)])),(.i (.v 11) (.mv (.l 0)))]),(.ops [(.i .l (.mv (.v 10))),(.i .l (.un .not (.l 0))),(.i .l (.mv (.l 0))),(.g (.l 0) false .l (.fad 4 (.v 9))),(.g (.l 1) false .l (.load false 1 (.l 0))),(.g (.l 2) false .l (.bin (.int .i64) .geq (.l 0) (.c (.int .i64 0)))),(.i .l (.pick (.l 3) (.c (.bool true)) (.l 0))),(.i .l (.mv (.l 0))),(.g (.l 0) false .l (.fad 3 (.v 9))),(.g (.l 1) false .l (.load false 1 (.l 0))),(.g (.l 2) false .l (.fad 1 (.v 8))),(.g (.l 3) false .l (.load false 1 (.l 0))),(.g (.l 4) false .l (.bin (.int .i64) .neq (.l 2) (.l 0))),(.i (.v 18) (.pick (.l 5) (.c (.bool true)) (.l 0)))]),(.cond (.v 18) [(.ops [(.i (.v 1) (.mv (.c (.bool false))))]),.ret] []),(.ops [(.i .l (.fad 3 (.v 8))),(.i .l (.load false 1 (.l 0))),(.i (.v 12) (.mv (.l 0)))]),(.block 4 [(.loop dM)])]),(.ops [(.i .l (.mv (.v 4))),(.i .l (.bin (.int .i64) .add (.l 0) (.c (.int .i64 1)))),(.i (.v 4) (.mv (.l 0)))])]
def eY:List RS:=[(.ops [(.i .l (.mv (.v 5))),(.i .l (.mv (.v 0))),(.i .l (.len false (some 56) (.l 0))),(.i (.v 15) (.bin (.int .i64) .lss (.l 2) (.l 0)))]),(.cond (.v 15) [] [(.exit 0)]),(.block 1 [(.ops [(.i .l (.mv (.v 2))),(.i .l (.mv (.v 0))),(.i .l (.mv (.v 5))),(.i .l (.ixa (some 56) none (.l 1) (.l 0))),(.i .l (.load true 9 (.l 0))),(.i .l (.call (.c (.fn 36 [] [])) [(.l 4),(.l 0)])),(.i .l (.mv (.l 0))),(.i .l (.ext (.l 0) 0)),(.i .l (.ext (.l 1) 1)),(.i (.v 6) (.alloc [(.int .i64 0),(.int .i64 0),(.int .i64 0),(.int .i64 0),.nils])),(.i .l (.alloc [(.int .i64 0),(.int .i64 0)])),(.i .n (.store 5 (.v 6) (.l 2))),(.i .n (.store 2 (.l 0) (.l 1)))]),(.ops [(.i .l (.mv (.v 3))),(.i .l (.load true 5 (.v 6))),(.i .l (.bsl false 58 [(.int .i64 0),(.int .i64 0),(.int .i64 0),(.int .i64 0),.nils] 5 1 [(0,(.l 0))])),(.i .l (.app false 58 (.l 2) (.l 0))),(.i (.v 3) (.mv (.l 0)))]),(.ops [(.i .l (.mv (.v 2))),(.i .l (.nilc (.l 0))),(.i .l (.fad 0 (.l 0))),(.i .l (.load false 1 (.l 0))),(.i .l (.nilc (.l 0))),(.i .l (.fad 0 (.l 0))),(.i .l (.load false 1 (.l 0))),(.i .l (.nilc (.l 0))),(.i .l (.fad 1 (.l 0))),(.i .l (.load false 1 (.l 0))),(.i .l (.call (.c (.fn 31 [] [])) [(.l 0)])),(.i (.v 7) (.mv (.l 0)))]),(.block 2 [(.loop eU)])]),(.ops [(.i .l (.mv (.v 5))),(.i .l (.bin (.int .i64) .add (.l 0) (.c (.int .i64 1)))),(.i (.v 5) (.mv (.l 0)))])]
def jO:List RS:=[(.ops [(.i (.v 1) (.mv (.c (.bool false))))]),(.ops [(.i .l (.call (.c (.fn 34 [] [])) [])),(.i (.v 13) (.un .not (.l 0)))]),(.cond (.v 13) [(.ops [(.i (.v 1) (.mv (.c (.bool false))))]),.ret] []),(.ops [(.i .l (.mv (.v 0))),(.i (.v 14) (.call (.c (.fn 21 [] [])) [(.l 0),(.c (.int .i64 120))]))]),(.cond (.v 14) [(.ops [(.i (.v 1) (.mv (.c (.bool true))))]),.ret] []),(.ops [(.i .l (.call (.c (.fn 35 [] [])) [])),(.i (.v 2) (.mv (.l 0)))]),(.ops [(.i (.v 3) (.mv (.c .nils)))]),(.ops [(.i (.v 4) (.mv (.c (.int .i64 0))))]),(.ops [(.i (.v 5) (.mv (.c (.int .i64 0))))]),(.block 0 [(.loop eY)]),(.ops [(.i (.v 1) (.mv (.c (.bool true))))]),.ret]
theorem mW:FnR Try.prog po 10 1 21 [0,2,3,4,5,6,7,9,10,11,12,13,14,16,18,23,53,73,114,118,149] jO [(.v 1)] true:=⟨_,_,Try.func10,rfl,rfl,by kernel_rfl,by kernel_rfl,by kernel_rfl,by kernel_rfl,by kernel_rfl⟩
abbrev tIn:TypeId:=3
abbrev tGi:TypeId:=178
abbrev tLi:TypeId:=181
def gE (g:jF):List AV:=[.int .i64 g.plugin,.int .i64 g.cell,.int .i64 g.rights]
def gG (l:Int×Int):List AV:=[.int .i64 l.1,.int .i64 l.2]
def dD (b hb:Nat) (gifts:List jF) (links:List (Int×Int)) (code at_ n:Int):Asn:=oV fun q:AV×AV=>dE (ai b [[.ptr hb 0 0,q.1,q.2,.int .i64 code,.int .i64 at_,.int .i64 n]]) (dE (di tGi q.1 (gifts.map gE)) (di tLi q.2 (links.map gG)))
section
variable {h h' h0:AH} {F J F0 J0:Nat→Prop} {L:List Asn}
theorem Af {v:AV} {l:List Int} (hv:IsL tIn v (bq l)) (hl:l.length≤1000000) (x:Int):∀ (r pre:List Int) (v3 v6 v7:AV),l=pre++r→pre.contains x=false→
  ∃ V,(∀ K,aq (aj Try.prog po) 8 (.lp fX:: .ss []:: .blk 0::(.ss [.ops [(.i (.v 2) (.mv (.c (.int .i64 (-1)))))],.ret])::K) [v,.int .i64 x,.int .i64 0,v3,.int .i64 (l.length:Int),.int .i64 (pre.length:Int),v6,v7] [] h=some (.ret,V,h))∧∃ n:Int,V.getD 2 .junk= .int .i64 n∧decide (0≤n)=l.contains x:=by
 intro r
 induction r with
 | nil=>
   intro pre v3 v6 v7 e hc
   have d1:decide ((pre.length:Int)<(l.length:Int))=false:=decide_eq_false (by rw[e];simp)
   refine⟨[v,.int .i64 x,.int .i64 (-1),v3,.int .i64 (l.length:Int),.int .i64 (pre.length:Int),.bool false,v7],fun K=> ?_, -1,rfl,?_⟩
   ·rw[aB fX.eq_1]
    simp only[sim,ag,reduceAdd,reduceSub,replicate,reduceCtorEq,reduceLeDiff,reduceLT,aa,d1]
   ·rw[e,List.append_nil,hc];rfl
 | cons y r ih=>
   intro pre v3 v6 v7 e hc
   have d1:decide ((pre.length:Int)<(l.length:Int))=true:=decide_eq_true (by rw[e];simp;omega)
   have hx:(bq l)[pre.length]? =some [.int .i64 y]:=by rw[e];simp
   have ix:=hv.ix .i64 pre.length _ hx
   have hpl:pre.length<l.length:=by rw[e];simp
   have w:=w64 (n:=(pre.length:Int)+1) (by omega) (by omega)
   cases hy:decide (y=x)with
   | true=>
     refine⟨[v,.int .i64 x,.int .i64 (pre.length:Int),.int .i64 (pre.length:Int),.int .i64 (l.length:Int),.int .i64 (pre.length:Int),.bool true,.bool true],fun K=> ?_,(pre.length:Int),rfl,?_⟩
     ·have hy':decide (x=y)=true:=by rw[decide_eq_true_eq]at hy ⊢;exact hy.symm
      rw[aB fX.eq_1]
      simp only[sim,ag,reduceAdd,reduceSub,replicate,reduceCtorEq,reduceLeDiff,reduceLT,aa,d1,ix,hy,hy']
     ·rw[e,List.contains_eq_mem]
      have:x=y:=by rw[decide_eq_true_eq]at hy;exact hy.symm
      simp[this]
   | false=>
     have hy':decide (x=y)=false:=by rw[decide_eq_false_iff_not]at hy ⊢;exact fun h=>hy h.symm
     have ek:((pre++[y]).length:Int)=(pre.length:Int)+1:=by simp
     obtain⟨V,r1,r2⟩:=ih (pre++[y]) (.int .i64 (pre.length:Int)) (.bool true) (.bool false) (by simp[e]) (by
      rw[List.contains_eq_mem]at hc ⊢
      simp at hc hy' ⊢
      exact⟨hc,hy'⟩)
     refine⟨V,fun K=> ?_,r2⟩
     rw[←r1 K,ek]
     conv=>lhs;rw[aB fX.eq_1]
     simp only[sim,ag,reduceAdd,reduceSub,replicate,reduceCtorEq,reduceLeDiff,reduceLT,aa,d1,ix,hy,hy',w]
theorem mN {v:AV} {l:List Int} (hv:IsL tIn v (bq l)) (hl:l.length≤1000000) (x:Int):aj Try.prog po 93 [v,.int .i64 x] h=some (.inl (.bool (l.contains x)),h):=by
 obtain⟨V,r1,n,r2,r3⟩:=Af (h:=h) hv hl x l [] .junk .junk .junk rfl rfl
 simp only[List.length_nil,Int.natCast_zero]at r1
 have e1:aj Try.prog po 114 [v,.int .i64 x] h=some (.inl (.int .i64 n),h):=by
  refine ah EB rfl ?_;unfold vR
  simp only[sim,ag,reduceAdd,reduceSub,replicate,reduceCtorEq,reduceLeDiff,reduceLT,aa,hv.len,hv.fits,List.length_map]
  rw[r1]
  simp only[sim,ag,reduceAdd,reduceSub,replicate,reduceCtorEq,reduceLeDiff,reduceLT,aa,r2]
 refine ah xO rfl ?_;unfold oG
 simp only[sim,ag,reduceAdd,reduceSub,replicate,reduceCtorEq,reduceLeDiff,reduceLT,aa,e1,r3]
theorem MH {b:Nat} {x y a:Int} {out:List Int} {v:AV} {i:Int} {w p:AV} (hb:h'.cell b=some [[.int .i64 x,.int .i64 y]]) (hlt:b<h'.n) (ha:Acc h h' tIn v (bq out)) (g:af h h') (hl:out.length≤1000) {j:Nat} (hj:out[j]? =some a) (hi:i=(j:Int)) (k:Nat) (hk:k<2) (v2 v6 v7 v8 v9 v10 v11 v13 v14:AV):
  ∃ h'' v' w14,(∀ K,aq (aj Try.prog po) 15 (.lp dv::K) [w,p,v2,v,.int .i64 i,.ptr b 0 0,v6,v7,v8,v9,v10,v11,.int .i64 (k:Int),v13,v14] [] h'=aq (aj Try.prog po) 15 (.lp dv::K) [w,p,v2,v',.int .i64 i,.ptr b 0 0,.int .i64 (k:Int),v7,v8,v9,v10,v11,.int .i64 ((k:Int)+1),.bool true,w14] [] h'')∧
    Acc h h'' tIn v' (bq (qH a (if k=0 then x else y) (if k=0 then y else x) out))∧af h h''∧h''.cell=h'.cell∧h''.n=h'.n:=by
 subst hi
 have hv:=Dz ha
 have ij:=hv.ix .i64 j [.int .i64 a] (by simp[hj])
 have d2:decide ((k:Int)<2)=true:=decide_eq_true (by omega)
 have ik:∀ q,bT none (some (2,1)) (.ptr b 0 0) (.int q (k:Int))=some (.ptr b 0 k):=fun q=>by simp[bT,hk]
 have ik2:∀ q,bT none (some (2,1)) (.ptr b 0 0) (.int q (1 - (k:Int)))=some (.ptr b 0 (1 - k)):=fun q=>by
  have:k=0∨k=1:=by omega
  rcases this with rfl | rfl<;>rfl
 have w1:IntKind.wrap .i64 (1 - (k:Int))=1 - (k:Int):=w64 (by omega) (by omega)
 have w2:IntKind.wrap .i64 ((k:Int)+1)=(k:Int)+1:=w64 (by omega) (by omega)
 have lk:aE false 1 h' (.ptr b 0 k)=some (.int .i64 (if k=0 then x else y)):=by
  rw[bD,hb]
  have:k=0∨k=1:=by omega
  rcases this with rfl | rfl<;>rfl
 have lk2:aE false 1 h' (.ptr b 0 (1 - k))=some (.int .i64 (if k=0 then y else x)):=by
  rw[bD,hb]
  have:k=0∨k=1:=by omega
  rcases this with rfl | rfl<;>rfl
 generalize (if k=0 then x else y)=xx at*
 generalize (if k=0 then y else x)=yy at*
 have cn:=fun(h:AH)=>mN (h:=h) hv (by omega) yy
 unfold qH
 cases hxa:decide (xx=a)with
 | false=>
   have hn:¬ (xx=a∧out.contains yy=false):=fun h=>by rw[decide_eq_false_iff_not]at hxa;exact hxa h.1
   rw[if_neg hn]
   refine⟨h',v,.bool false,fun K=> ?_,ha,g,rfl,rfl⟩
   conv=>lhs;rw[aB dv.eq_1]
   simp only[sim,ag,reduceAdd,reduceSub,replicate,reduceCtorEq,reduceLeDiff,reduceLT,aa,d2,ik,lk,ij,hxa,w2]
 | true=>
   have hxa':xx=a:=of_decide_eq_true hxa
   cases hc:out.contains yy with
   | true=>
     rw[if_neg (by simp)]
     rw[hc]at cn
     refine⟨h',v,.bool false,fun K=> ?_,ha,g,rfl,rfl⟩
     conv=>lhs;rw[aB dv.eq_1]
     simp only[sim,ag,reduceAdd,reduceSub,replicate,reduceCtorEq,reduceLeDiff,reduceLT,aa,d2,ik,lk,ij,hxa,ik2,w1,lk2,cn,w2]
   | false=>
     rw[if_pos ⟨hxa',rfl⟩]
     rw[hc]at cn
     obtain⟨v',h2,e1,a2,g2,c2,n2⟩:=mF ha g (row:=[.int .i64 yy]) rfl (by simp;omega)
     have lk3:aE false 1 (h'.fresh 1) (.ptr b 0 (1 - k))=some (.int .i64 yy):=lk2
     refine⟨h2,v',.bool true,fun K=> ?_,by simpa using a2,g2,c2,n2⟩
     conv=>lhs;rw[aB dv.eq_1]
     simp only[sim,ag,reduceAdd,reduceSub,replicate,reduceCtorEq,reduceLeDiff,reduceLT,aa,d2,ik,lk,ij,hxa,ik2,w1,lk2,cn,e1,w2]
end
end Go.Proofs.Ytkdbjfncchmmpaa
