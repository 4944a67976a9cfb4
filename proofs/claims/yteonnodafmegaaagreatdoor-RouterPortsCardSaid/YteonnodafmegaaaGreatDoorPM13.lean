/- Parts of the proof: LP POpen LQ LR LS LT LU LV LW LX LY P6c. -/
import Derived.Test.YteonnodafmegaaaGreatDoorPM12
import Derived.Test.YteonnodafmegaaaGreatDoorPM04
import Derived.Test.YteonnodafmegaaaGreatDoorTie
import Derived.Test.YteonnodafmegaaaGreatDoorCards
import Derived.Lib.SmallJoins
import Derived.Lib.LaidTab
import Derived.Deep.Slices
import Derived.Deep.Fields
import Derived.ChangeSame
import Derived.ChangeBook
import Derived.ChangeStays
import Derived.WalkKit
import Derived.ProofKit
import Derived.OpenShut
import Derived.Below
import Derived.LaidMore
import Derived.Lay
import Derived.SevenTiedAt
import Derived.Stop.Joined
import Derived.ChangeMaps5
import Derived.Test.YteonnodafmegaaaGreatDoorPM10
set_option linter.unusedSectionVars false
set_option linter.unusedVariables false
set_option linter.unusedSimpArgs false
namespace Go.Proofs.A1
open Go Go.SL
open Tryz
open Tryz renaming prog->T_
variable {Y:List ByteArray} {af:Array Edge} {c:Cx} {d:Value} {dst:Option Tmp} {e:Int} {fz:Nat×Nat} {g:Option (Nat×Bool)} {hs hs':List bd} {l:List gW} {p:Value} {pos:String} {r:Ro} {s:Value} {sl:aN} {t v v1 v2:Value}
theorem dS {D:List Nat} {hs rest:List bd} {X:Act->World->Prop} (hs2:List bd) (ht:bj hs hs2 rest) (k:Tr c D sl hs2 X):Tr c D sl hs X:=fun a w bb=>k a w (bb.heap (by
 have h1:=bb.mem.jA (ht.append (nF D));obtain ⟨kk,fp,hn,gi,hb⟩:=h1;obtain ⟨f1,f23,rfl,g1,g23⟩:=cy.append_iff.1 gi;obtain ⟨f2,f3,rfl,g2,g3⟩:=cy.append_iff.1 g23;obtain ⟨n1,n23,n12⟩:=ZI.1 hn;obtain ⟨n2,n3,n4⟩:=ZI.1 n23;exact ⟨kk,f1++f3,ZI.2 ⟨n1,n3,fun x hx y hy=>n12 x hx y (ZT _ hy)⟩,cy.append_iff.2 ⟨f1,f3,I,g1,g3⟩,fun b dQ=>hb b (by
  rcases Zz.1 dQ with h | h
  ·exact ZH _ h
  ·exact ZT _ (ZT _ h))⟩))
theorem sQ:mX nf:=⟨by decide,by decide,by decide⟩
theorem GH:mX gT:=⟨by decide,by decide,by decide⟩
theorem GG:mX iK:=⟨by decide,by decide,by decide⟩
theorem XG:mX En:=⟨by decide,by decide,by decide⟩
theorem Br:gU gT:=⟨by decide,by decide,by decide,by decide⟩
theorem Bq:gU iK:=⟨by decide,by decide,by decide,by decide⟩
theorem acm:gU xS:=⟨by decide,by decide,by decide,by decide⟩
theorem XE:gU En:=⟨by decide,by decide,by decide,by decide⟩
theorem MS {w:World} (v:Int) (so de:ByteArray) (h:RR w r s d t p) (hf:mX r) (e1:GX r v so de=e) (e2:D7 r v so de=Y):a8 T_ 70 [.agg #[.q (r).lv,.q (r).ma,s,d,t,p],.q v,.string so,.string de] w [] (fun _:Value=>True) (fun x=>.tuple #[x,.q e]) (fun x=>[row 9 1 x Y.length (aR Y)]):=by
 subst e1 e2;exact X7 v so de h hf
theorem UL {w:World} {Y:List Int} (v:Int) (so de:ByteArray) (h:RR w r s d t p) (hf:mX r) (e1:Mu r v so de=e) (e2:H3 r v so de=Y):a8 T_ 36 [.agg #[.q (r).lv,.q (r).ma,s,d,t,p],.q v,.string so,.string de] w [] (fun _:Value=>True) (fun x=>.tuple #[x,.q e]) (fun x=>[row 3 1 x Y.length (Y.map (Value.int .i64))]):=by
 subst e1 e2;exact Yf v so de h hf
theorem R2 {r q:Ro} {k:Tk} {w:World} (e:jX r [k]=(q,0,0)) (h:RR w r s d t p) (hf:mX r) (hv:Rd w v 1 (fN k.so)):a8 T_ 48 [.agg #[.q (r).lv,.q (r).ma,s,d,t,p],.agg #[.string k.de,v]] w [] (fun _:Value×Value×Value×Value=>True) (fun y=>.tuple #[.agg #[.q (q).lv,.q (q).ma,y.1,y.2.1,y.2.2.1,y.2.2.2],.q 0]) (fun y=>nV q y):=by
 have:=QD (x:=⟨k,v⟩) h hf hv;rw [show (gW.mk k v).tk=k from I,e] at this;exact this
theorem R4 {r q:Ro} {i e_:Int} {w:World} (e:jX r (cU l)=(q,i,e_)) (h:RR w r s d t p) (hf:mX r) (hv:Rd w v 2 (jP l)) (hM:vK w l):a8 T_ 45 [.agg #[.q (r).lv,.q (r).ma,s,d,t,p],v] w [] (fun _:Value×Value×Value×Value=>True) (fun y=>.tuple #[.agg #[.q (q).lv,.q (q).ma,y.1,y.2.1,y.2.2.1,y.2.2.2],.q i,.q e_]) (fun y=>nV q y):=by
 have:=BS h hf hv hM;rw [e] at this;exact this
theorem X0 {m:List Tk} {w:World} (e:(jX r (cU l)).2.2=0) (e2:NS r (cU l)=m) (h:RR w r s d t p) (hf:mX r) (hv:Rd w v 2 (jP l)) (hM:vK w l):a8 T_ 47 [.agg #[.q (r).lv,.q (r).ma,s,d,t,p],v] w [] (fun x:Value×List gW=>cU x.2=m) (fun x=>.tuple #[x.1,.q 0]) (fun x=>[row 78 2 x.1 x.2.length (jP x.2).flatten,NW x.2]):=by
 have:=M5 h hf hv hM;rw [e,e2] at this;exact this
theorem X4 {w:World} (o:ByteArray) (h:RR w r s d t p) (hf:mX r) (e1:LO r o=e) (e2:HN r o=Y):a8 T_ 20 [.agg #[.q (r).lv,.q (r).ma,s,d,t,p],.string o] w [] (fun _:Value=>True) (fun x=>.tuple #[x,.q e]) (fun x=>[row 9 1 x Y.length (aR Y)]):=by
 subst e1 e2;exact UR o h hf
theorem X1 {w:World} (v:Int) (o:ByteArray) (h:RR w r s d t p) (hf:mX r) (e1:JV r v o=e) (e2:G5 r v o=Y):a8 T_ 22 [.agg #[.q (r).lv,.q (r).ma,s,d,t,p],.q v,.string o] w [] (fun _:Value=>True) (fun x=>.tuple #[x,.q e]) (fun x=>[row 9 1 x Y.length (aR Y)]):=by
 subst e1 e2;exact QC v o h hf
theorem X5 {w:World} (v:Int) (h:RR w r s d t p) (hf:mX r) (e1:MM r v=e) (e2:Ic r v=Y):a8 T_ 23 [.agg #[.q (r).lv,.q (r).ma,s,d,t,p],.q v] w [] (fun _:Value=>True) (fun x=>.tuple #[x,.q e]) (fun x=>[row 9 1 x Y.length (aR Y)]):=by
 subst e1 e2;exact UT v h hf
theorem XZ {w:World} (v:Int) (o:ByteArray) (h:RR w r s d t p) (hf:mX r) (e1:I8 r v o=e) (e2:G0 r v o=Y):a8 T_ 24 [.agg #[.q (r).lv,.q (r).ma,s,d,t,p],.q v,.string o] w [] (fun _:Value=>True) (fun x=>.tuple #[x,.q e]) (fun x=>[row 9 1 x Y.length (aR Y)]):=by
 subst e1 e2;exact QB v o h hf
theorem X3 {r q:Ro} {w:World} {b:Bool} (o:ByteArray) (h:RR w r s d t p) (hf:mX r) (e1:ue r o=0) (e2:qZ r o b=q):a8 T_ 78 [.agg #[.q (r).lv,.q (r).ma,s,d,t,p],.string o,.bool b] w [] (fun _:Value×Value×Value×Value=>True) (fun y=>.tuple #[.agg #[.q (q).lv,.q (q).ma,y.1,y.2.1,y.2.2.1,y.2.2.2],.q 0]) (fun y=>nV q y):=by
 have:=uJ o b h hf;rw [e1,e2] at this;exact this
theorem MU {l:List qS} {m:List Od} {w:World} (o:ByteArray) (f:Int) (em:eT l=m) (h:RR w r s d t p) (hf:mX r) (e1:rX r m o f=0) (e2:uK r m o f=Y) (hv:Rd w v 2 (ug l)) (hM:IK w l):a8 T_ 64 [.agg #[.q (r).lv,.q (r).ma,s,d,t,p],v,.string o,.q f] w [] (fun _:Value=>True) (fun x=>.tuple #[x,.q 0]) (fun x=>[row 9 1 x Y.length (aR Y)]):=by
 have:=UP o f h hf hv hM;rw [em,e1,e2] at this;exact this
theorem ko (w:World):a8 T_ 105 [] w [] (fun _:Value×Value×Value×Value=>True) (fun x=>.agg #[.q (nf).lv,.q (nf).ma,x.1,x.2.1,x.2.2.1,x.2.2.2]) (fun x=>nV nf x):=Qb w
theorem lO {w:World} (h:RR w r s d t p) (hf:gU r):a8 T_ 57 [.agg #[.q (r).lv,.q (r).ma,s,d,t,p]] w [] (fun _:Value×Value×Value×Value=>True) (fun x=>.agg #[.q (r).lv,.q (r).ma,x.1,x.2.1,x.2.2.1,x.2.2.2]) (fun x=>oZ r x):=Al h hf
theorem lz {w:World} (h:RR w r s d t p) (hf:gU r):a8 T_ 21 [.agg #[.q (r).lv,.q (r).ma,s,d,t,p]] w [] (fun _:Value×Value×Value×Value=>True) (fun x=>.agg #[.q (r).lv,.q (r).ma,x.1,x.2.1,x.2.2.1,x.2.2.2]) (fun x=>nV r x):=V2 h hf
theorem R3 (w:World):a8 T_ 106 [] w [] (fun _:Option Addr×Nat=>True) (fun x=>.agg #[.string ed,.slice x.1 2 x.2]) (fun x=>[row 9 1 (.slice x.1 2 x.2) 2 (aR o6.so)]):=Uw w
theorem X2 (w:World):a8 T_ 107 [] w [] (fun _:Option Addr×Nat=>True) (fun x=>.agg #[.string jL,.slice x.1 2 x.2]) (fun x=>[row 9 1 (.slice x.1 2 x.2) 2 (aR UY.so)]):=Uv w
theorem MT (w:World):a8 T_ 108 [] w [] (fun _:Option Addr×Nat=>True) (fun x=>.agg #[.string ed,.slice x.1 2 x.2]) (fun x=>[row 9 1 (.slice x.1 2 x.2) 2 (aR o5.so)]):=Uu w
theorem iR {w:World} {x:gW} (h:Rd w x.v 1 (fN x.tk.so)) (k:vK w l):vK w (x::l):=fun y hy=>by
 rcases ZQ.1 hy with rfl | hy
 ·exact h
 ·exact k y hy
theorem kL (w:World):vK w []:=fun _ h=>absurd h Zo
theorem mN {l:List ByteArray} {w:World} (h1:Rd w v1 1 (fN l)) (h2:Rd w v2 1 (fN l)):an T_ 58 [v1,v2] w (.bool true):=by
 have:=FW h1 h2;rwa [decide_eq_true I] at this
theorem Ot {l:List Int} {w:World} (h1:Rd w v1 1 (ints l)) (h2:Rd w v2 1 (ints l)):an T_ 109 [v1,v2] w (.bool true):=by
 have:=Ou h1 h2;rwa [decide_eq_true I] at this
theorem twM {w:World} {W:List gW} (hm:Mem c hs w) (ht:Take hs (NW W) hs'):vK w W:=fun x hx=>by
 obtain ⟨j,hj,rfl⟩:=ZA hx;have:=hm.wA (j:=j) (v:=W[j].v) (x:=aR W[j].tk.so) ht (by rw [ZG,Zc hj];rfl) (by rw [ZG,Zc hj];rfl);have e:(aR W[j].tk.so).map (fun u=>[u])=fN W[j].tk.so:=by unfold aR fN;rw [ZaE];rfl
 rwa [e] at this
theorem Oq {l m:List gW} {w:World} (h1:Rd w v1 2 (jP l)) (hM1:vK w l) (h2:Rd w v2 2 (jP m)) (hM2:vK w m) (e:cU l=cU m):an T_ 53 [v1,v2] w (.bool true):=by
 have:=DP h1 hM1 h2 hM2;rwa [decide_eq_true e] at this
theorem KI {q:List Po} {w:World} (h:RR w r s d t p) (c6:gU r) (hv:Rd w v 3 (uf q)) (e:r.po=q):an T_ 110 [.agg #[.q (r).lv,.q (r).ma,s,d,t,p],v] w (.bool true):=by
 have:=KP h c6 hv;rwa [decide_eq_true e] at this
theorem ee {P:Program} {ty:TypeId} {x y z:Operand} {q:Bool} {v u V:Value} (hx:Is sl x (.bool q)) (hy:Is sl y v) (hz:Is sl z u) (e:(bif q then v else u)=V):du P c sl hs ⟨dst,.pick x y z,ty,pos,af,g⟩ V:=e ▸ vf hx hy hz
theorem aai {w:World} {g:Nat} {x:ByteArray} {E:TypeId} (hm:Mem c hs w) (ht:Take hs (bu g (.cells #[.string x] E fz)) hs'):Rd w (.w g 1 1) 1 (fN [x]):=Mem.dy hm ht I I
theorem aah {w:World} {g:Nat} {x y z:ByteArray} {E:TypeId} (hm:Mem c hs w) (ht:Take hs (bu g (.cells #[.string x,.string y,.string z] E fz)) hs'):Rd w (.w g 3 3) 1 (fN [x,y,z]):=Mem.dy hm ht I I
theorem Ew {w:World} {g:Nat} {x y:ByteArray} {E:TypeId} (hm:Mem c hs w) (ht:Take hs (bu g (.cells #[.string x,.string y] E fz)) hs'):Rd w (.w g 2 2) 1 (fN [x,y]):=Mem.dy hm ht I I
theorem ED {w:World} {l:List qS} {E:TypeId} {n:Nat} (hm:Mem c hs w) (ht:Take hs (row E 2 v n (ug l).flatten) hs') (hn:l.length=n):Rd w v 2 (ug l):=hm.qY ht rfl (fun r hr=>by obtain ⟨x,_,rfl⟩:=Zw.1 hr;rfl) (by rw [show (ug l).length=l.length from Zd _,hn])
theorem nE {w:World} {x:qS} {l:List qS} (h:Rd w x.v 2 (jP x.tk)) (h2:vK w x.tk) (k:IK w l):IK w (x::l):=fun y hy=>by
 rcases ZQ.1 hy with rfl | hy
 ·exact ⟨h,h2⟩
 ·exact k y hy
theorem AW (w:World):IK w []:=fun _ h=>absurd h Zo
theorem UK {w:World} (h:RR w nf s d t p):an T_ 85 [.agg #[.q (nf).lv,.q (nf).ma,s,d,t,p]] w (.tuple #[.string (KJ nf),.q 0]):=by
 have:=QE h sQ;rwa [XM] at this
theorem Hm {P:Program} {ty:TypeId} {t u:TypeId} {x y:Operand} {a b:ByteArray} (hx:Is sl x (.string a)) (hy:Is sl y (.string b)) (e:a=b) :
  du P c sl hs ⟨dst,.binOp .eql t x y u,ty,pos,af,g⟩ (.bool true):=by
 have:=dD (P:=P) (c:=c) (hs:=hs) (dst:=dst) (ty:=ty) (pos:=pos) (af:=af) (g:=g) (t:=t) (u:=u) hx hy;rwa [decide_eq_true e] at this
set_option maxRecDepth 20000 in
set_option maxHeartbeats 4000000 in
theorem sS (w:World):an T_ 17 [] w (.bool true):=by
 refine aj func17 I I ?_;refine Jr<|Ja I<|Ji ?_;refine JN nq I (fun w1 aT=>ko w1) ?_;rintro ⟨s1,d1,t1,p1⟩ _
 try dsimp only [id_eq,Zb,Za]
 refine dF (r:=nf) (s:=s1) (d:=d1) (t:=t1) (p:=p1) (bo _ _) fun m1a m1b m1c m1d=>?_
 skip
 refine JN mI I (fun w1 aT=>MS 0 df ed ⟨cF aT (by exact .here) I,cH aT (by exact Take.there .here) I,cE aT bE I,cq aT cI I⟩ sQ RE.1 RE.2) ?_;rintro x1 _
 try dsimp only [id_eq,Zb,Za]
 refine Jv I<|JJ I I<|JJ I I<|Ja I<|Ja I<|Ji ?_;refine JN nq I (fun w1 aT=>ko w1) ?_;rintro ⟨s2,d2,t2,p2⟩ _
 try dsimp only [id_eq,Zb,Za]
 refine dF (r:=nf) (s:=s2) (d:=d2) (t:=t2) (p:=p2) (bo _ _) fun m2a m2b m2c m2d=>?_
 skip
 refine JN nq I (fun w1 aT=>R3 w1) ?_;rintro ⟨ya,yc⟩ _
 try dsimp only [id_eq,Zb,Za]
 skip
 refine JN bn I (fun w1 aT=>R2 (k:=o6) XK ⟨cF aT (by exact Take.there .here) I,cH aT bE I,cE aT cI I,cq aT c7 I⟩ sQ (ez aT (by exact .here) (by exact I))) ?_;rintro ⟨s3,d3,t3,p3⟩ _
 try dsimp only [id_eq,Zb,Za]
 refine dF (r:=gT) (s:=s3) (d:=d3) (t:=t3) (p:=p3) (bo _ _) fun m3a m3b m3c m3d=>?_
 (refine Jv I<|JJ I I<|JJ I I<|Jz I I fun _ _=>ak (.of I) (.of I) .here I I (dO I I m3a m3b m3c m3d) (br I) ai<|Ja I<|Ji<|ab (bU .here) I ?_)
 rename_i b3 rz;refine dS [JW x1 [nT],bu b3 (.cells #[.q (gT).lv,.q (gT).ma,s3,d3,t3,p3] 41 (0,0)),J1 (gT) s3,J2 (gT) d3,J3 (gT) t3,J4 (gT) p3] (by exact .cons lB (.h5 .nil)) ?_
 skip
 refine JN bJ I (fun w1 aT=>lO ⟨cF aT bE I,cH aT cI I,cE aT c7 I,cq aT ek I⟩ Br) ?_;rintro ⟨s4,d4,t4,p4⟩ _
 try dsimp only [id_eq,Zb,Za]
 refine gO (r:=gT) (s:=s4) (d:=d4) (t:=t4) (p:=p4) (bo _ _) fun m4a m4b m4c m4d=>?_
 skip
 refine JN bJ I (fun w1 aT=>lz ⟨cF aT (by exact .here) I,cH aT (by exact Take.there .here) I,cE aT bE I,cq aT cI I⟩ Br) ?_;rintro ⟨s5,d5,t5,p5⟩ _
 try dsimp only [id_eq,Zb,Za]
 refine dF (r:=gT) (s:=s5) (d:=d5) (t:=t5) (p:=p5) (bo _ _) fun m5a m5b m5c m5d=>?_
 skip
 refine JN nq I (fun w1 aT=>X2 w1) ?_;rintro ⟨za,zc⟩ _
 try dsimp only [id_eq,Zb,Za]
 skip
 refine JN bn I (fun w1 aT=>R2 (k:=UY) XJ ⟨cF aT (by exact Take.there .here) I,cH aT bE I,cE aT cI I,cq aT c7 I⟩ GH (ez aT (by exact .here) (by exact I))) ?_;rintro ⟨s6,d6,t6,p6⟩ _
 try dsimp only [id_eq,Zb,Za]
 refine dF (r:=iK) (s:=s6) (d:=d6) (t:=t6) (p:=p6) (bo _ _) fun m6a m6b m6c m6d=>?_
 (refine Jv I<|JJ I I<|JJ I I<|Jz I I fun _ _=>ak (.of I) (.of I) .here I I (dO I I m6a m6b m6c m6d) (br I) ai<|Ja I<|Ji<|ab (bU .here) I ?_)
 rename_i b5 HS;refine dS [JW x1 [nT],bu b3 (.cells #[.q (gT).lv,.q (gT).ma,s3,d3,t3,p3] 41 (0,0)),J1 (gT) s3,J2 (gT) d3,J3 (gT) t3,J4 (gT) p3,bu b5 (.cells #[.q (iK).lv,.q (iK).ma,s6,d6,t6,p6] 41 (0,0)),J1 (iK) s6,J2 (iK) d6,J3 (iK) t6,J4 (iK) p6] (by exact .cons uV (.cons uV (.cons uV (.cons uV (.cons uV (.cons uV (.h5 .nil))))))) ?_
 skip
 refine JN bJ I (fun w1 aT=>lO ⟨cF aT tV I,cH aT DR I,cE aT jl I,cq aT lB I⟩ Bq) ?_;rintro ⟨s7,d7,t7,p7⟩ _
 try dsimp only [id_eq,Zb,Za]
 refine gO (r:=iK) (s:=s7) (d:=d7) (t:=t7) (p:=p7) (bo _ _) fun m7a m7b m7c m7d=>?_
 skip
 refine JN bJ I (fun w1 aT=>lz ⟨cF aT (by exact .here) I,cH aT (by exact Take.there .here) I,cE aT bE I,cq aT cI I⟩ Bq) ?_;rintro ⟨s8,d8,t8,p8⟩ _
 try dsimp only [id_eq,Zb,Za]
 refine dF (r:=iK) (s:=s8) (d:=d8) (t:=t8) (p:=p8) (bo _ _) fun m8a m8b m8c m8d=>?_
 skip
 refine JN nq I (fun w1 aT=>MT w1) ?_;rintro ⟨ua,uc⟩ _
 try dsimp only [id_eq,Zb,Za]
 refine bh (bz (.o I .nil) I I bI bI ai) I (fun _ _=>?_);rename_i g4 Nx;refine bP (g:=g4) (E:=78) (ys:=(jP [⟨o5,.slice ua 2 uc⟩]).flatten) 1 2 (by exact .here) (by exact I) I I ?_;refine JN bn I (fun w1 aT=>R4 (l:=[⟨o5,.slice ua 2 uc⟩]) RK ⟨cF aT bE I,cH aT cI I,cE aT c7 I,cq aT ek I⟩ GG (nB aT (by exact .here) (by exact I)) (iR (ez aT (by exact Take.there .here) (by exact I)) (kL _))) ?_;rintro ⟨s9,d9,t9,p9⟩ _
 try dsimp only [id_eq,Zb,Za]
 refine dF (r:=xS) (s:=s9) (d:=d9) (t:=t9) (p:=p9) (bo _ _) fun m9a m9b m9c m9d=>?_
 (refine Jv I<|JJ I I<|JJ I I<|JJ I I<|Jz I I fun _ _=>ak (.of I) (.of I) .here I I (dO I I m9a m9b m9c m9d) (br I) ai<|Ja I<|Ja I<|Ji<|ab (bU (.there (.there (.there (.there (.there fx)))))) I ?_)
 rename_i b7 Ud;refine dS [JW x1 [nT],bu b3 (.cells #[.q (gT).lv,.q (gT).ma,s3,d3,t3,p3] 41 (0,0)),J1 (gT) s3,J2 (gT) d3,J3 (gT) t3,J4 (gT) p3,bu b5 (.cells #[.q (iK).lv,.q (iK).ma,s6,d6,t6,p6] 41 (0,0)),J1 (iK) s6,J2 (iK) d6,J3 (iK) t6,J4 (iK) p6,bu b7 (.cells #[.q (xS).lv,.q (xS).ma,s9,d9,t9,p9] 41 (0,0)),J1 (xS) s9,J2 (xS) d9,J3 (xS) t9,J4 (xS) p9] (by exact .cons iQ (.cons iQ (.cons iQ (.cons iQ (.cons iQ (.cons iQ (.cons iQ (.cons iQ (.cons iQ (.cons iQ (.cons iQ (.h5 .nil)))))))))))) ?_
 skip
 refine JN bJ I (fun w1 aT=>lO ⟨cF aT tV I,cH aT DR I,cE aT jl I,cq aT lB I⟩ Bq) ?_;rintro ⟨s10,d10,t10,p10⟩ _
 try dsimp only [id_eq,Zb,Za]
 refine gO (r:=iK) (s:=s10) (d:=d10) (t:=t10) (p:=p10) (bo _ _) fun ag9 ag8 ag7 ag6=>?_
 skip
 refine JN bJ I (fun w1 aT=>lz ⟨cF aT (by exact .here) I,cH aT (by exact Take.there .here) I,cE aT bE I,cq aT cI I⟩ Bq) ?_;rintro ⟨s11,d11,t11,p11⟩ _
 try dsimp only [id_eq,Zb,Za]
 refine dF (r:=iK) (s:=s11) (d:=d11) (t:=t11) (p:=p11) (bo _ _) fun ag5 ag4 ag3 ag2=>?_
 skip
 refine JN nq I (fun w1 aT=>MT w1) ?_;rintro ⟨va,vc⟩ _
 try dsimp only [id_eq,Zb,Za]
 refine bh (bz (.o I .nil) I I bI bI ai) I (fun _ _=>?_);rename_i g5 hg5;refine bP (g:=g5) (E:=78) (ys:=(jP [⟨o5,.slice va 2 vc⟩]).flatten) 1 2 (by exact .here) (by exact I) I I ?_;refine JN bn I (fun w1 aT=>X0 (l:=[⟨o5,.slice va 2 vc⟩]) (m:=[o6]) (congrArg (fun x:Ro×Int×Int=>x.2.2) RK) XH ⟨cF aT bE I,cH aT cI I,cE aT c7 I,cq aT ek I⟩ GG (nB aT (by exact .here) (by exact I)) (iR (ez aT (by exact Take.there .here) (by exact I)) (kL _))) ?_;rintro ⟨yK,W⟩ hW
 try dsimp only at hW
 try dsimp only [id_eq,Zb,Za]
 refine Jv I<|JJ I I<|JJ I I<|Ja I<|Ja I<|Ji ?_;refine dS [JW x1 [nT],bu b3 (.cells #[.q (gT).lv,.q (gT).ma,s3,d3,t3,p3] 41 (0,0)),J1 (gT) s3,J2 (gT) d3,J3 (gT) t3,J4 (gT) p3,bu b5 (.cells #[.q (iK).lv,.q (iK).ma,s6,d6,t6,p6] 41 (0,0)),J1 (iK) s6,J2 (iK) d6,J3 (iK) t6,J4 (iK) p6,bu b7 (.cells #[.q (xS).lv,.q (xS).ma,s9,d9,t9,p9] 41 (0,0)),J1 (xS) s9,J2 (xS) d9,J3 (xS) t9,J4 (xS) p9,row 78 2 yK W.length (jP W).flatten,NW W] (by exact .cons lA (.cons lA (.cons lA (.cons lA (.cons lA (.cons lA (.cons lA (.cons lA (.cons lA (.cons lA (.cons lA (.cons lA (.cons lA (.cons lA (.cons lA (.cons lA (.h2 .nil))))))))))))))))) ?_
 skip
 refine JN nq I (fun w1 aT=>ko w1) ?_;rintro ⟨s12,d12,t12,p12⟩ _
 try dsimp only [id_eq,Zb,Za]
 refine dF (r:=nf) (s:=s12) (d:=d12) (t:=t12) (p:=p12) (bo _ _) fun ag1 ag0 agZ agY=>?_
 skip
 refine JN mI I (fun w1 aT=>MS 0 lq oW ⟨cF aT (by exact .here) I,cH aT (by exact Take.there .here) I,cE aT bE I,cq aT cI I⟩ sQ RD.1 RD.2) ?_;rintro Io _
 try dsimp only [id_eq,Zb,Za]
 refine Jv I<|JJ I I<|JJ I I<|Ja I<|Ja I<|Ji ?_;refine JN nq I (fun w1 aT=>ko w1) ?_;rintro ⟨s13,d13,t13,p13⟩ _
 try dsimp only [id_eq,Zb,Za]
 refine dF (r:=nf) (s:=s13) (d:=d13) (t:=t13) (p:=p13) (bo _ _) fun agX agW agV agU=>?_
 skip
 refine JN mI I (fun w1 aT=>UL 0 lq oW ⟨cF aT (by exact .here) I,cH aT (by exact Take.there .here) I,cE aT bE I,cq aT cI I⟩ sQ RM.1 RM.2) ?_;rintro Sc _
 try dsimp only [id_eq,Zb,Za]
 refine Jv I<|JJ I I<|JJ I I<|Ja I<|Ja I<|Ji ?_;refine JN nq I (fun w1 aT=>ko w1) ?_;rintro ⟨s14,d14,t14,p14⟩ _
 try dsimp only [id_eq,Zb,Za]
 refine dF (r:=nf) (s:=s14) (d:=d14) (t:=t14) (p:=p14) (bo _ _) fun agT agS agR agQ=>?_;refine bh (aD (.o I .nil) I I I I) I (fun _ _=>?_);rename_i g8 hg8
 with_reducible apply ah
 case hr=>exact DS
 case hd=>rfl
 case hc=>
  intro w1 aT;have:=Ft (r:=nf) (s:=s14) (d:=d14) (t:=t14) (p:=p14) (cv:=.w g8 1 1) 0 lq oW (L:=[0]) (⟨cF aT (by exact Take.there .here) I,cH aT bE I,cE aT cI I,cq aT c7 I⟩:RR w1 nf s14 d14 t14 p14) sQ (Mem.dy aT (by exact .here) I I);rw [XN] at this;exact this
 refine dS [JW x1 [nT],bu b3 (.cells #[.q (gT).lv,.q (gT).ma,s3,d3,t3,p3] 41 (0,0)),J1 (gT) s3,J2 (gT) d3,J3 (gT) t3,J4 (gT) p3,bu b5 (.cells #[.q (iK).lv,.q (iK).ma,s6,d6,t6,p6] 41 (0,0)),J1 (iK) s6,J2 (iK) d6,J3 (iK) t6,J4 (iK) p6,bu b7 (.cells #[.q (xS).lv,.q (xS).ma,s9,d9,t9,p9] 41 (0,0)),J1 (xS) s9,J2 (xS) d9,J3 (xS) t9,J4 (xS) p9,row 78 2 yK W.length (jP W).flatten,NW W,row 3 1 Sc [(1:Int)].length ([(1:Int)].map (Value.int .i64))] (by exact .cons iQ (.cons iQ (.cons iQ (.cons iQ (.cons iQ (.cons iQ (.cons iQ (.cons iQ (.cons iQ (.cons iQ (.cons iQ (.cons iQ (.cons iQ (.cons iQ (.cons iQ (.cons iQ (.cons iQ (.cons iQ (.cons ek .nil))))))))))))))))))) ?_
 (refine Ja I<|Jn<|Jq<|Jr<|Jv I<|Jv I<|JB I (by omega)<|Jv I<|JB I (by omega)<|Jv I<|JB I (by omega)<|Jv I<|JB I (by omega)<|Jv I<|JB I (by omega)<|JD I<|Jv I<|JK I I<|Jv I<|JK I I<|JD I<|ab (ee (.of I) (.of I) (.of I) I) I<|Jv I<|JK I I<|Jv I<|JK I I<|JD I<|ab (ee (.of I) (.of I) (.of I) I) I<|Jv I<|JK I I<|Jv I<|JK I I<|JD I<|ab (ee (.of I) (.of I) (.of I) I) I<|Jv I<|JK I I<|Jv I<|JK I I<|bh (aD (.o I .nil) I I I I) I fun _ _=>JK I I ?_)
 skip
 rename_i g9a aif;refine ah bn I (fun w1 aT=>mN (l:=[nT]) (ez aT (by exact Take.there .here) (by exact I)) (Mem.dy aT (by exact .here) I I)) ?_
 (refine JK I I<|JH I<|ab (ee (.of I) (.of I) (.of I) I) I<|Jv I<|JK I I<|Jv I<|JK I I<|bh (aD (.o I .nil) I I I I) I fun _ _=>JK I I ?_)
 rename_i g9b aie;refine ah bn I (fun w1 aT=>Ot (l:=[1]) (lJ aT (.there (.there (.there (.there fx)))) (by exact I)) (Mem.dy aT (by exact .here) I I)) ?_
 (refine JK I I<|JH I<|ab (ee (.of I) (.of I) (.of I) I) I<|Jv I<|JK I I<|Jv I<|JK I I ?_)
 have Ry:W.length<=1000:=by
  have h:=congrArg List.length hW;unfold cU at h;rw [Zd] at h;rw [h];decide
 have hWs:∀ x∈W,x.tk.so.length<=1000:=by
  intro x hx;have h:x.tk∈cU W:=Zaa hx;rw [hW] at h;rw [ZD.1 h];decide
 refine JN bJ I (fun w1 aT=>N6 (nB aT (.there (.there fx)) (by exact I)) (twM aT (.there (.there (.there fx)))) Ry hWs) ?_;rintro ⟨x9,V⟩ hV
 try dsimp only at hV
 try dsimp only [id_eq,Zb,Za]
 (refine JK I I<|bh (aD (.o I (.o I .nil)) I I I I) I fun _ _=>JK I I<|ab (aU (.o I (.o I .nil)) ai) I<|JK I I<|bh (bz (.o I .nil) I I bI bI ai) I fun _ _=>JK I I ?_)
 rename_i g9c aid g9d aic;refine bP (g:=g9d) (E:=69) (ys:=(jP [⟨o6,.w g9c 2 2⟩]).flatten) 1 2 (by exact .here) (by exact I) I I ?_;refine ah bn I (fun w1 aT=>Oq (m:=[⟨o6,.w g9c 2 2⟩]) (nB aT bE (by exact I)) (twM aT cI) (nB aT (by exact .here) (by exact I)) (iR (Mem.dy aT (by exact Take.there .here) I I) (kL _)) (hV.trans (hW.trans I))) ?_
 (refine JK I I<|JH I<|ab (ee (.of I) (.of I) (.of I) I) I<|Jn<|cd (.of I)<|Jk<|Jq<|Jr<|ab (bU tV) I<|ab (aU (.o I (.o I (.o I .nil))) ai) I<|ab (aU (.o I (.o I (.o I .nil))) ai) I<|ab (aU (.o I (.o I (.o I .nil))) ai) I<|ab (aU (.o I (.o I (.o I .nil))) ai) I<|bh (bz (.o I (.o I (.o I (.o I .nil)))) I I bI bI ai) I fun _ _=>?_)
 rename_i ack adp;refine bP (g:=ack) (E:=180) (ys:=eF pl1) 4 3 (by exact .here) (by exact I) I I ?_;refine ah bn I (fun w1 aT=>KI (r:=gT) (q:=pl1) ⟨cF aT jl I,cH aT lB I,cE aT tW I,cq aT lA I⟩ Br (cq aT (by exact .here) (by exact I)) I) ?_
 (refine JH I<|Jv I<|JK I I<|ab (bU Ik) I<|JK I I<|ab (aU (.o I (.o I (.o I .nil))) ai) I<|JK I I<|ab (aU (.o I (.o I (.o I .nil))) ai) I<|JK I I<|ab (aU (.o I (.o I (.o I .nil))) ai) I<|JK I I<|ab (aU (.o I (.o I (.o I .nil))) ai) I<|JK I I<|ab (aU (.o I (.o I (.o I .nil))) ai) I<|JK I I<|bh (bz (.o I (.o I (.o I (.o I (.o I .nil))))) I I bI bI ai) I fun _ _=>JK I I ?_)
 rename_i acj ado;refine bP (g:=acj) (E:=180) (ys:=eF pl2) 5 3 (by exact .here) (by exact I) I I ?_;refine ah bn I (fun w1 aT=>KI (r:=iK) (q:=pl2) ⟨cF aT iQ I,cH aT fx I,cE aT (.there fx) I,cq aT (.there (.there fx)) I⟩ Bq (cq aT (by exact .here) (by exact I)) I) ?_
 (refine JK I I<|JH I<|ab (ee (.of I) (.of I) (.of I) I) I<|Jv I<|JK I I<|ab (bU (.there (.there (.there fx)))) I<|JK I I<|ab (aU (.o I (.o I (.o I .nil))) ai) I<|JK I I<|ab (aU (.o I (.o I (.o I .nil))) ai) I<|JK I I<|ab (aU (.o I (.o I (.o I .nil))) ai) I<|JK I I<|ab (aU (.o I (.o I (.o I .nil))) ai) I<|JK I I<|bh (bz (.o I (.o I (.o I (.o I .nil)))) I I bI bI ai) I fun _ _=>JK I I ?_)
 rename_i aci adn;refine bP (g:=aci) (E:=180) (ys:=eF pl4) 4 3 (by exact .here) (by exact I) I I ?_;refine ah bn I (fun w1 aT=>KI (r:=xS) (q:=pl4) ⟨cF aT (.there (.there (.there (.there (.there fx))))) I,cH aT (.there (.there (.there (.there (.there (.there fx)))))) I,cE aT (.there (.there (.there (.there (.there (.there (.there fx))))))) I,cq aT (.there (.there (.there (.there (.there (.there (.there (.there fx)))))))) I⟩ acm (cq aT (by exact .here) (by exact I)) I) ?_
 (refine JK I I<|JH I<|ab (ee (.of I) (.of I) (.of I) I) I<|Jn<|cd (.of I)<|Jk<|Jr<|ab (bU iQ) I ?_)
 refine dS [bu b3 (.cells #[.q (gT).lv,.q (gT).ma,s3,d3,t3,p3] 41 (0,0)),J1 (gT) s3,J2 (gT) d3,J3 (gT) t3,J4 (gT) p3,bu b5 (.cells #[.q (iK).lv,.q (iK).ma,s6,d6,t6,p6] 41 (0,0)),J1 (iK) s6,J2 (iK) d6,J3 (iK) t6,J4 (iK) p6] (by exact .cons lB (.cons lB (.cons lB (.cons lB (.cons lB (.cons lB (.cons lB (.cons lB (.cons lB (.cons lB .nil)))))))))) ?_;refine JN bJ I (fun w1 aT=>lO ⟨cF aT nR I,cH aT tV I,cE aT DR I,cq aT jl I⟩ Bq) ?_;rintro ⟨s15,d15,t15,p15⟩ _
 try dsimp only [id_eq,Zb,Za]
 refine gO (r:=iK) (s:=s15) (d:=d15) (t:=t15) (p:=p15) (bo _ _) fun agP agO agN agM=>?_
 skip
 refine JN bJ I (fun w1 aT=>lz ⟨cF aT (by exact .here) I,cH aT (by exact Take.there .here) I,cE aT bE I,cq aT cI I⟩ Bq) ?_;rintro ⟨s16,d16,t16,p16⟩ _
 try dsimp only [id_eq,Zb,Za]
 refine dF (r:=iK) (s:=s16) (d:=d16) (t:=t16) (p:=p16) (bo _ _) fun agL agK agJ agI=>?_
 skip
 refine JN bn I (fun w1 aT=>X4 jL ⟨cF aT (by exact .here) I,cH aT (by exact Take.there .here) I,cE aT bE I,cq aT cI I⟩ GG XL.1 XL.2) ?_;rintro IL _
 try dsimp only [id_eq,Zb,Za]
 refine Jv I<|JJ I I<|JJ I I<|Ja I<|Ja I<|Ji<|ab (bU jl) I ?_;refine dS [bu b3 (.cells #[.q (gT).lv,.q (gT).ma,s3,d3,t3,p3] 41 (0,0)),J1 (gT) s3,J2 (gT) d3,J3 (gT) t3,J4 (gT) p3,bu b5 (.cells #[.q (iK).lv,.q (iK).ma,s6,d6,t6,p6] 41 (0,0)),J1 (iK) s6,J2 (iK) d6,J3 (iK) t6,J4 (iK) p6,row 9 1 IL ([df,⟨#[]⟩]:List ByteArray).length (aR [df,⟨#[]⟩])] (by exact .cons jl (.cons jl (.cons jl (.cons jl (.cons jl (.cons jl (.cons jl (.cons jl (.cons jl (.cons jl (.h1 .nil))))))))))) ?_;refine JN bJ I (fun w1 aT=>lO ⟨cF aT (by exact Take.there .here) I,cH aT bE I,cE aT cI I,cq aT c7 I⟩ Br) ?_;rintro ⟨s17,d17,t17,p17⟩ _
 try dsimp only [id_eq,Zb,Za]
 refine gO (r:=gT) (s:=s17) (d:=d17) (t:=t17) (p:=p17) (bo _ _) fun agH agG agF agE=>?_
 skip
 refine JN bJ I (fun w1 aT=>lz ⟨cF aT (by exact .here) I,cH aT (by exact Take.there .here) I,cE aT bE I,cq aT cI I⟩ Br) ?_;rintro ⟨s18,d18,t18,p18⟩ _
 try dsimp only [id_eq,Zb,Za]
 refine dF (r:=gT) (s:=s18) (d:=d18) (t:=t18) (p:=p18) (bo _ _) fun agD agC agB agA=>?_
 skip
 refine JN dU I (fun w1 aT=>X1 0 ed ⟨cF aT (by exact .here) I,cH aT (by exact Take.there .here) I,cE aT bE I,cq aT cI I⟩ GH RG.1 RG.2) ?_;rintro Nb _
 try dsimp only [id_eq,Zb,Za]
 refine Jv I<|JJ I I<|JJ I I<|Ja I<|Ja I<|Ji<|ab (bU jl) I ?_;refine dS [bu b3 (.cells #[.q (gT).lv,.q (gT).ma,s3,d3,t3,p3] 41 (0,0)),J1 (gT) s3,J2 (gT) d3,J3 (gT) t3,J4 (gT) p3,bu b5 (.cells #[.q (iK).lv,.q (iK).ma,s6,d6,t6,p6] 41 (0,0)),J1 (iK) s6,J2 (iK) d6,J3 (iK) t6,J4 (iK) p6,row 9 1 IL ([df,⟨#[]⟩]:List ByteArray).length (aR [df,⟨#[]⟩]),row 9 1 Nb ([df,nT,ed]:List ByteArray).length (aR [df,nT,ed])] (by exact .cons jl (.cons jl (.cons jl (.cons jl (.cons jl (.cons jl (.cons jl (.cons jl (.cons jl (.cons jl (.cons jl (.h1 .nil)))))))))))) ?_;refine JN bJ I (fun w1 aT=>lO ⟨cF aT (by exact Take.there .here) I,cH aT bE I,cE aT cI I,cq aT c7 I⟩ Br) ?_;rintro ⟨s19,d19,t19,p19⟩ _
 try dsimp only [id_eq,Zb,Za]
 refine gO (r:=gT) (s:=s19) (d:=d19) (t:=t19) (p:=p19) (bo _ _) fun agz agy agx agw=>?_
 skip
 refine JN bJ I (fun w1 aT=>lz ⟨cF aT (by exact .here) I,cH aT (by exact Take.there .here) I,cE aT bE I,cq aT cI I⟩ Br) ?_;rintro ⟨s20,d20,t20,p20⟩ _
 try dsimp only [id_eq,Zb,Za]
 refine dF (r:=gT) (s:=s20) (d:=d20) (t:=t20) (p:=p20) (bo _ _) fun agv agu agt ags=>?_
 skip
 refine JN bn I (fun w1 aT=>X5 0 ⟨cF aT (by exact .here) I,cH aT (by exact Take.there .here) I,cE aT bE I,cq aT cI I⟩ GH RN.1 RN.2) ?_;rintro NK _
 try dsimp only [id_eq,Zb,Za]
 refine Jv I<|JJ I I<|JJ I I<|Ja I<|Ja I<|Ji<|ab (bU uV) I ?_;refine dS [bu b3 (.cells #[.q (gT).lv,.q (gT).ma,s3,d3,t3,p3] 41 (0,0)),J1 (gT) s3,J2 (gT) d3,J3 (gT) t3,J4 (gT) p3,bu b5 (.cells #[.q (iK).lv,.q (iK).ma,s6,d6,t6,p6] 41 (0,0)),J1 (iK) s6,J2 (iK) d6,J3 (iK) t6,J4 (iK) p6,row 9 1 IL ([df,⟨#[]⟩]:List ByteArray).length (aR [df,⟨#[]⟩]),row 9 1 Nb ([df,nT,ed]:List ByteArray).length (aR [df,nT,ed]),row 9 1 NK ([nT]:List ByteArray).length (aR [nT])] (by exact .cons jl (.cons jl (.cons jl (.cons jl (.cons jl (.cons jl (.cons jl (.cons jl (.cons jl (.cons jl (.cons jl (.cons jl (.h1 .nil))))))))))))) ?_;refine JN bJ I (fun w1 aT=>lO ⟨cF aT nR I,cH aT tV I,cE aT DR I,cq aT jl I⟩ Bq) ?_;rintro ⟨s21,d21,t21,p21⟩ _
 try dsimp only [id_eq,Zb,Za]
 refine gO (r:=iK) (s:=s21) (d:=d21) (t:=t21) (p:=p21) (bo _ _) fun agr agq agp ago=>?_
 skip
 refine JN bJ I (fun w1 aT=>lz ⟨cF aT (by exact .here) I,cH aT (by exact Take.there .here) I,cE aT bE I,cq aT cI I⟩ Bq) ?_;rintro ⟨s22,d22,t22,p22⟩ _
 try dsimp only [id_eq,Zb,Za]
 refine dF (r:=iK) (s:=s22) (d:=d22) (t:=t22) (p:=p22) (bo _ _) fun agn agm agl agk=>?_
 skip
 refine JN dU I (fun w1 aT=>XZ 0 df ⟨cF aT (by exact .here) I,cH aT (by exact Take.there .here) I,cE aT bE I,cq aT cI I⟩ GG RF.1 RF.2) ?_;rintro QH _
 try dsimp only [id_eq,Zb,Za]
 refine Jv I<|JJ I I<|JJ I I<|Ja I<|Ja I<|Ji<|ab (bU jl) I ?_;refine dS [bu b3 (.cells #[.q (gT).lv,.q (gT).ma,s3,d3,t3,p3] 41 (0,0)),J1 (gT) s3,J2 (gT) d3,J3 (gT) t3,J4 (gT) p3,bu b5 (.cells #[.q (iK).lv,.q (iK).ma,s6,d6,t6,p6] 41 (0,0)),J1 (iK) s6,J2 (iK) d6,J3 (iK) t6,J4 (iK) p6,row 9 1 IL ([df,⟨#[]⟩]:List ByteArray).length (aR [df,⟨#[]⟩]),row 9 1 Nb ([df,nT,ed]:List ByteArray).length (aR [df,nT,ed]),row 9 1 NK ([nT]:List ByteArray).length (aR [nT]),row 9 1 QH ([ed,jL]:List ByteArray).length (aR [ed,jL])] (by exact .cons jl (.cons jl (.cons jl (.cons jl (.cons jl (.cons jl (.cons jl (.cons jl (.cons jl (.cons jl (.cons jl (.cons jl (.cons jl (.h1 .nil)))))))))))))) ?_;refine JN bJ I (fun w1 aT=>lO ⟨cF aT (by exact Take.there .here) I,cH aT bE I,cE aT cI I,cq aT c7 I⟩ Br) ?_;rintro ⟨s23,d23,t23,p23⟩ _
 try dsimp only [id_eq,Zb,Za]
 refine gO (r:=gT) (s:=s23) (d:=d23) (t:=t23) (p:=p23) (bo _ _) fun agj agi agh agf=>?_
 skip
 refine JN bJ I (fun w1 aT=>lz ⟨cF aT (by exact .here) I,cH aT (by exact Take.there .here) I,cE aT bE I,cq aT cI I⟩ Br) ?_;rintro ⟨s24,d24,t24,p24⟩ _
 try dsimp only [id_eq,Zb,Za]
 refine dF (r:=gT) (s:=s24) (d:=d24) (t:=t24) (p:=p24) (bo _ _) fun age agd agc agb=>?_
 skip
 refine JN dU I (fun w1 aT=>X3 (b:=true) oW ⟨cF aT (by exact .here) I,cH aT (by exact Take.there .here) I,cE aT bE I,cq aT cI I⟩ GH RL.1 RL.2) ?_;rintro ⟨s25,d25,t25,p25⟩ _
 try dsimp only [id_eq,Zb,Za]
 refine dF (r:=En) (s:=s25) (d:=d25) (t:=t25) (p:=p25) (bo _ _) fun aaB aaA aaz aay=>?_
 (refine Jv I<|JJ I I<|JJ I I<|Jz I I fun _ _=>ak (.of I) (.of I) .here I I (dO I I aaB aaA aaz aay) (br I) ai<|Ja I<|Ji<|ab (bU .here) I ?_)
 rename_i b25 aiu;refine dS [row 9 1 IL ([df,⟨#[]⟩]:List ByteArray).length (aR [df,⟨#[]⟩]),row 9 1 Nb ([df,nT,ed]:List ByteArray).length (aR [df,nT,ed]),row 9 1 NK ([nT]:List ByteArray).length (aR [nT]),row 9 1 QH ([ed,jL]:List ByteArray).length (aR [ed,jL]),bu b25 (.cells #[.q (En).lv,.q (En).ma,s25,d25,t25,p25] 41 (0,0)),J1 (En) s25,J2 (En) d25,J3 (En) t25,J4 (En) p25] (by exact .cons (.there (.there (.there (.there (.there (.there (.there fx))))))) (.cons (.there (.there (.there (.there (.there (.there (.there fx))))))) (.cons (.there (.there (.there (.there (.there (.there (.there fx))))))) (.cons (.there (.there (.there (.there (.there (.there (.there fx))))))) (.h5 .nil))))) ?_;refine JN bJ I (fun w1 aT=>lO ⟨cF aT ek I,cH aT nR I,cE aT tV I,cq aT DR I⟩ XE) ?_;rintro ⟨s26,d26,t26,p26⟩ _
 try dsimp only [id_eq,Zb,Za]
 refine gO (r:=En) (s:=s26) (d:=d26) (t:=t26) (p:=p26) (bo _ _) fun aga af9 af8 af7=>?_
 skip
 refine JN bJ I (fun w1 aT=>lz ⟨cF aT (by exact .here) I,cH aT (by exact Take.there .here) I,cE aT bE I,cq aT cI I⟩ XE) ?_;rintro ⟨s27,d27,t27,p27⟩ _
 try dsimp only [id_eq,Zb,Za]
 refine dF (r:=En) (s:=s27) (d:=d27) (t:=t27) (p:=p27) (bo _ _) fun af6 af5 af4 af3=>?_
 (refine bh (aD (.o I (.o I .nil)) I I I I) I fun _ _=>ab (aU (.o I (.o I .nil)) ai) I<|bh (aD (.o I (.o I .nil)) I I I I) I fun _ _=>ab (aU (.o I (.o I .nil)) ai) I<|bh (bz (.o I (.o I .nil)) I I bI bI ai) I fun _ _=>?_)
 rename_i ga hga gb hgb gc hgc;refine bP (g:=gc) (E:=78) (ys:=(jP [⟨⟨jL,[⟨#[45]⟩,⟨#[]⟩]⟩,.w ga 2 2⟩,⟨⟨oW,[df,df]⟩,.w gb 2 2⟩]).flatten) 2 2 (by exact .here) (by exact I) I I ?_;refine JN bn I (fun w1 aT=>R4 (q:=(jX En [⟨jL,[⟨#[45]⟩,⟨#[]⟩]⟩,⟨oW,[df,df]⟩]).1) (i:=1) (e_:=31) (l:=[⟨⟨jL,[⟨#[45]⟩,⟨#[]⟩]⟩,.w ga 2 2⟩,⟨⟨oW,[df,df]⟩,.w gb 2 2⟩]) (Prod.ext I XI) ⟨cF aT cI I,cH aT c7 I,cE aT ek I,cq aT nR I⟩ XG (nB aT (by exact .here) (by exact I)) (iR (Ew (g:=ga) (x:=⟨#[45]⟩) (y:=⟨#[]⟩) aT bE) (iR (Ew (g:=gb) (x:=⟨#[99,97,109]⟩) (y:=⟨#[99,97,109]⟩) aT (by exact Take.there .here)) (kL _)))) ?_;rintro ⟨s28,d28,t28,p28⟩ _
 try dsimp only [id_eq,Zb,Za]
 refine dF (r:=(jX En [⟨jL,[⟨#[45]⟩,⟨#[]⟩]⟩,⟨oW,[df,df]⟩]).1) (s:=s28) (d:=d28) (t:=t28) (p:=p28) (bo _ _) fun aax aaw aav aau=>?_
 (refine Jv I<|JJ I I<|JJ I I<|JJ I I<|Jz I I fun _ _=>ak (.of I) (.of I) .here I I (dO I I aax aaw aav aau) (br I) ai<|Ja I<|Ja I<|Ji ?_)
 refine dS [row 9 1 IL ([df,⟨#[]⟩]:List ByteArray).length (aR [df,⟨#[]⟩]),row 9 1 Nb ([df,nT,ed]:List ByteArray).length (aR [df,nT,ed]),row 9 1 NK ([nT]:List ByteArray).length (aR [nT]),row 9 1 QH ([ed,jL]:List ByteArray).length (aR [ed,jL])] (by exact .cons fx (.cons fx (.cons fx (.cons fx .nil)))) ?_;refine JN nq I (fun w1 aT=>R3 w1) ?_;rintro ⟨ya,yc⟩ _
 try dsimp only [id_eq,Zb,Za]
 (refine bh (bz (.o I .nil) I I bI bI ai) I fun _ _=>ab (aU (.o I (.o I .nil)) ai) I ?_)
 rename_i ge LS;refine JN nq I (fun w1 aT=>MT w1) ?_;rintro ⟨ua,uc⟩ _
 try dsimp only [id_eq,Zb,Za]
 (refine bh (bz (.o I .nil) I I bI bI ai) I fun _ _=>ab (aU (.o I (.o I .nil)) ai) I<|bh (bz (.o I (.o I .nil)) I I bI bI ai) I fun _ _=>Ja I<|Ji ?_)
 rename_i gf hgf gg hgg;refine bP (g:=ge) (E:=78) (ys:=(jP [⟨o6,.slice ya 2 yc⟩]).flatten) 1 2 cI (by exact I) I I ?_;refine bP (g:=gf) (E:=78) (ys:=(jP [⟨o5,.slice ua 2 uc⟩]).flatten) 1 2 bE (by exact I) I I ?_;refine bP (g:=gg) (E:=182) (ys:=(ug [⟨10,[⟨o6,.slice ya 2 yc⟩],.w ge 1 1⟩,⟨12,[⟨o5,.slice ua 2 uc⟩],.w gf 1 1⟩]).flatten) 2 2 bE (by exact I) I I ?_;refine dS [row 9 1 IL ([df,⟨#[]⟩]:List ByteArray).length (aR [df,⟨#[]⟩]),row 9 1 Nb ([df,nT,ed]:List ByteArray).length (aR [df,nT,ed]),row 9 1 NK ([nT]:List ByteArray).length (aR [nT]),row 9 1 QH ([ed,jL]:List ByteArray).length (aR [ed,jL]),row 182 2 (.w gg 2 2) 2 (ug [⟨10,[⟨o6,.slice ya 2 yc⟩],.w ge 1 1⟩,⟨12,[⟨o5,.slice ua 2 uc⟩],.w gf 1 1⟩]).flatten,row 78 2 (.w ge 1 1) 1 (jP [⟨o6,.slice ya 2 yc⟩]).flatten,row 78 2 (.w gf 1 1) 1 (jP [⟨o5,.slice ua 2 uc⟩]).flatten,row 9 1 (.slice ya 2 yc) 2 (aR o6.so),row 9 1 (.slice ua 2 uc) 2 (aR o5.so)] (by exact .cons ek (.cons ek (.cons ek (.cons ek (.h1 (.cons (.there .here) (.h1 (.cons (.there .here) (.h1 .nil))))))))) ?_
 skip
 refine JN nq I (fun w1 aT=>ko w1) ?_;rintro ⟨s29,d29,t29,p29⟩ _
 try dsimp only [id_eq,Zb,Za]
 refine dF (r:=nf) (s:=s29) (d:=d29) (t:=t29) (p:=p29) (bo _ _) fun af2 af1 af0 afZ=>?_;refine Q8 I I ?_;refine JN mI I (fun w1 aT=>MU (l:=[⟨10,[⟨o6,.slice ya 2 yc⟩],.w ge 1 1⟩,⟨12,[⟨o5,.slice ua 2 uc⟩],.w gf 1 1⟩]) (m:=[⟨10,[o6]⟩,⟨12,[o5]⟩]) ed 9 I ⟨cF aT (by exact .here) I,cH aT (by exact Take.there .here) I,cE aT bE I,cq aT cI I⟩ sQ RJ.1 RJ.2 (ED aT DR (by exact I)) (nE (nB aT jl (by exact I)) (iR (ez aT tW (by exact I)) (kL _)) (nE (nB aT lB (by exact I)) (iR (ez aT lA (by exact I)) (kL _)) (AW _)))) ?_;rintro Yk _
 try dsimp only [id_eq,Zb,Za]
 refine Jv I<|JJ I I<|JJ I I<|Ja I<|Ja I<|Ji ?_;refine dS [row 9 1 IL ([df,⟨#[]⟩]:List ByteArray).length (aR [df,⟨#[]⟩]),row 9 1 Nb ([df,nT,ed]:List ByteArray).length (aR [df,nT,ed]),row 9 1 NK ([nT]:List ByteArray).length (aR [nT]),row 9 1 QH ([ed,jL]:List ByteArray).length (aR [ed,jL]),row 182 2 (.w gg 2 2) 2 (ug [⟨10,[⟨o6,.slice ya 2 yc⟩],.w ge 1 1⟩,⟨12,[⟨o5,.slice ua 2 uc⟩],.w gf 1 1⟩]).flatten,row 78 2 (.w ge 1 1) 1 (jP [⟨o6,.slice ya 2 yc⟩]).flatten,row 78 2 (.w gf 1 1) 1 (jP [⟨o5,.slice ua 2 uc⟩]).flatten,row 9 1 (.slice ya 2 yc) 2 (aR o6.so),row 9 1 (.slice ua 2 uc) 2 (aR o5.so),row 9 1 Yk ([⟨#[]⟩,⟨#[]⟩]:List ByteArray).length (aR [⟨#[]⟩,⟨#[]⟩])] (by exact .cons ek (.cons ek (.cons ek (.cons ek (.cons ek (.cons ek (.cons ek (.cons ek (.cons ek (.h1 .nil)))))))))) ?_
 skip
 refine JN nq I (fun w1 aT=>ko w1) ?_;rintro ⟨s30,d30,t30,p30⟩ _
 try dsimp only [id_eq,Zb,Za]
 refine dF (r:=nf) (s:=s30) (d:=d30) (t:=t30) (p:=p30) (bo _ _) fun afY afX afW afV=>?_;refine Q8 I I ?_;refine JN mI I (fun w1 aT=>MU (l:=[⟨10,[⟨o6,.slice ya 2 yc⟩],.w ge 1 1⟩,⟨12,[⟨o5,.slice ua 2 uc⟩],.w gf 1 1⟩]) (m:=[⟨10,[o6]⟩,⟨12,[o5]⟩]) ed 11 I ⟨cF aT (by exact .here) I,cH aT (by exact Take.there .here) I,cE aT bE I,cq aT cI I⟩ sQ RI.1 RI.2 (ED aT DR (by exact I)) (nE (nB aT jl (by exact I)) (iR (ez aT tW (by exact I)) (kL _)) (nE (nB aT lB (by exact I)) (iR (ez aT lA (by exact I)) (kL _)) (AW _)))) ?_;rintro Y8 _
 try dsimp only [id_eq,Zb,Za]
 refine Jv I<|JJ I I<|JJ I I<|Ja I<|Ja I<|Ji ?_;refine dS [row 9 1 IL ([df,⟨#[]⟩]:List ByteArray).length (aR [df,⟨#[]⟩]),row 9 1 Nb ([df,nT,ed]:List ByteArray).length (aR [df,nT,ed]),row 9 1 NK ([nT]:List ByteArray).length (aR [nT]),row 9 1 QH ([ed,jL]:List ByteArray).length (aR [ed,jL]),row 182 2 (.w gg 2 2) 2 (ug [⟨10,[⟨o6,.slice ya 2 yc⟩],.w ge 1 1⟩,⟨12,[⟨o5,.slice ua 2 uc⟩],.w gf 1 1⟩]).flatten,row 78 2 (.w ge 1 1) 1 (jP [⟨o6,.slice ya 2 yc⟩]).flatten,row 78 2 (.w gf 1 1) 1 (jP [⟨o5,.slice ua 2 uc⟩]).flatten,row 9 1 (.slice ya 2 yc) 2 (aR o6.so),row 9 1 (.slice ua 2 uc) 2 (aR o5.so),row 9 1 Yk ([⟨#[]⟩,⟨#[]⟩]:List ByteArray).length (aR [⟨#[]⟩,⟨#[]⟩]),row 9 1 Y8 ([df,df]:List ByteArray).length (aR [df,df])] (by exact .cons ek (.cons ek (.cons ek (.cons ek (.cons ek (.cons ek (.cons ek (.cons ek (.cons ek (.cons ek (.h1 .nil))))))))))) ?_
 skip
 refine JN nq I (fun w1 aT=>ko w1) ?_;rintro ⟨s31,d31,t31,p31⟩ _
 try dsimp only [id_eq,Zb,Za]
 refine dF (r:=nf) (s:=s31) (d:=d31) (t:=t31) (p:=p31) (bo _ _) fun afU afT afS afR=>?_;refine Q8 I I ?_;refine JN mI I (fun w1 aT=>MU (l:=[⟨10,[⟨o6,.slice ya 2 yc⟩],.w ge 1 1⟩,⟨12,[⟨o5,.slice ua 2 uc⟩],.w gf 1 1⟩]) (m:=[⟨10,[o6]⟩,⟨12,[o5]⟩]) ed 12 I ⟨cF aT (by exact .here) I,cH aT (by exact Take.there .here) I,cE aT bE I,cq aT cI I⟩ sQ RH.1 RH.2 (ED aT DR (by exact I)) (nE (nB aT jl (by exact I)) (iR (ez aT tW (by exact I)) (kL _)) (nE (nB aT lB (by exact I)) (iR (ez aT lA (by exact I)) (kL _)) (AW _)))) ?_;rintro x35 _
 try dsimp only [id_eq,Zb,Za]
 refine Jv I<|JJ I I<|JJ I I<|Ja I<|Ja I<|Ji ?_;refine dS [row 9 1 IL ([df,⟨#[]⟩]:List ByteArray).length (aR [df,⟨#[]⟩]),row 9 1 Nb ([df,nT,ed]:List ByteArray).length (aR [df,nT,ed]),row 9 1 NK ([nT]:List ByteArray).length (aR [nT]),row 9 1 QH ([ed,jL]:List ByteArray).length (aR [ed,jL]),row 182 2 (.w gg 2 2) 2 (ug [⟨10,[⟨o6,.slice ya 2 yc⟩],.w ge 1 1⟩,⟨12,[⟨o5,.slice ua 2 uc⟩],.w gf 1 1⟩]).flatten,row 78 2 (.w ge 1 1) 1 (jP [⟨o6,.slice ya 2 yc⟩]).flatten,row 78 2 (.w gf 1 1) 1 (jP [⟨o5,.slice ua 2 uc⟩]).flatten,row 9 1 (.slice ya 2 yc) 2 (aR o6.so),row 9 1 (.slice ua 2 uc) 2 (aR o5.so),row 9 1 Yk ([⟨#[]⟩,⟨#[]⟩]:List ByteArray).length (aR [⟨#[]⟩,⟨#[]⟩]),row 9 1 Y8 ([df,df]:List ByteArray).length (aR [df,df]),row 9 1 x35 ([lq,lq]:List ByteArray).length (aR [lq,lq])] (by exact .cons ek (.cons ek (.cons ek (.cons ek (.cons ek (.cons ek (.cons ek (.cons ek (.cons ek (.cons ek (.cons ek (.h1 .nil)))))))))))) ?_;refine JN nq I (fun w1 aT=>ko w1) ?_;rintro ⟨s32,d32,t32,p32⟩ _
 try dsimp only [id_eq,Zb,Za]
 refine dF (r:=nf) (s:=s32) (d:=d32) (t:=t32) (p:=p32) (bo _ _) fun afQ afP afO afN=>?_
 skip
 refine ah bJ I (fun w1 aT=>UK ⟨cF aT (by exact .here) I,cH aT (by exact Take.there .here) I,cE aT bE I,cq aT cI I⟩) ?_;refine dS [row 9 1 IL ([df,⟨#[]⟩]:List ByteArray).length (aR [df,⟨#[]⟩]),row 9 1 Nb ([df,nT,ed]:List ByteArray).length (aR [df,nT,ed]),row 9 1 NK ([nT]:List ByteArray).length (aR [nT]),row 9 1 QH ([ed,jL]:List ByteArray).length (aR [ed,jL]),row 9 1 Yk ([⟨#[]⟩,⟨#[]⟩]:List ByteArray).length (aR [⟨#[]⟩,⟨#[]⟩]),row 9 1 Y8 ([df,df]:List ByteArray).length (aR [df,df]),row 9 1 x35 ([lq,lq]:List ByteArray).length (aR [lq,lq])] (by exact .cons c7 (.cons c7 (.cons c7 (.cons c7 (.cons jl (.cons jl (.cons jl .nil))))))) ?_;refine Jv I<|JJ I I<|JJ I I<|Ja I<|Ja I<|Ji ?_;simp only [Zb,Za,List.append_eq,List.append]
 (refine Jv I<|Jv I<|JB I (by omega)<|Jv I<|JB I (by omega)<|Jv I<|JB I (by omega)<|Jv I<|JB I (by omega)<|Jv I<|JB I (by omega)<|Jv I<|JB I (by omega)<|Jv I<|JB I (by omega)<|Jv I<|JB I (by omega)<|JC I<|Jv I<|JK I I<|Jv I<|JK I I<|JC I<|ab (ee (.of I) (.of I) (.of I) I) I<|Jv I<|JK I I<|Jv I<|JK I I<|JC I<|ab (ee (.of I) (.of I) (.of I) I) I<|Jv I<|JK I I<|Jv I<|JK I I<|bh (aD (.o I (.o I .nil)) I I I I) I fun _ _=>JK I I ?_)
 rename_i gz0 ah8;refine ah bn I (fun w1 aT=>mN (l:=[df,⟨#[]⟩]) (ez aT (by exact Take.there .here) (by exact I)) (Ew (g:=gz0) (x:=⟨#[99,97,109]⟩) (y:=⟨#[]⟩) aT (by exact .here))) ?_
 (refine ab (ee (.of I) (.of I) (.of I) I) I<|Jv I<|JK I I<|Jv I<|JK I I<|bh (aD (.o I (.o I (.o I .nil))) I I I I) I fun _ _=>JK I I ?_)
 rename_i gz1 ah7;refine ah bn I (fun w1 aT=>mN (l:=[df,nT,ed]) (ez aT cI (by exact I)) (aah (g:=gz1) (x:=⟨#[99,97,109]⟩) (y:=⟨#[116]⟩) (z:=⟨#[97,105,114]⟩) aT (by exact .here))) ?_
 (refine ab (ee (.of I) (.of I) (.of I) I) I<|Jv I<|JK I I<|Jv I<|JK I I<|bh (aD (.o I .nil) I I I I) I fun _ _=>JK I I ?_)
 rename_i gz2 ah6;refine ah bn I (fun w1 aT=>mN (l:=[nT]) (ez aT ek (by exact I)) (aai (g:=gz2) (x:=⟨#[116]⟩) aT (by exact .here))) ?_
 (refine ab (ee (.of I) (.of I) (.of I) I) I<|Jv I<|JK I I<|Jv I<|JK I I<|bh (aD (.o I (.o I .nil)) I I I I) I fun _ _=>JK I I ?_)
 rename_i gz3 ah5;refine ah bn I (fun w1 aT=>mN (l:=[ed,jL]) (ez aT tV (by exact I)) (Ew (g:=gz3) (x:=⟨#[97,105,114]⟩) (y:=⟨#[114,101,99]⟩) aT (by exact .here))) ?_
 (refine ab (ee (.of I) (.of I) (.of I) I) I<|Jv I<|JK I I<|Jv I<|JK I I<|bh (aD (.o I (.o I .nil)) I I I I) I fun _ _=>JK I I ?_)
 rename_i gz4 ah4;refine ah bn I (fun w1 aT=>mN (l:=[⟨#[]⟩,⟨#[]⟩]) (ez aT jl (by exact I)) (Ew (g:=gz4) (x:=⟨#[]⟩) (y:=⟨#[]⟩) aT (by exact .here))) ?_
 (refine ab (ee (.of I) (.of I) (.of I) I) I<|Jv I<|JK I I<|Jv I<|JK I I<|bh (aD (.o I (.o I .nil)) I I I I) I fun _ _=>JK I I ?_)
 rename_i gz5 ah3;refine ah bn I (fun w1 aT=>mN (l:=[df,df]) (ez aT tW (by exact I)) (Ew (g:=gz5) (x:=⟨#[99,97,109]⟩) (y:=⟨#[99,97,109]⟩) aT (by exact .here))) ?_
 (refine ab (ee (.of I) (.of I) (.of I) I) I<|Jv I<|JK I I<|Jv I<|JK I I<|bh (aD (.o I (.o I .nil)) I I I I) I fun _ _=>JK I I ?_)
 rename_i gz6 ah2;refine ah bn I (fun w1 aT=>mN (l:=[lq,lq]) (ez aT Ik (by exact I)) (Ew (g:=gz6) (x:=⟨#[118,116,114]⟩) (y:=⟨#[118,116,114]⟩) aT (by exact .here))) ?_
 (refine ab (ee (.of I) (.of I) (.of I) I) I<|Jv I<|JK I I<|Jv I<|JK I I<|ab (Hm (.of I) (.of I) Ut) I<|ab (ee (.of I) (.of I) (.of I) I) I<|Ja I<|Jn<|Je<|JT ?_)
 rfl
end Go.Proofs.A1
namespace Go.Proofs.A1
open Go Go.SL Go.ChangeShapes Go.WideShapes Go.Deep Go.Joins
open Tryz
open Tryz renaming prog->T_
section
variable {H:Type} {enc:TypeId×Value->H} {w:World}
theorem laidOut:laidOutB T_=true:=by kernel_rfl
theorem aat:ownKnob prog.godebug=none:=by kernel_rfl
theorem M4 {b o n:Nat}:Addr.add ⟨b,o,none⟩ n=⟨b,o+n,none⟩:=eO b o n
theorem Kh {T:TypeId} (PC:prog.readableRec T=true) (hrow:T<prog.types.size) {W W':World} {sp':Nat->Bool} {n:Nat} {cs:List Value} {x:DataW H×List MemPlace} (h:DataW.trod enc T_ W 0 (fun _=>true) true n T cs=some x)
  (LF:∀ p∈x.2,W.sameAt W' p) (hs:∀ p∈x.2,sp' p.block=true):DataW.trod enc T_ W' 0 sp' true n T cs=some x:=
 DataW.trod_stays (kids_book laidOut PC) (book_sized PC) (fun h=>by cases h) ⟨hrow,book_self T⟩ h LF hs
theorem EC {α:Type} [Inhabited α] {Q:α->Prop} {T E:TypeId} {sz:Nat} {cells:α->List Value} (hu:prog.underlying T=some (.slice E)) (hsz:prog.cellsOf E=sz) (h0:0<sz) (hlen:∀ a,(cells a).length=sz)
  (hE:∀ (n:Nat) (cs:List Value) (x:DataW H×List MemPlace),DataW.trod enc T_ w 0 (fun _=>true) true n E cs=some x->∃ e:α,cs=cells e/\Q e)
  {n:Nat} {v:Value} {y:DataW H×List MemPlace} (h:DataW.trod enc T_ w 0 (fun _=>true) true n T [v]=some y):∃ l:List α,Rd w v sz (l.map cells)/\∀ x∈l,Q x:=by
 rcases open_slice hu h with ⟨e,_⟩ | ⟨a,len,cap,m,n',D,Pl,Rv,_,hl,hm,hmm,_,hi⟩
 ·simp only [List.cons.injEq,and_true] at e;subst e;exact ⟨[],Rd.nil w sz,fun _ h=>absurd h Zo⟩
 ·simp only [List.cons.injEq,and_true] at Rv;subst Rv;rw [hsz] at hi;have Vd:m=cap:=by simpa using hmm
  have hE:∀ i,i<len->∃ e:α,(∀ j,j<sz->w.cell? (a.add (i*sz+j))=(cells e)[j]?)/\Q e:=fun i kr=>by
   obtain ⟨RU,hc,ht⟩:=hi i (by omega);obtain ⟨_,iZ,fZ⟩:=World.cells?_some hc;obtain ⟨e,rfl,hq⟩:=hE _ _ _ ht;exact ⟨e,fun j hj=>by rw [<- Go.Deep.add_add];exact fZ j hj,hq⟩
  let S:Nat->α:=fun i=>if kr:i<len then (hE i kr).choose else default
  have hS:∀ i j,i<len->j<sz->w.cell? (a.add (i*sz+j))=(cells (S i))[j]?:=fun i j kr hj=>by
   have:=(hE i kr).choose_spec.1 j hj;simpa only [S,dif_pos kr] using this
  have hQ:∀ i,i<len->Q (S i):=fun i kr=>by
   have:=(hE i kr).choose_spec.2;simpa only [S,dif_pos kr] using this
  have xb:(((List.range len).map S).map cells).length=len:=by simp
  refine ⟨(List.range len).map S,?_,fun x hx=>by
   obtain ⟨i,hi,rfl⟩:=Zw.1 hx;exact hQ i (ZU.1 hi)⟩
  by_cases hz:len=0
  ·subst hz;exact ⟨some a,cap,0,0,by rw [xb],by rw [xb];omega,hm,fun hne=>absurd (Zav.1 xb) hne,fun i r hr=>by
    have:=(Zl.1 hr).1;rw [xb] at this;omega⟩
  ·obtain ⟨b,off,spot⟩:=a;have Wr:spot=none:=by
    have h1:=hS 0 0 (by omega) h0;rw [Zc (by rw [hlen];exact h0)] at h1;simpa [Addr.add] using World.cell?_spot h1
   subst Wr;refine ⟨some ⟨b,off,none⟩,cap,b,off,by rw [xb],by rw [xb];exact hl,hm,fun _=>rfl,fun i r hr=>?_⟩;have kr:i<len:=by
    have:=(Zl.1 hr).1;rwa [xb] at this
   have Ns:r=cells (S i):=by
    simp [kr] at hr;exact hr.symm
   subst Ns;refine ⟨hlen _,fun j u hu=>?_⟩;have hj:j<sz:=by
    have:=(Zl.1 hu).1;rwa [hlen] at this
   have:=hS i j kr hj;rw [M4,hu] at this;rw [Nat.add_assoc];exact this
theorem qy {α:Type} [Inhabited α] {T E:TypeId} {sz:Nat} {cells:α->List Value} (hu:prog.underlying T=some (.slice E)) (hsz:prog.cellsOf E=sz) (h0:0<sz) (hlen:∀ a,(cells a).length=sz)
  (hE:∀ (n:Nat) (cs:List Value) (x:DataW H×List MemPlace),DataW.trod enc T_ w 0 (fun _=>true) true n E cs=some x->∃ e:α,cs=cells e)
  {n:Nat} {v:Value} {y:DataW H×List MemPlace} (h:DataW.trod enc T_ w 0 (fun _=>true) true n T [v]=some y):∃ l:List α,Rd w v sz (l.map cells):=by
 obtain ⟨l,hl,_⟩:=EC (Q:=fun _=>True) hu hsz h0 hlen (fun n cs x h=>by obtain ⟨e,he⟩:=hE n cs x h;exact ⟨e,he,trivial⟩) h;exact ⟨l,hl⟩
theorem Wd {α:Type}:∀ {l:List α},l.length=2->∃ a0 a1,l=[a0,a1]
 | [a0,a1],_=>⟨a0,a1,rfl⟩
theorem Lg {α:Type}:∀ {l:List α},l.length=3->∃ a0 a1 a2,l=[a0,a1,a2]
 | [a0,a1,a2],_=>⟨a0,a1,a2,rfl⟩
theorem Wc {α:Type}:∀ {l:List α},l.length=4->∃ a0 a1 a2 a3,l=[a0,a1,a2,a3]
 | [a0,a1,a2,a3],_=>⟨a0,a1,a2,a3,rfl⟩
theorem Wb {α:Type}:∀ {l:List α},l.length=6->∃ a0 a1 a2 a3 a4 a5,l=[a0,a1,a2,a3,a4,a5]
 | [a0,a1,a2,a3,a4,a5],_=>⟨a0,a1,a2,a3,a4,a5,rfl⟩
theorem XV:prog.cellsOf 118=2:=by kernel_rfl
theorem c9:prog.cellsOf 9=1:=by kernel_rfl
theorem c3:prog.cellsOf 3=1:=by kernel_rfl
variable {cs:List Value} {n:Nat} {v:Value} {x:DataW H×List MemPlace}
theorem MJ (h:DataW.trod enc T_ w 0 (fun _=>true) true n 118 cs=some x):∃ (a0:ByteArray) (a1:Int),cs=[.string a0,.q a1]:=by
 obtain ⟨ys,n0,_,_,hlen,LA,hf⟩:=DataW.trod_struct underlying118 h;rw [XV] at hlen;have Lz:ys.length=2:=LA;obtain ⟨k0,k1,rfl⟩:=Wd hlen;have f0:DataW.trod enc T_ w 0 (fun _=>true) true n0 9 (List.take (prog.cellsOf 9) (List.drop 0 [k0,k1]))=ys[0]?:=hf 0 _ I
 rw [c9,Zc (by omega)] at f0;obtain ⟨b0,e0,_,_⟩:=DataW.trod_string underlying9 f0;simp at e0;have f1:DataW.trod enc T_ w 0 (fun _=>true) true n0 3 (List.take (prog.cellsOf 3) (List.drop 1 [k0,k1]))=ys[1]?:=hf 1 _ I
 rw [c3,Zc (by omega)] at f1;obtain ⟨b1,e1,_,_⟩:=DataW.trod_int underlying3 f1;simp at e1;subst e0 e1;exact ⟨b0,b1,I⟩
theorem c88:prog.cellsOf 88=3:=by kernel_rfl
theorem c4:prog.cellsOf 4=1:=by kernel_rfl
theorem Qr (h:DataW.trod enc T_ w 0 (fun _=>true) true n 88 cs=some x):∃ (a0:ByteArray) (a1:Int) (a2:Bool),cs=[.string a0,.q a1,.bool a2]:=by
 obtain ⟨ys,n0,_,_,hlen,LA,hf⟩:=DataW.trod_struct underlying88 h;rw [c88] at hlen;have Lz:ys.length=3:=LA;obtain ⟨k0,k1,k2,rfl⟩:=Lg hlen;have f0:DataW.trod enc T_ w 0 (fun _=>true) true n0 9 (List.take (prog.cellsOf 9) (List.drop 0 [k0,k1,k2]))=ys[0]?:=hf 0 _ I
 rw [c9,Zc (by omega)] at f0;obtain ⟨b0,e0,_,_⟩:=DataW.trod_string underlying9 f0;simp at e0;have f1:DataW.trod enc T_ w 0 (fun _=>true) true n0 3 (List.take (prog.cellsOf 3) (List.drop 1 [k0,k1,k2]))=ys[1]?:=hf 1 _ I
 rw [c3,Zc (by omega)] at f1;obtain ⟨b1,e1,_,_⟩:=DataW.trod_int underlying3 f1;simp at e1;have f2:DataW.trod enc T_ w 0 (fun _=>true) true n0 4 (List.take (prog.cellsOf 4) (List.drop 2 [k0,k1,k2]))=ys[2]?:=hf 2 _ I
 rw [c4,Zc (by omega)] at f2;obtain ⟨b2,e2,_⟩:=DataW.trod_bool underlying4 f2;simp at e2;subst e0 e1 e2;exact ⟨b0,b1,b2,I⟩
theorem XU:prog.cellsOf 122=3:=by kernel_rfl
theorem MI (h:DataW.trod enc T_ w 0 (fun _=>true) true n 122 cs=some x):∃ (a0:ByteArray) (a1:Int) (a2:Int),cs=[.string a0,.q a1,.q a2]:=by
 obtain ⟨ys,n0,_,_,hlen,LA,hf⟩:=DataW.trod_struct underlying122 h;rw [XU] at hlen;have Lz:ys.length=3:=LA;obtain ⟨k0,k1,k2,rfl⟩:=Lg hlen;have f0:DataW.trod enc T_ w 0 (fun _=>true) true n0 9 (List.take (prog.cellsOf 9) (List.drop 0 [k0,k1,k2]))=ys[0]?:=hf 0 _ I
 rw [c9,Zc (by omega)] at f0;obtain ⟨b0,e0,_,_⟩:=DataW.trod_string underlying9 f0;simp at e0;have f1:DataW.trod enc T_ w 0 (fun _=>true) true n0 3 (List.take (prog.cellsOf 3) (List.drop 1 [k0,k1,k2]))=ys[1]?:=hf 1 _ I
 rw [c3,Zc (by omega)] at f1;obtain ⟨b1,e1,_,_⟩:=DataW.trod_int underlying3 f1;simp at e1;have f2:DataW.trod enc T_ w 0 (fun _=>true) true n0 3 (List.take (prog.cellsOf 3) (List.drop 2 [k0,k1,k2]))=ys[2]?:=hf 2 _ I
 rw [c3,Zc (by omega)] at f2;obtain ⟨b2,e2,_,_⟩:=DataW.trod_int underlying3 f2;simp at e2;subst e0 e1 e2;exact ⟨b0,b1,b2,I⟩
theorem XT:prog.cellsOf 180=3:=by kernel_rfl
theorem MG (h:DataW.trod enc T_ w 0 (fun _=>true) true n 180 cs=some x):∃ (a0:Int) (a1:ByteArray) (a2:ByteArray),cs=[.q a0,.string a1,.string a2]:=by
 obtain ⟨ys,n0,_,_,hlen,LA,hf⟩:=DataW.trod_struct underlying180 h;rw [XT] at hlen;have Lz:ys.length=3:=LA;obtain ⟨k0,k1,k2,rfl⟩:=Lg hlen;have f0:DataW.trod enc T_ w 0 (fun _=>true) true n0 3 (List.take (prog.cellsOf 3) (List.drop 0 [k0,k1,k2]))=ys[0]?:=hf 0 _ I
 rw [c3,Zc (by omega)] at f0;obtain ⟨b0,e0,_,_⟩:=DataW.trod_int underlying3 f0;simp at e0;have f1:DataW.trod enc T_ w 0 (fun _=>true) true n0 9 (List.take (prog.cellsOf 9) (List.drop 1 [k0,k1,k2]))=ys[1]?:=hf 1 _ I
 rw [c9,Zc (by omega)] at f1;obtain ⟨b1,e1,_,_⟩:=DataW.trod_string underlying9 f1;simp at e1;have f2:DataW.trod enc T_ w 0 (fun _=>true) true n0 9 (List.take (prog.cellsOf 9) (List.drop 2 [k0,k1,k2]))=ys[2]?:=hf 2 _ I
 rw [c9,Zc (by omega)] at f2;obtain ⟨b2,e2,_,_⟩:=DataW.trod_string underlying9 f2;simp at e2;subst e0 e1 e2;exact ⟨b0,b1,b2,I⟩
theorem c27:prog.cellsOf 27=6:=by kernel_rfl
theorem c22:prog.cellsOf 22=1:=by kernel_rfl
theorem c23:prog.cellsOf 23=1:=by kernel_rfl
theorem c24:prog.cellsOf 24=1:=by kernel_rfl
theorem c25:prog.cellsOf 25=1:=by kernel_rfl
theorem Qs (h:DataW.trod enc T_ w 0 (fun _=>true) true n 27 cs=some x):∃ (a0:Int) (a1:Int) (a2:Value) (a3:Value) (a4:Value) (a5:Value),cs=[.q a0,.q a1,a2,a3,a4,a5]/\(∃ (m:Nat) (y:DataW H×List MemPlace),DataW.trod enc T_ w 0 (fun _=>true) true m 22 [a2]=some y)/\(∃ (m:Nat) (y:DataW H×List MemPlace),DataW.trod enc T_ w 0 (fun _=>true) true m 23 [a3]=some y)/\(∃ (m:Nat) (y:DataW H×List MemPlace),DataW.trod enc T_ w 0 (fun _=>true) true m 24 [a4]=some y)/\(∃ (m:Nat) (y:DataW H×List MemPlace),DataW.trod enc T_ w 0 (fun _=>true) true m 25 [a5]=some y):=by
 obtain ⟨ys,n0,_,_,hlen,LA,hf⟩:=DataW.trod_struct underlying27 h;rw [c27] at hlen;have Lz:ys.length=6:=LA;obtain ⟨k0,k1,k2,k3,k4,k5,rfl⟩:=Wb hlen;have f0:DataW.trod enc T_ w 0 (fun _=>true) true n0 3 (List.take (prog.cellsOf 3) (List.drop 0 [k0,k1,k2,k3,k4,k5]))=ys[0]?:=hf 0 _ I
 rw [c3,Zc (by omega)] at f0;obtain ⟨b0,e0,_,_⟩:=DataW.trod_int underlying3 f0;simp at e0;have f1:DataW.trod enc T_ w 0 (fun _=>true) true n0 3 (List.take (prog.cellsOf 3) (List.drop 1 [k0,k1,k2,k3,k4,k5]))=ys[1]?:=hf 1 _ I
 rw [c3,Zc (by omega)] at f1;obtain ⟨b1,e1,_,_⟩:=DataW.trod_int underlying3 f1;simp at e1;have f2:DataW.trod enc T_ w 0 (fun _=>true) true n0 22 (List.take (prog.cellsOf 22) (List.drop 2 [k0,k1,k2,k3,k4,k5]))=ys[2]?:=hf 2 _ I
 rw [c22,Zc (by omega)] at f2;have f3:DataW.trod enc T_ w 0 (fun _=>true) true n0 23 (List.take (prog.cellsOf 23) (List.drop 3 [k0,k1,k2,k3,k4,k5]))=ys[3]?:=hf 3 _ I
 rw [c23,Zc (by omega)] at f3;have f4:DataW.trod enc T_ w 0 (fun _=>true) true n0 24 (List.take (prog.cellsOf 24) (List.drop 4 [k0,k1,k2,k3,k4,k5]))=ys[4]?:=hf 4 _ I
 rw [c24,Zc (by omega)] at f4;have f5:DataW.trod enc T_ w 0 (fun _=>true) true n0 25 (List.take (prog.cellsOf 25) (List.drop 5 [k0,k1,k2,k3,k4,k5]))=ys[5]?:=hf 5 _ I
 rw [c25,Zc (by omega)] at f5;subst e0 e1;exact ⟨b0,b1,k2,k3,k4,k5,I,⟨_,_,by simpa using f2⟩,⟨_,_,by simpa using f3⟩,⟨_,_,by simpa using f4⟩,⟨_,_,by simpa using f5⟩⟩
theorem acx:prog.cellsOf 125=4:=by kernel_rfl
theorem MH (h:DataW.trod enc T_ w 0 (fun _=>true) true n 125 cs=some x):∃ (a0:ByteArray) (a1:Bool) (a2:ByteArray) (a3:ByteArray),cs=[.string a0,.bool a1,.string a2,.string a3]:=by
 obtain ⟨ys,n0,_,_,hlen,LA,hf⟩:=DataW.trod_struct underlying125 h;rw [acx] at hlen;have Lz:ys.length=4:=LA;obtain ⟨k0,k1,k2,k3,rfl⟩:=Wc hlen;have f0:DataW.trod enc T_ w 0 (fun _=>true) true n0 9 (List.take (prog.cellsOf 9) (List.drop 0 [k0,k1,k2,k3]))=ys[0]?:=hf 0 _ I
 rw [c9,Zc (by omega)] at f0;obtain ⟨b0,e0,_,_⟩:=DataW.trod_string underlying9 f0;simp at e0;have f1:DataW.trod enc T_ w 0 (fun _=>true) true n0 4 (List.take (prog.cellsOf 4) (List.drop 1 [k0,k1,k2,k3]))=ys[1]?:=hf 1 _ I
 rw [c4,Zc (by omega)] at f1;obtain ⟨b1,e1,_⟩:=DataW.trod_bool underlying4 f1;simp at e1;have f2:DataW.trod enc T_ w 0 (fun _=>true) true n0 9 (List.take (prog.cellsOf 9) (List.drop 2 [k0,k1,k2,k3]))=ys[2]?:=hf 2 _ I
 rw [c9,Zc (by omega)] at f2;obtain ⟨b2,e2,_,_⟩:=DataW.trod_string underlying9 f2;simp at e2;have f3:DataW.trod enc T_ w 0 (fun _=>true) true n0 9 (List.take (prog.cellsOf 9) (List.drop 3 [k0,k1,k2,k3]))=ys[3]?:=hf 3 _ I
 rw [c9,Zc (by omega)] at f3;obtain ⟨b3,e3,_,_⟩:=DataW.trod_string underlying9 f3;simp at e3;subst e0 e1 e2 e3;exact ⟨b0,b1,b2,b3,I⟩
theorem KX (h:DataW.trod enc T_ w 0 (fun _=>true) true n 22 [v]=some x):∃ l,Rd w v 2 (vV l):=by
 haveI:Inhabited Sr:=⟨⟨⟨#[]⟩,0⟩⟩
 exact qy (cells:=Sr.cells) underlying22 XV (by decide) (fun _=>rfl) (fun _ _ _ h=>by obtain ⟨a,b,rfl⟩:=MJ h;exact ⟨⟨a,b⟩,rfl⟩) h
theorem KZ (h:DataW.trod enc T_ w 0 (fun _=>true) true n 23 [v]=some x):∃ l,Rd w v 3 (vG l):=by
 haveI:Inhabited De:=⟨⟨⟨#[]⟩,0,false⟩⟩
 exact qy (cells:=De.cells) underlying23 c88 (by decide) (fun _=>rfl) (fun _ _ _ h=>by obtain ⟨a,b,c,rfl⟩:=Qr h;exact ⟨⟨a,b,c⟩,rfl⟩) h
theorem KW (h:DataW.trod enc T_ w 0 (fun _=>true) true n 24 [v]=some x):∃ l,Rd w v 3 (u7 l):=by
 haveI:Inhabited Ti:=⟨⟨⟨#[]⟩,0,0⟩⟩
 exact qy (cells:=Ti.cells) underlying24 XU (by decide) (fun _=>rfl) (fun _ _ _ h=>by obtain ⟨a,b,c,rfl⟩:=MI h;exact ⟨⟨a,b,c⟩,rfl⟩) h
theorem KY (h:DataW.trod enc T_ w 0 (fun _=>true) true n 25 [v]=some x):∃ l,Rd w v 3 (uf l):=by
 haveI:Inhabited Po:=⟨⟨0,⟨#[]⟩,⟨#[]⟩⟩⟩
 exact qy (cells:=Po.cells) underlying25 XT (by decide) (fun _=>rfl) (fun _ _ _ h=>by obtain ⟨a,b,c,rfl⟩:=MG h;exact ⟨⟨a,b,c⟩,rfl⟩) h
theorem CV (h:DataW.trod enc T_ w 0 (fun _=>true) true n 27 cs=some x):∃ (r:Ro) (s d t p:Value),cs=[.q r.lv,.q r.ma,s,d,t,p]/\RR w r s d t p:=by
 obtain ⟨a,b,s,d,t,p,rfl,⟨_,_,h1⟩,⟨_,_,h2⟩,⟨_,_,h3⟩,⟨_,_,h4⟩⟩:=Qs h;obtain ⟨l1,r1⟩:=KX h1;obtain ⟨l2,r2⟩:=KZ h2;obtain ⟨l3,r3⟩:=KW h3;obtain ⟨l4,r4⟩:=KY h4;exact ⟨⟨a,b,l1,l2,l3,l4⟩,s,d,t,p,I,r1,r2,r3,r4⟩
end
end Go.Proofs.A1
namespace Go.Proofs.YteonnodafmegaaaGreatDoor
open Go Go.SL Go.Proofs.A1 Go.ChangeShapes Go.WideShapes Go.ChangeAt Go.RowKit Go.Joins
section
variable {H:Type} {enc:TypeId×Value->H} {P:Program}
theorem yl {f:Func} {s:ChangeSpec} {apart fresh handsOn again:Bool} {W W':World} {args:Array Value} {v:Value} {ds gs:List (DataW H)} {before pa pv:List MemPlace}
  (hW:DataW.Whole enc P f.params.toList s.vars apart W args.toList ds gs before)
  (WA:∀ (b:Nat) (sp:Nat->Bool) (hd:Bool),DataW.TrodAll enc P W' b sp hd f.resultTypes.toList (v.resultList f.resultTypes.size) (s.fn H (ds++gs)).results [])
  (Gr:∀ sp:Nat->Bool,(∀ p∈before,sp p.block=true)->DataW.TrodAll enc P W' 0 sp true f.params.toList args.toList (s.fn H (ds++gs)).args pa)
  (Rg:∀ sp:Nat->Bool,(∀ p∈before,sp p.block=true)->DataW.TrodVars enc P W' sp s.vars (s.fn H (ds++gs)).vars pv)
  (hps:before=pa++pv) (hb:Below W.heap.size W W')
  (dP:∀ (j:Nat) (t:TypeId) (r:Value),f.resultTypes[j]? = some t->(v.resultList f.resultTypes.size)[j]? = some r->Value.okWide P W' .any 0 t r) :
  s.post enc P f apart fresh handsOn again W args v W':=by
 have aL:∀ p∈before,p.block<W.heap.size:=fun p hp=>hW.lt p hp
 have hold:∀ p∈before,(fun b=>decide (b<W.heap.size)) p.block=true:=fun p hp=>by simpa using aL p hp
 refine ⟨ds,gs,before,[],pa,pv,hW,WA _ _ _,Gr _ hold,Rg _ hold,World.keptBut_mono (fun p hp=>⟨hp,?_⟩) (hb.frame (·∈before)),fun _=>?_⟩
 ·rw [hps,Zz] at hp;exact Or.inr hp
 ·obtain ⟨_,_,_,_,_,hz,hn⟩:=hW;refine ⟨dP,_,_,([]++pa)++pv,⟨[]++pa,pv,trodAll_append (Gr _ (fun _ _=>rfl)) (WA _ _ _),Rg _ (fun _ _=>rfl),I,?_,?_⟩,?_⟩
  ·intro b off hp;have mT:MemPlace.cell b off∈before:=by rw [hps];simpa using hp
   rw [hb.frozen (aL _ mT)];exact hz b off mT
  ·intro ha;have:=hn ha;rw [hps] at this;simpa using this
  ·intro p hp _;rw [hps];simpa using hp
end
end Go.Proofs.YteonnodafmegaaaGreatDoor
namespace Go.Proofs.A1
open Go Go.SL
open Tryz
open Tryz renaming prog->T_
variable {k:Nat} {l:List ByteArray} {r:Ro} {s:ByteArray}
theorem vE {s d t p:Value} (o:ByteArray) {w:World} (h:RR w r s d t p):an T_ 130 [RA r s d t p,.string o] w (.q (bB (cN r) o)):=by
 obtain ⟨h1,h2,h3,h4⟩:=h.one;have hs:=h.sr;obtain ⟨a,cp,b,o',rfl,dC,ch,ha,hc⟩:=hs;rw [cG] at *;unfold maxLen at ch;unfold RA;refine aj func130 I I ?_;refine Jr<|Jy I I fun _ _=>Ja I<|Jn<|Jq<|Jr<|Ja I<|Jn<|J0 ?_;rename_i b1 tJ;refine aV (ι:=Nat) (fun k=>k<=r.sr.length/\∀ j (hj:j<(cN r).length),j<k->(cN r)[j]≠o) (fun k=>[(5,.int .i64 (k:Nat)),(2,.pointer (some ⟨b1,0,none⟩)),(1,.string o)]) (fun _=>[JQ b1 r (.slice a r.sr.length cp) d t p]) (fun k=>r.sr.length-k) ?_ ?_
 ·apply aH (0:Nat) ⟨Zi _,fun j _ hj=>absurd hj (ZV _)⟩
  case hs1=>exact bT
  case ht=>(try simp only [Ze,Zf,Za]);exact .h1 .nil
 rintro k ⟨hk,hf⟩;have vw:(cN r).length=r.sr.length:=by unfold cN;rw [Zd]
 by_cases aL:k<r.sr.length
 ·have cY:=ha (iD aL);have aF:=(hc k _ (fW aL)).2;have hx:(cN r)[k]'(by omega)=(r.sr[k]).nm:=by unfold cN;rw [Z1]
  have c0:w.cell? ⟨b,o'+k*2,none⟩=some (.string (r.sr[k]).nm):=aF 0 _ I;generalize (r.sr[k]).nm=x at hx c0
  (refine Jq<|Jr<|Jv I<|bD I I ae<|JL I .here I<|JI I<|JA I<|Jn<|Jd I fun aA=>Jk<|Jq<|J0<|Jr<|bD I I ae<|JL I .here I<|Jv I<|ab (gE cY aA) I<|bD I I ae<|ab (ag (.of I) (At.base c0 I)) I<|Jv I<|ab (dD (.of I) (.of I)) I<|Jn<|gL I (fun aA=>?_) fun aA=>?_;refine Jr<|Jv I<|Ja I<|Jn<|Je<|Jm<|Jh<|Jh<|Jm<|Jh<|JT ?_;rotate_left;refine Jw<|Jj<|Jt<|Jg<|Jv I<|JB I (by omega)<|Ja I<|Jn ?_;rotate_right)
  ·have ur:x=o:=aA;rw [rC (i:=k) (by omega) (hx.trans ur) (fun j hj=>hf j (by omega) hj)]
  ·have ur:¬ x=o:=aA;apply aG (k+1) ⟨(show k+1<=r.sr.length from aL),fun j hj YN=>by
    by_cases e:j=k
    ·subst e;rw [hx];exact ur
    ·exact hf j hj (by omega)⟩ (show r.sr.length-(k+1)<r.sr.length-k by omega)
   case hs1=>exact bT
   case ht=>(try simp only [Ze,Zf,Za]);exact .h1 .nil
 ·obtain rfl:k=r.sr.length:=by omega
  rw [Bu fun j hj=>hf j hj (by omega)]
  (refine Jq<|Jr<|Jv I<|bD I I ae<|JL I .here I<|JI I<|JA I<|Jn<|Jc I fun aA=>Jp<|Jl<|Jo<|Jt<|Jr<|Ja I<|Jn<|Je<|JT ?_)
  rfl
theorem qE {s d t p:Value} (o:ByteArray) {w:World} (h:RR w r s d t p):an T_ 56 [RA r s d t p,.string o] w (.q (bB (cu r) o)):=by
 obtain ⟨h1,h2,h3,h4⟩:=h.one;have hs:=h.de;obtain ⟨a,cp,b,o',rfl,dC,ch,ha,hc⟩:=hs;rw [bY] at *;unfold maxLen at ch;unfold RA;refine aj func56 I I ?_;refine Jr<|Jy I I fun _ _=>Ja I<|Jn<|Jq<|Jr<|Ja I<|Jn<|J0 ?_;rename_i b1 tJ;refine aV (ι:=Nat) (fun k=>k<=r.de.length/\∀ j (hj:j<(cu r).length),j<k->(cu r)[j]≠o) (fun k=>[(5,.int .i64 (k:Nat)),(2,.pointer (some ⟨b1,0,none⟩)),(1,.string o)]) (fun _=>[JQ b1 r s (.slice a r.de.length cp) t p]) (fun k=>r.de.length-k) ?_ ?_
 ·apply aH (0:Nat) ⟨Zi _,fun j _ hj=>absurd hj (ZV _)⟩
  case hs1=>exact bT
  case ht=>(try simp only [Ze,Zf,Za]);exact .h1 .nil
 rintro k ⟨hk,hf⟩;have vw:(cu r).length=r.de.length:=by unfold cu;rw [Zd]
 by_cases aL:k<r.de.length
 ·have cY:=ha (ij aL);have aF:=(hc k _ (fM aL)).2;have hx:(cu r)[k]'(by omega)=(r.de[k]).nm:=by unfold cu;rw [Z1]
  have c0:w.cell? ⟨b,o'+k*3,none⟩=some (.string (r.de[k]).nm):=aF 0 _ I;generalize (r.de[k]).nm=x at hx c0
  (refine Jq<|Jr<|Jv I<|bD I I ae<|JL I .here I<|JI I<|JA I<|Jn<|Jd I fun aA=>Jk<|Jq<|J0<|Jr<|bD I I ae<|JL I .here I<|Jv I<|ab (gE cY aA) I<|bD I I ae<|ab (ag (.of I) (At.base c0 I)) I<|Jv I<|ab (dD (.of I) (.of I)) I<|Jn<|gL I (fun aA=>?_) fun aA=>?_;refine Jr<|Jv I<|Ja I<|Jn<|Je<|Jm<|Jh<|Jh<|Jm<|Jh<|JT ?_;rotate_left;refine Jw<|Jj<|Jt<|Jg<|Jv I<|JB I (by omega)<|Ja I<|Jn ?_;rotate_right)
  ·have ur:x=o:=aA;rw [rC (i:=k) (by omega) (hx.trans ur) (fun j hj=>hf j (by omega) hj)]
  ·have ur:¬ x=o:=aA;apply aG (k+1) ⟨(show k+1<=r.de.length from aL),fun j hj YN=>by
    by_cases e:j=k
    ·subst e;rw [hx];exact ur
    ·exact hf j hj (by omega)⟩ (show r.de.length-(k+1)<r.de.length-k by omega)
   case hs1=>exact bT
   case ht=>(try simp only [Ze,Zf,Za]);exact .h1 .nil
 ·obtain rfl:k=r.de.length:=by omega
  rw [Bu fun j hj=>hf j hj (by omega)]
  (refine Jq<|Jr<|Jv I<|bD I I ae<|JL I .here I<|JI I<|JA I<|Jn<|Jc I fun aA=>Jp<|Jl<|Jo<|Jt<|Jr<|Ja I<|Jn<|Je<|JT ?_)
  rfl
theorem qD {s d t p:Value} (o:ByteArray) {w:World} (h:RR w r s d t p):an T_ 60 [RA r s d t p,.string o] w (.q (bB (cQ r) o)):=by
 obtain ⟨h1,h2,h3,h4⟩:=h.one;have hs:=h.ti;obtain ⟨a,cp,b,o',rfl,dC,ch,ha,hc⟩:=hs;rw [bS] at *;unfold maxLen at ch;unfold RA;refine aj func60 I I ?_;refine Jr<|Jy I I fun _ _=>Ja I<|Jn<|Jq<|Jr<|Ja I<|Jn<|J0 ?_;rename_i b1 tJ;refine aV (ι:=Nat) (fun k=>k<=r.ti.length/\∀ j (hj:j<(cQ r).length),j<k->(cQ r)[j]≠o) (fun k=>[(5,.int .i64 (k:Nat)),(2,.pointer (some ⟨b1,0,none⟩)),(1,.string o)]) (fun _=>[JQ b1 r s d (.slice a r.ti.length cp) p]) (fun k=>r.ti.length-k) ?_ ?_
 ·apply aH (0:Nat) ⟨Zi _,fun j _ hj=>absurd hj (ZV _)⟩
  case hs1=>exact bT
  case ht=>(try simp only [Ze,Zf,Za]);exact .h1 .nil
 rintro k ⟨hk,hf⟩;have vw:(cQ r).length=r.ti.length:=by unfold cQ;rw [Zd]
 by_cases aL:k<r.ti.length
 ·have cY:=ha (fq aL);have aF:=(hc k _ (ep aL)).2;have hx:(cQ r)[k]'(by omega)=(r.ti[k]).nm:=by unfold cQ;rw [Z1]
  have c0:w.cell? ⟨b,o'+k*3,none⟩=some (.string (r.ti[k]).nm):=aF 0 _ I;generalize (r.ti[k]).nm=x at hx c0
  (refine Jq<|Jr<|Jv I<|bD I I ae<|JL I .here I<|JI I<|JA I<|Jn<|Jd I fun aA=>Jk<|Jq<|J0<|Jr<|bD I I ae<|JL I .here I<|Jv I<|ab (gE cY aA) I<|bD I I ae<|ab (ag (.of I) (At.base c0 I)) I<|Jv I<|ab (dD (.of I) (.of I)) I<|Jn<|gL I (fun aA=>?_) fun aA=>?_;refine Jr<|Jv I<|Ja I<|Jn<|Je<|Jm<|Jh<|Jh<|Jm<|Jh<|JT ?_;rotate_left;refine Jw<|Jj<|Jt<|Jg<|Jv I<|JB I (by omega)<|Ja I<|Jn ?_;rotate_right)
  ·have ur:x=o:=aA;rw [rC (i:=k) (by omega) (hx.trans ur) (fun j hj=>hf j (by omega) hj)]
  ·have ur:¬ x=o:=aA;apply aG (k+1) ⟨(show k+1<=r.ti.length from aL),fun j hj YN=>by
    by_cases e:j=k
    ·subst e;rw [hx];exact ur
    ·exact hf j hj (by omega)⟩ (show r.ti.length-(k+1)<r.ti.length-k by omega)
   case hs1=>exact bT
   case ht=>(try simp only [Ze,Zf,Za]);exact .h1 .nil
 ·obtain rfl:k=r.ti.length:=by omega
  rw [Bu fun j hj=>hf j hj (by omega)]
  (refine Jq<|Jr<|Jv I<|bD I I ae<|JL I .here I<|JI I<|JA I<|Jn<|Jc I fun aA=>Jp<|Jl<|Jo<|Jt<|Jr<|Ja I<|Jn<|Je<|JT ?_)
  rfl
theorem qz {s d t p:Value} (v:Int) (o:ByteArray) {w:World} (h:RR w r s d t p):an T_ 133 [RA r s d t p,.q v,.string o] w (.string ((eD r.po v o).getD ⟨#[]⟩)):=by
 obtain ⟨h1,h2,h3,h4⟩:=h.one;have hs:=h.po;obtain ⟨a,cp,b,o',rfl,dC,ch,ha,hc⟩:=hs;rw [cT] at *;unfold maxLen at ch;unfold RA;refine aj func133 I I ?_;refine Jr<|Jy I I fun _ _=>Ja I<|Jn<|Jq<|Jr<|Ja I<|Jn<|J0 ?_;rename_i b1 tJ;refine aV (ι:=Nat) (fun k=>k<=r.po.length/\eD r.po v o=((r.po.drop k).find? (Fj v o)).map Po.ip) (fun k=>[(7,.int .i64 (k:Nat)),(3,.pointer (some ⟨b1,0,none⟩)),(1,.int .i64 v),(2,.string o)]) (fun _=>[JQ b1 r s d t (.slice a r.po.length cp)]) (fun k=>r.po.length-k) ?_ ?_
 ·apply aH (0:Nat) ⟨Zi _,I⟩
  case hs1=>exact bT
  case ht=>(try simp only [Ze,Zf,Za]);exact .h1 .nil
 rintro k ⟨hk,hf⟩;by_cases aL:k<r.po.length
 ·have cY:=ha (j8 aL);have aF:=(hc k _ (ia aL)).2;rw [Zt aL] at hf;have c0:w.cell? ⟨b,o'+k*3,none⟩=some (.q (r.po[k]).lv):=aF 0 _ I;have c1:w.cell? ⟨b,o'+k*3+1,none⟩=some (.string (r.po[k]).ou):=aF 1 _ I;have c2:w.cell? ⟨b,o'+k*3+2,none⟩=some (.string (r.po[k]).ip):=aF 2 _ I;generalize r.po[k]=x at hf c0 c1 c2
  (refine Jq<|Jr<|Jv I<|bD I I ae<|JL I .here I<|JI I<|JA I<|Jn<|Jd I fun aA=>Jk<|Jq<|J0<|Jr<|bD I I ae<|JL I .here I<|Jv I<|ab (gE cY aA) I<|bD I I ae<|ab (ag (.of I) (At.base c0 I)) I<|Jv I<|JC I<|Jv I<|aM I I (fun hg bH=>(ar (.of I) ae)) I<|aM I I (fun hg bH=>(ag (.bW hg I) (At.lit .here I))) I<|jZ I I I I<|aM I I (fun hg bH=>(ao (.bW hg I) (.bW hg I) cY (by omega) aA aW)) I<|aM I I (fun hg bH=>(ar (.bW hg I) ae)) I<|aM I I (fun hg bH=>(ag (.bW hg I) (At.base c1 I))) I<|jZ I I I I<|aM I I (fun hg bH=>(dD (.bW hg I) (.bW hg I))) I<|ab (cM (.of I) I) I<|Jn<|oK I (fun aA=>?_) fun aA=>?_;refine Jr<|bD I I ae<|JL I .here I<|Jv I<|ab (ao (.of I) (.of I) cY (by omega) (by assumption) aW) I<|bD I I ae<|ab (ag (.of I) (At.base c2 I)) I<|Ja I<|Jn<|Je<|Jm<|Jh<|Jh<|Jm<|Jh<|JT ?_;rotate_left;refine Jw<|Jj<|Jt<|Jg<|Jv I<|JB I (by omega)<|Ja I<|Jn ?_;rotate_right)
  ·rw [hf,List.find?_cons_of_pos (by unfold Fj;simp only [Zn,decide_eq_true_eq];exact aA)];rfl
  ·apply aG (k+1) ⟨(show k+1<=r.po.length from aL),by rw [hf,List.find?_cons_of_neg (by unfold Fj;simp only [Zn,decide_eq_true_eq];exact fun q=>aA.elim (fun z=>z q.1) (fun z=>z q.2))]⟩ (show r.po.length-(k+1)<r.po.length-k by omega)
   case hs1=>exact bT
   case ht=>(try simp only [Ze,Zf,Za]);exact .h1 .nil
 ·obtain rfl:k=r.po.length:=by omega
  rw [ZY] at hf;rw [hf]
  (refine Jq<|Jr<|Jv I<|bD I I ae<|JL I .here I<|JI I<|JA I<|Jn<|Jc I fun aA=>Jp<|Jl<|Jo<|Jt<|Jr<|Ja I<|Jn<|Je<|JT ?_)
  rfl
theorem I6 {s d t p:Value} (v:Int) (o:ByteArray) {w:World} (h:RR w r s d t p):an T_ 233 [RA r s d t p,.q v,.string o] w (.bool (nr r.po v o)):=by
 obtain ⟨h1,h2,h3,h4⟩:=h.one;have hs:=h.po;obtain ⟨a,cp,b,o',rfl,dC,ch,ha,hc⟩:=hs;rw [cT] at *;unfold maxLen at ch;unfold RA;refine aj func233 I I ?_;refine Jr<|Jy I I fun _ _=>Ja I<|Jn<|Jq<|Jr<|Ja I<|Jn<|J0 ?_;rename_i b1 tJ;refine aV (ι:=Nat) (fun k=>k<=r.po.length/\nr r.po v o=(r.po.drop k).any (yp v o)) (fun k=>[(7,.int .i64 (k:Nat)),(3,.pointer (some ⟨b1,0,none⟩)),(1,.int .i64 v),(2,.string o)]) (fun _=>[JQ b1 r s d t (.slice a r.po.length cp)]) (fun k=>r.po.length-k) ?_ ?_
 ·apply aH (0:Nat) ⟨Zi _,I⟩
  case hs1=>exact bT
  case ht=>(try simp only [Ze,Zf,Za]);exact .h1 .nil
 rintro k ⟨hk,hf⟩;by_cases aL:k<r.po.length
 ·have cY:=ha (j8 aL);have aF:=(hc k _ (ia aL)).2;rw [Zt aL] at hf;have c0:w.cell? ⟨b,o'+k*3,none⟩=some (.q (r.po[k]).lv):=aF 0 _ I;have c1:w.cell? ⟨b,o'+k*3+1,none⟩=some (.string (r.po[k]).ou):=aF 1 _ I;have c2:w.cell? ⟨b,o'+k*3+2,none⟩=some (.string (r.po[k]).ip):=aF 2 _ I;generalize r.po[k]=x at hf c0 c1 c2
  (refine Jq<|Jr<|Jv I<|bD I I ae<|JL I .here I<|JI I<|JA I<|Jn<|Jd I fun aA=>Jk<|Jq<|J0<|Jr<|bD I I ae<|JL I .here I<|Jv I<|ab (gE cY aA) I<|bD I I ae<|ab (ag (.of I) (At.base c0 I)) I<|Jv I<|JC I<|Jv I<|aM I I (fun hg bH=>(ar (.of I) ae)) I<|aM I I (fun hg bH=>(ag (.bW hg I) (At.lit .here I))) I<|jZ I I I I<|aM I I (fun hg bH=>(ao (.bW hg I) (.bW hg I) cY (by omega) aA aW)) I<|aM I I (fun hg bH=>(ar (.bW hg I) ae)) I<|aM I I (fun hg bH=>(ag (.bW hg I) (At.base c2 I))) I<|jZ I I I I<|aM I I (fun hg bH=>(dD (.bW hg I) (.bW hg I))) I<|ab (cM (.of I) I) I<|Jn<|oK I (fun aA=>?_) fun aA=>?_;refine Jr<|Ja I<|Jn<|Je<|Jm<|Jh<|Jh<|Jm<|Jh<|JT ?_;rotate_left;refine Jw<|Jj<|Jt<|Jg<|Jv I<|JB I (by omega)<|Ja I<|Jn ?_;rotate_right)
  ·rw [hf,List.any_cons,show yp v o x=true by unfold yp;simp only [Zn,decide_eq_true_eq];exact aA];rfl
  ·apply aG (k+1) ⟨(show k+1<=r.po.length from aL),by rw [hf,List.any_cons,show yp v o x=false by unfold yp;rw [<- Zar];simp only [Zn,decide_eq_true_eq];exact fun q=>aA.elim (fun z=>z q.1) (fun z=>z q.2),Bool.false_or]⟩ (show r.po.length-(k+1)<r.po.length-k by omega)
   case hs1=>exact bT
   case ht=>(try simp only [Ze,Zf,Za]);exact .h1 .nil
 ·obtain rfl:k=r.po.length:=by omega
  rw [ZY] at hf;rw [hf]
  (refine Jq<|Jr<|Jv I<|bD I I ae<|JL I .here I<|JI I<|JA I<|Jn<|Jc I fun aA=>Jp<|Jl<|Jo<|Jt<|Jr<|Ja I<|Jn<|Je<|JT ?_)
  rfl
theorem sN (h:0<=bB l s):∃ k:Nat,bB l s=k/\k<l.length:=⟨(bB l s).toNat,by omega,(fk h).1⟩
theorem Tc (e:bB (cu r) s=k) (hk:k<r.de.length):k6 r s=(r.de[k]).mx:=by
 unfold k6;rw [if_pos (by omega),e,ZE,Zk,Zc hk];rfl
theorem Ta (h:¬ 0<=bB (cu r) s) (e:bB (cQ r) s=k) (hk:k<r.ti.length):k6 r s=(r.ti[k]).fr:=by
 unfold k6;rw [if_neg h,if_pos (by omega),e,ZE,Zk,Zc hk];rfl
theorem Tb (h:¬ 0<=bB (cu r) s) (h2:¬ 0<=bB (cQ r) s):k6 r s = -1:=by
 unfold k6;rw [if_neg h,if_neg h2]
theorem Tu (e:bB (cN r) s=k) (hk:k<r.sr.length):kD r s=(r.sr[k]).mx:=by
 unfold kD;rw [if_pos (by omega),e,ZE,Zk,Zc hk];rfl
theorem Tt (h:¬ 0<=bB (cN r) s) (e:bB (cQ r) s=k) (hk:k<r.ti.length):kD r s=(r.ti[k]).to:=by
 unfold kD;rw [if_neg h,if_pos (by omega),e,ZE,Zk,Zc hk];rfl
theorem Tv (h:¬ 0<=bB (cN r) s) (h2:¬ 0<=bB (cQ r) s):kD r s = -1:=by
 unfold kD;rw [if_neg h,if_neg h2]
theorem KT {s d t p:Value} (o:ByteArray) {w:World} (h:RR w r s d t p):an T_ 232 [RA r s d t p,.string o] w (.q (k6 r o)):=by
 obtain ⟨h1,h2,h3,h4⟩:=h.one;have hA:∀ w',aI [] w w'->an T_ 56 [.agg #[.int .i64 r.lv,.int .i64 r.ma,s,d,t,p],.string o] w' (.int .i64 (bB (cu r) o)):=fun w' hk=>qE o (h.keeps hk)
 have hB:∀ w',aI [] w w'->an T_ 60 [.agg #[.q r.lv,.q r.ma,s,d,t,p],.string o] w' (.q (bB (cQ r) o)):=fun w' hk=>qD o (h.keeps hk)
 have n1:(cu r).length=r.de.length:=by unfold cu;rw [Zd]
 have n2:(cQ r).length=r.ti.length:=by unfold cQ;rw [Zd]
 have hs:=h.de;obtain ⟨a,cp,b,o',rfl,dC,ch,ha,hc⟩:=hs;rw [bY] at *;have ht:=h.ti;obtain ⟨a2,pe,b2,o2,rfl,jS,eV,jU,kg⟩:=ht;rw [bS] at *;unfold maxLen at ch eV;by_cases g1:0<=bB (cu r) o
 ·obtain ⟨k,e,hk⟩:=sN g1;rw [n1] at hk;rw [Tc e hk];rw [e] at hA;have cY:=ha (ij hk);have aF:=(hc k _ (fM hk)).2;have c0:w.cell? ⟨b,o'+k*3+1,none⟩=some (.int .i64 (r.de[k]).mx):=aF 1 _ I;unfold RA;refine aj func232 I I ?_
  (refine Jr<|Jy I I fun _ _=>Ja I<|Jn<|Jq<|Jr<|ab (bU .here) I<|Jv I<|ah bn I (fun w' aB=>(hA w' (Mem.keeps aB)))<|Ja I<|Ji<|Jv I<|JG I<|Jn<|Jd I fun aA=>Jr<|bD I I ae<|JL I .here I<|Jv I<|ab (ao (.of I) (.of I) cY aA (by omega) aW) I<|bD I I ae<|ab (ag (.of I) (At.base c0 I)) I<|Ja I<|Jn<|Ju<|JT ?_)
  rfl
 by_cases g2:0<=bB (cQ r) o
 ·obtain ⟨k,e,hk⟩:=sN g2;rw [n2] at hk;rw [Ta g1 e hk];rw [e] at hB;have cY:=jU (fq hk);have aF:=(kg k _ (ep hk)).2;have c0:w.cell? ⟨b2,o2+k*3+1,none⟩=some (.int .i64 (r.ti[k]).fr):=aF 1 _ I;unfold RA;refine aj func232 I I ?_
  (refine Jr<|Jy I I fun _ _=>Ja I<|Jn<|Jq<|Jr<|ab (bU .here) I<|Jv I<|ah bn I (fun w' aB=>(hA w' (Mem.keeps aB)))<|Ja I<|Ji<|Jv I<|JG I<|Jn<|Jc I fun aA=>Jk<|Jq<|Jr<|ab (bU .here) I<|Jv I<|ah bn I (fun w' aB=>(hB w' (Mem.keeps aB)))<|Ja I<|Ji<|Jv I<|JG I<|Jn<|Jd I fun aA=>Jr<|bD I I ae<|JL I .here I<|Jv I<|ab (ao (.of I) (.of I) cY aA (by omega) aW) I<|bD I I ae<|ab (ag (.of I) (At.base c0 I)) I<|Ja I<|Jn<|Ju<|JT ?_)
  rfl
 rw [Tb g1 g2];unfold RA;refine aj func232 I I ?_
 (refine Jr<|Jy I I fun _ _=>Ja I<|Jn<|Jq<|Jr<|ab (bU .here) I<|Jv I<|ah bn I (fun w' aB=>(hA w' (Mem.keeps aB)))<|Ja I<|Ji<|Jv I<|JG I<|Jn<|Jc I fun aA=>Jk<|Jq<|Jr<|ab (bU .here) I<|Jv I<|ah bn I (fun w' aB=>(hB w' (Mem.keeps aB)))<|Ja I<|Ji<|Jv I<|JG I<|Jn<|Jc I fun aA=>Jk<|Jr<|Ja I<|Jn<|Je<|JT ?_)
 rfl
theorem Pm {s d t p:Value} (o:ByteArray) {w:World} (h:RR w r s d t p):an T_ 231 [RA r s d t p,.string o] w (.q (kD r o)):=by
 obtain ⟨h1,h2,h3,h4⟩:=h.one;have hA:∀ w',aI [] w w'->an T_ 130 [.agg #[.int .i64 r.lv,.int .i64 r.ma,s,d,t,p],.string o] w' (.int .i64 (bB (cN r) o)):=fun w' hk=>vE o (h.keeps hk)
 have hB:∀ w',aI [] w w'->an T_ 60 [.agg #[.q r.lv,.q r.ma,s,d,t,p],.string o] w' (.q (bB (cQ r) o)):=fun w' hk=>qD o (h.keeps hk)
 have n1:(cN r).length=r.sr.length:=by unfold cN;rw [Zd]
 have n2:(cQ r).length=r.ti.length:=by unfold cQ;rw [Zd]
 have hs:=h.sr;obtain ⟨a,cp,b,o',rfl,dC,ch,ha,hc⟩:=hs;rw [cG] at *;have ht:=h.ti;obtain ⟨a2,pe,b2,o2,rfl,jS,eV,jU,kg⟩:=ht;rw [bS] at *;unfold maxLen at ch eV;by_cases g1:0<=bB (cN r) o
 ·obtain ⟨k,e,hk⟩:=sN g1;rw [n1] at hk;rw [Tu e hk];rw [e] at hA;have cY:=ha (iD hk);have aF:=(hc k _ (fW hk)).2;have c0:w.cell? ⟨b,o'+k*2+1,none⟩=some (.int .i64 (r.sr[k]).mx):=aF 1 _ I;unfold RA;refine aj func231 I I ?_
  (refine Jr<|Jy I I fun _ _=>Ja I<|Jn<|Jq<|Jr<|ab (bU .here) I<|Jv I<|ah bn I (fun w' aB=>(hA w' (Mem.keeps aB)))<|Ja I<|Ji<|Jv I<|JG I<|Jn<|Jd I fun aA=>Jr<|bD I I ae<|JL I .here I<|Jv I<|ab (ao (.of I) (.of I) cY aA (by omega) aW) I<|bD I I ae<|ab (ag (.of I) (At.base c0 I)) I<|Ja I<|Jn<|Ju<|JT ?_)
  rfl
 by_cases g2:0<=bB (cQ r) o
 ·obtain ⟨k,e,hk⟩:=sN g2;rw [n2] at hk;rw [Tt g1 e hk];rw [e] at hB;have cY:=jU (fq hk);have aF:=(kg k _ (ep hk)).2;have c0:w.cell? ⟨b2,o2+k*3+2,none⟩=some (.int .i64 (r.ti[k]).to):=aF 2 _ I;unfold RA;refine aj func231 I I ?_
  (refine Jr<|Jy I I fun _ _=>Ja I<|Jn<|Jq<|Jr<|ab (bU .here) I<|Jv I<|ah bn I (fun w' aB=>(hA w' (Mem.keeps aB)))<|Ja I<|Ji<|Jv I<|JG I<|Jn<|Jc I fun aA=>Jk<|Jq<|Jr<|ab (bU .here) I<|Jv I<|ah bn I (fun w' aB=>(hB w' (Mem.keeps aB)))<|Ja I<|Ji<|Jv I<|JG I<|Jn<|Jd I fun aA=>Jr<|bD I I ae<|JL I .here I<|Jv I<|ab (ao (.of I) (.of I) cY aA (by omega) aW) I<|bD I I ae<|ab (ag (.of I) (At.base c0 I)) I<|Ja I<|Jn<|Ju<|JT ?_)
  rfl
 rw [Tv g1 g2];unfold RA;refine aj func231 I I ?_
 (refine Jr<|Jy I I fun _ _=>Ja I<|Jn<|Jq<|Jr<|ab (bU .here) I<|Jv I<|ah bn I (fun w' aB=>(hA w' (Mem.keeps aB)))<|Ja I<|Ji<|Jv I<|JG I<|Jn<|Jc I fun aA=>Jk<|Jq<|Jr<|ab (bU .here) I<|Jv I<|ah bn I (fun w' aB=>(hB w' (Mem.keeps aB)))<|Ja I<|Ji<|Jv I<|JG I<|Jn<|Jc I fun aA=>Jk<|Jr<|Ja I<|Jn<|Je<|JT ?_)
 rfl
theorem F5 {s d t p:Value} (o:ByteArray) {w:World} (h:RR w r s d t p) (hf:gU r):an T_ 230 [RA r s d t p,.string o] w (.q (eE r o)):=by
 obtain ⟨h1,h2,h3,h4⟩:=h.one;have hA:∀ w',aI [] w w'->an T_ 56 [.agg #[.int .i64 r.lv,.int .i64 r.ma,s,d,t,p],.string o] w' (.int .i64 (bB (cu r) o)):=fun w' hk=>qE o (h.keeps hk)
 have hB:∀ w',aI [] w w'->an T_ 60 [.agg #[.q r.lv,.q r.ma,s,d,t,p],.string o] w' (.q (bB (cQ r) o)):=fun w' hk=>qD o (h.keeps hk)
 have n2:(cQ r).length=r.ti.length:=by unfold cQ;rw [Zd]
 have hs:=h.de;obtain ⟨a,cp,b,o',rfl,dC,ch,ha,hc⟩:=hs;rw [bY] at *;obtain ⟨f1,f2,f3,f4⟩:=hf;have hq:0<=bB (cQ r) o->bB (cQ r) o<=1000000:=fun g=>by
  obtain ⟨k,e,hk⟩:=sN g;omega
 unfold RA;refine aj func230 I I ?_;unfold eE;generalize bB (cu r) o=x at hA ⊢;generalize bB (cQ r) o=y at hB hq ⊢
 (refine Jr<|Jy I I fun _ _=>Ja I<|Jn<|Jq<|Jr<|ab (bU .here) I<|Jv I<|ah bn I (fun w' aB=>(hA w' (Mem.keeps aB)))<|Ja I<|Ji<|Jv I<|JG I<|Jn<|gL I (fun aA=>?_) fun aA=>?_;refine Jr<|Jv I<|Ja I<|Jn<|Ju<|JT ?_;rotate_left;refine Jk<|Jq<|Jr<|ab (bU .here) I<|Jv I<|ah bn I (fun w' aB=>(hB w' (Mem.keeps aB)))<|Ja I<|Ji<|Jv I<|JG I<|Jn<|gL I (fun aA=>?_) fun aA=>?_;refine Jr<|bD I I ae<|JL I .here I<|JI I<|Jv I<|JB I (by omega)<|Ja I<|Jn<|Ju<|JT ?_;rotate_left;refine Jk<|Jr<|Ja I<|Jn<|Je<|JT ?_;rotate_right;rotate_right)
 all_goals first | (rw [if_pos aA];done) | (rw [if_neg ‹¬ 0<=x›,if_pos aA];done) | (rw [if_neg ‹¬ 0<=x›,if_neg aA];done)
theorem Fc {s d t p:Value} (o:ByteArray) {w:World} (h:RR w r s d t p):an T_ 26 [RA r s d t p,.string o] w (.q (mF r o)):=by
 obtain ⟨h1,h2,h3,h4⟩:=h.one;have uP:∀ w',aI [] w w'->an T_ 56 [.agg #[.int .i64 r.lv,.int .i64 r.ma,s,d,t,p],.string o] w' (.int .i64 (bB (cu r) o)):=fun w' hk=>qE o (h.keeps hk)
 unfold RA;refine aj func26 I I ?_
 (refine Jr<|Jy I I fun _ _=>Ja I<|Ji<|ab (bU .here) I<|Jv I<|ah bn I (fun w' aB=>(uP w' (Mem.keeps aB)))<|JA I<|ah bn I (fun w' aB=>(lW _ 10 w'))<|Ja I<|Jn<|Je<|JT ?_)
 rfl
theorem BE (po:List Po) (v:Int):∀ (n:Nat) (o:ByteArray),(qd po v n o).length<=n
 | 0,_=>Zv _
 | n + 1, o => by
  rw [qd];split
  ·exact Zi _
  ·rw [ZB];exact Nat.succ_le_succ (BE po v n _)
theorem GN {s d t p:Value} (v:Int) (o:ByteArray) (n:Nat) (hn:n<=1000) {w:World} (h:RR w r s d t p):a8 T_ 132 [RA r s d t p,.q v,.string o,.q (n:Nat)] w [] (fun _:Value=>True) id (fun x=>[row 9 1 x (qd r.po v n o).length (aR (qd r.po v n o))]):=by
 obtain ⟨h1,h2,h3,h4⟩:=h.one;have mT:∀ (o':ByteArray) w',aI [] w w'->an T_ 133 [.agg #[.int .i64 r.lv,.int .i64 r.ma,s,d,t,p],.int .i64 v,.string o'] w' (.string ((eD r.po v o').getD ⟨#[]⟩)):=fun o' w' hk=>qz v o' (h.keeps hk)
 unfold RA;refine aS func132 I I ?_;refine Jr<|Jy I I fun _ _=>Ja I<|Ji<|Ja I<|Jn<|Jq<|Jr<|Ja I<|Jn<|J0 ?_;rename_i b4 sH;refine aJ 9 1 ?_;refine aV (ι:=Nat×ByteArray×Value×List ByteArray) (fun y=>y.1<=n/\y.2.2.2.length=y.1/\qd r.po v n o=y.2.2.2++qd r.po v (n-y.1) y.2.1) (fun y=>[(10,.q (y.1:Nat)),(9,y.2.2.1),(2,.string y.2.1),(1,.q v),(3,.q (n:Nat)),(4,.p b4)]) (fun y=>[row 9 1 y.2.2.1 y.1 (aR y.2.2.2),JQ b4 r s d t p]) (fun y=>n-y.1) ?_ ?_
 ·apply aH (0,o,.z,[]) ⟨Zi _,I,I⟩
  case hs1=>exact bT
  case ht=>
   exact .h2 .nil
 rintro ⟨k,o',v',L⟩ ⟨hk,hL,hc⟩;dsimp only at hk hL hc ⊢;have hlen:(aR L).length=k*1:=by rw [dx,hL];omega
 by_cases aL:k<n/\o'≠⟨#[]⟩
 ·obtain ⟨g1,g2⟩:=aL;have kg:qd r.po v n o=(L++[o'])++qd r.po v (n-(k+1)) ((eD r.po v o').getD ⟨#[]⟩):=by
   rw [hc,show n-k=(n-(k+1))+1 by omega,qd,if_neg g2,Zh];rfl
  (refine Jq<|Jr<|Jv I<|Jv I<|JA I<|Jv I<|jZ I I I I<|aM I I (fun hg bH=>(gz (.bW hg I) (.of I))) I<|ab (cM (.of I) I) I<|Jn<|oK I (fun aA=>?_) fun aA=>?_;refine Jk<|Jq<|J0<|Jr<|Jv I<|Jv I<|bh (aD (.o I .nil) I I I I) I fun _ _=>?_;rotate_left;refine Jp<|Jl<|Jo<|Jt<|Jr<|Jv I<|Ja I<|Jn<|Je ?_;rotate_right)
  refine bA (.of I) (.of I) (.there .here) .here ai (by rfl) (dE I) (by rfl) (by rfl) (by rfl) eC (by rfl) ?_;intro x
  (refine Ja I<|Jn<|Jg<|ab (bU bE) I<|Jv I<|Jv I<|ah dU I (fun w' aB=>(mT o' w' (Mem.keeps aB)))<|Ja I<|Jx<|Jj<|Jt<|Jg<|Jv I<|JB I (by omega)<|Ja I<|Jn ?_)
  apply aG (k+1,(eD r.po v o').getD ⟨#[]⟩,x,L++[o']) ⟨by show k+1<=n;omega,by show (L++[o']).length=k+1;rw [Zg,hL];rfl,kg⟩ (by show n-(k+1)<n-k;omega)
  case hs1=>exact bT
  case ht=>
   show bj _ [row 9 1 x (k+1) (aR (L++[o'])),JQ b4 r s d t p] _;rw [show aR (L++[o'])=aR L++[.string o'] from eU _ _];exact .h1 (.cons (.there .here) .nil)
  exact aA.elim (fun z=>absurd (show ((k:Nat):Int)<(n:Nat) by omega) z) (fun z=>absurd g2 z)
 ·have he:qd r.po v n o=L:=by
   rw [hc];by_cases g:k<n
   ·have:o'=⟨#[]⟩:=Classical.byContradiction fun q=>aL ⟨g,q⟩
    rw [this,RX,ZK]
   ·rw [show n-k=0 by omega,qd,ZK]
  have LH:¬ ((k:Nat):Int)<(n:Nat)\/¬ o'≠⟨#[]⟩:=by
   by_cases g:k<n
   ·exact .inr fun q=>aL ⟨g,q⟩
   ·exact .inl (by omega)
  rw [he,hL]
  (refine Jq<|Jr<|Jv I<|Jv I<|JA I<|Jv I<|jZ I I I I<|aM I I (fun hg bH=>(gz (.bW hg I) (.of I))) I<|ab (cM (.of I) I) I<|Jn<|oK I (fun aA=>?_) fun aA=>?_;refine Jk<|Jq<|J0<|Jr<|Jv I<|Jv I<|bh (aD (.o I .nil) I I I I) I fun _ _=>?_;rotate_left;refine Jp<|Jl<|Jo<|Jt<|Jr<|Jv I<|Ja I<|Jn<|Je ?_;rotate_right)
  ·exact absurd aA (by intro q;rcases LH with z | z;exact z q.1;exact z q.2)
  with_reducible first|apply aO|apply aP
  case he=>exact dN I I
  case hR=>
   intro w' aB;exact aC v' trivial (by exact .h1 .nil) aB I

def B8 (r:Ro) (v:Int) (o:ByteArray):List ByteArray:=if bB (cN r) ((qd r.po v 8 o).getLastD ⟨#[]⟩)<0 then [] else (qd r.po v 8 o).reverse
theorem NX {s d t p:Value} (v:Int) (o:ByteArray) (ho:o≠⟨#[]⟩) {w:World} (h:RR w r s d t p):a8 T_ 31 [RA r s d t p,.q v,.string o] w [] (fun _:Value=>True) id (fun x=>[row 9 1 x (B8 r v o).length (aR (B8 r v o))]):=by
 obtain ⟨h1,h2,h3,h4⟩:=h.one;have PL:∀ (o':ByteArray) w',aI [] w w'->an T_ 130 [.agg #[.int .i64 r.lv,.int .i64 r.ma,s,d,t,p],.string o'] w' (.int .i64 (bB (cN r) o')):=fun o' w' hk=>vE o' (h.keeps hk)
 have PR:∀ w',aI [] w w'->a8 T_ 132 [.agg #[.q r.lv,.q r.ma,s,d,t,p],.q v,.string o,.q 8] w' [] (fun _:Value=>True) id (fun x=>[row 9 1 x (qd r.po v 8 o).length (aR (qd r.po v 8 o))]):=fun w' hk=>GN v o 8 (by decide) (h.keeps hk)
 have hle:=BE r.po v 8 o;obtain ⟨m,hm⟩:∃ m,(qd r.po v 8 o).length=m+1:=by
  rw [qd,if_neg ho];exact ⟨_,I⟩
 unfold B8;generalize qd r.po v 8 o=L at PR hle hm ⊢;rw [hm] at PR;unfold RA;refine aS func31 I I ?_
 (refine Jr<|Jy I I fun _ _=>Ja I<|Ji<|ab (bU .here) I<|Jv I<|Jv I ?_)
 refine JN mI I (fun w1 aT=>PR w1 aT.keeps) ?_;intro x _;dsimp only [id_eq,Zb,Za];refine Ja I<|Jn<|Jq<|Jq ?_;rename_i b3 rz;refine cm (E:=9) (sz:=1) (v:=x) (by exact .here) (Nat.succ_pos m) ?_;rintro g gc cur e dC _ _ _;subst e;have Rn:(aR L++cur)[m*1]? = some (.string (L.getLastD ⟨#[]⟩)):=by
  rw [rT L cur (by omega)];congr 2;rw [List.getLastD_eq_getLast?,List.getLast?_eq_getElem?,show L.length-1=m by omega,Zc (by omega)];rfl
 have LP:(aR L++cur)[(((Nat.succ m:Nat):Int)-1).toNat*1]? = some (.string (L.getLastD ⟨#[]⟩)):=by
  rw [show (((Nat.succ m:Nat):Int)-1).toNat=m by omega];exact Rn
 with_reducible refine cz 7 (by kernel_rfl) ?_
 (refine aq (bU (.there .here)) I ?_;refine fw I I ?_;refine fw I I ?_;refine aq (cR (.of I)) I ?_;refine aq (tw (.of I) (.of I) (Re (by omega))) I ?_;refine aq (ao (.of I) (.of I) I (by omega) (by omega) aW) I ?_;refine aq (ag (.of I) (At.kB .here LP)) I ?_)
 with_reducible refine cC ?_
 (refine ah bn I (fun w' aB=>(PL _ w' (Mem.keeps aB)))<|JA I<|Jn<|gL I (fun aA=>?_) fun aA=>?_;refine Jr<|Ja I<|Jn<|Ju ?_;rotate_left;refine Jk<|Jr<|Ja I<|Jn<|Jq<|Jr<|Jv I<|JI I<|JS I (by omega)<|Ja I<|Jn<|J0 ?_;rotate_right)
 ·rw [if_pos aA];refine aJ 9 1 ?_
  with_reducible first|apply aO|apply aP
  case he=>exact dN I I
  case hR=>
   intro w' aB;exact aC (.z) trivial (by exact .h1 .nil) aB I
 rw [if_neg aA];refine aJ 9 1 ?_;refine aV (ι:=Nat×Int×Value) (fun y=>y.1<=m+1/\y.2.1=(m:Int)-y.1) (fun y=>[(9,.q y.2.1),(8,y.2.2),(7,.w g m.succ gc)]) (fun y=>[row 9 1 y.2.2 y.1 (aR (L.reverse.take y.1)),bu g (.cells (aR L++cur).toArray 9 (0,0))]) (fun y=>m+1-y.1) ?_ ?_
 ·apply aH (0,((Nat.succ m:Nat):Int)-1,.z) ⟨Zi _,by show ((Nat.succ m:Nat):Int)-1=(m:Int)-((0:Nat):Int);omega⟩
  case hs1=>exact bT
  case ht=>
   exact .h2 .nil
 rintro ⟨k,i,v'⟩ ⟨hk,hi⟩;dsimp only at hk hi ⊢;clear Rn LP aA;have Ww:L.reverse.length=m+1:=by rw [List.length_reverse,hm]
 by_cases aL:k<m+1
 ·have hj:(aR L++cur)[i.toNat*1]? = some (.string (L.reverse[k]'(by omega))):=by
   rw [show i.toNat=m-k by omega,rT L cur (by omega),List.getElem_reverse];congr 3;omega
  have htk:aR (L.reverse.take (k+1))=aR (L.reverse.take k)++[.string (L.reverse[k]'(by omega))]:=by
   rw [Zm (by omega)];exact eU _ _
  have hlen:(aR (L.reverse.take k)).length=k*1:=by rw [dx,Zs];omega
  generalize L.reverse[k]'(by omega)=z at hj htk
  (refine Jq<|Jr<|Jv I<|JG I<|Jn<|Jd I fun aA=>Jk<|Jq<|J0<|Jg<|Jv I<|Jv I<|Jv I<|ab (ao (.of I) (.of I) I aA (by omega) aW) I ?_;refine ab (ag (.of I) (At.kB (.there .here) hj)) I ?_;refine bh (aD (.o I .nil) I I I I) I fun _ _=>?_)
  refine bA (.of I) (.of I) (.there .here) .here ai (by rfl) (dE I) (by rfl) (by rfl) (by rfl) eC (by rfl) ?_;intro q;refine Ja I<|Jx<|Jj<|Jt<|Jg<|Jv I<|JS I (by omega)<|Ja I<|Jn ?_;apply aG (k+1,i-1,q) ⟨by show k+1<=m+1;omega,by show i-1=(m:Int)-((k+1:Nat):Int);omega⟩ (by show m+1-(k+1)<m+1-k;omega)
  case hs1=>exact bT
  case ht=>
   show bj _ [row 9 1 q (k+1) (aR (L.reverse.take (k+1))),bu g (.cells (aR L++cur).toArray 9 (0,0))] _;rw [htk];exact .h1 (.cons (.there .here) .nil)
 obtain rfl:k=m+1:=by omega
 rw [Z9 (by omega)];refine Jq<|Jr<|Jv I<|JG I<|Jn<|Jc I fun aA=>Jp<|Jl<|Jo<|Jt<|Jr<|Jv I<|Ja I<|Jn<|Je ?_
 with_reducible first|apply aO|apply aP
 case he=>exact dN I I
 case hR=>
  intro w' aB;rw [Ww];exact aC v' trivial (by exact .h1 .nil) aB I
def Qu (r:Ro) (v:Int) (o:ByteArray):ByteArray:=(B8 r v o).headD ⟨#[]⟩
theorem tR {s d t p:Value} (v:Int) (o:ByteArray) (ho:o≠⟨#[]⟩) {w:World} (h:RR w r s d t p):an T_ 131 [RA r s d t p,.q v,.string o] w (.string (Qu r v o)):=by
 obtain ⟨h1,h2,h3,h4⟩:=h.one;have TG:∀ w',aI [] w w'->a8 T_ 31 [.agg #[.int .i64 r.lv,.int .i64 r.ma,s,d,t,p],.int .i64 v,.string o] w' [] (fun _:Value=>True) id (fun x=>[row 9 1 x (B8 r v o).length (aR (B8 r v o))]):=fun w' hk=>NX v o ho (h.keeps hk)
 unfold Qu;generalize B8 r v o=L at TG ⊢;unfold RA;refine aj func131 I I ?_
 (refine Jr<|Jy I I fun _ _=>Ja I<|Ji<|ab (bU .here) I<|Jv I<|Jv I ?_)
 refine JN dU I (fun w1 aT=>TG w1 aT.keeps) ?_;intro x _;dsimp only [id_eq,Zb,Za];cases L with
 | nil =>
  refine aK (E:=9) (sz:=1) (v:=x) (by exact .here) fun xa xc e=>?_;subst e
  (refine Ja I<|Jn<|Jq<|Jr<|Jv I<|JI I<|JC I<|Jn<|gL I (fun aA=>?_) fun aA=>?_;refine Jr<|Ja I<|Jn<|Ju<|JT ?_;rotate_left;refine Jk<|Jr<|Jv I ?_;rotate_right)
  all_goals first | rfl | exact absurd I aA
 | cons y L =>
  refine cm (E:=9) (sz:=1) (v:=x) (by exact .here) (by exact Nat.succ_pos _) ?_;rintro g gc cur e dC _ _ _;subst e;have fZ:(aR (y::L)++cur)[0*1]? = some (.string y):=rfl;have vz:(y::L).length=L.length+1:=rfl;rw [vz]
  (refine Ja I<|Jn<|Jq<|Jr<|Jv I<|JI I<|JC I<|Jn<|Jc I fun aA=>Jk<|Jr<|Jv I<|ab (ao (.of I) (.of I) I (by omega) (by omega) aW) I<|JL I .here I<|Ja I<|Jn<|Je<|JT ?_)
  all_goals first | rfl | omega

theorem Bm {lv:Value} (o:ByteArray) {w:World} (h:Rd w lv 1 (fN l)):an T_ 59 [lv,.string o] w (.bool (eZ l o)):=by
 obtain ⟨a,cp,b,o',rfl,dC,ch,ha,hc⟩:=h;rw [bG] at *;unfold maxLen at ch;refine aj func59 I I ?_;refine Jr<|Ja I<|Jn<|Jq<|Jr<|Ja I<|Jn<|J0 ?_;refine aV (ι:=Nat) (fun k=>k<=l.length/\∀ j (hj:j<l.length),j<k->l[j]≠o) (fun k=>[(5,.int .i64 (k:Nat)),(0,.slice a l.length cp),(1,.string o)]) (fun _=>[]) (fun k=>l.length-k) ?_ ?_
 ·apply aH (0:Nat) ⟨Zi _,fun j _ hj=>absurd hj (ZV _)⟩
  case hs1=>exact bT
  case ht=>(try simp only [Ze,Zf,Za]);exact .nil
 rintro k ⟨hk,hf⟩;by_cases aL:k<l.length
 ·have cY:=ha (iU aL);have c0:w.cell? ⟨b,o'+k*1,none⟩=some (.string l[k]):=(hc k _ (fH aL)).2 0 _ I;have hm:=Zj aL;have BY:l[k]≠o->∀ j (hj:j<l.length),j<k+1->l[j]≠o:=fun q j hj YN=>by
   by_cases e:j=k
   ·subst e;exact q
   ·exact hf j hj (by omega)
  generalize l[k]=x at c0 hm BY
  (refine Jq<|Jr<|Jv I<|Jv I<|JI I<|JA I<|Jn<|Jd I fun aA=>Jk<|Jq<|J0<|Jr<|Jv I<|Jv I<|ab (gE cY aA) I<|ab (ag (.of I) (At.base c0 I)) I<|Jv I<|ab (dD (.of I) (.of I)) I<|Jn<|gL I (fun aA=>?_) fun aA=>?_;refine Jr<|Ja I<|Jn<|Je<|Jm<|Jh<|Jh<|Jm<|Jh<|JT ?_;rotate_left;refine Jw<|Jj<|Jt<|Jg<|Jv I<|JB I (by omega)<|Ja I<|Jn ?_;rotate_right)
  ·have ur:x=o:=aA;rw [fE.2 (ur ▸ hm)]
  ·have ur:¬ x=o:=aA;apply aG (k+1) ⟨(show k+1<=l.length from aL),BY ur⟩ (show l.length-(k+1)<l.length-k by omega)
   case hs1=>exact bT
   case ht=>(try simp only [Ze,Zf,Za]);exact .nil
 ·have e:eZ l o=false:=by
   rw [<- Zar,fE];intro q;obtain ⟨j,hj,e⟩:=ZA q;exact hf j hj (by omega) e
  obtain rfl:k=l.length:=by omega
  rw [e];refine Jq<|Jr<|Jv I<|Jv I<|JI I<|JA I<|Jn<|Jc I fun aA=>Jp<|Jl<|Jo<|Jt<|Jr<|Ja I<|Jn<|Je<|JT ?_
  rfl
theorem vo {s d t p:Value} {w:World} (h:RR w r s d t p) (hf:gU r):a8 T_ 77 [RA r s d t p] w [] (fun _:Value=>True) id (fun x=>[row 9 1 x (dh r).length (aR (dh r))]):=by
 obtain ⟨h1,h2,h3,h4⟩:=h.one;have Db:=h.sr;have Dl:=h.de;have yq:=h.ti;obtain ⟨a1,ew,II,Iz,rfl,oO,iu,mz,kT⟩:=Db;obtain ⟨a2,c8,IH,Iy,rfl,jS,eV,jU,kg⟩:=Dl;obtain ⟨a3,dX,GP,F6,rfl,mU,gB,rP,pb⟩:=yq;rw [cG] at *;rw [bY] at *;rw [bS] at *;unfold maxLen at iu eV gB;obtain ⟨f1,f2,f3,f4⟩:=hf;unfold RA;refine aS func77 I I ?_;refine Jr<|Jy I I fun _ _=>Ja I<|Ji<|Ja I<|Jn<|Jq<|Jr<|Ja I<|Jn<|J0 ?_;rename_i b1 tJ;refine aJ 9 1 ?_;refine aV (ι:=Nat×Value×List ByteArray) (fun y=>y.1<=r.sr.length/\y.2.2=([]:List ByteArray)++(cN r).take y.1) (fun y=>[(4,.int .i64 (y.1:Nat)),(3,y.2.1),(1,.pointer (some ⟨b1,0,none⟩))]) (fun y=>[row 9 1 y.2.1 y.2.2.length (aR y.2.2),JQ b1 r (.slice a1 r.sr.length ew) (.slice a2 r.de.length c8) (.slice a3 r.ti.length dX) p]) (fun y=>r.sr.length-y.1) ?_ ?_
 ·apply aH (0,.z,[]) ⟨Zi _,I⟩
  case hs1=>exact bT
  case ht=>
   exact .h2 .nil
 rintro ⟨k,v1,L1⟩ ⟨hk,Vp⟩;dsimp only at hk Vp ⊢;have nn1:(cN r).length=r.sr.length:=by unfold cN;rw [Zd]
 by_cases aL:k<r.sr.length
 ·have IE:L1.length=(([]:List ByteArray)).length+k:=by rw [Vp,Zg,Zs];omega
  have hLb:L1.length<=3000000:=by rw [IE];simp only [Zaf];omega
  have hlen:(aR L1).length=L1.length*1:=by rw [dx];omega
  have cY:=mz (iD aL);have c0:w.cell? ⟨II,Iz+k*2,none⟩=some (.string (r.sr[k]).nm):=(kT k _ (fW aL)).2 0 _ I;have hx:(cN r)[k]'(by omega)=(r.sr[k]).nm:=by unfold cN;rw [Z1]
  have qB:L1++[(r.sr[k]).nm]=([]:List ByteArray)++(cN r).take (k+1):=by rw [Zm (by omega),hx,<- Zh,<- Vp]
  generalize (r.sr[k]).nm=x at c0 hx qB
  (refine Jq<|Jr<|Jv I<|bD I I ae<|JL I (.there .here) I<|JI I<|JA I<|Jn<|Jd I fun aA=>Jk<|Jq<|J0<|Jg<|Jv I<|bD I I ae<|JL I (.there .here) I<|Jv I<|ab (gE cY aA) I<|bD I I ae<|ab (ag (.of I) (At.base c0 I)) I<|bh (aD (.o I .nil) I I I I) I fun _ _=>?_)
  refine bA (.of I) (.of I) (.there .here) .here ai (by rfl) (dE I) (by rfl) (by rfl) (by rfl) eC (by rfl) ?_;intro z;refine Ja I<|Jx<|Jj<|Jt<|Jg<|Jv I<|JB I (by omega)<|Ja I<|Jn ?_;apply aG (k+1,z,L1++[x]) ⟨by show k+1<=r.sr.length;omega,qB⟩ (by show r.sr.length-(k+1)<r.sr.length-k;omega)
  case hs1=>exact bT
  case ht=>
   show bj _ [row 9 1 z (L1++[x]).length (aR (L1++[x])),JQ b1 r (.slice a1 r.sr.length ew) (.slice a2 r.de.length c8) (.slice a3 r.ti.length dX) p] _;rw [show aR (L1++[x])=aR L1++[.string x] from eU _ _,Zg,Z7];exact .h1 (.cons (.there .here) .nil)
 obtain rfl:k=r.sr.length:=by omega
 rw [Z9 (by omega)] at Vp;clear hk aL
 (refine Jq<|Jr<|Jv I<|bD I I ae<|JL I (.there .here) I<|JI I<|JA I<|Jn<|Jc I fun aA=>Jp<|Jl<|Jo<|Jt<|Jq<|Jr<|Ja I<|Jn<|J0 ?_)
 rw [Za] at Vp;refine aV (ι:=Nat×Value×List ByteArray) (fun y=>y.1<=r.de.length/\y.2.2=cN r++(cu r).take y.1) (fun y=>[(5,.q (y.1:Nat)),(3,y.2.1),(1,.p b1)]) (fun y=>[row 9 1 y.2.1 y.2.2.length (aR y.2.2),JQ b1 r (.slice a1 r.sr.length ew) (.slice a2 r.de.length c8) (.slice a3 r.ti.length dX) p]) (fun y=>r.de.length-y.1) ?_ ?_
 ·apply aH (0,v1,L1) ⟨Zi _,by rw [Ze,ZK];exact Vp⟩
  case hs1=>exact bT
  case ht=>
   exact .h2 .nil
 rintro ⟨k,v2,L2⟩ ⟨hk,qB⟩;dsimp only at hk qB ⊢;have nn2:(cu r).length=r.de.length:=by unfold cu;rw [Zd]
 by_cases aL:k<r.de.length
 ·have IE:L2.length=(cN r).length+k:=by rw [qB,Zg,Zs];omega
  have hLb:L2.length<=3000000:=by rw [IE];rw [nn1];omega
  have hlen:(aR L2).length=L2.length*1:=by rw [dx];omega
  have cY:=jU (ij aL);have c0:w.cell? ⟨IH,Iy+k*3,none⟩=some (.string (r.de[k]).nm):=(kg k _ (fM aL)).2 0 _ I;have hx:(cu r)[k]'(by omega)=(r.de[k]).nm:=by unfold cu;rw [Z1]
  have qB:L2++[(r.de[k]).nm]=cN r++(cu r).take (k+1):=by rw [Zm (by omega),hx,<- Zh,<- qB]
  generalize (r.de[k]).nm=x at c0 hx qB
  (refine Jq<|Jr<|Jv I<|bD I I ae<|JL I (.there .here) I<|JI I<|JA I<|Jn<|Jd I fun aA=>Jk<|Jq<|J0<|Jg<|Jv I<|bD I I ae<|JL I (.there .here) I<|Jv I<|ab (gE cY aA) I<|bD I I ae<|ab (ag (.of I) (At.base c0 I)) I<|bh (aD (.o I .nil) I I I I) I fun _ _=>?_)
  refine bA (.of I) (.of I) (.there .here) .here ai (by rfl) (dE I) (by rfl) (by rfl) (by rfl) eC (by rfl) ?_;intro z;refine Ja I<|Jx<|Jj<|Jt<|Jg<|Jv I<|JB I (by omega)<|Ja I<|Jn ?_;apply aG (k+1,z,L2++[x]) ⟨by show k+1<=r.de.length;omega,qB⟩ (by show r.de.length-(k+1)<r.de.length-k;omega)
  case hs1=>exact bT
  case ht=>
   show bj _ [row 9 1 z (L2++[x]).length (aR (L2++[x])),JQ b1 r (.slice a1 r.sr.length ew) (.slice a2 r.de.length c8) (.slice a3 r.ti.length dX) p] _;rw [show aR (L2++[x])=aR L2++[.string x] from eU _ _,Zg,Z7];exact .h1 (.cons (.there .here) .nil)
 obtain rfl:k=r.de.length:=by omega
 rw [Z9 (by omega)] at qB;clear hk aL
 (refine Jq<|Jr<|Jv I<|bD I I ae<|JL I (.there .here) I<|JI I<|JA I<|Jn<|Jc I fun aA=>Jp<|Jl<|Jo<|Jt<|Jq<|Jr<|Ja I<|Jn<|J0 ?_)
 refine aV (ι:=Nat×Value×List ByteArray) (fun y=>y.1<=r.ti.length/\y.2.2=(cN r++cu r)++(cQ r).take y.1) (fun y=>[(6,.q (y.1:Nat)),(3,y.2.1),(1,.p b1)]) (fun y=>[row 9 1 y.2.1 y.2.2.length (aR y.2.2),JQ b1 r (.slice a1 r.sr.length ew) (.slice a2 r.de.length c8) (.slice a3 r.ti.length dX) p]) (fun y=>r.ti.length-y.1) ?_ ?_
 ·apply aH (0,v2,L2) ⟨Zi _,by rw [Ze,ZK];exact qB⟩
  case hs1=>exact bT
  case ht=>
   exact .h2 .nil
 rintro ⟨k,v3,L3⟩ ⟨hk,Rz⟩;dsimp only at hk Rz ⊢;have nn3:(cQ r).length=r.ti.length:=by unfold cQ;rw [Zd]
 by_cases aL:k<r.ti.length
 ·have IE:L3.length=((cN r++cu r)).length+k:=by rw [Rz,Zg,Zs];omega
  have hLb:L3.length<=3000000:=by rw [IE];rw [Zg,nn1,nn2];omega
  have hlen:(aR L3).length=L3.length*1:=by rw [dx];omega
  have cY:=rP (fq aL);have c0:w.cell? ⟨GP,F6+k*3,none⟩=some (.string (r.ti[k]).nm):=(pb k _ (ep aL)).2 0 _ I;have hx:(cQ r)[k]'(by omega)=(r.ti[k]).nm:=by unfold cQ;rw [Z1]
  have qB:L3++[(r.ti[k]).nm]=(cN r++cu r)++(cQ r).take (k+1):=by rw [Zm (by omega),hx,<- Zh,<- Rz]
  generalize (r.ti[k]).nm=x at c0 hx qB
  (refine Jq<|Jr<|Jv I<|bD I I ae<|JL I (.there .here) I<|JI I<|JA I<|Jn<|Jd I fun aA=>Jk<|Jq<|J0<|Jg<|Jv I<|bD I I ae<|JL I (.there .here) I<|Jv I<|ab (gE cY aA) I<|bD I I ae<|ab (ag (.of I) (At.base c0 I)) I<|bh (aD (.o I .nil) I I I I) I fun _ _=>?_)
  refine bA (.of I) (.of I) (.there .here) .here ai (by rfl) (dE I) (by rfl) (by rfl) (by rfl) eC (by rfl) ?_;intro z;refine Ja I<|Jx<|Jj<|Jt<|Jg<|Jv I<|JB I (by omega)<|Ja I<|Jn ?_;apply aG (k+1,z,L3++[x]) ⟨by show k+1<=r.ti.length;omega,qB⟩ (by show r.ti.length-(k+1)<r.ti.length-k;omega)
  case hs1=>exact bT
  case ht=>
   show bj _ [row 9 1 z (L3++[x]).length (aR (L3++[x])),JQ b1 r (.slice a1 r.sr.length ew) (.slice a2 r.de.length c8) (.slice a3 r.ti.length dX) p] _;rw [show aR (L3++[x])=aR L3++[.string x] from eU _ _,Zg,Z7];exact .h1 (.cons (.there .here) .nil)
 obtain rfl:k=r.ti.length:=by omega
 rw [Z9 (by omega)] at Rz;clear hk aL
 (refine Jq<|Jr<|Jv I<|bD I I ae<|JL I (.there .here) I<|JI I<|JA I<|Jn<|Jc I fun aA=>Jp<|Jl<|Jo<|Jt<|Jr<|Jv I<|Ja I<|Jn<|Je ?_)
 have e:dh r=L3:=Rz.symm;rw [e]
 with_reducible first|apply aO|apply aP
 case he=>exact dN I I
 case hR=>
  intro w' aB;exact aC v3 trivial (by exact .h1 .nil) aB I
theorem BC (h:fm r=0):Ii r:=prt (tQ h).2.1
theorem Lp (h:fm r=0):∀ p∈r.po,p.ip≠⟨#[]⟩:=fun p hp=>
 (BC h).ne (((yn h).val.xU p hp).elim .inl fun q=>.inr (.inr q))
theorem MF (h:fm r=0) {v:Int} {o:ByteArray} (ho:o≠⟨#[]⟩):qd r.po v 8 o=o::fF r.po v 7 o:=vI (Lp h) 7 ho
theorem ME (h:fm r=0) {v:Int} {o:ByteArray} (ho:o≠⟨#[]⟩):(qd r.po v 8 o).getLastD ⟨#[]⟩=iF r.po v 7 o:=by
 rw [MF h ho,List.getLastD_cons];unfold iF;cases fF r.po v 7 o with
 | nil=>rfl
 | cons a l=>rw [List.getLastD_eq_getLast?]
theorem BH (h:fm r=0) (v:Int) {o:ByteArray} (ho:o≠⟨#[]⟩):Qu r v o=jY r v o:=by
 rw [xG (yn h).wJ (yn h).val];unfold Qu B8 qF;rw [ME h ho,MF h ho];split
 ·rfl
 ·rw [List.reverse_cons];unfold iF;cases e:fF r.po v 7 o with
  | nil=>rfl
  | cons a l =>
   rw [List.headD_eq_head?_getD,List.head?_append,List.head?_reverse];cases q:(a::l).getLast? with
   | none=>exact absurd (List.getLast?_eq_none_iff.1 q) (by simp)
   | some y=>rfl
def ckQ (r:Ro):Int:=if oD r≠0 then oD r else if kH r≠0 then kH r else AL r
theorem UG (r:Ro):ckQ r=fm r:=by
 unfold ckQ fm;by_cases h1:oD r=0
 ·rw [if_neg (not_not_intro h1),if_neg (not_not_intro h1)];by_cases h2:kH r=0
  ·rw [if_neg (not_not_intro h2),if_neg (not_not_intro h2),OK (prt h2)]
  ·rw [if_pos h2,if_pos h2]
 ·rw [if_pos h1,if_pos h1]
end Go.Proofs.A1
