/- Parts of the proof: LP POpen LQ LR LS LT LU LV LW LX. -/
import Derived.Test.YteonnodafmegaaaGreatDoorOM12
import Derived.Test.YteonnodafmegaaaGreatDoorOM04
import Derived.Test.YteonnodafmegaaaGreatDoorTie
import Derived.Test.YteonnodafmegaaaGreatDoorCards
import Derived.Lib.SmallJoins
import Derived.Lib.LaidTab
import Derived.Deep.Slices
import Derived.Deep.Fields
import Derived.ChangeSame
import Derived.ChangeBook
import Derived.ChangeStays
import Derived.WalkKit
import Derived.ProofKit
import Derived.OpenShut
import Derived.Below
import Derived.LaidMore
import Derived.Lay
import Derived.SevenTiedAt
import Derived.Stop.Joined
import Derived.ChangeMaps5
set_option linter.unusedSectionVars false
set_option linter.unusedVariables false
set_option linter.unusedSimpArgs false
namespace Go.Proofs.A1
open Go Go.SL
open Tryz
open Tryz renaming prog->T_
variable {Y:List ByteArray} {af:Array Edge} {c:Cx} {d:Value} {dst:Option Tmp} {e:Int} {fz:Nat×Nat} {g:Option (Nat×Bool)} {hs hs':List bd} {l:List fy} {p:Value} {pos:String} {r:Ro} {s:Value} {sl:aL} {t v v1 v2:Value}
theorem dM {D:List Nat} {hs rest:List bd} {X:Act->World->Prop} (hs2:List bd) (ht:bB hs hs2 rest) (k:Tr c D sl hs2 X):Tr c D sl hs X:=fun a w ba=>k a w (ba.heap (by
 have h1:=ba.mem.jj (ht.append (nB D));obtain ⟨kk,fp,hn,iZ,hb⟩:=h1;obtain ⟨f1,f23,rfl,g1,g23⟩:=cr.append_iff.1 iZ;obtain ⟨f2,f3,rfl,g2,g3⟩:=cr.append_iff.1 g23;obtain ⟨n1,n23,n12⟩:=ZG.1 hn;obtain ⟨n2,n3,n4⟩:=ZG.1 n23;exact ⟨kk,f1++f3,ZG.2 ⟨n1,n3,fun x hx y hy=>n12 x hx y (ZU _ hy)⟩,cr.append_iff.2 ⟨f1,f3,I,g1,g3⟩,fun b dK=>hb b (by
  rcases Zz.1 dK with h | h
  ·exact ZF _ h
  ·exact ZU _ (ZU _ h))⟩))
theorem sW:nk mU:=⟨by decide,by decide,by decide⟩
theorem G2:nk gU:=⟨by decide,by decide,by decide⟩
theorem G1:nk iM:=⟨by decide,by decide,by decide⟩
theorem YE:nk EA:=⟨by decide,by decide,by decide⟩
theorem Bu:jv gU:=⟨by decide,by decide,by decide,by decide⟩
theorem Bt:jv iM:=⟨by decide,by decide,by decide,by decide⟩
theorem adA:jv xV:=⟨by decide,by decide,by decide,by decide⟩
theorem YC:jv EA:=⟨by decide,by decide,by decide,by decide⟩
theorem NF {w:World} (v:Int) (so de:ByteArray) (h:RR w r s d t p) (hf:nk r) (e1:Hh r v so de=e) (e2:Eg r v so de=Y):a8 T_ 70 [.agg #[.q (r).lv,.q (r).ma,s,d,t,p],.q v,.string so,.string de] w [] (fun _:Value=>True) (fun x=>.tuple #[x,.q e]) (fun x=>[row 9 1 x Y.length (aR Y)]):=by
 subst e1 e2;exact Y6 v so de h hf
theorem VD {w:World} {Y:List Int} (v:Int) (so de:ByteArray) (h:RR w r s d t p) (hf:nk r) (e1:Nf r v so de=e) (e2:Ip r v so de=Y):a8 T_ 36 [.agg #[.q (r).lv,.q (r).ma,s,d,t,p],.q v,.string so,.string de] w [] (fun _:Value=>True) (fun x=>.tuple #[x,.q e]) (fun x=>[row 3 1 x Y.length (Y.map (Value.int .i64))]):=by
 subst e1 e2;exact aaf v so de h hf
theorem SS {r q:Ro} {k:Tk} {w:World} (e:jY r [k]=(q,0,0)) (h:RR w r s d t p) (hf:nk r) (hv:Rd w v 1 (gi k.so)):a8 T_ 48 [.agg #[.q (r).lv,.q (r).ma,s,d,t,p],.agg #[.string k.de,v]] w [] (fun _:Value×Value×Value×Value=>True) (fun y=>.tuple #[.agg #[.q (q).lv,.q (q).ma,y.1,y.2.1,y.2.2.1,y.2.2.2],.q 0]) (fun y=>vh q y):=by
 have:=Ru (x:=⟨k,v⟩) h hf hv;rw [show (fy.mk k v).tk=k from I,e] at this;exact this
theorem SV {r q:Ro} {i e_:Int} {w:World} (e:jY r (bQ l)=(q,i,e_)) (h:RR w r s d t p) (hf:nk r) (hv:Rd w v 2 (iD l)) (hM:te w l):a8 T_ 45 [.agg #[.q (r).lv,.q (r).ma,s,d,t,p],v] w [] (fun _:Value×Value×Value×Value=>True) (fun y=>.tuple #[.agg #[.q (q).lv,.q (q).ma,y.1,y.2.1,y.2.2.1,y.2.2.2],.q i,.q e_]) (fun y=>vh q y):=by
 have:=BU h hf hv hM;rw [e] at this;exact this
theorem YZ {m:List Tk} {w:World} (e:(jY r (bQ l)).2.2=0) (e2:OE r (bQ l)=m) (h:RR w r s d t p) (hf:nk r) (hv:Rd w v 2 (iD l)) (hM:te w l):a8 T_ 47 [.agg #[.q (r).lv,.q (r).ma,s,d,t,p],v] w [] (fun x:Value×List fy=>bQ x.2=m) (fun x=>.tuple #[x.1,.q 0]) (fun x=>[row 78 2 x.1 x.2.length (iD x.2).flatten,DY x.2]):=by
 have:=NS h hf hv hM;rw [e,e2] at this;exact this
theorem Y3 {w:World} (o:ByteArray) (h:RR w r s d t p) (hf:nk r) (e1:Mo r o=e) (e2:H5 r o=Y):a8 T_ 20 [.agg #[.q (r).lv,.q (r).ma,s,d,t,p],.string o] w [] (fun _:Value=>True) (fun x=>.tuple #[x,.q e]) (fun x=>[row 9 1 x Y.length (aR Y)]):=by
 subst e1 e2;exact VJ o h hf
theorem Y0 {w:World} (v:Int) (o:ByteArray) (h:RR w r s d t p) (hf:nk r) (e1:Kn r v o=e) (e2:Hp r v o=Y):a8 T_ 22 [.agg #[.q (r).lv,.q (r).ma,s,d,t,p],.q v,.string o] w [] (fun _:Value=>True) (fun x=>.tuple #[x,.q e]) (fun x=>[row 9 1 x Y.length (aR Y)]):=by
 subst e1 e2;exact Rs v o h hf
theorem Y4 {w:World} (v:Int) (h:RR w r s d t p) (hf:nk r) (e1:Nw r v=e) (e2:Iy r v=Y):a8 T_ 23 [.agg #[.q (r).lv,.q (r).ma,s,d,t,p],.q v] w [] (fun _:Value=>True) (fun x=>.tuple #[x,.q e]) (fun x=>[row 9 1 x Y.length (aR Y)]):=by
 subst e1 e2;exact VL v h hf
theorem YY {w:World} (v:Int) (o:ByteArray) (h:RR w r s d t p) (hf:nk r) (e1:Kf r v o=e) (e2:Hk r v o=Y):a8 T_ 24 [.agg #[.q (r).lv,.q (r).ma,s,d,t,p],.q v,.string o] w [] (fun _:Value=>True) (fun x=>.tuple #[x,.q e]) (fun x=>[row 9 1 x Y.length (aR Y)]):=by
 subst e1 e2;exact Rr v o h hf
theorem Y2 {r q:Ro} {w:World} {b:Bool} (o:ByteArray) (h:RR w r s d t p) (hf:nk r) (e1:zr r o=0) (e2:zq r o b=q):a8 T_ 78 [.agg #[.q (r).lv,.q (r).ma,s,d,t,p],.string o,.bool b] w [] (fun _:Value×Value×Value×Value=>True) (fun y=>.tuple #[.agg #[.q (q).lv,.q (q).ma,y.1,y.2.1,y.2.2.1,y.2.2.2],.q 0]) (fun y=>vh q y):=by
 have:=DU o b h hf;rw [e1,e2] at this;exact this
theorem NH {l:List gW} {m:List Od} {w:World} (o:ByteArray) (f:Int) (em:cC l=m) (h:RR w r s d t p) (hf:nk r) (e1:oI r m o f=0) (e2:q7 r m o f=Y) (hv:Rd w v 2 (kQ l)) (hM:uQ w l):a8 T_ 64 [.agg #[.q (r).lv,.q (r).ma,s,d,t,p],v,.string o,.q f] w [] (fun _:Value=>True) (fun x=>.tuple #[x,.q 0]) (fun x=>[row 9 1 x Y.length (aR Y)]):=by
 have:=NU o f h hf hv hM;rw [em,e1,e2] at this;exact this
theorem ki (w:World):a8 T_ 105 [] w [] (fun _:Value×Value×Value×Value=>True) (fun x=>.agg #[.q (mU).lv,.q (mU).ma,x.1,x.2.1,x.2.2.1,x.2.2.2]) (fun x=>vh mU x):=QZ w
theorem lK {w:World} (h:RR w r s d t p) (hf:jv r):a8 T_ 57 [.agg #[.q (r).lv,.q (r).ma,s,d,t,p]] w [] (fun _:Value×Value×Value×Value=>True) (fun x=>.agg #[.q (r).lv,.q (r).ma,x.1,x.2.1,x.2.2.1,x.2.2.2]) (fun x=>nQ r x):=Av h hf
theorem me {w:World} (h:RR w r s d t p) (hf:jv r):a8 T_ 21 [.agg #[.q (r).lv,.q (r).ma,s,d,t,p]] w [] (fun _:Value×Value×Value×Value=>True) (fun x=>.agg #[.q (r).lv,.q (r).ma,x.1,x.2.1,x.2.2.1,x.2.2.2]) (fun x=>vh r x):=W4 h hf
theorem SU (w:World):a8 T_ 106 [] w [] (fun _:Option Addr×Nat=>True) (fun x=>.agg #[.string dW,.slice x.1 2 x.2]) (fun x=>[row 9 1 (.slice x.1 2 x.2) 2 (aR oO.so)]):=Vg w
theorem Y1 (w:World):a8 T_ 107 [] w [] (fun _:Option Addr×Nat=>True) (fun x=>.agg #[.string jN,.slice x.1 2 x.2]) (fun x=>[row 9 1 (.slice x.1 2 x.2) 2 (aR VP.so)]):=Vf w
theorem NG (w:World):a8 T_ 108 [] w [] (fun _:Option Addr×Nat=>True) (fun x=>.agg #[.string dW,.slice x.1 2 x.2]) (fun x=>[row 9 1 (.slice x.1 2 x.2) 2 (aR oN.so)]):=Ve w
theorem iR {w:World} {x:fy} (h:Rd w x.v 1 (gi x.tk.so)) (k:te w l):te w (x::l):=fun y hy=>by
 rcases ZS.1 hy with rfl | hy
 ·exact h
 ·exact k y hy
theorem kG (w:World):te w []:=fun _ h=>absurd h Zo
theorem mF {l:List ByteArray} {w:World} (h1:Rd w v1 1 (gi l)) (h2:Rd w v2 1 (gi l)):aj T_ 58 [v1,v2] w (.bool true):=by
 have:=AI h1 h2;rwa [decide_eq_true I] at this
theorem Pa {l:List Int} {w:World} (h1:Rd w v1 1 (ints l)) (h2:Rd w v2 1 (ints l)):aj T_ 109 [v1,v2] w (.bool true):=by
 have:=Pb h1 h2;rwa [decide_eq_true I] at this
theorem twM {w:World} {W:List fy} (hm:Mem c hs w) (ht:Take hs (DY W) hs'):te w W:=fun x hx=>by
 obtain ⟨j,hj,rfl⟩:=Zw hx;have:=hm.wy (j:=j) (v:=W[j].v) (x:=aR W[j].tk.so) ht (by rw [ZE,Zc hj];rfl) (by rw [ZE,Zc hj];rfl);have e:(aR W[j].tk.so).map (fun u=>[u])=gi W[j].tk.so:=by unfold aR gi;rw [ZaE];rfl
 rwa [e] at this
theorem O9 {l m:List fy} {w:World} (h1:Rd w v1 2 (iD l)) (hM1:te w l) (h2:Rd w v2 2 (iD m)) (hM2:te w m) (e:bQ l=bQ m):aj T_ 53 [v1,v2] w (.bool true):=by
 have:=DS h1 hM1 h2 hM2;rwa [decide_eq_true e] at this
theorem Lf {q:List Po} {w:World} (h:RR w r s d t p) (cZ:jv r) (hv:Rd w v 3 (tG q)) (e:r.po=q):aj T_ 110 [.agg #[.q (r).lv,.q (r).ma,s,d,t,p],v] w (.bool true):=by
 have:=Ll h cZ hv;rwa [decide_eq_true e] at this
theorem dX {P:Program} {ty:TypeId} {x y z:Operand} {q:Bool} {v u V:Value} (hx:Is sl x (.bool q)) (hy:Is sl y v) (hz:Is sl z u) (e:(bif q then v else u)=V):di P c sl hs ⟨dst,.pick x y z,ty,pos,af,g⟩ V:=e ▸ vm hx hy hz
theorem abh {w:World} {g:Nat} {x:ByteArray} {E:TypeId} (hm:Mem c hs w) (ht:Take hs (bE g (.cells #[.string x] E fz)) hs'):Rd w (.w g 1 1) 1 (gi [x]):=Mem.dz hm ht I I
theorem abg {w:World} {g:Nat} {x y z:ByteArray} {E:TypeId} (hm:Mem c hs w) (ht:Take hs (bE g (.cells #[.string x,.string y,.string z] E fz)) hs'):Rd w (.w g 3 3) 1 (gi [x,y,z]):=Mem.dz hm ht I I
theorem EG {w:World} {g:Nat} {x y:ByteArray} {E:TypeId} (hm:Mem c hs w) (ht:Take hs (bE g (.cells #[.string x,.string y] E fz)) hs'):Rd w (.w g 2 2) 1 (gi [x,y]):=Mem.dz hm ht I I
theorem EO {w:World} {l:List gW} {E:TypeId} {n:Nat} (hm:Mem c hs w) (ht:Take hs (row E 2 v n (kQ l).flatten) hs') (hn:l.length=n):Rd w v 2 (kQ l):=hm.o9 ht rfl (fun r hr=>by obtain ⟨x,_,rfl⟩:=Zx.1 hr;rfl) (by rw [show (kQ l).length=l.length from Zd _,hn])
theorem nA {w:World} {x:gW} {l:List gW} (h:Rd w x.v 2 (iD x.tk)) (h2:te w x.tk) (k:uQ w l):uQ w (x::l):=fun y hy=>by
 rcases ZS.1 hy with rfl | hy
 ·exact ⟨h,h2⟩
 ·exact k y hy
theorem A5 (w:World):uQ w []:=fun _ h=>absurd h Zo
theorem VC {w:World} (h:RR w mU s d t p):aj T_ 85 [.agg #[.q (mU).lv,.q (mU).ma,s,d,t,p]] w (.tuple #[.string (Lg mU),.q 0]):=by
 have:=Rv h sW;rwa [YK] at this
theorem HE {P:Program} {ty:TypeId} {t u:TypeId} {x y:Operand} {a b:ByteArray} (hx:Is sl x (.string a)) (hy:Is sl y (.string b)) (e:a=b) :
  di P c sl hs ⟨dst,.binOp .eql t x y u,ty,pos,af,g⟩ (.bool true):=by
 have:=dF (P:=P) (c:=c) (hs:=hs) (dst:=dst) (ty:=ty) (pos:=pos) (af:=af) (g:=g) (t:=t) (u:=u) hx hy;rwa [decide_eq_true e] at this
set_option maxRecDepth 20000 in
set_option maxHeartbeats 4000000 in
theorem oo (w:World):aj T_ 17 [] w (.bool true):=by
 refine ah func17 I I ?_;refine Jr<|Ja I<|Ji ?_;refine JN mj I (fun w1 aT=>ki w1) ?_;rintro ⟨s1,d1,t1,p1⟩ _
 try dsimp only [id_eq,Zb,Za]
 refine dH (r:=mU) (s:=s1) (d:=d1) (t:=t1) (p:=p1) (bo _ _) fun m1a m1b m1c m1d=>?_
 skip
 refine JN mi I (fun w1 aT=>NF 0 c7 dW ⟨cG aT (by exact .here) I,cI aT (by exact Take.there .here) I,cF aT bL I,ct aT cX I⟩ sW Sz.1 Sz.2) ?_;rintro x1 _
 try dsimp only [id_eq,Zb,Za]
 refine Jv I<|JJ I I<|JJ I I<|Ja I<|Ja I<|Ji ?_;refine JN mj I (fun w1 aT=>ki w1) ?_;rintro ⟨s2,d2,t2,p2⟩ _
 try dsimp only [id_eq,Zb,Za]
 refine dH (r:=mU) (s:=s2) (d:=d2) (t:=t2) (p:=p2) (bo _ _) fun m2a m2b m2c m2d=>?_
 skip
 refine JN mj I (fun w1 aT=>SU w1) ?_;rintro ⟨ya,yc⟩ _
 try dsimp only [id_eq,Zb,Za]
 skip
 refine JN bb I (fun w1 aT=>SS (k:=oO) YI ⟨cG aT (by exact Take.there .here) I,cI aT bL I,cF aT cX I,ct aT dD I⟩ sW (dS aT (by exact .here) (by exact I))) ?_;rintro ⟨s3,d3,t3,p3⟩ _
 try dsimp only [id_eq,Zb,Za]
 refine dH (r:=gU) (s:=s3) (d:=d3) (t:=t3) (p:=p3) (bo _ _) fun m3a m3b m3c m3d=>?_
 (refine Jv I<|JJ I I<|JJ I I<|Jz I I fun _ _=>ao (.of I) (.of I) .here I I (eF I I m3a m3b m3c m3d) (bz I) ak<|Ja I<|Ji<|ab (cm .here) I ?_)
 rename_i b3 tr;refine dM [JW x1 [nT],bE b3 (.cells #[.q (gU).lv,.q (gU).ma,s3,d3,t3,p3] 41 (0,0)),J1 (gU) s3,J2 (gU) d3,J3 (gU) t3,J4 (gU) p3] (by exact .cons lL (.h5 .nil)) ?_
 skip
 refine JN bM I (fun w1 aT=>lK ⟨cG aT bL I,cI aT cX I,cF aT dD I,ct aT eu I⟩ Bu) ?_;rintro ⟨s4,d4,t4,p4⟩ _
 try dsimp only [id_eq,Zb,Za]
 refine iC (r:=gU) (s:=s4) (d:=d4) (t:=t4) (p:=p4) (bo _ _) fun m4a m4b m4c m4d=>?_
 skip
 refine JN bM I (fun w1 aT=>me ⟨cG aT (by exact .here) I,cI aT (by exact Take.there .here) I,cF aT bL I,ct aT cX I⟩ Bu) ?_;rintro ⟨s5,d5,t5,p5⟩ _
 try dsimp only [id_eq,Zb,Za]
 refine dH (r:=gU) (s:=s5) (d:=d5) (t:=t5) (p:=p5) (bo _ _) fun m5a m5b m5c m5d=>?_
 skip
 refine JN mj I (fun w1 aT=>Y1 w1) ?_;rintro ⟨za,zc⟩ _
 try dsimp only [id_eq,Zb,Za]
 skip
 refine JN bb I (fun w1 aT=>SS (k:=VP) YH ⟨cG aT (by exact Take.there .here) I,cI aT bL I,cF aT cX I,ct aT dD I⟩ G2 (dS aT (by exact .here) (by exact I))) ?_;rintro ⟨s6,d6,t6,p6⟩ _
 try dsimp only [id_eq,Zb,Za]
 refine dH (r:=iM) (s:=s6) (d:=d6) (t:=t6) (p:=p6) (bo _ _) fun m6a m6b m6c m6d=>?_
 (refine Jv I<|JJ I I<|JJ I I<|Jz I I fun _ _=>ao (.of I) (.of I) .here I I (eF I I m6a m6b m6c m6d) (bz I) ak<|Ja I<|Ji<|ab (cm .here) I ?_)
 rename_i b5 Ia;refine dM [JW x1 [nT],bE b3 (.cells #[.q (gU).lv,.q (gU).ma,s3,d3,t3,p3] 41 (0,0)),J1 (gU) s3,J2 (gU) d3,J3 (gU) t3,J4 (gU) p3,bE b5 (.cells #[.q (iM).lv,.q (iM).ma,s6,d6,t6,p6] 41 (0,0)),J1 (iM) s6,J2 (iM) d6,J3 (iM) t6,J4 (iM) p6] (by exact .cons yN (.cons yN (.cons yN (.cons yN (.cons yN (.cons yN (.h5 .nil))))))) ?_
 skip
 refine JN bM I (fun w1 aT=>lK ⟨cG aT tt I,cI aT IF I,cF aT ju I,ct aT lL I⟩ Bt) ?_;rintro ⟨s7,d7,t7,p7⟩ _
 try dsimp only [id_eq,Zb,Za]
 refine iC (r:=iM) (s:=s7) (d:=d7) (t:=t7) (p:=p7) (bo _ _) fun m7a m7b m7c m7d=>?_
 skip
 refine JN bM I (fun w1 aT=>me ⟨cG aT (by exact .here) I,cI aT (by exact Take.there .here) I,cF aT bL I,ct aT cX I⟩ Bt) ?_;rintro ⟨s8,d8,t8,p8⟩ _
 try dsimp only [id_eq,Zb,Za]
 refine dH (r:=iM) (s:=s8) (d:=d8) (t:=t8) (p:=p8) (bo _ _) fun m8a m8b m8c m8d=>?_
 skip
 refine JN mj I (fun w1 aT=>NG w1) ?_;rintro ⟨ua,uc⟩ _
 try dsimp only [id_eq,Zb,Za]
 refine bj (bn (.o I .nil) I I bH bH ak) I (fun _ _=>?_);rename_i g4 hg4;refine bU (g:=g4) (E:=78) (ys:=(iD [⟨oN,.slice ua 2 uc⟩]).flatten) 1 2 (by exact .here) (by exact I) I I ?_;refine JN bb I (fun w1 aT=>SV (l:=[⟨oN,.slice ua 2 uc⟩]) SF ⟨cG aT bL I,cI aT cX I,cF aT dD I,ct aT eu I⟩ G1 (mE aT (by exact .here) (by exact I)) (iR (dS aT (by exact Take.there .here) (by exact I)) (kG _))) ?_;rintro ⟨s9,d9,t9,p9⟩ _
 try dsimp only [id_eq,Zb,Za]
 refine dH (r:=xV) (s:=s9) (d:=d9) (t:=t9) (p:=p9) (bo _ _) fun m9a m9b m9c m9d=>?_
 (refine Jv I<|JJ I I<|JJ I I<|JJ I I<|Jz I I fun _ _=>ao (.of I) (.of I) .here I I (eF I I m9a m9b m9c m9d) (bz I) ak<|Ja I<|Ja I<|Ji<|ab (cm (.there (.there (.there (.there (.there mB)))))) I ?_)
 rename_i b7 Sm;refine dM [JW x1 [nT],bE b3 (.cells #[.q (gU).lv,.q (gU).ma,s3,d3,t3,p3] 41 (0,0)),J1 (gU) s3,J2 (gU) d3,J3 (gU) t3,J4 (gU) p3,bE b5 (.cells #[.q (iM).lv,.q (iM).ma,s6,d6,t6,p6] 41 (0,0)),J1 (iM) s6,J2 (iM) d6,J3 (iM) t6,J4 (iM) p6,bE b7 (.cells #[.q (xV).lv,.q (xV).ma,s9,d9,t9,p9] 41 (0,0)),J1 (xV) s9,J2 (xV) d9,J3 (xV) t9,J4 (xV) p9] (by exact .cons ji (.cons ji (.cons ji (.cons ji (.cons ji (.cons ji (.cons ji (.cons ji (.cons ji (.cons ji (.cons ji (.h5 .nil)))))))))))) ?_
 skip
 refine JN bM I (fun w1 aT=>lK ⟨cG aT tt I,cI aT IF I,cF aT ju I,ct aT lL I⟩ Bt) ?_;rintro ⟨s10,d10,t10,p10⟩ _
 try dsimp only [id_eq,Zb,Za]
 refine iC (r:=iM) (s:=s10) (d:=d10) (t:=t10) (p:=p10) (bo _ _) fun ah4 ah3 ah2 ah1=>?_
 skip
 refine JN bM I (fun w1 aT=>me ⟨cG aT (by exact .here) I,cI aT (by exact Take.there .here) I,cF aT bL I,ct aT cX I⟩ Bt) ?_;rintro ⟨s11,d11,t11,p11⟩ _
 try dsimp only [id_eq,Zb,Za]
 refine dH (r:=iM) (s:=s11) (d:=d11) (t:=t11) (p:=p11) (bo _ _) fun ah0 ahZ ahY ahX=>?_
 skip
 refine JN mj I (fun w1 aT=>NG w1) ?_;rintro ⟨va,vc⟩ _
 try dsimp only [id_eq,Zb,Za]
 refine bj (bn (.o I .nil) I I bH bH ak) I (fun _ _=>?_);rename_i g5 hg5;refine bU (g:=g5) (E:=78) (ys:=(iD [⟨oN,.slice va 2 vc⟩]).flatten) 1 2 (by exact .here) (by exact I) I I ?_;refine JN bb I (fun w1 aT=>YZ (l:=[⟨oN,.slice va 2 vc⟩]) (m:=[oO]) (congrArg (fun x:Ro×Int×Int=>x.2.2) SF) YF ⟨cG aT bL I,cI aT cX I,cF aT dD I,ct aT eu I⟩ G1 (mE aT (by exact .here) (by exact I)) (iR (dS aT (by exact Take.there .here) (by exact I)) (kG _))) ?_;rintro ⟨yO,W⟩ hW
 try dsimp only at hW
 try dsimp only [id_eq,Zb,Za]
 refine Jv I<|JJ I I<|JJ I I<|Ja I<|Ja I<|Ji ?_;refine dM [JW x1 [nT],bE b3 (.cells #[.q (gU).lv,.q (gU).ma,s3,d3,t3,p3] 41 (0,0)),J1 (gU) s3,J2 (gU) d3,J3 (gU) t3,J4 (gU) p3,bE b5 (.cells #[.q (iM).lv,.q (iM).ma,s6,d6,t6,p6] 41 (0,0)),J1 (iM) s6,J2 (iM) d6,J3 (iM) t6,J4 (iM) p6,bE b7 (.cells #[.q (xV).lv,.q (xV).ma,s9,d9,t9,p9] 41 (0,0)),J1 (xV) s9,J2 (xV) d9,J3 (xV) t9,J4 (xV) p9,row 78 2 yO W.length (iD W).flatten,DY W] (by exact .cons kF (.cons kF (.cons kF (.cons kF (.cons kF (.cons kF (.cons kF (.cons kF (.cons kF (.cons kF (.cons kF (.cons kF (.cons kF (.cons kF (.cons kF (.cons kF (.h2 .nil))))))))))))))))) ?_
 skip
 refine JN mj I (fun w1 aT=>ki w1) ?_;rintro ⟨s12,d12,t12,p12⟩ _
 try dsimp only [id_eq,Zb,Za]
 refine dH (r:=mU) (s:=s12) (d:=d12) (t:=t12) (p:=p12) (bo _ _) fun ahW ahV ahU ahT=>?_
 skip
 refine JN mi I (fun w1 aT=>NF 0 ll oJ ⟨cG aT (by exact .here) I,cI aT (by exact Take.there .here) I,cF aT bL I,ct aT cX I⟩ sW Sy.1 Sy.2) ?_;rintro II _
 try dsimp only [id_eq,Zb,Za]
 refine Jv I<|JJ I I<|JJ I I<|Ja I<|Ja I<|Ji ?_;refine JN mj I (fun w1 aT=>ki w1) ?_;rintro ⟨s13,d13,t13,p13⟩ _
 try dsimp only [id_eq,Zb,Za]
 refine dH (r:=mU) (s:=s13) (d:=d13) (t:=t13) (p:=p13) (bo _ _) fun ahS ahR ahQ ahP=>?_
 skip
 refine JN mi I (fun w1 aT=>VD 0 ll oJ ⟨cG aT (by exact .here) I,cI aT (by exact Take.there .here) I,cF aT bL I,ct aT cX I⟩ sW SH.1 SH.2) ?_;rintro S4 _
 try dsimp only [id_eq,Zb,Za]
 refine Jv I<|JJ I I<|JJ I I<|Ja I<|Ja I<|Ji ?_;refine JN mj I (fun w1 aT=>ki w1) ?_;rintro ⟨s14,d14,t14,p14⟩ _
 try dsimp only [id_eq,Zb,Za]
 refine dH (r:=mU) (s:=s14) (d:=d14) (t:=t14) (p:=p14) (bo _ _) fun ahO ahN ahM ahL=>?_;refine bj (aG (.o I .nil) I I I I) I (fun _ _=>?_);rename_i g8 hg8
 with_reducible apply ai
 case hr=>exact DW
 case hd=>rfl
 case hc=>
  intro w1 aT;have:=FI (r:=mU) (s:=s14) (d:=d14) (t:=t14) (p:=p14) (cv:=.w g8 1 1) 0 ll oJ (L:=[0]) (⟨cG aT (by exact Take.there .here) I,cI aT bL I,cF aT cX I,ct aT dD I⟩:RR w1 mU s14 d14 t14 p14) sW (Mem.dz aT (by exact .here) I I);rw [YL] at this;exact this
 refine dM [JW x1 [nT],bE b3 (.cells #[.q (gU).lv,.q (gU).ma,s3,d3,t3,p3] 41 (0,0)),J1 (gU) s3,J2 (gU) d3,J3 (gU) t3,J4 (gU) p3,bE b5 (.cells #[.q (iM).lv,.q (iM).ma,s6,d6,t6,p6] 41 (0,0)),J1 (iM) s6,J2 (iM) d6,J3 (iM) t6,J4 (iM) p6,bE b7 (.cells #[.q (xV).lv,.q (xV).ma,s9,d9,t9,p9] 41 (0,0)),J1 (xV) s9,J2 (xV) d9,J3 (xV) t9,J4 (xV) p9,row 78 2 yO W.length (iD W).flatten,DY W,row 3 1 S4 [(1:Int)].length ([(1:Int)].map (Value.int .i64))] (by exact .cons ji (.cons ji (.cons ji (.cons ji (.cons ji (.cons ji (.cons ji (.cons ji (.cons ji (.cons ji (.cons ji (.cons ji (.cons ji (.cons ji (.cons ji (.cons ji (.cons ji (.cons ji (.cons eu .nil))))))))))))))))))) ?_
 (refine Ja I<|Jn<|Jq<|Jr<|Jv I<|Jv I<|JB I (by omega)<|Jv I<|JB I (by omega)<|Jv I<|JB I (by omega)<|Jv I<|JB I (by omega)<|Jv I<|JB I (by omega)<|JD I<|Jv I<|JK I I<|Jv I<|JK I I<|JD I<|ab (dX (.of I) (.of I) (.of I) I) I<|Jv I<|JK I I<|Jv I<|JK I I<|JD I<|ab (dX (.of I) (.of I) (.of I) I) I<|Jv I<|JK I I<|Jv I<|JK I I<|JD I<|ab (dX (.of I) (.of I) (.of I) I) I<|Jv I<|JK I I<|Jv I<|JK I I<|bj (aG (.o I .nil) I I I I) I fun _ _=>JK I I ?_)
 skip
 rename_i g9a ai4;refine ai bb I (fun w1 aT=>mF (l:=[nT]) (dS aT (by exact Take.there .here) (by exact I)) (Mem.dz aT (by exact .here) I I)) ?_
 (refine JK I I<|JH I<|ab (dX (.of I) (.of I) (.of I) I) I<|Jv I<|JK I I<|Jv I<|JK I I<|bj (aG (.o I .nil) I I I I) I fun _ _=>JK I I ?_)
 rename_i g9b ai3;refine ai bb I (fun w1 aT=>Pa (l:=[1]) (lF aT (.there (.there (.there (.there mB)))) (by exact I)) (Mem.dz aT (by exact .here) I I)) ?_
 (refine JK I I<|JH I<|ab (dX (.of I) (.of I) (.of I) I) I<|Jv I<|JK I I<|Jv I<|JK I I ?_)
 have Og:W.length<=1000:=by
  have h:=congrArg List.length hW;unfold bQ at h;rw [Zd] at h;rw [h];decide
 have hWs:∀ x∈W,x.tk.so.length<=1000:=by
  intro x hx;have h:x.tk∈bQ W:=ZY hx;rw [hW] at h;rw [ZL.1 h];decide
 refine JN bM I (fun w1 aT=>OS (mE aT (.there (.there mB)) (by exact I)) (twM aT (.there (.there (.there mB)))) Og hWs) ?_;rintro ⟨x9,V⟩ hV
 try dsimp only at hV
 try dsimp only [id_eq,Zb,Za]
 (refine JK I I<|bj (aG (.o I (.o I .nil)) I I I I) I fun _ _=>JK I I<|ab (aU (.o I (.o I .nil)) ak) I<|JK I I<|bj (bn (.o I .nil) I I bH bH ak) I fun _ _=>JK I I ?_)
 rename_i g9c ai2 g9d ai1;refine bU (g:=g9d) (E:=69) (ys:=(iD [⟨oO,.w g9c 2 2⟩]).flatten) 1 2 (by exact .here) (by exact I) I I ?_;refine ai bb I (fun w1 aT=>O9 (m:=[⟨oO,.w g9c 2 2⟩]) (mE aT bL (by exact I)) (twM aT cX) (mE aT (by exact .here) (by exact I)) (iR (Mem.dz aT (by exact Take.there .here) I I) (kG _)) (hV.trans (hW.trans I))) ?_
 (refine JK I I<|JH I<|ab (dX (.of I) (.of I) (.of I) I) I<|Jn<|ch (.of I)<|Jk<|Jq<|Jr<|ab (cm tt) I<|ab (aU (.o I (.o I (.o I .nil))) ak) I<|ab (aU (.o I (.o I (.o I .nil))) ak) I<|ab (aU (.o I (.o I (.o I .nil))) ak) I<|ab (aU (.o I (.o I (.o I .nil))) ak) I<|bj (bn (.o I (.o I (.o I (.o I .nil)))) I I bH bH ak) I fun _ _=>?_)
 rename_i adz aeo;refine bU (g:=adz) (E:=180) (ys:=gl pl1) 4 3 (by exact .here) (by exact I) I I ?_;refine ai bb I (fun w1 aT=>Lf (r:=gU) (q:=pl1) ⟨cG aT ju I,cI aT lL I,cF aT u5 I,ct aT kF I⟩ Bu (ct aT (by exact .here) (by exact I)) I) ?_
 (refine JH I<|Jv I<|JK I I<|ab (cm IG) I<|JK I I<|ab (aU (.o I (.o I (.o I .nil))) ak) I<|JK I I<|ab (aU (.o I (.o I (.o I .nil))) ak) I<|JK I I<|ab (aU (.o I (.o I (.o I .nil))) ak) I<|JK I I<|ab (aU (.o I (.o I (.o I .nil))) ak) I<|JK I I<|ab (aU (.o I (.o I (.o I .nil))) ak) I<|JK I I<|bj (bn (.o I (.o I (.o I (.o I (.o I .nil))))) I I bH bH ak) I fun _ _=>JK I I ?_)
 rename_i ady aen;refine bU (g:=ady) (E:=180) (ys:=gl pl2) 5 3 (by exact .here) (by exact I) I I ?_;refine ai bb I (fun w1 aT=>Lf (r:=iM) (q:=pl2) ⟨cG aT ji I,cI aT mB I,cF aT (.there mB) I,ct aT (.there (.there mB)) I⟩ Bt (ct aT (by exact .here) (by exact I)) I) ?_
 (refine JK I I<|JH I<|ab (dX (.of I) (.of I) (.of I) I) I<|Jv I<|JK I I<|ab (cm (.there (.there (.there mB)))) I<|JK I I<|ab (aU (.o I (.o I (.o I .nil))) ak) I<|JK I I<|ab (aU (.o I (.o I (.o I .nil))) ak) I<|JK I I<|ab (aU (.o I (.o I (.o I .nil))) ak) I<|JK I I<|ab (aU (.o I (.o I (.o I .nil))) ak) I<|JK I I<|bj (bn (.o I (.o I (.o I (.o I .nil)))) I I bH bH ak) I fun _ _=>JK I I ?_)
 rename_i adx aem;refine bU (g:=adx) (E:=180) (ys:=gl pl4) 4 3 (by exact .here) (by exact I) I I ?_;refine ai bb I (fun w1 aT=>Lf (r:=xV) (q:=pl4) ⟨cG aT (.there (.there (.there (.there (.there mB))))) I,cI aT (.there (.there (.there (.there (.there (.there mB)))))) I,cF aT (.there (.there (.there (.there (.there (.there (.there mB))))))) I,ct aT (.there (.there (.there (.there (.there (.there (.there (.there mB)))))))) I⟩ adA (ct aT (by exact .here) (by exact I)) I) ?_
 (refine JK I I<|JH I<|ab (dX (.of I) (.of I) (.of I) I) I<|Jn<|ch (.of I)<|Jk<|Jr<|ab (cm ji) I ?_)
 refine dM [bE b3 (.cells #[.q (gU).lv,.q (gU).ma,s3,d3,t3,p3] 41 (0,0)),J1 (gU) s3,J2 (gU) d3,J3 (gU) t3,J4 (gU) p3,bE b5 (.cells #[.q (iM).lv,.q (iM).ma,s6,d6,t6,p6] 41 (0,0)),J1 (iM) s6,J2 (iM) d6,J3 (iM) t6,J4 (iM) p6] (by exact .cons lL (.cons lL (.cons lL (.cons lL (.cons lL (.cons lL (.cons lL (.cons lL (.cons lL (.cons lL .nil)))))))))) ?_;refine JN bM I (fun w1 aT=>lK ⟨cG aT kr I,cI aT tt I,cF aT IF I,ct aT ju I⟩ Bt) ?_;rintro ⟨s15,d15,t15,p15⟩ _
 try dsimp only [id_eq,Zb,Za]
 refine iC (r:=iM) (s:=s15) (d:=d15) (t:=t15) (p:=p15) (bo _ _) fun ahK ahJ ahI ahH=>?_
 skip
 refine JN bM I (fun w1 aT=>me ⟨cG aT (by exact .here) I,cI aT (by exact Take.there .here) I,cF aT bL I,ct aT cX I⟩ Bt) ?_;rintro ⟨s16,d16,t16,p16⟩ _
 try dsimp only [id_eq,Zb,Za]
 refine dH (r:=iM) (s:=s16) (d:=d16) (t:=t16) (p:=p16) (bo _ _) fun ahG ahF ahE ahD=>?_
 skip
 refine JN bb I (fun w1 aT=>Y3 jN ⟨cG aT (by exact .here) I,cI aT (by exact Take.there .here) I,cF aT bL I,ct aT cX I⟩ G1 YJ.1 YJ.2) ?_;rintro Jf _
 try dsimp only [id_eq,Zb,Za]
 refine Jv I<|JJ I I<|JJ I I<|Ja I<|Ja I<|Ji<|ab (cm ju) I ?_;refine dM [bE b3 (.cells #[.q (gU).lv,.q (gU).ma,s3,d3,t3,p3] 41 (0,0)),J1 (gU) s3,J2 (gU) d3,J3 (gU) t3,J4 (gU) p3,bE b5 (.cells #[.q (iM).lv,.q (iM).ma,s6,d6,t6,p6] 41 (0,0)),J1 (iM) s6,J2 (iM) d6,J3 (iM) t6,J4 (iM) p6,row 9 1 Jf ([c7,⟨#[]⟩]:List ByteArray).length (aR [c7,⟨#[]⟩])] (by exact .cons ju (.cons ju (.cons ju (.cons ju (.cons ju (.cons ju (.cons ju (.cons ju (.cons ju (.cons ju (.h1 .nil))))))))))) ?_;refine JN bM I (fun w1 aT=>lK ⟨cG aT (by exact Take.there .here) I,cI aT bL I,cF aT cX I,ct aT dD I⟩ Bu) ?_;rintro ⟨s17,d17,t17,p17⟩ _
 try dsimp only [id_eq,Zb,Za]
 refine iC (r:=gU) (s:=s17) (d:=d17) (t:=t17) (p:=p17) (bo _ _) fun ahC ahB ahA ahz=>?_
 skip
 refine JN bM I (fun w1 aT=>me ⟨cG aT (by exact .here) I,cI aT (by exact Take.there .here) I,cF aT bL I,ct aT cX I⟩ Bu) ?_;rintro ⟨s18,d18,t18,p18⟩ _
 try dsimp only [id_eq,Zb,Za]
 refine dH (r:=gU) (s:=s18) (d:=d18) (t:=t18) (p:=p18) (bo _ _) fun ahy ahx ahw ahv=>?_
 skip
 refine JN ef I (fun w1 aT=>Y0 0 dW ⟨cG aT (by exact .here) I,cI aT (by exact Take.there .here) I,cF aT bL I,ct aT cX I⟩ G2 SB.1 SB.2) ?_;rintro NY _
 try dsimp only [id_eq,Zb,Za]
 refine Jv I<|JJ I I<|JJ I I<|Ja I<|Ja I<|Ji<|ab (cm ju) I ?_;refine dM [bE b3 (.cells #[.q (gU).lv,.q (gU).ma,s3,d3,t3,p3] 41 (0,0)),J1 (gU) s3,J2 (gU) d3,J3 (gU) t3,J4 (gU) p3,bE b5 (.cells #[.q (iM).lv,.q (iM).ma,s6,d6,t6,p6] 41 (0,0)),J1 (iM) s6,J2 (iM) d6,J3 (iM) t6,J4 (iM) p6,row 9 1 Jf ([c7,⟨#[]⟩]:List ByteArray).length (aR [c7,⟨#[]⟩]),row 9 1 NY ([c7,nT,dW]:List ByteArray).length (aR [c7,nT,dW])] (by exact .cons ju (.cons ju (.cons ju (.cons ju (.cons ju (.cons ju (.cons ju (.cons ju (.cons ju (.cons ju (.cons ju (.h1 .nil)))))))))))) ?_;refine JN bM I (fun w1 aT=>lK ⟨cG aT (by exact Take.there .here) I,cI aT bL I,cF aT cX I,ct aT dD I⟩ Bu) ?_;rintro ⟨s19,d19,t19,p19⟩ _
 try dsimp only [id_eq,Zb,Za]
 refine iC (r:=gU) (s:=s19) (d:=d19) (t:=t19) (p:=p19) (bo _ _) fun ahu aht ahs ahr=>?_
 skip
 refine JN bM I (fun w1 aT=>me ⟨cG aT (by exact .here) I,cI aT (by exact Take.there .here) I,cF aT bL I,ct aT cX I⟩ Bu) ?_;rintro ⟨s20,d20,t20,p20⟩ _
 try dsimp only [id_eq,Zb,Za]
 refine dH (r:=gU) (s:=s20) (d:=d20) (t:=t20) (p:=p20) (bo _ _) fun ahq ahp aho ahn=>?_
 skip
 refine JN bb I (fun w1 aT=>Y4 0 ⟨cG aT (by exact .here) I,cI aT (by exact Take.there .here) I,cF aT bL I,ct aT cX I⟩ G2 SI.1 SI.2) ?_;rintro Ox _
 try dsimp only [id_eq,Zb,Za]
 refine Jv I<|JJ I I<|JJ I I<|Ja I<|Ja I<|Ji<|ab (cm yN) I ?_;refine dM [bE b3 (.cells #[.q (gU).lv,.q (gU).ma,s3,d3,t3,p3] 41 (0,0)),J1 (gU) s3,J2 (gU) d3,J3 (gU) t3,J4 (gU) p3,bE b5 (.cells #[.q (iM).lv,.q (iM).ma,s6,d6,t6,p6] 41 (0,0)),J1 (iM) s6,J2 (iM) d6,J3 (iM) t6,J4 (iM) p6,row 9 1 Jf ([c7,⟨#[]⟩]:List ByteArray).length (aR [c7,⟨#[]⟩]),row 9 1 NY ([c7,nT,dW]:List ByteArray).length (aR [c7,nT,dW]),row 9 1 Ox ([nT]:List ByteArray).length (aR [nT])] (by exact .cons ju (.cons ju (.cons ju (.cons ju (.cons ju (.cons ju (.cons ju (.cons ju (.cons ju (.cons ju (.cons ju (.cons ju (.h1 .nil))))))))))))) ?_;refine JN bM I (fun w1 aT=>lK ⟨cG aT kr I,cI aT tt I,cF aT IF I,ct aT ju I⟩ Bt) ?_;rintro ⟨s21,d21,t21,p21⟩ _
 try dsimp only [id_eq,Zb,Za]
 refine iC (r:=iM) (s:=s21) (d:=d21) (t:=t21) (p:=p21) (bo _ _) fun ahm ahl ahk ahj=>?_
 skip
 refine JN bM I (fun w1 aT=>me ⟨cG aT (by exact .here) I,cI aT (by exact Take.there .here) I,cF aT bL I,ct aT cX I⟩ Bt) ?_;rintro ⟨s22,d22,t22,p22⟩ _
 try dsimp only [id_eq,Zb,Za]
 refine dH (r:=iM) (s:=s22) (d:=d22) (t:=t22) (p:=p22) (bo _ _) fun ahi ahh ahg ahf=>?_
 skip
 refine JN ef I (fun w1 aT=>YY 0 c7 ⟨cG aT (by exact .here) I,cI aT (by exact Take.there .here) I,cF aT bL I,ct aT cX I⟩ G1 SA.1 SA.2) ?_;rintro Rx _
 try dsimp only [id_eq,Zb,Za]
 refine Jv I<|JJ I I<|JJ I I<|Ja I<|Ja I<|Ji<|ab (cm ju) I ?_;refine dM [bE b3 (.cells #[.q (gU).lv,.q (gU).ma,s3,d3,t3,p3] 41 (0,0)),J1 (gU) s3,J2 (gU) d3,J3 (gU) t3,J4 (gU) p3,bE b5 (.cells #[.q (iM).lv,.q (iM).ma,s6,d6,t6,p6] 41 (0,0)),J1 (iM) s6,J2 (iM) d6,J3 (iM) t6,J4 (iM) p6,row 9 1 Jf ([c7,⟨#[]⟩]:List ByteArray).length (aR [c7,⟨#[]⟩]),row 9 1 NY ([c7,nT,dW]:List ByteArray).length (aR [c7,nT,dW]),row 9 1 Ox ([nT]:List ByteArray).length (aR [nT]),row 9 1 Rx ([dW,jN]:List ByteArray).length (aR [dW,jN])] (by exact .cons ju (.cons ju (.cons ju (.cons ju (.cons ju (.cons ju (.cons ju (.cons ju (.cons ju (.cons ju (.cons ju (.cons ju (.cons ju (.h1 .nil)))))))))))))) ?_;refine JN bM I (fun w1 aT=>lK ⟨cG aT (by exact Take.there .here) I,cI aT bL I,cF aT cX I,ct aT dD I⟩ Bu) ?_;rintro ⟨s23,d23,t23,p23⟩ _
 try dsimp only [id_eq,Zb,Za]
 refine iC (r:=gU) (s:=s23) (d:=d23) (t:=t23) (p:=p23) (bo _ _) fun ahe ahd ahc ahb=>?_
 skip
 refine JN bM I (fun w1 aT=>me ⟨cG aT (by exact .here) I,cI aT (by exact Take.there .here) I,cF aT bL I,ct aT cX I⟩ Bu) ?_;rintro ⟨s24,d24,t24,p24⟩ _
 try dsimp only [id_eq,Zb,Za]
 refine dH (r:=gU) (s:=s24) (d:=d24) (t:=t24) (p:=p24) (bo _ _) fun aha ag9 ag8 ag7=>?_
 skip
 refine JN ef I (fun w1 aT=>Y2 (b:=true) oJ ⟨cG aT (by exact .here) I,cI aT (by exact Take.there .here) I,cF aT bL I,ct aT cX I⟩ G2 SG.1 SG.2) ?_;rintro ⟨s25,d25,t25,p25⟩ _
 try dsimp only [id_eq,Zb,Za]
 refine dH (r:=EA) (s:=s25) (d:=d25) (t:=t25) (p:=p25) (bo _ _) fun abB abA abz aby=>?_
 (refine Jv I<|JJ I I<|JJ I I<|Jz I I fun _ _=>ao (.of I) (.of I) .here I I (eF I I abB abA abz aby) (bz I) ak<|Ja I<|Ji<|ab (cm .here) I ?_)
 rename_i b25 ajk;refine dM [row 9 1 Jf ([c7,⟨#[]⟩]:List ByteArray).length (aR [c7,⟨#[]⟩]),row 9 1 NY ([c7,nT,dW]:List ByteArray).length (aR [c7,nT,dW]),row 9 1 Ox ([nT]:List ByteArray).length (aR [nT]),row 9 1 Rx ([dW,jN]:List ByteArray).length (aR [dW,jN]),bE b25 (.cells #[.q (EA).lv,.q (EA).ma,s25,d25,t25,p25] 41 (0,0)),J1 (EA) s25,J2 (EA) d25,J3 (EA) t25,J4 (EA) p25] (by exact .cons (.there (.there (.there (.there (.there (.there (.there mB))))))) (.cons (.there (.there (.there (.there (.there (.there (.there mB))))))) (.cons (.there (.there (.there (.there (.there (.there (.there mB))))))) (.cons (.there (.there (.there (.there (.there (.there (.there mB))))))) (.h5 .nil))))) ?_;refine JN bM I (fun w1 aT=>lK ⟨cG aT eu I,cI aT kr I,cF aT tt I,ct aT IF I⟩ YC) ?_;rintro ⟨s26,d26,t26,p26⟩ _
 try dsimp only [id_eq,Zb,Za]
 refine iC (r:=EA) (s:=s26) (d:=d26) (t:=t26) (p:=p26) (bo _ _) fun ag6 ag5 ag4 ag3=>?_
 skip
 refine JN bM I (fun w1 aT=>me ⟨cG aT (by exact .here) I,cI aT (by exact Take.there .here) I,cF aT bL I,ct aT cX I⟩ YC) ?_;rintro ⟨s27,d27,t27,p27⟩ _
 try dsimp only [id_eq,Zb,Za]
 refine dH (r:=EA) (s:=s27) (d:=d27) (t:=t27) (p:=p27) (bo _ _) fun ag2 ag1 ag0 agZ=>?_
 (refine bj (aG (.o I (.o I .nil)) I I I I) I fun _ _=>ab (aU (.o I (.o I .nil)) ak) I<|bj (aG (.o I (.o I .nil)) I I I I) I fun _ _=>ab (aU (.o I (.o I .nil)) ak) I<|bj (bn (.o I (.o I .nil)) I I bH bH ak) I fun _ _=>?_)
 rename_i ga hga gb hgb gc hgc;refine bU (g:=gc) (E:=78) (ys:=(iD [⟨⟨jN,[⟨#[45]⟩,⟨#[]⟩]⟩,.w ga 2 2⟩,⟨⟨oJ,[c7,c7]⟩,.w gb 2 2⟩]).flatten) 2 2 (by exact .here) (by exact I) I I ?_;refine JN bb I (fun w1 aT=>SV (q:=(jY EA [⟨jN,[⟨#[45]⟩,⟨#[]⟩]⟩,⟨oJ,[c7,c7]⟩]).1) (i:=1) (e_:=31) (l:=[⟨⟨jN,[⟨#[45]⟩,⟨#[]⟩]⟩,.w ga 2 2⟩,⟨⟨oJ,[c7,c7]⟩,.w gb 2 2⟩]) (Prod.ext I YG) ⟨cG aT cX I,cI aT dD I,cF aT eu I,ct aT kr I⟩ YE (mE aT (by exact .here) (by exact I)) (iR (EG (g:=ga) (x:=⟨#[45]⟩) (y:=⟨#[]⟩) aT bL) (iR (EG (g:=gb) (x:=⟨#[99,97,109]⟩) (y:=⟨#[99,97,109]⟩) aT (by exact Take.there .here)) (kG _)))) ?_;rintro ⟨s28,d28,t28,p28⟩ _
 try dsimp only [id_eq,Zb,Za]
 refine dH (r:=(jY EA [⟨jN,[⟨#[45]⟩,⟨#[]⟩]⟩,⟨oJ,[c7,c7]⟩]).1) (s:=s28) (d:=d28) (t:=t28) (p:=p28) (bo _ _) fun abx abw abv abu=>?_
 (refine Jv I<|JJ I I<|JJ I I<|JJ I I<|Jz I I fun _ _=>ao (.of I) (.of I) .here I I (eF I I abx abw abv abu) (bz I) ak<|Ja I<|Ja I<|Ji ?_)
 refine dM [row 9 1 Jf ([c7,⟨#[]⟩]:List ByteArray).length (aR [c7,⟨#[]⟩]),row 9 1 NY ([c7,nT,dW]:List ByteArray).length (aR [c7,nT,dW]),row 9 1 Ox ([nT]:List ByteArray).length (aR [nT]),row 9 1 Rx ([dW,jN]:List ByteArray).length (aR [dW,jN])] (by exact .cons mB (.cons mB (.cons mB (.cons mB .nil)))) ?_;refine JN mj I (fun w1 aT=>SU w1) ?_;rintro ⟨ya,yc⟩ _
 try dsimp only [id_eq,Zb,Za]
 (refine bj (bn (.o I .nil) I I bH bH ak) I fun _ _=>ab (aU (.o I (.o I .nil)) ak) I ?_)
 rename_i ge Mt;refine JN mj I (fun w1 aT=>NG w1) ?_;rintro ⟨ua,uc⟩ _
 try dsimp only [id_eq,Zb,Za]
 (refine bj (bn (.o I .nil) I I bH bH ak) I fun _ _=>ab (aU (.o I (.o I .nil)) ak) I<|bj (bn (.o I (.o I .nil)) I I bH bH ak) I fun _ _=>Ja I<|Ji ?_)
 rename_i gf hgf gg hgg;refine bU (g:=ge) (E:=78) (ys:=(iD [⟨oO,.slice ya 2 yc⟩]).flatten) 1 2 cX (by exact I) I I ?_;refine bU (g:=gf) (E:=78) (ys:=(iD [⟨oN,.slice ua 2 uc⟩]).flatten) 1 2 bL (by exact I) I I ?_;refine bU (g:=gg) (E:=182) (ys:=(kQ [⟨10,[⟨oO,.slice ya 2 yc⟩],.w ge 1 1⟩,⟨12,[⟨oN,.slice ua 2 uc⟩],.w gf 1 1⟩]).flatten) 2 2 bL (by exact I) I I ?_;refine dM [row 9 1 Jf ([c7,⟨#[]⟩]:List ByteArray).length (aR [c7,⟨#[]⟩]),row 9 1 NY ([c7,nT,dW]:List ByteArray).length (aR [c7,nT,dW]),row 9 1 Ox ([nT]:List ByteArray).length (aR [nT]),row 9 1 Rx ([dW,jN]:List ByteArray).length (aR [dW,jN]),row 182 2 (.w gg 2 2) 2 (kQ [⟨10,[⟨oO,.slice ya 2 yc⟩],.w ge 1 1⟩,⟨12,[⟨oN,.slice ua 2 uc⟩],.w gf 1 1⟩]).flatten,row 78 2 (.w ge 1 1) 1 (iD [⟨oO,.slice ya 2 yc⟩]).flatten,row 78 2 (.w gf 1 1) 1 (iD [⟨oN,.slice ua 2 uc⟩]).flatten,row 9 1 (.slice ya 2 yc) 2 (aR oO.so),row 9 1 (.slice ua 2 uc) 2 (aR oN.so)] (by exact .cons eu (.cons eu (.cons eu (.cons eu (.h1 (.cons (.there .here) (.h1 (.cons (.there .here) (.h1 .nil))))))))) ?_
 skip
 refine JN mj I (fun w1 aT=>ki w1) ?_;rintro ⟨s29,d29,t29,p29⟩ _
 try dsimp only [id_eq,Zb,Za]
 refine dH (r:=mU) (s:=s29) (d:=d29) (t:=t29) (p:=p29) (bo _ _) fun agY agX agW agV=>?_;refine PU I I ?_;refine JN mi I (fun w1 aT=>NH (l:=[⟨10,[⟨oO,.slice ya 2 yc⟩],.w ge 1 1⟩,⟨12,[⟨oN,.slice ua 2 uc⟩],.w gf 1 1⟩]) (m:=[⟨10,[oO]⟩,⟨12,[oN]⟩]) dW 9 I ⟨cG aT (by exact .here) I,cI aT (by exact Take.there .here) I,cF aT bL I,ct aT cX I⟩ sW SE.1 SE.2 (EO aT IF (by exact I)) (nA (mE aT ju (by exact I)) (iR (dS aT u5 (by exact I)) (kG _)) (nA (mE aT lL (by exact I)) (iR (dS aT kF (by exact I)) (kG _)) (A5 _)))) ?_;rintro x31 _
 try dsimp only [id_eq,Zb,Za]
 refine Jv I<|JJ I I<|JJ I I<|Ja I<|Ja I<|Ji ?_;refine dM [row 9 1 Jf ([c7,⟨#[]⟩]:List ByteArray).length (aR [c7,⟨#[]⟩]),row 9 1 NY ([c7,nT,dW]:List ByteArray).length (aR [c7,nT,dW]),row 9 1 Ox ([nT]:List ByteArray).length (aR [nT]),row 9 1 Rx ([dW,jN]:List ByteArray).length (aR [dW,jN]),row 182 2 (.w gg 2 2) 2 (kQ [⟨10,[⟨oO,.slice ya 2 yc⟩],.w ge 1 1⟩,⟨12,[⟨oN,.slice ua 2 uc⟩],.w gf 1 1⟩]).flatten,row 78 2 (.w ge 1 1) 1 (iD [⟨oO,.slice ya 2 yc⟩]).flatten,row 78 2 (.w gf 1 1) 1 (iD [⟨oN,.slice ua 2 uc⟩]).flatten,row 9 1 (.slice ya 2 yc) 2 (aR oO.so),row 9 1 (.slice ua 2 uc) 2 (aR oN.so),row 9 1 x31 ([⟨#[]⟩,⟨#[]⟩]:List ByteArray).length (aR [⟨#[]⟩,⟨#[]⟩])] (by exact .cons eu (.cons eu (.cons eu (.cons eu (.cons eu (.cons eu (.cons eu (.cons eu (.cons eu (.h1 .nil)))))))))) ?_
 skip
 refine JN mj I (fun w1 aT=>ki w1) ?_;rintro ⟨s30,d30,t30,p30⟩ _
 try dsimp only [id_eq,Zb,Za]
 refine dH (r:=mU) (s:=s30) (d:=d30) (t:=t30) (p:=p30) (bo _ _) fun agU agT agS agR=>?_;refine PU I I ?_;refine JN mi I (fun w1 aT=>NH (l:=[⟨10,[⟨oO,.slice ya 2 yc⟩],.w ge 1 1⟩,⟨12,[⟨oN,.slice ua 2 uc⟩],.w gf 1 1⟩]) (m:=[⟨10,[oO]⟩,⟨12,[oN]⟩]) dW 11 I ⟨cG aT (by exact .here) I,cI aT (by exact Take.there .here) I,cF aT bL I,ct aT cX I⟩ sW SD.1 SD.2 (EO aT IF (by exact I)) (nA (mE aT ju (by exact I)) (iR (dS aT u5 (by exact I)) (kG _)) (nA (mE aT lL (by exact I)) (iR (dS aT kF (by exact I)) (kG _)) (A5 _)))) ?_;rintro x33 _
 try dsimp only [id_eq,Zb,Za]
 refine Jv I<|JJ I I<|JJ I I<|Ja I<|Ja I<|Ji ?_;refine dM [row 9 1 Jf ([c7,⟨#[]⟩]:List ByteArray).length (aR [c7,⟨#[]⟩]),row 9 1 NY ([c7,nT,dW]:List ByteArray).length (aR [c7,nT,dW]),row 9 1 Ox ([nT]:List ByteArray).length (aR [nT]),row 9 1 Rx ([dW,jN]:List ByteArray).length (aR [dW,jN]),row 182 2 (.w gg 2 2) 2 (kQ [⟨10,[⟨oO,.slice ya 2 yc⟩],.w ge 1 1⟩,⟨12,[⟨oN,.slice ua 2 uc⟩],.w gf 1 1⟩]).flatten,row 78 2 (.w ge 1 1) 1 (iD [⟨oO,.slice ya 2 yc⟩]).flatten,row 78 2 (.w gf 1 1) 1 (iD [⟨oN,.slice ua 2 uc⟩]).flatten,row 9 1 (.slice ya 2 yc) 2 (aR oO.so),row 9 1 (.slice ua 2 uc) 2 (aR oN.so),row 9 1 x31 ([⟨#[]⟩,⟨#[]⟩]:List ByteArray).length (aR [⟨#[]⟩,⟨#[]⟩]),row 9 1 x33 ([c7,c7]:List ByteArray).length (aR [c7,c7])] (by exact .cons eu (.cons eu (.cons eu (.cons eu (.cons eu (.cons eu (.cons eu (.cons eu (.cons eu (.cons eu (.h1 .nil))))))))))) ?_
 skip
 refine JN mj I (fun w1 aT=>ki w1) ?_;rintro ⟨s31,d31,t31,p31⟩ _
 try dsimp only [id_eq,Zb,Za]
 refine dH (r:=mU) (s:=s31) (d:=d31) (t:=t31) (p:=p31) (bo _ _) fun agQ agP agO agN=>?_;refine PU I I ?_;refine JN mi I (fun w1 aT=>NH (l:=[⟨10,[⟨oO,.slice ya 2 yc⟩],.w ge 1 1⟩,⟨12,[⟨oN,.slice ua 2 uc⟩],.w gf 1 1⟩]) (m:=[⟨10,[oO]⟩,⟨12,[oN]⟩]) dW 12 I ⟨cG aT (by exact .here) I,cI aT (by exact Take.there .here) I,cF aT bL I,ct aT cX I⟩ sW SC.1 SC.2 (EO aT IF (by exact I)) (nA (mE aT ju (by exact I)) (iR (dS aT u5 (by exact I)) (kG _)) (nA (mE aT lL (by exact I)) (iR (dS aT kF (by exact I)) (kG _)) (A5 _)))) ?_;rintro x35 _
 try dsimp only [id_eq,Zb,Za]
 refine Jv I<|JJ I I<|JJ I I<|Ja I<|Ja I<|Ji ?_;refine dM [row 9 1 Jf ([c7,⟨#[]⟩]:List ByteArray).length (aR [c7,⟨#[]⟩]),row 9 1 NY ([c7,nT,dW]:List ByteArray).length (aR [c7,nT,dW]),row 9 1 Ox ([nT]:List ByteArray).length (aR [nT]),row 9 1 Rx ([dW,jN]:List ByteArray).length (aR [dW,jN]),row 182 2 (.w gg 2 2) 2 (kQ [⟨10,[⟨oO,.slice ya 2 yc⟩],.w ge 1 1⟩,⟨12,[⟨oN,.slice ua 2 uc⟩],.w gf 1 1⟩]).flatten,row 78 2 (.w ge 1 1) 1 (iD [⟨oO,.slice ya 2 yc⟩]).flatten,row 78 2 (.w gf 1 1) 1 (iD [⟨oN,.slice ua 2 uc⟩]).flatten,row 9 1 (.slice ya 2 yc) 2 (aR oO.so),row 9 1 (.slice ua 2 uc) 2 (aR oN.so),row 9 1 x31 ([⟨#[]⟩,⟨#[]⟩]:List ByteArray).length (aR [⟨#[]⟩,⟨#[]⟩]),row 9 1 x33 ([c7,c7]:List ByteArray).length (aR [c7,c7]),row 9 1 x35 ([ll,ll]:List ByteArray).length (aR [ll,ll])] (by exact .cons eu (.cons eu (.cons eu (.cons eu (.cons eu (.cons eu (.cons eu (.cons eu (.cons eu (.cons eu (.cons eu (.h1 .nil)))))))))))) ?_;refine JN mj I (fun w1 aT=>ki w1) ?_;rintro ⟨s32,d32,t32,p32⟩ _
 try dsimp only [id_eq,Zb,Za]
 refine dH (r:=mU) (s:=s32) (d:=d32) (t:=t32) (p:=p32) (bo _ _) fun agM agL agK agJ=>?_
 skip
 refine ai bM I (fun w1 aT=>VC ⟨cG aT (by exact .here) I,cI aT (by exact Take.there .here) I,cF aT bL I,ct aT cX I⟩) ?_;refine dM [row 9 1 Jf ([c7,⟨#[]⟩]:List ByteArray).length (aR [c7,⟨#[]⟩]),row 9 1 NY ([c7,nT,dW]:List ByteArray).length (aR [c7,nT,dW]),row 9 1 Ox ([nT]:List ByteArray).length (aR [nT]),row 9 1 Rx ([dW,jN]:List ByteArray).length (aR [dW,jN]),row 9 1 x31 ([⟨#[]⟩,⟨#[]⟩]:List ByteArray).length (aR [⟨#[]⟩,⟨#[]⟩]),row 9 1 x33 ([c7,c7]:List ByteArray).length (aR [c7,c7]),row 9 1 x35 ([ll,ll]:List ByteArray).length (aR [ll,ll])] (by exact .cons dD (.cons dD (.cons dD (.cons dD (.cons ju (.cons ju (.cons ju .nil))))))) ?_;refine Jv I<|JJ I I<|JJ I I<|Ja I<|Ja I<|Ji ?_;simp only [Zb,Za,List.append_eq,List.append]
 (refine Jv I<|Jv I<|JB I (by omega)<|Jv I<|JB I (by omega)<|Jv I<|JB I (by omega)<|Jv I<|JB I (by omega)<|Jv I<|JB I (by omega)<|Jv I<|JB I (by omega)<|Jv I<|JB I (by omega)<|Jv I<|JB I (by omega)<|JC I<|Jv I<|JK I I<|Jv I<|JK I I<|JC I<|ab (dX (.of I) (.of I) (.of I) I) I<|Jv I<|JK I I<|Jv I<|JK I I<|JC I<|ab (dX (.of I) (.of I) (.of I) I) I<|Jv I<|JK I I<|Jv I<|JK I I<|bj (aG (.o I (.o I .nil)) I I I I) I fun _ _=>JK I I ?_)
 rename_i gz0 aiX;refine ai bb I (fun w1 aT=>mF (l:=[c7,⟨#[]⟩]) (dS aT (by exact Take.there .here) (by exact I)) (EG (g:=gz0) (x:=⟨#[99,97,109]⟩) (y:=⟨#[]⟩) aT (by exact .here))) ?_
 (refine ab (dX (.of I) (.of I) (.of I) I) I<|Jv I<|JK I I<|Jv I<|JK I I<|bj (aG (.o I (.o I (.o I .nil))) I I I I) I fun _ _=>JK I I ?_)
 rename_i gz1 aiW;refine ai bb I (fun w1 aT=>mF (l:=[c7,nT,dW]) (dS aT cX (by exact I)) (abg (g:=gz1) (x:=⟨#[99,97,109]⟩) (y:=⟨#[116]⟩) (z:=⟨#[97,105,114]⟩) aT (by exact .here))) ?_
 (refine ab (dX (.of I) (.of I) (.of I) I) I<|Jv I<|JK I I<|Jv I<|JK I I<|bj (aG (.o I .nil) I I I I) I fun _ _=>JK I I ?_)
 rename_i gz2 aiV;refine ai bb I (fun w1 aT=>mF (l:=[nT]) (dS aT eu (by exact I)) (abh (g:=gz2) (x:=⟨#[116]⟩) aT (by exact .here))) ?_
 (refine ab (dX (.of I) (.of I) (.of I) I) I<|Jv I<|JK I I<|Jv I<|JK I I<|bj (aG (.o I (.o I .nil)) I I I I) I fun _ _=>JK I I ?_)
 rename_i gz3 aiU;refine ai bb I (fun w1 aT=>mF (l:=[dW,jN]) (dS aT tt (by exact I)) (EG (g:=gz3) (x:=⟨#[97,105,114]⟩) (y:=⟨#[114,101,99]⟩) aT (by exact .here))) ?_
 (refine ab (dX (.of I) (.of I) (.of I) I) I<|Jv I<|JK I I<|Jv I<|JK I I<|bj (aG (.o I (.o I .nil)) I I I I) I fun _ _=>JK I I ?_)
 rename_i gz4 aiT;refine ai bb I (fun w1 aT=>mF (l:=[⟨#[]⟩,⟨#[]⟩]) (dS aT ju (by exact I)) (EG (g:=gz4) (x:=⟨#[]⟩) (y:=⟨#[]⟩) aT (by exact .here))) ?_
 (refine ab (dX (.of I) (.of I) (.of I) I) I<|Jv I<|JK I I<|Jv I<|JK I I<|bj (aG (.o I (.o I .nil)) I I I I) I fun _ _=>JK I I ?_)
 rename_i gz5 aiS;refine ai bb I (fun w1 aT=>mF (l:=[c7,c7]) (dS aT u5 (by exact I)) (EG (g:=gz5) (x:=⟨#[99,97,109]⟩) (y:=⟨#[99,97,109]⟩) aT (by exact .here))) ?_
 (refine ab (dX (.of I) (.of I) (.of I) I) I<|Jv I<|JK I I<|Jv I<|JK I I<|bj (aG (.o I (.o I .nil)) I I I I) I fun _ _=>JK I I ?_)
 rename_i gz6 aiR;refine ai bb I (fun w1 aT=>mF (l:=[ll,ll]) (dS aT IG (by exact I)) (EG (g:=gz6) (x:=⟨#[118,116,114]⟩) (y:=⟨#[118,116,114]⟩) aT (by exact .here))) ?_
 (refine ab (dX (.of I) (.of I) (.of I) I) I<|Jv I<|JK I I<|Jv I<|JK I I<|ab (HE (.of I) (.of I) Vd) I<|ab (dX (.of I) (.of I) (.of I) I) I<|Ja I<|Jn<|Je<|JT ?_)
 rfl
end Go.Proofs.A1
namespace Go.Proofs.A1
open Go Go.SL Go.ChangeShapes Go.WideShapes Go.Deep Go.Joins
open Tryz
open Tryz renaming prog->T_
section
variable {H:Type} {enc:TypeId×Value->H} {w:World}
theorem laidOut:laidOutB T_=true:=by kernel_rfl
theorem TV:ownKnob prog.godebug=none:=by kernel_rfl
theorem NR {b o n:Nat}:Addr.add ⟨b,o,none⟩ n=⟨b,o+n,none⟩:=eM b o n
theorem q6 {T:TypeId} (Qo:prog.readableRec T=true) (hrow:T<prog.types.size) {W W':World} {sp':Nat->Bool} {n:Nat} {cs:List Value} {x:DataW H×List MemPlace} (h:DataW.trod enc T_ W 0 (fun _=>true) true n T cs=some x)
  (Mh:∀ p∈x.2,W.sameAt W' p) (hs:∀ p∈x.2,sp' p.block=true):DataW.trod enc T_ W' 0 sp' true n T cs=some x:=
 DataW.trod_stays (kids_book laidOut Qo) (book_sized Qo) (fun h=>by cases h) ⟨hrow,book_self T⟩ h Mh hs
theorem rj {α:Type} [Inhabited α] {Q:α->Prop} {T E:TypeId} {sz:Nat} {cells:α->List Value} (hu:prog.underlying T=some (.slice E)) (hsz:prog.cellsOf E=sz) (h0:0<sz) (hlen:∀ a,(cells a).length=sz)
  (hE:∀ (n:Nat) (cs:List Value) (x:DataW H×List MemPlace),DataW.trod enc T_ w 0 (fun _=>true) true n E cs=some x->∃ e:α,cs=cells e/\Q e)
  {n:Nat} {v:Value} {y:DataW H×List MemPlace} (h:DataW.trod enc T_ w 0 (fun _=>true) true n T [v]=some y):∃ l:List α,Rd w v sz (l.map cells)/\∀ x∈l,Q x:=by
 rcases open_slice hu h with ⟨e,_⟩ | ⟨a,len,cap,m,n',D,Pl,Sh,_,hl,hm,hmm,_,hi⟩
 ·simp only [List.cons.injEq,and_true] at e;subst e;exact ⟨[],Rd.nil w sz,fun _ h=>absurd h Zo⟩
 ·simp only [List.cons.injEq,and_true] at Sh;subst Sh;rw [hsz] at hi;have V2:m=cap:=by simpa using hmm
  have hE:∀ i,i<len->∃ e:α,(∀ j,j<sz->w.cell? (a.add (i*sz+j))=(cells e)[j]?)/\Q e:=fun i jO=>by
   obtain ⟨SP,hc,ht⟩:=hi i (by omega);obtain ⟨_,jq,iy⟩:=World.cells?_some hc;obtain ⟨e,rfl,hq⟩:=hE _ _ _ ht;exact ⟨e,fun j hj=>by rw [<- Go.Deep.add_add];exact iy j hj,hq⟩
  let S:Nat->α:=fun i=>if jO:i<len then (hE i jO).choose else default
  have hS:∀ i j,i<len->j<sz->w.cell? (a.add (i*sz+j))=(cells (S i))[j]?:=fun i j jO hj=>by
   have:=(hE i jO).choose_spec.1 j hj;simpa only [S,dif_pos jO] using this
  have hQ:∀ i,i<len->Q (S i):=fun i jO=>by
   have:=(hE i jO).choose_spec.2;simpa only [S,dif_pos jO] using this
  have xb:(((List.range len).map S).map cells).length=len:=by simp
  refine ⟨(List.range len).map S,?_,fun x hx=>by
   obtain ⟨i,hi,rfl⟩:=Zx.1 hx;exact hQ i (ZW.1 hi)⟩
  by_cases hz:len=0
  ·subst hz;exact ⟨some a,cap,0,0,by rw [xb],by rw [xb];omega,hm,fun hne=>absurd (Zas.1 xb) hne,fun i r hr=>by
    have:=(Zn.1 hr).1;rw [xb] at this;omega⟩
  ·obtain ⟨b,off,spot⟩:=a;have Xr:spot=none:=by
    have h1:=hS 0 0 (by omega) h0;rw [Zc (by rw [hlen];exact h0)] at h1;simpa [Addr.add] using World.cell?_spot h1
   subst Xr;refine ⟨some ⟨b,off,none⟩,cap,b,off,by rw [xb],by rw [xb];exact hl,hm,fun _=>rfl,fun i r hr=>?_⟩;have jO:i<len:=by
    have:=(Zn.1 hr).1;rwa [xb] at this
   have N8:r=cells (S i):=by
    simp [jO] at hr;exact hr.symm
   subst N8;refine ⟨hlen _,fun j u hu=>?_⟩;have hj:j<sz:=by
    have:=(Zn.1 hu).1;rwa [hlen] at this
   have:=hS i j jO hj;rw [NR,hu] at this;rw [Nat.add_assoc];exact this
theorem ny {α:Type} [Inhabited α] {T E:TypeId} {sz:Nat} {cells:α->List Value} (hu:prog.underlying T=some (.slice E)) (hsz:prog.cellsOf E=sz) (h0:0<sz) (hlen:∀ a,(cells a).length=sz)
  (hE:∀ (n:Nat) (cs:List Value) (x:DataW H×List MemPlace),DataW.trod enc T_ w 0 (fun _=>true) true n E cs=some x->∃ e:α,cs=cells e)
  {n:Nat} {v:Value} {y:DataW H×List MemPlace} (h:DataW.trod enc T_ w 0 (fun _=>true) true n T [v]=some y):∃ l:List α,Rd w v sz (l.map cells):=by
 obtain ⟨l,hl,_⟩:=rj (Q:=fun _=>True) hu hsz h0 hlen (fun n cs x h=>by obtain ⟨e,he⟩:=hE n cs x h;exact ⟨e,he,trivial⟩) h;exact ⟨l,hl⟩
theorem LQ {α:Type}:∀ {l:List α},l.length=2->∃ a0 a1,l=[a0,a1]
 | [a0,a1],_=>⟨a0,a1,rfl⟩
theorem Gy {α:Type}:∀ {l:List α},l.length=3->∃ a0 a1 a2,l=[a0,a1,a2]
 | [a0,a1,a2],_=>⟨a0,a1,a2,rfl⟩
theorem Xc {α:Type}:∀ {l:List α},l.length=6->∃ a0 a1 a2 a3 a4 a5,l=[a0,a1,a2,a3,a4,a5]
 | [a0,a1,a2,a3,a4,a5],_=>⟨a0,a1,a2,a3,a4,a5,rfl⟩
theorem YT:prog.cellsOf 118=2:=by kernel_rfl
theorem c9:prog.cellsOf 9=1:=by kernel_rfl
theorem c3:prog.cellsOf 3=1:=by kernel_rfl
variable {cs:List Value} {n:Nat} {v:Value} {x:DataW H×List MemPlace}
theorem Ns (h:DataW.trod enc T_ w 0 (fun _=>true) true n 118 cs=some x):∃ (a0:ByteArray) (a1:Int),cs=[.string a0,.q a1]:=by
 obtain ⟨ys,n0,_,_,hlen,E0,hf⟩:=DataW.trod_struct underlying118 h;rw [YT] at hlen;have EZ:ys.length=2:=E0;obtain ⟨k0,k1,rfl⟩:=LQ hlen;have f0:DataW.trod enc T_ w 0 (fun _=>true) true n0 9 (List.take (prog.cellsOf 9) (List.drop 0 [k0,k1]))=ys[0]?:=hf 0 _ I
 rw [c9,Zc (by omega)] at f0;obtain ⟨b0,e0,_,_⟩:=DataW.trod_string underlying9 f0;simp at e0;have f1:DataW.trod enc T_ w 0 (fun _=>true) true n0 3 (List.take (prog.cellsOf 3) (List.drop 1 [k0,k1]))=ys[1]?:=hf 1 _ I
 rw [c3,Zc (by omega)] at f1;obtain ⟨b1,e1,_,_⟩:=DataW.trod_int underlying3 f1;simp at e1;subst e0 e1;exact ⟨b0,b1,I⟩
theorem c88:prog.cellsOf 88=3:=by kernel_rfl
theorem c4:prog.cellsOf 4=1:=by kernel_rfl
theorem Rg (h:DataW.trod enc T_ w 0 (fun _=>true) true n 88 cs=some x):∃ (a0:ByteArray) (a1:Int) (a2:Bool),cs=[.string a0,.q a1,.bool a2]:=by
 obtain ⟨ys,n0,_,_,hlen,E0,hf⟩:=DataW.trod_struct underlying88 h;rw [c88] at hlen;have EZ:ys.length=3:=E0;obtain ⟨k0,k1,k2,rfl⟩:=Gy hlen;have f0:DataW.trod enc T_ w 0 (fun _=>true) true n0 9 (List.take (prog.cellsOf 9) (List.drop 0 [k0,k1,k2]))=ys[0]?:=hf 0 _ I
 rw [c9,Zc (by omega)] at f0;obtain ⟨b0,e0,_,_⟩:=DataW.trod_string underlying9 f0;simp at e0;have f1:DataW.trod enc T_ w 0 (fun _=>true) true n0 3 (List.take (prog.cellsOf 3) (List.drop 1 [k0,k1,k2]))=ys[1]?:=hf 1 _ I
 rw [c3,Zc (by omega)] at f1;obtain ⟨b1,e1,_,_⟩:=DataW.trod_int underlying3 f1;simp at e1;have f2:DataW.trod enc T_ w 0 (fun _=>true) true n0 4 (List.take (prog.cellsOf 4) (List.drop 2 [k0,k1,k2]))=ys[2]?:=hf 2 _ I
 rw [c4,Zc (by omega)] at f2;obtain ⟨b2,e2,_⟩:=DataW.trod_bool underlying4 f2;simp at e2;subst e0 e1 e2;exact ⟨b0,b1,b2,I⟩
theorem YS:prog.cellsOf 122=3:=by kernel_rfl
theorem Nr (h:DataW.trod enc T_ w 0 (fun _=>true) true n 122 cs=some x):∃ (a0:ByteArray) (a1:Int) (a2:Int),cs=[.string a0,.q a1,.q a2]:=by
 obtain ⟨ys,n0,_,_,hlen,E0,hf⟩:=DataW.trod_struct underlying122 h;rw [YS] at hlen;have EZ:ys.length=3:=E0;obtain ⟨k0,k1,k2,rfl⟩:=Gy hlen;have f0:DataW.trod enc T_ w 0 (fun _=>true) true n0 9 (List.take (prog.cellsOf 9) (List.drop 0 [k0,k1,k2]))=ys[0]?:=hf 0 _ I
 rw [c9,Zc (by omega)] at f0;obtain ⟨b0,e0,_,_⟩:=DataW.trod_string underlying9 f0;simp at e0;have f1:DataW.trod enc T_ w 0 (fun _=>true) true n0 3 (List.take (prog.cellsOf 3) (List.drop 1 [k0,k1,k2]))=ys[1]?:=hf 1 _ I
 rw [c3,Zc (by omega)] at f1;obtain ⟨b1,e1,_,_⟩:=DataW.trod_int underlying3 f1;simp at e1;have f2:DataW.trod enc T_ w 0 (fun _=>true) true n0 3 (List.take (prog.cellsOf 3) (List.drop 2 [k0,k1,k2]))=ys[2]?:=hf 2 _ I
 rw [c3,Zc (by omega)] at f2;obtain ⟨b2,e2,_,_⟩:=DataW.trod_int underlying3 f2;simp at e2;subst e0 e1 e2;exact ⟨b0,b1,b2,I⟩
theorem YR:prog.cellsOf 180=3:=by kernel_rfl
theorem Nq (h:DataW.trod enc T_ w 0 (fun _=>true) true n 180 cs=some x):∃ (a0:Int) (a1:ByteArray) (a2:ByteArray),cs=[.q a0,.string a1,.string a2]:=by
 obtain ⟨ys,n0,_,_,hlen,E0,hf⟩:=DataW.trod_struct underlying180 h;rw [YR] at hlen;have EZ:ys.length=3:=E0;obtain ⟨k0,k1,k2,rfl⟩:=Gy hlen;have f0:DataW.trod enc T_ w 0 (fun _=>true) true n0 3 (List.take (prog.cellsOf 3) (List.drop 0 [k0,k1,k2]))=ys[0]?:=hf 0 _ I
 rw [c3,Zc (by omega)] at f0;obtain ⟨b0,e0,_,_⟩:=DataW.trod_int underlying3 f0;simp at e0;have f1:DataW.trod enc T_ w 0 (fun _=>true) true n0 9 (List.take (prog.cellsOf 9) (List.drop 1 [k0,k1,k2]))=ys[1]?:=hf 1 _ I
 rw [c9,Zc (by omega)] at f1;obtain ⟨b1,e1,_,_⟩:=DataW.trod_string underlying9 f1;simp at e1;have f2:DataW.trod enc T_ w 0 (fun _=>true) true n0 9 (List.take (prog.cellsOf 9) (List.drop 2 [k0,k1,k2]))=ys[2]?:=hf 2 _ I
 rw [c9,Zc (by omega)] at f2;obtain ⟨b2,e2,_,_⟩:=DataW.trod_string underlying9 f2;simp at e2;subst e0 e1 e2;exact ⟨b0,b1,b2,I⟩
theorem c27:prog.cellsOf 27=6:=by kernel_rfl
theorem c22:prog.cellsOf 22=1:=by kernel_rfl
theorem c23:prog.cellsOf 23=1:=by kernel_rfl
theorem c24:prog.cellsOf 24=1:=by kernel_rfl
theorem c25:prog.cellsOf 25=1:=by kernel_rfl
theorem Rk (h:DataW.trod enc T_ w 0 (fun _=>true) true n 27 cs=some x):∃ (a0:Int) (a1:Int) (a2:Value) (a3:Value) (a4:Value) (a5:Value),cs=[.q a0,.q a1,a2,a3,a4,a5]/\(∃ (m:Nat) (y:DataW H×List MemPlace),DataW.trod enc T_ w 0 (fun _=>true) true m 22 [a2]=some y)/\(∃ (m:Nat) (y:DataW H×List MemPlace),DataW.trod enc T_ w 0 (fun _=>true) true m 23 [a3]=some y)/\(∃ (m:Nat) (y:DataW H×List MemPlace),DataW.trod enc T_ w 0 (fun _=>true) true m 24 [a4]=some y)/\(∃ (m:Nat) (y:DataW H×List MemPlace),DataW.trod enc T_ w 0 (fun _=>true) true m 25 [a5]=some y):=by
 obtain ⟨ys,n0,_,_,hlen,E0,hf⟩:=DataW.trod_struct underlying27 h;rw [c27] at hlen;have EZ:ys.length=6:=E0;obtain ⟨k0,k1,k2,k3,k4,k5,rfl⟩:=Xc hlen;have f0:DataW.trod enc T_ w 0 (fun _=>true) true n0 3 (List.take (prog.cellsOf 3) (List.drop 0 [k0,k1,k2,k3,k4,k5]))=ys[0]?:=hf 0 _ I
 rw [c3,Zc (by omega)] at f0;obtain ⟨b0,e0,_,_⟩:=DataW.trod_int underlying3 f0;simp at e0;have f1:DataW.trod enc T_ w 0 (fun _=>true) true n0 3 (List.take (prog.cellsOf 3) (List.drop 1 [k0,k1,k2,k3,k4,k5]))=ys[1]?:=hf 1 _ I
 rw [c3,Zc (by omega)] at f1;obtain ⟨b1,e1,_,_⟩:=DataW.trod_int underlying3 f1;simp at e1;have f2:DataW.trod enc T_ w 0 (fun _=>true) true n0 22 (List.take (prog.cellsOf 22) (List.drop 2 [k0,k1,k2,k3,k4,k5]))=ys[2]?:=hf 2 _ I
 rw [c22,Zc (by omega)] at f2;have f3:DataW.trod enc T_ w 0 (fun _=>true) true n0 23 (List.take (prog.cellsOf 23) (List.drop 3 [k0,k1,k2,k3,k4,k5]))=ys[3]?:=hf 3 _ I
 rw [c23,Zc (by omega)] at f3;have f4:DataW.trod enc T_ w 0 (fun _=>true) true n0 24 (List.take (prog.cellsOf 24) (List.drop 4 [k0,k1,k2,k3,k4,k5]))=ys[4]?:=hf 4 _ I
 rw [c24,Zc (by omega)] at f4;have f5:DataW.trod enc T_ w 0 (fun _=>true) true n0 25 (List.take (prog.cellsOf 25) (List.drop 5 [k0,k1,k2,k3,k4,k5]))=ys[5]?:=hf 5 _ I
 rw [c25,Zc (by omega)] at f5;subst e0 e1;exact ⟨b0,b1,k2,k3,k4,k5,I,⟨_,_,by simpa using f2⟩,⟨_,_,by simpa using f3⟩,⟨_,_,by simpa using f4⟩,⟨_,_,by simpa using f5⟩⟩
theorem c29:prog.cellsOf 29=3:=by kernel_rfl
theorem Ri (h:DataW.trod enc T_ w 0 (fun _=>true) true n 29 cs=some x):∃ (a0:Int) (a1:ByteArray) (a2:ByteArray),cs=[.q a0,.string a1,.string a2]:=by
 obtain ⟨ys,n0,_,_,hlen,E0,hf⟩:=DataW.trod_struct underlying29 h;rw [c29] at hlen;have EZ:ys.length=3:=E0;obtain ⟨k0,k1,k2,rfl⟩:=Gy hlen;have f0:DataW.trod enc T_ w 0 (fun _=>true) true n0 3 (List.take (prog.cellsOf 3) (List.drop 0 [k0,k1,k2]))=ys[0]?:=hf 0 _ I
 rw [c3,Zc (by omega)] at f0;obtain ⟨b0,e0,_,_⟩:=DataW.trod_int underlying3 f0;simp at e0;have f1:DataW.trod enc T_ w 0 (fun _=>true) true n0 9 (List.take (prog.cellsOf 9) (List.drop 1 [k0,k1,k2]))=ys[1]?:=hf 1 _ I
 rw [c9,Zc (by omega)] at f1;obtain ⟨b1,e1,_,_⟩:=DataW.trod_string underlying9 f1;simp at e1;have f2:DataW.trod enc T_ w 0 (fun _=>true) true n0 9 (List.take (prog.cellsOf 9) (List.drop 2 [k0,k1,k2]))=ys[2]?:=hf 2 _ I
 rw [c9,Zc (by omega)] at f2;obtain ⟨b2,e2,_,_⟩:=DataW.trod_string underlying9 f2;simp at e2;subst e0 e1 e2;exact ⟨b0,b1,b2,I⟩
theorem c69:prog.cellsOf 69=2:=by kernel_rfl
theorem c32:prog.cellsOf 32=1:=by kernel_rfl
theorem Rh (h:DataW.trod enc T_ w 0 (fun _=>true) true n 69 cs=some x):∃ (a0:ByteArray) (a1:Value),cs=[.string a0,a1]/\(∃ (m:Nat) (y:DataW H×List MemPlace),DataW.trod enc T_ w 0 (fun _=>true) true m 32 [a1]=some y):=by
 obtain ⟨ys,n0,_,_,hlen,E0,hf⟩:=DataW.trod_struct underlying69 h;rw [c69] at hlen;have EZ:ys.length=2:=E0;obtain ⟨k0,k1,rfl⟩:=LQ hlen;have f0:DataW.trod enc T_ w 0 (fun _=>true) true n0 9 (List.take (prog.cellsOf 9) (List.drop 0 [k0,k1]))=ys[0]?:=hf 0 _ I
 rw [c9,Zc (by omega)] at f0;obtain ⟨b0,e0,_,_⟩:=DataW.trod_string underlying9 f0;simp at e0;have f1:DataW.trod enc T_ w 0 (fun _=>true) true n0 32 (List.take (prog.cellsOf 32) (List.drop 1 [k0,k1]))=ys[1]?:=hf 1 _ I
 rw [c32,Zc (by omega)] at f1;subst e0;exact ⟨b0,k1,I,⟨_,_,by simpa using f1⟩⟩
theorem YU:prog.cellsOf 105=2:=by kernel_rfl
theorem c66:prog.cellsOf 66=1:=by kernel_rfl
theorem Nt (h:DataW.trod enc T_ w 0 (fun _=>true) true n 105 cs=some x):∃ (a0:Int) (a1:Value),cs=[.q a0,a1]/\(∃ (m:Nat) (y:DataW H×List MemPlace),DataW.trod enc T_ w 0 (fun _=>true) true m 66 [a1]=some y):=by
 obtain ⟨ys,n0,_,_,hlen,E0,hf⟩:=DataW.trod_struct underlying105 h;rw [YU] at hlen;have EZ:ys.length=2:=E0;obtain ⟨k0,k1,rfl⟩:=LQ hlen;have f0:DataW.trod enc T_ w 0 (fun _=>true) true n0 3 (List.take (prog.cellsOf 3) (List.drop 0 [k0,k1]))=ys[0]?:=hf 0 _ I
 rw [c3,Zc (by omega)] at f0;obtain ⟨b0,e0,_,_⟩:=DataW.trod_int underlying3 f0;simp at e0;have f1:DataW.trod enc T_ w 0 (fun _=>true) true n0 66 (List.take (prog.cellsOf 66) (List.drop 1 [k0,k1]))=ys[1]?:=hf 1 _ I
 rw [c66,Zc (by omega)] at f1;subst e0;exact ⟨b0,k1,I,⟨_,_,by simpa using f1⟩⟩
theorem Lu (h:DataW.trod enc T_ w 0 (fun _=>true) true n 22 [v]=some x):∃ l,Rd w v 2 (vk l):=by
 haveI:Inhabited Sr:=⟨⟨⟨#[]⟩,0⟩⟩
 exact ny (cells:=Sr.cells) underlying22 YT (by decide) (fun _=>rfl) (fun _ _ _ h=>by obtain ⟨a,b,rfl⟩:=Ns h;exact ⟨⟨a,b⟩,rfl⟩) h
theorem Lw (h:DataW.trod enc T_ w 0 (fun _=>true) true n 23 [v]=some x):∃ l,Rd w v 3 (u0 l):=by
 haveI:Inhabited De:=⟨⟨⟨#[]⟩,0,false⟩⟩
 exact ny (cells:=De.cells) underlying23 c88 (by decide) (fun _=>rfl) (fun _ _ _ h=>by obtain ⟨a,b,c,rfl⟩:=Rg h;exact ⟨⟨a,b,c⟩,rfl⟩) h
theorem Lr (h:DataW.trod enc T_ w 0 (fun _=>true) true n 24 [v]=some x):∃ l,Rd w v 3 (uS l):=by
 haveI:Inhabited Ti:=⟨⟨⟨#[]⟩,0,0⟩⟩
 exact ny (cells:=Ti.cells) underlying24 YS (by decide) (fun _=>rfl) (fun _ _ _ h=>by obtain ⟨a,b,c,rfl⟩:=Nr h;exact ⟨⟨a,b,c⟩,rfl⟩) h
theorem Lv (h:DataW.trod enc T_ w 0 (fun _=>true) true n 25 [v]=some x):∃ l,Rd w v 3 (tG l):=by
 haveI:Inhabited Po:=⟨⟨0,⟨#[]⟩,⟨#[]⟩⟩⟩
 exact ny (cells:=Po.cells) underlying25 YR (by decide) (fun _=>rfl) (fun _ _ _ h=>by obtain ⟨a,b,c,rfl⟩:=Nq h;exact ⟨⟨a,b,c⟩,rfl⟩) h
theorem Lt (h:DataW.trod enc T_ w 0 (fun _=>true) true n 32 [v]=some x):∃ l,Rd w v 1 (gi l):=by
 haveI:Inhabited ByteArray:=⟨⟨#[]⟩⟩
 exact ny (cells:=(fun s:ByteArray=>[Value.string s])) underlying32 c9 (by decide) (fun _=>rfl) (fun _ _ _ h=>by obtain ⟨a,rfl,_⟩:=DataW.trod_string underlying9 h;exact ⟨a,rfl⟩) h
theorem pg (h:DataW.trod enc T_ w 0 (fun _=>true) true n 27 cs=some x):∃ (r:Ro) (s d t p:Value),cs=[.q r.lv,.q r.ma,s,d,t,p]/\RR w r s d t p:=by
 obtain ⟨a,b,s,d,t,p,rfl,⟨_,_,h1⟩,⟨_,_,h2⟩,⟨_,_,h3⟩,⟨_,_,h4⟩⟩:=Rk h;obtain ⟨l1,r1⟩:=Lu h1;obtain ⟨l2,r2⟩:=Lw h2;obtain ⟨l3,r3⟩:=Lr h3;obtain ⟨l4,r4⟩:=Lv h4;exact ⟨⟨a,b,l1,l2,l3,l4⟩,s,d,t,p,I,r1,r2,r3,r4⟩
theorem wC (h:DataW.trod enc T_ w 0 (fun _=>true) true n 66 [v]=some x):∃ l,Rd w v 2 (iD l)/\te w l:=by
 haveI:Inhabited fy:=⟨⟨⟨⟨#[]⟩,[]⟩,.z⟩⟩
 exact rj (α:=fy) (Q:=fun x=>Rd w x.v 1 (gi x.tk.so)) (cells:=fy.cells) underlying66 c69 (by decide) (fun _=>rfl) (fun _ _ _ h=>by
  obtain ⟨a,b,rfl,⟨_,_,h1⟩⟩:=Rh h;obtain ⟨l,hl⟩:=Lt h1;exact ⟨⟨⟨a,l⟩,b⟩,I,hl⟩) h
theorem uo (h:DataW.trod enc T_ w 0 (fun _=>true) true n 93 [v]=some x):∃ l,Rd w v 2 (kQ l)/\uQ w l:=by
 haveI:Inhabited gW:=⟨⟨0,[],.z⟩⟩
 exact rj (α:=gW) (Q:=fun x=>Rd w x.v 2 (iD x.tk)/\te w x.tk) (cells:=gW.cells) underlying93 YU (by decide) (fun _=>rfl) (fun _ _ _ h=>by
  obtain ⟨a,b,rfl,⟨_,_,h1⟩⟩:=Nt h;obtain ⟨l,hl⟩:=wC h1;exact ⟨⟨a,l,b⟩,I,hl⟩) h
end
end Go.Proofs.A1
namespace Go.Proofs.YteonnodafmegaaaGreatDoor
open Go Go.SL Go.Proofs.A1 Go.ChangeShapes Go.WideShapes Go.ChangeAt Go.RowKit Go.Joins
section
variable {H:Type} {enc:TypeId×Value->H} {P:Program}
theorem mW {f:Func} {s:ChangeSpec} {apart fresh handsOn again:Bool} {W W':World} {args:Array Value} {v:Value} {ds gs:List (DataW H)} {before pa pv:List MemPlace}
  (hW:DataW.Whole enc P f.params.toList s.vars apart W args.toList ds gs before)
  (Xz:∀ (b:Nat) (sp:Nat->Bool) (hd:Bool),DataW.TrodAll enc P W' b sp hd f.resultTypes.toList (v.resultList f.resultTypes.size) (s.fn H (ds++gs)).results [])
  (uJ:∀ sp:Nat->Bool,(∀ p∈before,sp p.block=true)->DataW.TrodAll enc P W' 0 sp true f.params.toList args.toList (s.fn H (ds++gs)).args pa)
  (R5:∀ sp:Nat->Bool,(∀ p∈before,sp p.block=true)->DataW.TrodVars enc P W' sp s.vars (s.fn H (ds++gs)).vars pv)
  (hps:before=pa++pv) (hb:Below W.heap.size W W')
  (dU:∀ (j:Nat) (t:TypeId) (r:Value),f.resultTypes[j]? = some t->(v.resultList f.resultTypes.size)[j]? = some r->Value.okWide P W' .any 0 t r) :
  s.post enc P f apart fresh handsOn again W args v W':=by
 have aK:∀ p∈before,p.block<W.heap.size:=fun p hp=>hW.lt p hp
 have hold:∀ p∈before,(fun b=>decide (b<W.heap.size)) p.block=true:=fun p hp=>by simpa using aK p hp
 refine ⟨ds,gs,before,[],pa,pv,hW,Xz _ _ _,uJ _ hold,R5 _ hold,World.keptBut_mono (fun p hp=>⟨hp,?_⟩) (hb.frame (·∈before)),fun _=>?_⟩
 ·rw [hps,Zz] at hp;exact Or.inr hp
 ·obtain ⟨_,_,_,_,_,hz,hn⟩:=hW;refine ⟨dU,_,_,([]++pa)++pv,⟨[]++pa,pv,trodAll_append (uJ _ (fun _ _=>rfl)) (Xz _ _ _),R5 _ (fun _ _=>rfl),I,?_,?_⟩,?_⟩
  ·intro b off hp;have mN:MemPlace.cell b off∈before:=by rw [hps];simpa using hp
   rw [hb.frozen (aK _ mN)];exact hz b off mN
  ·intro ha;have:=hn ha;rw [hps] at this;simpa using this
  ·intro p hp _;rw [hps];simpa using hp
end
end Go.Proofs.YteonnodafmegaaaGreatDoor
namespace Go.Proofs.A1
open Go Go.SL
open Tryz
open Tryz renaming prog->T_
variable {k:Nat} {l:List ByteArray} {r:Ro} {s:ByteArray}
theorem sT {s d t p:Value} (o:ByteArray) {w:World} (h:RR w r s d t p):aj T_ 130 [RA r s d t p,.string o] w (.q (bC (cK r) o)):=by
 obtain ⟨h1,h2,h3,h4⟩:=h.one;have hs:=h.sr;obtain ⟨a,cp,b,o',rfl,dd,bO,ha,hc⟩:=hs;rw [cy] at *;unfold maxLen at bO;unfold RA;refine ah func130 I I ?_;refine Jr<|Jy I I fun _ _=>Ja I<|Jn<|Jq<|Jr<|Ja I<|Jn<|J0 ?_;rename_i b1 tT;refine aV (ι:=Nat) (fun k=>k<=r.sr.length/\∀ j (hj:j<(cK r).length),j<k->(cK r)[j]≠o) (fun k=>[(5,.int .i64 (k:Nat)),(2,.pointer (some ⟨b1,0,none⟩)),(1,.string o)]) (fun _=>[JQ b1 r (.slice a r.sr.length cp) d t p]) (fun k=>r.sr.length-k) ?_ ?_
 ·apply aI (0:Nat) ⟨Zi _,fun j _ hj=>absurd hj (ZN _)⟩
  case hs1=>exact bS
  case ht=>(try simp only [Ze,Zf,Za]);exact .h1 .nil
 rintro k ⟨hk,hf⟩;have nL:(cK r).length=r.sr.length:=by unfold cK;rw [Zd]
 by_cases aK:k<r.sr.length
 ·have cq:=ha (iF aK);have aC:=(hc k _ (fZ aK)).2;have hx:(cK r)[k]'(by omega)=(r.sr[k]).nm:=by unfold cK;rw [ZZ]
  have c0:w.cell? ⟨b,o'+k*2,none⟩=some (.string (r.sr[k]).nm):=aC 0 _ I;generalize (r.sr[k]).nm=x at hx c0
  (refine Jq<|Jr<|Jv I<|bJ I I ae<|JL I .here I<|JI I<|JA I<|Jn<|Jd I fun az=>Jk<|Jq<|J0<|Jr<|bJ I I ae<|JL I .here I<|Jv I<|ab (fT cq az) I<|bJ I I ae<|ab (ag (.of I) (At.base c0 I)) I<|Jv I<|ab (dF (.of I) (.of I)) I<|Jn<|gm I (fun az=>?_) fun az=>?_;refine Jr<|Jv I<|Ja I<|Jn<|Je<|Jm<|Jh<|Jh<|Jm<|Jh<|JT ?_;rotate_left;refine Jw<|Jj<|Jt<|Jg<|Jv I<|JB I (by omega)<|Ja I<|Jn ?_;rotate_right)
  ·have uz:x=o:=az;rw [rz (i:=k) (by omega) (hx.trans uz) (fun j hj=>hf j (by omega) hj)]
  ·have uz:¬ x=o:=az;apply aH (k+1) ⟨(show k+1<=r.sr.length from aK),fun j hj Mr=>by
    by_cases e:j=k
    ·subst e;rw [hx];exact uz
    ·exact hf j hj (by omega)⟩ (show r.sr.length-(k+1)<r.sr.length-k by omega)
   case hs1=>exact bS
   case ht=>(try simp only [Ze,Zf,Za]);exact .h1 .nil
 ·obtain rfl:k=r.sr.length:=by omega
  rw [Bw fun j hj=>hf j hj (by omega)]
  (refine Jq<|Jr<|Jv I<|bJ I I ae<|JL I .here I<|JI I<|JA I<|Jn<|Jc I fun az=>Jp<|Jl<|Jo<|Jt<|Jr<|Ja I<|Jn<|Je<|JT ?_)
  rfl
theorem sU {s d t p:Value} (o:ByteArray) {w:World} (h:RR w r s d t p):aj T_ 56 [RA r s d t p,.string o] w (.q (bC (cE r) o)):=by
 obtain ⟨h1,h2,h3,h4⟩:=h.one;have hs:=h.de;obtain ⟨a,cp,b,o',rfl,dd,bO,ha,hc⟩:=hs;rw [cd] at *;unfold maxLen at bO;unfold RA;refine ah func56 I I ?_;refine Jr<|Jy I I fun _ _=>Ja I<|Jn<|Jq<|Jr<|Ja I<|Jn<|J0 ?_;rename_i b1 tT;refine aV (ι:=Nat) (fun k=>k<=r.de.length/\∀ j (hj:j<(cE r).length),j<k->(cE r)[j]≠o) (fun k=>[(5,.int .i64 (k:Nat)),(2,.pointer (some ⟨b1,0,none⟩)),(1,.string o)]) (fun _=>[JQ b1 r s (.slice a r.de.length cp) t p]) (fun k=>r.de.length-k) ?_ ?_
 ·apply aI (0:Nat) ⟨Zi _,fun j _ hj=>absurd hj (ZN _)⟩
  case hs1=>exact bS
  case ht=>(try simp only [Ze,Zf,Za]);exact .h1 .nil
 rintro k ⟨hk,hf⟩;have nL:(cE r).length=r.de.length:=by unfold cE;rw [Zd]
 by_cases aK:k<r.de.length
 ·have cq:=ha (iq aK);have aC:=(hc k _ (fR aK)).2;have hx:(cE r)[k]'(by omega)=(r.de[k]).nm:=by unfold cE;rw [ZZ]
  have c0:w.cell? ⟨b,o'+k*3,none⟩=some (.string (r.de[k]).nm):=aC 0 _ I;generalize (r.de[k]).nm=x at hx c0
  (refine Jq<|Jr<|Jv I<|bJ I I ae<|JL I .here I<|JI I<|JA I<|Jn<|Jd I fun az=>Jk<|Jq<|J0<|Jr<|bJ I I ae<|JL I .here I<|Jv I<|ab (fT cq az) I<|bJ I I ae<|ab (ag (.of I) (At.base c0 I)) I<|Jv I<|ab (dF (.of I) (.of I)) I<|Jn<|gm I (fun az=>?_) fun az=>?_;refine Jr<|Jv I<|Ja I<|Jn<|Je<|Jm<|Jh<|Jh<|Jm<|Jh<|JT ?_;rotate_left;refine Jw<|Jj<|Jt<|Jg<|Jv I<|JB I (by omega)<|Ja I<|Jn ?_;rotate_right)
  ·have uz:x=o:=az;rw [rz (i:=k) (by omega) (hx.trans uz) (fun j hj=>hf j (by omega) hj)]
  ·have uz:¬ x=o:=az;apply aH (k+1) ⟨(show k+1<=r.de.length from aK),fun j hj Mr=>by
    by_cases e:j=k
    ·subst e;rw [hx];exact uz
    ·exact hf j hj (by omega)⟩ (show r.de.length-(k+1)<r.de.length-k by omega)
   case hs1=>exact bS
   case ht=>(try simp only [Ze,Zf,Za]);exact .h1 .nil
 ·obtain rfl:k=r.de.length:=by omega
  rw [Bw fun j hj=>hf j hj (by omega)]
  (refine Jq<|Jr<|Jv I<|bJ I I ae<|JL I .here I<|JI I<|JA I<|Jn<|Jc I fun az=>Jp<|Jl<|Jo<|Jt<|Jr<|Ja I<|Jn<|Je<|JT ?_)
  rfl
theorem qx {s d t p:Value} (o:ByteArray) {w:World} (h:RR w r s d t p):aj T_ 60 [RA r s d t p,.string o] w (.q (bC (cQ r) o)):=by
 obtain ⟨h1,h2,h3,h4⟩:=h.one;have hs:=h.ti;obtain ⟨a,cp,b,o',rfl,dd,bO,ha,hc⟩:=hs;rw [bV] at *;unfold maxLen at bO;unfold RA;refine ah func60 I I ?_;refine Jr<|Jy I I fun _ _=>Ja I<|Jn<|Jq<|Jr<|Ja I<|Jn<|J0 ?_;rename_i b1 tT;refine aV (ι:=Nat) (fun k=>k<=r.ti.length/\∀ j (hj:j<(cQ r).length),j<k->(cQ r)[j]≠o) (fun k=>[(5,.int .i64 (k:Nat)),(2,.pointer (some ⟨b1,0,none⟩)),(1,.string o)]) (fun _=>[JQ b1 r s d (.slice a r.ti.length cp) p]) (fun k=>r.ti.length-k) ?_ ?_
 ·apply aI (0:Nat) ⟨Zi _,fun j _ hj=>absurd hj (ZN _)⟩
  case hs1=>exact bS
  case ht=>(try simp only [Ze,Zf,Za]);exact .h1 .nil
 rintro k ⟨hk,hf⟩;have nL:(cQ r).length=r.ti.length:=by unfold cQ;rw [Zd]
 by_cases aK:k<r.ti.length
 ·have cq:=ha (fm aK);have aC:=(hc k _ (ei aK)).2;have hx:(cQ r)[k]'(by omega)=(r.ti[k]).nm:=by unfold cQ;rw [ZZ]
  have c0:w.cell? ⟨b,o'+k*3,none⟩=some (.string (r.ti[k]).nm):=aC 0 _ I;generalize (r.ti[k]).nm=x at hx c0
  (refine Jq<|Jr<|Jv I<|bJ I I ae<|JL I .here I<|JI I<|JA I<|Jn<|Jd I fun az=>Jk<|Jq<|J0<|Jr<|bJ I I ae<|JL I .here I<|Jv I<|ab (fT cq az) I<|bJ I I ae<|ab (ag (.of I) (At.base c0 I)) I<|Jv I<|ab (dF (.of I) (.of I)) I<|Jn<|gm I (fun az=>?_) fun az=>?_;refine Jr<|Jv I<|Ja I<|Jn<|Je<|Jm<|Jh<|Jh<|Jm<|Jh<|JT ?_;rotate_left;refine Jw<|Jj<|Jt<|Jg<|Jv I<|JB I (by omega)<|Ja I<|Jn ?_;rotate_right)
  ·have uz:x=o:=az;rw [rz (i:=k) (by omega) (hx.trans uz) (fun j hj=>hf j (by omega) hj)]
  ·have uz:¬ x=o:=az;apply aH (k+1) ⟨(show k+1<=r.ti.length from aK),fun j hj Mr=>by
    by_cases e:j=k
    ·subst e;rw [hx];exact uz
    ·exact hf j hj (by omega)⟩ (show r.ti.length-(k+1)<r.ti.length-k by omega)
   case hs1=>exact bS
   case ht=>(try simp only [Ze,Zf,Za]);exact .h1 .nil
 ·obtain rfl:k=r.ti.length:=by omega
  rw [Bw fun j hj=>hf j hj (by omega)]
  (refine Jq<|Jr<|Jv I<|bJ I I ae<|JL I .here I<|JI I<|JA I<|Jn<|Jc I fun az=>Jp<|Jl<|Jo<|Jt<|Jr<|Ja I<|Jn<|Je<|JT ?_)
  rfl
theorem qq {s d t p:Value} (v:Int) (o:ByteArray) {w:World} (h:RR w r s d t p):aj T_ 133 [RA r s d t p,.q v,.string o] w (.string ((eD r.po v o).getD ⟨#[]⟩)):=by
 obtain ⟨h1,h2,h3,h4⟩:=h.one;have hs:=h.po;obtain ⟨a,cp,b,o',rfl,dd,bO,ha,hc⟩:=hs;rw [cR] at *;unfold maxLen at bO;unfold RA;refine ah func133 I I ?_;refine Jr<|Jy I I fun _ _=>Ja I<|Jn<|Jq<|Jr<|Ja I<|Jn<|J0 ?_;rename_i b1 tT;refine aV (ι:=Nat) (fun k=>k<=r.po.length/\eD r.po v o=((r.po.drop k).find? (Fz v o)).map Po.ip) (fun k=>[(7,.int .i64 (k:Nat)),(3,.pointer (some ⟨b1,0,none⟩)),(1,.int .i64 v),(2,.string o)]) (fun _=>[JQ b1 r s d t (.slice a r.po.length cp)]) (fun k=>r.po.length-k) ?_ ?_
 ·apply aI (0:Nat) ⟨Zi _,I⟩
  case hs1=>exact bS
  case ht=>(try simp only [Ze,Zf,Za]);exact .h1 .nil
 rintro k ⟨hk,hf⟩;by_cases aK:k<r.po.length
 ·have cq:=ha (j8 aK);have aC:=(hc k _ (ie aK)).2;rw [Zt aK] at hf;have c0:w.cell? ⟨b,o'+k*3,none⟩=some (.q (r.po[k]).lv):=aC 0 _ I;have c1:w.cell? ⟨b,o'+k*3+1,none⟩=some (.string (r.po[k]).ou):=aC 1 _ I;have c2:w.cell? ⟨b,o'+k*3+2,none⟩=some (.string (r.po[k]).ip):=aC 2 _ I;generalize r.po[k]=x at hf c0 c1 c2
  (refine Jq<|Jr<|Jv I<|bJ I I ae<|JL I .here I<|JI I<|JA I<|Jn<|Jd I fun az=>Jk<|Jq<|J0<|Jr<|bJ I I ae<|JL I .here I<|Jv I<|ab (fT cq az) I<|bJ I I ae<|ab (ag (.of I) (At.base c0 I)) I<|Jv I<|JC I<|Jv I<|aF I I inferInstance (fun hg br=>(aq (.of I) ae)) I<|aF I I inferInstance (fun hg br=>(ag (.bF hg I) (At.lit .here I))) I<|iQ I I I I<|aF I I inferInstance (fun hg br=>(an (.bF hg I) (.bF hg I) cq (by omega) az aW)) I<|aF I I inferInstance (fun hg br=>(aq (.bF hg I) ae)) I<|aF I I inferInstance (fun hg br=>(ag (.bF hg I) (At.base c1 I))) I<|iQ I I I I<|aF I I inferInstance (fun hg br=>(dF (.bF hg I) (.bF hg I))) I<|ab (bX (.of I) I) I<|Jn<|nj I (fun az=>?_) fun az=>?_;refine Jr<|bJ I I ae<|JL I .here I<|Jv I<|ab (an (.of I) (.of I) cq (by omega) (by assumption) aW) I<|bJ I I ae<|ab (ag (.of I) (At.base c2 I)) I<|Ja I<|Jn<|Je<|Jm<|Jh<|Jh<|Jm<|Jh<|JT ?_;rotate_left;refine Jw<|Jj<|Jt<|Jg<|Jv I<|JB I (by omega)<|Ja I<|Jn ?_;rotate_right)
  ·rw [hf,List.find?_cons_of_pos (by unfold Fz;simp only [Zm,decide_eq_true_eq];exact az)];rfl
  ·apply aH (k+1) ⟨(show k+1<=r.po.length from aK),by rw [hf,List.find?_cons_of_neg (by unfold Fz;simp only [Zm,decide_eq_true_eq];exact fun q=>az.elim (fun z=>z q.1) (fun z=>z q.2))]⟩ (show r.po.length-(k+1)<r.po.length-k by omega)
   case hs1=>exact bS
   case ht=>(try simp only [Ze,Zf,Za]);exact .h1 .nil
 ·obtain rfl:k=r.po.length:=by omega
  rw [Z1] at hf;rw [hf]
  (refine Jq<|Jr<|Jv I<|bJ I I ae<|JL I .here I<|JI I<|JA I<|Jn<|Jc I fun az=>Jp<|Jl<|Jo<|Jt<|Jr<|Ja I<|Jn<|Je<|JT ?_)
  rfl
theorem Kd {s d t p:Value} (v:Int) (o:ByteArray) {w:World} (h:RR w r s d t p):aj T_ 233 [RA r s d t p,.q v,.string o] w (.bool (nf r.po v o)):=by
 obtain ⟨h1,h2,h3,h4⟩:=h.one;have hs:=h.po;obtain ⟨a,cp,b,o',rfl,dd,bO,ha,hc⟩:=hs;rw [cR] at *;unfold maxLen at bO;unfold RA;refine ah func233 I I ?_;refine Jr<|Jy I I fun _ _=>Ja I<|Jn<|Jq<|Jr<|Ja I<|Jn<|J0 ?_;rename_i b1 tT;refine aV (ι:=Nat) (fun k=>k<=r.po.length/\nf r.po v o=(r.po.drop k).any (yr v o)) (fun k=>[(7,.int .i64 (k:Nat)),(3,.pointer (some ⟨b1,0,none⟩)),(1,.int .i64 v),(2,.string o)]) (fun _=>[JQ b1 r s d t (.slice a r.po.length cp)]) (fun k=>r.po.length-k) ?_ ?_
 ·apply aI (0:Nat) ⟨Zi _,I⟩
  case hs1=>exact bS
  case ht=>(try simp only [Ze,Zf,Za]);exact .h1 .nil
 rintro k ⟨hk,hf⟩;by_cases aK:k<r.po.length
 ·have cq:=ha (j8 aK);have aC:=(hc k _ (ie aK)).2;rw [Zt aK] at hf;have c0:w.cell? ⟨b,o'+k*3,none⟩=some (.q (r.po[k]).lv):=aC 0 _ I;have c1:w.cell? ⟨b,o'+k*3+1,none⟩=some (.string (r.po[k]).ou):=aC 1 _ I;have c2:w.cell? ⟨b,o'+k*3+2,none⟩=some (.string (r.po[k]).ip):=aC 2 _ I;generalize r.po[k]=x at hf c0 c1 c2
  (refine Jq<|Jr<|Jv I<|bJ I I ae<|JL I .here I<|JI I<|JA I<|Jn<|Jd I fun az=>Jk<|Jq<|J0<|Jr<|bJ I I ae<|JL I .here I<|Jv I<|ab (fT cq az) I<|bJ I I ae<|ab (ag (.of I) (At.base c0 I)) I<|Jv I<|JC I<|Jv I<|aF I I inferInstance (fun hg br=>(aq (.of I) ae)) I<|aF I I inferInstance (fun hg br=>(ag (.bF hg I) (At.lit .here I))) I<|iQ I I I I<|aF I I inferInstance (fun hg br=>(an (.bF hg I) (.bF hg I) cq (by omega) az aW)) I<|aF I I inferInstance (fun hg br=>(aq (.bF hg I) ae)) I<|aF I I inferInstance (fun hg br=>(ag (.bF hg I) (At.base c2 I))) I<|iQ I I I I<|aF I I inferInstance (fun hg br=>(dF (.bF hg I) (.bF hg I))) I<|ab (bX (.of I) I) I<|Jn<|nj I (fun az=>?_) fun az=>?_;refine Jr<|Ja I<|Jn<|Je<|Jm<|Jh<|Jh<|Jm<|Jh<|JT ?_;rotate_left;refine Jw<|Jj<|Jt<|Jg<|Jv I<|JB I (by omega)<|Ja I<|Jn ?_;rotate_right)
  ·rw [hf,List.any_cons,show yr v o x=true by unfold yr;simp only [Zm,decide_eq_true_eq];exact az];rfl
  ·apply aH (k+1) ⟨(show k+1<=r.po.length from aK),by rw [hf,List.any_cons,show yr v o x=false by unfold yr;rw [<- Zap];simp only [Zm,decide_eq_true_eq];exact fun q=>az.elim (fun z=>z q.1) (fun z=>z q.2),Bool.false_or]⟩ (show r.po.length-(k+1)<r.po.length-k by omega)
   case hs1=>exact bS
   case ht=>(try simp only [Ze,Zf,Za]);exact .h1 .nil
 ·obtain rfl:k=r.po.length:=by omega
  rw [Z1] at hf;rw [hf]
  (refine Jq<|Jr<|Jv I<|bJ I I ae<|JL I .here I<|JI I<|JA I<|Jn<|Jc I fun az=>Jp<|Jl<|Jo<|Jt<|Jr<|Ja I<|Jn<|Je<|JT ?_)
  rfl
theorem sQ (h:0<=bC l s):∃ k:Nat,bC l s=k/\k<l.length:=⟨(bC l s).toNat,by omega,(fD h).1⟩
theorem T0 (e:bC (cE r) s=k) (hk:k<r.de.length):kP r s=(r.de[k]).mx:=by
 unfold kP;rw [if_pos (by omega),e,ZH,Zk,Zc hk];rfl
theorem TY (h:¬ 0<=bC (cE r) s) (e:bC (cQ r) s=k) (hk:k<r.ti.length):kP r s=(r.ti[k]).fr:=by
 unfold kP;rw [if_neg h,if_pos (by omega),e,ZH,Zk,Zc hk];rfl
theorem TZ (h:¬ 0<=bC (cE r) s) (h2:¬ 0<=bC (cQ r) s):kP r s = -1:=by
 unfold kP;rw [if_neg h,if_neg h2]
theorem Ue (e:bC (cK r) s=k) (hk:k<r.sr.length):kq r s=(r.sr[k]).mx:=by
 unfold kq;rw [if_pos (by omega),e,ZH,Zk,Zc hk];rfl
theorem Ud (h:¬ 0<=bC (cK r) s) (e:bC (cQ r) s=k) (hk:k<r.ti.length):kq r s=(r.ti[k]).to:=by
 unfold kq;rw [if_neg h,if_pos (by omega),e,ZH,Zk,Zc hk];rfl
theorem Uf (h:¬ 0<=bC (cK r) s) (h2:¬ 0<=bC (cQ r) s):kq r s = -1:=by
 unfold kq;rw [if_neg h,if_neg h2]
theorem Lo {s d t p:Value} (o:ByteArray) {w:World} (h:RR w r s d t p):aj T_ 232 [RA r s d t p,.string o] w (.q (kP r o)):=by
 obtain ⟨h1,h2,h3,h4⟩:=h.one;have hA:∀ w',aJ [] w w'->aj T_ 56 [.agg #[.int .i64 r.lv,.int .i64 r.ma,s,d,t,p],.string o] w' (.int .i64 (bC (cE r) o)):=fun w' hk=>sU o (h.keeps hk)
 have hB:∀ w',aJ [] w w'->aj T_ 60 [.agg #[.q r.lv,.q r.ma,s,d,t,p],.string o] w' (.q (bC (cQ r) o)):=fun w' hk=>qx o (h.keeps hk)
 have n1:(cE r).length=r.de.length:=by unfold cE;rw [Zd]
 have n2:(cQ r).length=r.ti.length:=by unfold cQ;rw [Zd]
 have hs:=h.de;obtain ⟨a,cp,b,o',rfl,dd,bO,ha,hc⟩:=hs;rw [cd] at *;have ht:=h.ti;obtain ⟨a2,oS,b2,o2,rfl,kd,eU,jV,ke⟩:=ht;rw [bV] at *;unfold maxLen at bO eU;by_cases g1:0<=bC (cE r) o
 ·obtain ⟨k,e,hk⟩:=sQ g1;rw [n1] at hk;rw [T0 e hk];rw [e] at hA;have cq:=ha (iq hk);have aC:=(hc k _ (fR hk)).2;have c0:w.cell? ⟨b,o'+k*3+1,none⟩=some (.int .i64 (r.de[k]).mx):=aC 1 _ I;unfold RA;refine ah func232 I I ?_
  (refine Jr<|Jy I I fun _ _=>Ja I<|Jn<|Jq<|Jr<|ab (cm .here) I<|Jv I<|ai bb I (fun w' aB=>(hA w' (Mem.keeps aB)))<|Ja I<|Ji<|Jv I<|JG I<|Jn<|Jd I fun az=>Jr<|bJ I I ae<|JL I .here I<|Jv I<|ab (an (.of I) (.of I) cq az (by omega) aW) I<|bJ I I ae<|ab (ag (.of I) (At.base c0 I)) I<|Ja I<|Jn<|Ju<|JT ?_)
  rfl
 by_cases g2:0<=bC (cQ r) o
 ·obtain ⟨k,e,hk⟩:=sQ g2;rw [n2] at hk;rw [TY g1 e hk];rw [e] at hB;have cq:=jV (fm hk);have aC:=(ke k _ (ei hk)).2;have c0:w.cell? ⟨b2,o2+k*3+1,none⟩=some (.int .i64 (r.ti[k]).fr):=aC 1 _ I;unfold RA;refine ah func232 I I ?_
  (refine Jr<|Jy I I fun _ _=>Ja I<|Jn<|Jq<|Jr<|ab (cm .here) I<|Jv I<|ai bb I (fun w' aB=>(hA w' (Mem.keeps aB)))<|Ja I<|Ji<|Jv I<|JG I<|Jn<|Jc I fun az=>Jk<|Jq<|Jr<|ab (cm .here) I<|Jv I<|ai bb I (fun w' aB=>(hB w' (Mem.keeps aB)))<|Ja I<|Ji<|Jv I<|JG I<|Jn<|Jd I fun az=>Jr<|bJ I I ae<|JL I .here I<|Jv I<|ab (an (.of I) (.of I) cq az (by omega) aW) I<|bJ I I ae<|ab (ag (.of I) (At.base c0 I)) I<|Ja I<|Jn<|Ju<|JT ?_)
  rfl
 rw [TZ g1 g2];unfold RA;refine ah func232 I I ?_
 (refine Jr<|Jy I I fun _ _=>Ja I<|Jn<|Jq<|Jr<|ab (cm .here) I<|Jv I<|ai bb I (fun w' aB=>(hA w' (Mem.keeps aB)))<|Ja I<|Ji<|Jv I<|JG I<|Jn<|Jc I fun az=>Jk<|Jq<|Jr<|ab (cm .here) I<|Jv I<|ai bb I (fun w' aB=>(hB w' (Mem.keeps aB)))<|Ja I<|Ji<|Jv I<|JG I<|Jn<|Jc I fun az=>Jk<|Jr<|Ja I<|Jn<|Je<|JT ?_)
 rfl
theorem P9 {s d t p:Value} (o:ByteArray) {w:World} (h:RR w r s d t p):aj T_ 231 [RA r s d t p,.string o] w (.q (kq r o)):=by
 obtain ⟨h1,h2,h3,h4⟩:=h.one;have hA:∀ w',aJ [] w w'->aj T_ 130 [.agg #[.int .i64 r.lv,.int .i64 r.ma,s,d,t,p],.string o] w' (.int .i64 (bC (cK r) o)):=fun w' hk=>sT o (h.keeps hk)
 have hB:∀ w',aJ [] w w'->aj T_ 60 [.agg #[.q r.lv,.q r.ma,s,d,t,p],.string o] w' (.q (bC (cQ r) o)):=fun w' hk=>qx o (h.keeps hk)
 have n1:(cK r).length=r.sr.length:=by unfold cK;rw [Zd]
 have n2:(cQ r).length=r.ti.length:=by unfold cQ;rw [Zd]
 have hs:=h.sr;obtain ⟨a,cp,b,o',rfl,dd,bO,ha,hc⟩:=hs;rw [cy] at *;have ht:=h.ti;obtain ⟨a2,oS,b2,o2,rfl,kd,eU,jV,ke⟩:=ht;rw [bV] at *;unfold maxLen at bO eU;by_cases g1:0<=bC (cK r) o
 ·obtain ⟨k,e,hk⟩:=sQ g1;rw [n1] at hk;rw [Ue e hk];rw [e] at hA;have cq:=ha (iF hk);have aC:=(hc k _ (fZ hk)).2;have c0:w.cell? ⟨b,o'+k*2+1,none⟩=some (.int .i64 (r.sr[k]).mx):=aC 1 _ I;unfold RA;refine ah func231 I I ?_
  (refine Jr<|Jy I I fun _ _=>Ja I<|Jn<|Jq<|Jr<|ab (cm .here) I<|Jv I<|ai bb I (fun w' aB=>(hA w' (Mem.keeps aB)))<|Ja I<|Ji<|Jv I<|JG I<|Jn<|Jd I fun az=>Jr<|bJ I I ae<|JL I .here I<|Jv I<|ab (an (.of I) (.of I) cq az (by omega) aW) I<|bJ I I ae<|ab (ag (.of I) (At.base c0 I)) I<|Ja I<|Jn<|Ju<|JT ?_)
  rfl
 by_cases g2:0<=bC (cQ r) o
 ·obtain ⟨k,e,hk⟩:=sQ g2;rw [n2] at hk;rw [Ud g1 e hk];rw [e] at hB;have cq:=jV (fm hk);have aC:=(ke k _ (ei hk)).2;have c0:w.cell? ⟨b2,o2+k*3+2,none⟩=some (.int .i64 (r.ti[k]).to):=aC 2 _ I;unfold RA;refine ah func231 I I ?_
  (refine Jr<|Jy I I fun _ _=>Ja I<|Jn<|Jq<|Jr<|ab (cm .here) I<|Jv I<|ai bb I (fun w' aB=>(hA w' (Mem.keeps aB)))<|Ja I<|Ji<|Jv I<|JG I<|Jn<|Jc I fun az=>Jk<|Jq<|Jr<|ab (cm .here) I<|Jv I<|ai bb I (fun w' aB=>(hB w' (Mem.keeps aB)))<|Ja I<|Ji<|Jv I<|JG I<|Jn<|Jd I fun az=>Jr<|bJ I I ae<|JL I .here I<|Jv I<|ab (an (.of I) (.of I) cq az (by omega) aW) I<|bJ I I ae<|ab (ag (.of I) (At.base c0 I)) I<|Ja I<|Jn<|Ju<|JT ?_)
  rfl
 rw [Uf g1 g2];unfold RA;refine ah func231 I I ?_
 (refine Jr<|Jy I I fun _ _=>Ja I<|Jn<|Jq<|Jr<|ab (cm .here) I<|Jv I<|ai bb I (fun w' aB=>(hA w' (Mem.keeps aB)))<|Ja I<|Ji<|Jv I<|JG I<|Jn<|Jc I fun az=>Jk<|Jq<|Jr<|ab (cm .here) I<|Jv I<|ai bb I (fun w' aB=>(hB w' (Mem.keeps aB)))<|Ja I<|Ji<|Jv I<|JG I<|Jn<|Jc I fun az=>Jk<|Jr<|Ja I<|Jn<|Je<|JT ?_)
 rfl
theorem Gn {s d t p:Value} (o:ByteArray) {w:World} (h:RR w r s d t p) (hf:jv r):aj T_ 230 [RA r s d t p,.string o] w (.q (eE r o)):=by
 obtain ⟨h1,h2,h3,h4⟩:=h.one;have hA:∀ w',aJ [] w w'->aj T_ 56 [.agg #[.int .i64 r.lv,.int .i64 r.ma,s,d,t,p],.string o] w' (.int .i64 (bC (cE r) o)):=fun w' hk=>sU o (h.keeps hk)
 have hB:∀ w',aJ [] w w'->aj T_ 60 [.agg #[.q r.lv,.q r.ma,s,d,t,p],.string o] w' (.q (bC (cQ r) o)):=fun w' hk=>qx o (h.keeps hk)
 have n2:(cQ r).length=r.ti.length:=by unfold cQ;rw [Zd]
 have hs:=h.de;obtain ⟨a,cp,b,o',rfl,dd,bO,ha,hc⟩:=hs;rw [cd] at *;obtain ⟨f1,f2,f3,f4⟩:=hf;have hq:0<=bC (cQ r) o->bC (cQ r) o<=1000000:=fun g=>by
  obtain ⟨k,e,hk⟩:=sQ g;omega
 unfold RA;refine ah func230 I I ?_;unfold eE;generalize bC (cE r) o=x at hA ⊢;generalize bC (cQ r) o=y at hB hq ⊢
 (refine Jr<|Jy I I fun _ _=>Ja I<|Jn<|Jq<|Jr<|ab (cm .here) I<|Jv I<|ai bb I (fun w' aB=>(hA w' (Mem.keeps aB)))<|Ja I<|Ji<|Jv I<|JG I<|Jn<|gm I (fun az=>?_) fun az=>?_;refine Jr<|Jv I<|Ja I<|Jn<|Ju<|JT ?_;rotate_left;refine Jk<|Jq<|Jr<|ab (cm .here) I<|Jv I<|ai bb I (fun w' aB=>(hB w' (Mem.keeps aB)))<|Ja I<|Ji<|Jv I<|JG I<|Jn<|gm I (fun az=>?_) fun az=>?_;refine Jr<|bJ I I ae<|JL I .here I<|JI I<|Jv I<|JB I (by omega)<|Ja I<|Jn<|Ju<|JT ?_;rotate_left;refine Jk<|Jr<|Ja I<|Jn<|Je<|JT ?_;rotate_right;rotate_right)
 all_goals first | (rw [if_pos az];done) | (rw [if_neg ‹¬ 0<=x›,if_pos az];done) | (rw [if_neg ‹¬ 0<=x›,if_neg az];done)
theorem xF {s d t p:Value} (o:ByteArray) {w:World} (h:RR w r s d t p):aj T_ 26 [RA r s d t p,.string o] w (.q (oL r o)):=by
 obtain ⟨h1,h2,h3,h4⟩:=h.one;have uX:∀ w',aJ [] w w'->aj T_ 56 [.agg #[.int .i64 r.lv,.int .i64 r.ma,s,d,t,p],.string o] w' (.int .i64 (bC (cE r) o)):=fun w' hk=>sU o (h.keeps hk)
 unfold RA;refine ah func26 I I ?_
 (refine Jr<|Jy I I fun _ _=>Ja I<|Ji<|ab (cm .here) I<|Jv I<|ai bb I (fun w' aB=>(uX w' (Mem.keeps aB)))<|JA I<|ai bb I (fun w' aB=>(k9 _ 10 w'))<|Ja I<|Jn<|Je<|JT ?_)
 rfl
theorem BG (po:List Po) (v:Int):∀ (n:Nat) (o:ByteArray),(pT po v n o).length<=n
 | 0,_=>Zy _
 | n + 1, o => by
  rw [pT];split
  ·exact Zi _
  ·rw [ZA];exact Nat.succ_le_succ (BG po v n _)
theorem G8 {s d t p:Value} (v:Int) (o:ByteArray) (n:Nat) (hn:n<=1000) {w:World} (h:RR w r s d t p):a8 T_ 132 [RA r s d t p,.q v,.string o,.q (n:Nat)] w [] (fun _:Value=>True) id (fun x=>[row 9 1 x (pT r.po v n o).length (aR (pT r.po v n o))]):=by
 obtain ⟨h1,h2,h3,h4⟩:=h.one;have mN:∀ (o':ByteArray) w',aJ [] w w'->aj T_ 133 [.agg #[.int .i64 r.lv,.int .i64 r.ma,s,d,t,p],.int .i64 v,.string o'] w' (.string ((eD r.po v o').getD ⟨#[]⟩)):=fun o' w' hk=>qq v o' (h.keeps hk)
 unfold RA;refine aS func132 I I ?_;refine Jr<|Jy I I fun _ _=>Ja I<|Ji<|Ja I<|Jn<|Jq<|Jr<|Ja I<|Jn<|J0 ?_;rename_i b4 tS;refine aN 9 1 ?_;refine aV (ι:=Nat×ByteArray×Value×List ByteArray) (fun y=>y.1<=n/\y.2.2.2.length=y.1/\pT r.po v n o=y.2.2.2++pT r.po v (n-y.1) y.2.1) (fun y=>[(10,.q (y.1:Nat)),(9,y.2.2.1),(2,.string y.2.1),(1,.q v),(3,.q (n:Nat)),(4,.p b4)]) (fun y=>[row 9 1 y.2.2.1 y.1 (aR y.2.2.2),JQ b4 r s d t p]) (fun y=>n-y.1) ?_ ?_
 ·apply aI (0,o,.z,[]) ⟨Zi _,I,I⟩
  case hs1=>exact bS
  case ht=>
   exact .h2 .nil
 rintro ⟨k,o',v',L⟩ ⟨hk,hL,hc⟩;dsimp only at hk hL hc ⊢;have hlen:(aR L).length=k*1:=by rw [dj,hL];omega
 by_cases aK:k<n/\o'≠⟨#[]⟩
 ·obtain ⟨g1,g2⟩:=aK;have ke:pT r.po v n o=(L++[o'])++pT r.po v (n-(k+1)) ((eD r.po v o').getD ⟨#[]⟩):=by
   rw [hc,show n-k=(n-(k+1))+1 by omega,pT,if_neg g2,Zh];rfl
  (refine Jq<|Jr<|Jv I<|Jv I<|JA I<|Jv I<|iQ I I I I<|aF I I inferInstance (fun hg br=>(fN (.bF hg I) (.of I))) I<|ab (bX (.of I) I) I<|Jn<|nj I (fun az=>?_) fun az=>?_;refine Jk<|Jq<|J0<|Jr<|Jv I<|Jv I<|bj (aG (.o I .nil) I I I I) I fun _ _=>?_;rotate_left;refine Jp<|Jl<|Jo<|Jt<|Jr<|Jv I<|Ja I<|Jn<|Je ?_;rotate_right)
  refine bu (.of I) (.of I) (.there .here) .here ak (by rfl) (dR I) (by rfl) (by rfl) (by rfl) ed (by rfl) ?_;intro x
  (refine Ja I<|Jn<|Jg<|ab (cm bL) I<|Jv I<|Jv I<|ai ef I (fun w' aB=>(mN o' w' (Mem.keeps aB)))<|Ja I<|Jx<|Jj<|Jt<|Jg<|Jv I<|JB I (by omega)<|Ja I<|Jn ?_)
  apply aH (k+1,(eD r.po v o').getD ⟨#[]⟩,x,L++[o']) ⟨by show k+1<=n;omega,by show (L++[o']).length=k+1;rw [Zg,hL];rfl,ke⟩ (by show n-(k+1)<n-k;omega)
  case hs1=>exact bS
  case ht=>
   show bB _ [row 9 1 x (k+1) (aR (L++[o'])),JQ b4 r s d t p] _;rw [show aR (L++[o'])=aR L++[.string o'] from eT _ _];exact .h1 (.cons (.there .here) .nil)
  exact az.elim (fun z=>absurd (show ((k:Nat):Int)<(n:Nat) by omega) z) (fun z=>absurd g2 z)
 ·have he:pT r.po v n o=L:=by
   rw [hc];by_cases g:k<n
   ·have:o'=⟨#[]⟩:=Classical.byContradiction fun q=>aK ⟨g,q⟩
    rw [this,SQ,ZJ]
   ·rw [show n-k=0 by omega,pT,ZJ]
  have H2:¬ ((k:Nat):Int)<(n:Nat)\/¬ o'≠⟨#[]⟩:=by
   by_cases g:k<n
   ·exact .inr fun q=>aK ⟨g,q⟩
   ·exact .inl (by omega)
  rw [he,hL]
  (refine Jq<|Jr<|Jv I<|Jv I<|JA I<|Jv I<|iQ I I I I<|aF I I inferInstance (fun hg br=>(fN (.bF hg I) (.of I))) I<|ab (bX (.of I) I) I<|Jn<|nj I (fun az=>?_) fun az=>?_;refine Jk<|Jq<|J0<|Jr<|Jv I<|Jv I<|bj (aG (.o I .nil) I I I I) I fun _ _=>?_;rotate_left;refine Jp<|Jl<|Jo<|Jt<|Jr<|Jv I<|Ja I<|Jn<|Je ?_;rotate_right)
  ·exact absurd az (by intro q;rcases H2 with z | z;exact z q.1;exact z q.2)
  with_reducible first|apply aO|apply aQ
  case he=>exact dB I I
  case hR=>
   intro w' aB;exact aD v' trivial (by exact .h1 .nil) aB I

def Ca (r:Ro) (v:Int) (o:ByteArray):List ByteArray:=if bC (cK r) ((pT r.po v 8 o).getLastD ⟨#[]⟩)<0 then [] else (pT r.po v 8 o).reverse
theorem OI {s d t p:Value} (v:Int) (o:ByteArray) (ho:o≠⟨#[]⟩) {w:World} (h:RR w r s d t p):a8 T_ 31 [RA r s d t p,.q v,.string o] w [] (fun _:Value=>True) id (fun x=>[row 9 1 x (Ca r v o).length (aR (Ca r v o))]):=by
 obtain ⟨h1,h2,h3,h4⟩:=h.one;have Mu:∀ (o':ByteArray) w',aJ [] w w'->aj T_ 130 [.agg #[.int .i64 r.lv,.int .i64 r.ma,s,d,t,p],.string o'] w' (.int .i64 (bC (cK r) o')):=fun o' w' hk=>sT o' (h.keeps hk)
 have QC:∀ w',aJ [] w w'->a8 T_ 132 [.agg #[.q r.lv,.q r.ma,s,d,t,p],.q v,.string o,.q 8] w' [] (fun _:Value=>True) id (fun x=>[row 9 1 x (pT r.po v 8 o).length (aR (pT r.po v 8 o))]):=fun w' hk=>G8 v o 8 (by decide) (h.keeps hk)
 have hle:=BG r.po v 8 o;obtain ⟨m,hm⟩:∃ m,(pT r.po v 8 o).length=m+1:=by
  rw [pT,if_neg ho];exact ⟨_,I⟩
 unfold Ca;generalize pT r.po v 8 o=L at QC hle hm ⊢;rw [hm] at QC;unfold RA;refine aS func31 I I ?_
 (refine Jr<|Jy I I fun _ _=>Ja I<|Ji<|ab (cm .here) I<|Jv I<|Jv I ?_)
 refine JN mi I (fun w1 aT=>QC w1 aT.keeps) ?_;intro x _;dsimp only [id_eq,Zb,Za];refine Ja I<|Jn<|Jq<|Jq ?_;rename_i b3 tr;refine dy (E:=9) (sz:=1) (v:=x) (by exact .here) (Nat.succ_pos m) ?_;rintro g gc cur e dd _ _ _;subst e;have Sc:(aR L++cur)[m*1]? = some (.string (L.getLastD ⟨#[]⟩)):=by
  rw [rS L cur (by omega)];congr 2;rw [List.getLastD_eq_getLast?,List.getLast?_eq_getElem?,show L.length-1=m by omega,Zc (by omega)];rfl
 have Mp:(aR L++cur)[(((Nat.succ m:Nat):Int)-1).toNat*1]? = some (.string (L.getLastD ⟨#[]⟩)):=by
  rw [show (((Nat.succ m:Nat):Int)-1).toNat=m by omega];exact Sc
 with_reducible refine cN 7 (by kernel_rfl) ?_
 (refine aA (cm (.there .here)) I ?_;refine gn I I ?_;refine gn I I ?_;refine aA (bZ (.of I)) I ?_;refine aA (q8 (.of I) (.of I) (R3 (by omega))) I ?_;refine aA (an (.of I) (.of I) I (by omega) (by omega) aW) I ?_;refine aA (ag (.of I) (At.mz .here Mp)) I ?_)
 with_reducible refine cT ?_
 (refine ai bb I (fun w' aB=>(Mu _ w' (Mem.keeps aB)))<|JA I<|Jn<|gm I (fun az=>?_) fun az=>?_;refine Jr<|Ja I<|Jn<|Ju ?_;rotate_left;refine Jk<|Jr<|Ja I<|Jn<|Jq<|Jr<|Jv I<|JI I<|JS I (by omega)<|Ja I<|Jn<|J0 ?_;rotate_right)
 ·rw [if_pos az];refine aN 9 1 ?_
  with_reducible first|apply aO|apply aQ
  case he=>exact dB I I
  case hR=>
   intro w' aB;exact aD (.z) trivial (by exact .h1 .nil) aB I
 rw [if_neg az];refine aN 9 1 ?_;refine aV (ι:=Nat×Int×Value) (fun y=>y.1<=m+1/\y.2.1=(m:Int)-y.1) (fun y=>[(9,.q y.2.1),(8,y.2.2),(7,.w g m.succ gc)]) (fun y=>[row 9 1 y.2.2 y.1 (aR (L.reverse.take y.1)),bE g (.cells (aR L++cur).toArray 9 (0,0))]) (fun y=>m+1-y.1) ?_ ?_
 ·apply aI (0,((Nat.succ m:Nat):Int)-1,.z) ⟨Zi _,by show ((Nat.succ m:Nat):Int)-1=(m:Int)-((0:Nat):Int);omega⟩
  case hs1=>exact bS
  case ht=>
   exact .h2 .nil
 rintro ⟨k,i,v'⟩ ⟨hk,hi⟩;dsimp only at hk hi ⊢;clear Sc Mp az;have Xw:L.reverse.length=m+1:=by rw [List.length_reverse,hm]
 by_cases aK:k<m+1
 ·have hj:(aR L++cur)[i.toNat*1]? = some (.string (L.reverse[k]'(by omega))):=by
   rw [show i.toNat=m-k by omega,rS L cur (by omega),List.getElem_reverse];congr 3;omega
  have htk:aR (L.reverse.take (k+1))=aR (L.reverse.take k)++[.string (L.reverse[k]'(by omega))]:=by
   rw [Zl (by omega)];exact eT _ _
  have hlen:(aR (L.reverse.take k)).length=k*1:=by rw [dj,Zs];omega
  generalize L.reverse[k]'(by omega)=z at hj htk
  (refine Jq<|Jr<|Jv I<|JG I<|Jn<|Jd I fun az=>Jk<|Jq<|J0<|Jg<|Jv I<|Jv I<|Jv I<|ab (an (.of I) (.of I) I az (by omega) aW) I ?_;refine ab (ag (.of I) (At.mz (.there .here) hj)) I ?_;refine bj (aG (.o I .nil) I I I I) I fun _ _=>?_)
  refine bu (.of I) (.of I) (.there .here) .here ak (by rfl) (dR I) (by rfl) (by rfl) (by rfl) ed (by rfl) ?_;intro q;refine Ja I<|Jx<|Jj<|Jt<|Jg<|Jv I<|JS I (by omega)<|Ja I<|Jn ?_;apply aH (k+1,i-1,q) ⟨by show k+1<=m+1;omega,by show i-1=(m:Int)-((k+1:Nat):Int);omega⟩ (by show m+1-(k+1)<m+1-k;omega)
  case hs1=>exact bS
  case ht=>
   show bB _ [row 9 1 q (k+1) (aR (L.reverse.take (k+1))),bE g (.cells (aR L++cur).toArray 9 (0,0))] _;rw [htk];exact .h1 (.cons (.there .here) .nil)
 obtain rfl:k=m+1:=by omega
 rw [Zab (by omega)];refine Jq<|Jr<|Jv I<|JG I<|Jn<|Jc I fun az=>Jp<|Jl<|Jo<|Jt<|Jr<|Jv I<|Ja I<|Jn<|Je ?_
 with_reducible first|apply aO|apply aQ
 case he=>exact dB I I
 case hR=>
  intro w' aB;rw [Xw];exact aD v' trivial (by exact .h1 .nil) aB I
def Fu (r:Ro) (v:Int) (o:ByteArray):ByteArray:=(Ca r v o).headD ⟨#[]⟩
theorem qC {s d t p:Value} (v:Int) (o:ByteArray) (ho:o≠⟨#[]⟩) {w:World} (h:RR w r s d t p):aj T_ 131 [RA r s d t p,.q v,.string o] w (.string (Fu r v o)):=by
 obtain ⟨h1,h2,h3,h4⟩:=h.one;have Uq:∀ w',aJ [] w w'->a8 T_ 31 [.agg #[.int .i64 r.lv,.int .i64 r.ma,s,d,t,p],.int .i64 v,.string o] w' [] (fun _:Value=>True) id (fun x=>[row 9 1 x (Ca r v o).length (aR (Ca r v o))]):=fun w' hk=>OI v o ho (h.keeps hk)
 unfold Fu;generalize Ca r v o=L at Uq ⊢;unfold RA;refine ah func131 I I ?_
 (refine Jr<|Jy I I fun _ _=>Ja I<|Ji<|ab (cm .here) I<|Jv I<|Jv I ?_)
 refine JN ef I (fun w1 aT=>Uq w1 aT.keeps) ?_;intro x _;dsimp only [id_eq,Zb,Za];cases L with
 | nil =>
  refine aM (E:=9) (sz:=1) (v:=x) (by exact .here) fun xa xc e=>?_;subst e
  (refine Ja I<|Jn<|Jq<|Jr<|Jv I<|JI I<|JC I<|Jn<|gm I (fun az=>?_) fun az=>?_;refine Jr<|Ja I<|Jn<|Ju<|JT ?_;rotate_left;refine Jk<|Jr<|Jv I ?_;rotate_right)
  all_goals first | rfl | exact absurd I az
 | cons y L =>
  refine dy (E:=9) (sz:=1) (v:=x) (by exact .here) (by exact Nat.succ_pos _) ?_;rintro g gc cur e dd _ _ _;subst e;have iy:(aR (y::L)++cur)[0*1]? = some (.string y):=rfl;have uE:(y::L).length=L.length+1:=rfl;rw [uE]
  (refine Ja I<|Jn<|Jq<|Jr<|Jv I<|JI I<|JC I<|Jn<|Jc I fun az=>Jk<|Jr<|Jv I<|ab (an (.of I) (.of I) I (by omega) (by omega) aW) I<|JL I .here I<|Ja I<|Jn<|Je<|JT ?_)
  all_goals first | rfl | omega
def mO (r:Ro) (o:ByteArray):List ByteArray:=(List.range r.lv.toNat).map fun k=>Fu r (k:Nat) o
theorem UU {s d t p:Value} (o:ByteArray) (ho:o≠⟨#[]⟩) (tO:r.lv<=1000000) {w:World} (h:RR w r s d t p):a8 T_ 30 [RA r s d t p,.string o] w [] (fun _:Value=>True) id (fun x=>[row 9 1 x (mO r o).length (aR (mO r o))]):=by
 obtain ⟨h1,h2,h3,h4⟩:=h.one;have rL:∀ (v:Int) w',aJ [] w w'->aj T_ 131 [.agg #[.int .i64 r.lv,.int .i64 r.ma,s,d,t,p],.int .i64 v,.string o] w' (.string (Fu r v o)):=fun v w' hk=>qC v o ho (h.keeps hk)
 unfold RA;refine aS func30 I I ?_;refine Jr<|Jy I I fun _ _=>Ja I<|Ji<|Ja I<|Jn<|Jq<|Jr<|Ja I<|Jn<|J0 ?_;rename_i b2 rM;refine aN 9 1 ?_;refine aV (ι:=Nat×Value) (fun y=>y.1<=r.lv.toNat) (fun y=>[(6,.q (y.1:Nat)),(5,y.2),(1,.string o),(2,.p b2)]) (fun y=>[row 9 1 y.2 y.1 (aR ((mO r o).take y.1)),JQ b2 r s d t p]) (fun y=>r.lv.toNat-y.1) ?_ ?_
 ·apply aI (0,.z) (Zi _)
  case hs1=>exact bS
  case ht=>
   exact .h2 .nil
 rintro ⟨k,v'⟩ hk;dsimp only at hk ⊢;have uE:(mO r o).length=r.lv.toNat:=by unfold mO;rw [Zd,Zau]
 by_cases aK:k<r.lv.toNat
 ·have D5:((k:Nat):Int)<r.lv:=by omega
  have ba:aR ((mO r o).take (k+1))=aR ((mO r o).take k)++[.string (Fu r (k:Nat) o)]:=by
   rw [Zl (by omega),eT];unfold mO;rw [ZZ,Zbj];rfl
  have hlen:(aR ((mO r o).take k)).length=k*1:=by rw [dj,Zs];omega
  (refine Jq<|Jr<|Jv I<|bJ I I ae<|JL I (.there .here) I<|JA I<|Jn<|Jd I fun az=>Jk<|Jq<|J0<|Jg<|Jv I<|ab (cm (.there .here)) I<|Jv I<|Jv I<|ai ef I (fun w' aB=>(rL _ w' (Mem.keeps aB)))<|bj (aG (.o I .nil) I I I I) I fun _ _=>?_)
  refine bu (.of I) (.of I) (.there .here) .here ak (by rfl) (dR I) (by rfl) (by rfl) (by rfl) ed (by rfl) ?_;intro z;refine Ja I<|Jx<|Jj<|Jt<|Jg<|Jv I<|JB I (by omega)<|Ja I<|Jn ?_;apply aH (k+1,z) (by show k+1<=r.lv.toNat;omega) (by show r.lv.toNat-(k+1)<r.lv.toNat-k;omega)
  case hs1=>exact bS
  case ht=>
   show bB _ [row 9 1 z (k+1) (aR ((mO r o).take (k+1))),JQ b2 r s d t p] _;rw [ba];exact .h1 (.cons (.there .here) .nil)
 ·obtain rfl:k=r.lv.toNat:=by omega
  rw [Zab (by omega),uE]
  (refine Jq<|Jr<|Jv I<|bJ I I ae<|JL I (.there .here) I<|JA I<|Jn<|Jc I fun az=>Jp<|Jl<|Jo<|Jt<|Jr<|Jv I<|Ja I<|Jn<|Je ?_)
  with_reducible first|apply aO|apply aQ
  case he=>exact dB I I
  case hR=>
   intro w' aB;exact aD v' trivial (by exact .h1 .nil) aB I

theorem MH {lv:Value} (o:ByteArray) {w:World} (h:Rd w lv 1 (gi l)):aj T_ 59 [lv,.string o] w (.bool (jr l o)):=by
 obtain ⟨a,cp,b,o',rfl,dd,bO,ha,hc⟩:=h;rw [bG] at *;unfold maxLen at bO;refine ah func59 I I ?_;refine Jr<|Ja I<|Jn<|Jq<|Jr<|Ja I<|Jn<|J0 ?_;refine aV (ι:=Nat) (fun k=>k<=l.length/\∀ j (hj:j<l.length),j<k->l[j]≠o) (fun k=>[(5,.int .i64 (k:Nat)),(0,.slice a l.length cp),(1,.string o)]) (fun _=>[]) (fun k=>l.length-k) ?_ ?_
 ·apply aI (0:Nat) ⟨Zi _,fun j _ hj=>absurd hj (ZN _)⟩
  case hs1=>exact bS
  case ht=>(try simp only [Ze,Zf,Za]);exact .nil
 rintro k ⟨hk,hf⟩;by_cases aK:k<l.length
 ·have cq:=ha (iE aK);have c0:w.cell? ⟨b,o'+k*1,none⟩=some (.string l[k]):=(hc k _ (fM aK)).2 0 _ I;have hm:=Zj aK;have uG:l[k]≠o->∀ j (hj:j<l.length),j<k+1->l[j]≠o:=fun q j hj Mr=>by
   by_cases e:j=k
   ·subst e;exact q
   ·exact hf j hj (by omega)
  generalize l[k]=x at c0 hm uG
  (refine Jq<|Jr<|Jv I<|Jv I<|JI I<|JA I<|Jn<|Jd I fun az=>Jk<|Jq<|J0<|Jr<|Jv I<|Jv I<|ab (fT cq az) I<|ab (ag (.of I) (At.base c0 I)) I<|Jv I<|ab (dF (.of I) (.of I)) I<|Jn<|gm I (fun az=>?_) fun az=>?_;refine Jr<|Ja I<|Jn<|Je<|Jm<|Jh<|Jh<|Jm<|Jh<|JT ?_;rotate_left;refine Jw<|Jj<|Jt<|Jg<|Jv I<|JB I (by omega)<|Ja I<|Jn ?_;rotate_right)
  ·have uz:x=o:=az;rw [fI.2 (uz ▸ hm)]
  ·have uz:¬ x=o:=az;apply aH (k+1) ⟨(show k+1<=l.length from aK),uG uz⟩ (show l.length-(k+1)<l.length-k by omega)
   case hs1=>exact bS
   case ht=>(try simp only [Ze,Zf,Za]);exact .nil
 ·have e:jr l o=false:=by
   rw [<- Zap,fI];intro q;obtain ⟨j,hj,e⟩:=Zw q;exact hf j hj (by omega) e
  obtain rfl:k=l.length:=by omega
  rw [e];refine Jq<|Jr<|Jv I<|Jv I<|JI I<|JA I<|Jn<|Jc I fun az=>Jp<|Jl<|Jo<|Jt<|Jr<|Ja I<|Jn<|Je<|JT ?_
  rfl
end Go.Proofs.A1
