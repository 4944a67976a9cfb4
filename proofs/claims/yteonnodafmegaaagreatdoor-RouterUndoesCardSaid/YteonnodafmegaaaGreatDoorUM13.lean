/- Parts of the proof: LP POpen LQ LR LS LT LU LV LW LX LY P6c P6e. -/
import Derived.Test.YteonnodafmegaaaGreatDoorUM12
import Derived.Test.YteonnodafmegaaaGreatDoorUM04
import Derived.Test.YteonnodafmegaaaGreatDoorTie
import Derived.Test.YteonnodafmegaaaGreatDoorCards
import Derived.Lib.SmallJoins
import Derived.Lib.LaidTab
import Derived.Deep.Slices
import Derived.Deep.Fields
import Derived.ChangeSame
import Derived.ChangeBook
import Derived.ChangeStays
import Derived.WalkKit
import Derived.ProofKit
import Derived.OpenShut
import Derived.Below
import Derived.LaidMore
import Derived.Lay
import Derived.SevenTiedAt
import Derived.Stop.Joined
import Derived.ChangeMaps5
import Derived.Test.YteonnodafmegaaaGreatDoorUM10
set_option linter.unusedSectionVars false
set_option linter.unusedVariables false
set_option linter.unusedSimpArgs false
namespace Go.Proofs.A1
open Go Go.SL
open Tryz
open Tryz renaming prog->T_
variable {Y:List ByteArray} {af:Array Edge} {c:Cx} {d:Value} {dst:Option Tmp} {e:Int} {fz:Nat×Nat} {g:Option (Nat×Bool)} {hs hs':List bd} {l:List eN} {p:Value} {pos:String} {r:Ro} {s:Value} {sl:aH} {t v v1 v2:Value}
theorem cz {D:List Nat} {hs rest:List bd} {X:Act->World->Prop} (hs2:List bd) (ht:bj hs hs2 rest) (k:Tr c D sl hs2 X):Tr c D sl hs X:=fun a w bh=>k a w (bh.heap (by
 have h1:=bh.mem.jo (ht.append (nb D));obtain ⟨kk,fp,hn,fV,hb⟩:=h1;obtain ⟨f1,f23,rfl,g1,g23⟩:=cC.append_iff.1 fV;obtain ⟨f2,f3,rfl,g2,g3⟩:=cC.append_iff.1 g23;obtain ⟨n1,n23,n12⟩:=ZB.1 hn;obtain ⟨n2,n3,n4⟩:=ZB.1 n23;exact ⟨kk,f1++f3,ZB.2 ⟨n1,n3,fun x hx y hy=>n12 x hx y (ZT _ hy)⟩,cC.append_iff.2 ⟨f1,f3,I,g1,g3⟩,fun b dF=>hb b (by
  rcases Zv.1 dF with h | h
  ·exact ZC _ h
  ·exact ZT _ (ZT _ h))⟩))
theorem r9:kE mo:=⟨by decide,by decide,by decide⟩
theorem Gx:kE gy:=⟨by decide,by decide,by decide⟩
theorem Gw:kE hY:=⟨by decide,by decide,by decide⟩
theorem Ws:kE Ej:=⟨by decide,by decide,by decide⟩
theorem AW:mE gy:=⟨by decide,by decide,by decide,by decide⟩
theorem AV:mE hY:=⟨by decide,by decide,by decide,by decide⟩
theorem abj:mE xg:=⟨by decide,by decide,by decide,by decide⟩
theorem Wo:mE Ej:=⟨by decide,by decide,by decide,by decide⟩
theorem Mp {w:World} (v:Int) (so de:ByteArray) (h:RR w r s d t p) (hf:kE r) (e1:GO r v so de=e) (e2:DV r v so de=Y):bb T_ 70 [.agg #[.q (r).lv,.q (r).ma,s,d,t,p],.q v,.string so,.string de] w [] (fun _:Value=>True) (fun x=>.tuple #[x,.q e]) (fun x=>[row 9 1 x Y.length (aJ Y)]):=by
 subst e1 e2;exact WW v so de h hf
theorem TH {w:World} {Y:List Int} (v:Int) (so de:ByteArray) (h:RR w r s d t p) (hf:kE r) (e1:LZ r v so de=e) (e2:HU r v so de=Y):bb T_ 36 [.agg #[.q (r).lv,.q (r).ma,s,d,t,p],.q v,.string so,.string de] w [] (fun _:Value=>True) (fun x=>.tuple #[x,.q e]) (fun x=>[row 3 1 x Y.length (Y.map (Value.int .i64))]):=by
 subst e1 e2;exact W7 v so de h hf
theorem QV {r q:Ro} {k:Tk} {w:World} (e:fT r [k]=(q,0,0)) (h:RR w r s d t p) (hf:kE r) (hv:Rd w v 1 (fX k.so)):bb T_ 48 [.agg #[.q (r).lv,.q (r).ma,s,d,t,p],.agg #[.string k.de,v]] w [] (fun _:Value×Value×Value×Value=>True) (fun y=>.tuple #[.agg #[.q (q).lv,.q (q).ma,y.1,y.2.1,y.2.2.1,y.2.2.2],.q 0]) (fun y=>oA q y):=by
 have:=PR (x:=⟨k,v⟩) h hf hv;rw [show (eN.mk k v).tk=k from I,e] at this;exact this
theorem Mr {r q:Ro} {i e_:Int} {w:World} (e:fT r (cq l)=(q,i,e_)) (h:RR w r s d t p) (hf:kE r) (hv:Rd w v 2 (gL l)) (hM:qY w l):bb T_ 45 [.agg #[.q (r).lv,.q (r).ma,s,d,t,p],v] w [] (fun _:Value×Value×Value×Value=>True) (fun y=>.tuple #[.agg #[.q (q).lv,.q (q).ma,y.1,y.2.1,y.2.2.1,y.2.2.2],.q i,.q e_]) (fun y=>oA q y):=by
 have:=Bp h hf hv hM;rw [e] at this;exact this
theorem WS {m:List Tk} {w:World} (e:(fT r (cq l)).2.2=0) (e2:zw r (cq l)=m) (h:RR w r s d t p) (hf:kE r) (hv:Rd w v 2 (gL l)) (hM:qY w l):bb T_ 47 [.agg #[.q (r).lv,.q (r).ma,s,d,t,p],v] w [] (fun x:Value×List eN=>cq x.2=m) (fun x=>.tuple #[x.1,.q 0]) (fun x=>[row 78 2 x.1 x.2.length (gL x.2).flatten,DX x.2]):=by
 have:=Dx h hf hv hM;rw [e,e2] at this;exact this
theorem QY {w:World} (o:ByteArray) (h:RR w r s d t p) (hf:kE r) (e1:CY r o=e) (e2:ET r o=Y):bb T_ 20 [.agg #[.q (r).lv,.q (r).ma,s,d,t,p],.string o] w [] (fun _:Value=>True) (fun x=>.tuple #[x,.q e]) (fun x=>[row 9 1 x Y.length (aJ Y)]):=by
 subst e1 e2;exact TN o h hf
theorem QW {w:World} (v:Int) (o:ByteArray) (h:RR w r s d t p) (hf:kE r) (e1:BJ r v o=e) (e2:DY r v o=Y):bb T_ 22 [.agg #[.q (r).lv,.q (r).ma,s,d,t,p],.q v,.string o] w [] (fun _:Value=>True) (fun x=>.tuple #[x,.q e]) (fun x=>[row 9 1 x Y.length (aJ Y)]):=by
 subst e1 e2;exact PQ v o h hf
theorem QZ {w:World} (v:Int) (h:RR w r s d t p) (hf:kE r) (e1:Dq r v=e) (e2:Fg r v=Y):bb T_ 23 [.agg #[.q (r).lv,.q (r).ma,s,d,t,p],.q v] w [] (fun _:Value=>True) (fun x=>.tuple #[x,.q e]) (fun x=>[row 9 1 x Y.length (aJ Y)]):=by
 subst e1 e2;exact TP v h hf
theorem WR {w:World} (v:Int) (o:ByteArray) (h:RR w r s d t p) (hf:kE r) (e1:Iv r v o=e) (e2:GQ r v o=Y):bb T_ 24 [.agg #[.q (r).lv,.q (r).ma,s,d,t,p],.q v,.string o] w [] (fun _:Value=>True) (fun x=>.tuple #[x,.q e]) (fun x=>[row 9 1 x Y.length (aJ Y)]):=by
 subst e1 e2;exact PO v o h hf
theorem WU {r q:Ro} {w:World} {b:Bool} (o:ByteArray) (h:RR w r s d t p) (hf:kE r) (e1:nO r o=0) (e2:nN r o b=q):bb T_ 78 [.agg #[.q (r).lv,.q (r).ma,s,d,t,p],.string o,.bool b] w [] (fun _:Value×Value×Value×Value=>True) (fun y=>.tuple #[.agg #[.q (q).lv,.q (q).ma,y.1,y.2.1,y.2.2.1,y.2.2.2],.q 0]) (fun y=>oA q y):=by
 have:=tX o b h hf;rw [e1,e2] at this;exact this
theorem Ms {l:List qh} {m:List Od} {w:World} (o:ByteArray) (f:Int) (em:eD l=m) (h:RR w r s d t p) (hf:kE r) (e1:ru r m o f=0) (e2:ub r m o f=Y) (hv:Rd w v 2 (tB l)) (hM:Ik w l):bb T_ 64 [.agg #[.q (r).lv,.q (r).ma,s,d,t,p],v,.string o,.q f] w [] (fun _:Value=>True) (fun x=>.tuple #[x,.q 0]) (fun x=>[row 9 1 x Y.length (aJ Y)]):=by
 have:=TL o f h hf hv hM;rw [em,e1,e2] at this;exact this
theorem jL (w:World):bb T_ 105 [] w [] (fun _:Value×Value×Value×Value=>True) (fun x=>.agg #[.q (mo).lv,.q (mo).ma,x.1,x.2.1,x.2.2.1,x.2.2.2]) (fun x=>oA mo x):=Pp w
theorem kT {w:World} (h:RR w r s d t p) (hf:mE r):bb T_ 57 [.agg #[.q (r).lv,.q (r).ma,s,d,t,p]] w [] (fun _:Value×Value×Value×Value=>True) (fun x=>.agg #[.q (r).lv,.q (r).ma,x.1,x.2.1,x.2.2.1,x.2.2.2]) (fun x=>DE r x):=D6 h hf
theorem eS {w:World} (h:RR w r s d t p) (hf:mE r):bb T_ 21 [.agg #[.q (r).lv,.q (r).ma,s,d,t,p]] w [] (fun _:Value×Value×Value×Value=>True) (fun x=>.agg #[.q (r).lv,.q (r).ma,x.1,x.2.1,x.2.2.1,x.2.2.2]) (fun x=>oA r x):=UP h hf
theorem QX (w:World):bb T_ 106 [] w [] (fun _:Option Addr×Nat=>True) (fun x=>.agg #[.string dL,.slice x.1 2 x.2]) (fun x=>[row 9 1 (.slice x.1 2 x.2) 2 (aJ om.so)]):=Tn w
theorem WT (w:World):bb T_ 107 [] w [] (fun _:Option Addr×Nat=>True) (fun x=>.agg #[.string ji,.slice x.1 2 x.2]) (fun x=>[row 9 1 (.slice x.1 2 x.2) 2 (aJ TQ.so)]):=Tm w
theorem Mq (w:World):bb T_ 108 [] w [] (fun _:Option Addr×Nat=>True) (fun x=>.agg #[.string dL,.slice x.1 2 x.2]) (fun x=>[row 9 1 (.slice x.1 2 x.2) 2 (aJ oh.so)]):=Tl w
theorem iq {w:World} {x:eN} (h:Rd w x.v 1 (fX x.tk.so)) (k:qY w l):qY w (x::l):=fun y hy=>by
 rcases ZO.1 hy with rfl | hy
 ·exact h
 ·exact k y hy
theorem j8 (w:World):qY w []:=fun _ h=>absurd h Zp
theorem l7 {l:List ByteArray} {w:World} (h1:Rd w v1 1 (fX l)) (h2:Rd w v2 1 (fX l)):aj T_ 58 [v1,v2] w (.bool true):=by
 have:=zW h1 h2;rwa [decide_eq_true I] at this
theorem NK {l:List Int} {w:World} (h1:Rd w v1 1 (ints l)) (h2:Rd w v2 1 (ints l)):aj T_ 109 [v1,v2] w (.bool true):=by
 have:=NL h1 h2;rwa [decide_eq_true I] at this
theorem Ia {w:World} {W:List eN} (hm:Mem c hs w) (ht:Take hs (DX W) hs'):qY w W:=fun x hx=>by
 obtain ⟨j,hj,rfl⟩:=Zx hx;have:=hm.Es (j:=j) (v:=W[j].v) (x:=aJ W[j].tk.so) ht (by rw [ZA,Zc hj];rfl) (by rw [ZA,Zc hj];rfl);have e:(aJ W[j].tk.so).map (fun u=>[u])=fX W[j].tk.so:=by unfold aJ fX;rw [Zat];rfl
 rwa [e] at this
theorem NJ {l m:List eN} {w:World} (h1:Rd w v1 2 (gL l)) (hM1:qY w l) (h2:Rd w v2 2 (gL m)) (hM2:qY w m) (e:cq l=cq m):aj T_ 53 [v1,v2] w (.bool true):=by
 have:=Dy h1 hM1 h2 hM2;rwa [decide_eq_true e] at this
theorem J9 {q:List Po} {w:World} (h:RR w r s d t p) (cO:mE r) (hv:Rd w v 3 (ud q)) (e:r.po=q):aj T_ 110 [.agg #[.q (r).lv,.q (r).ma,s,d,t,p],v] w (.bool true):=by
 have:=Ki h cO hv;rwa [decide_eq_true e] at this
theorem dN {P:Program} {ty:TypeId} {x y z:Operand} {q:Bool} {v u V:Value} (hx:Is sl x (.bool q)) (hy:Is sl y v) (hz:Is sl z u) (e:(bif q then v else u)=V):cY P c sl hs ⟨dst,.pick x y z,ty,pos,af,g⟩ V:=e ▸ uC hx hy hz
theorem XY {w:World} {g:Nat} {x:ByteArray} {E:TypeId} (hm:Mem c hs w) (ht:Take hs (bo g (.cells #[.string x] E fz)) hs'):Rd w (.w g 1 1) 1 (fX [x]):=Mem.dh hm ht I I
theorem XX {w:World} {g:Nat} {x y z:ByteArray} {E:TypeId} (hm:Mem c hs w) (ht:Take hs (bo g (.cells #[.string x,.string y,.string z] E fz)) hs'):Rd w (.w g 3 3) 1 (fX [x,y,z]):=Mem.dh hm ht I I
theorem Et {w:World} {g:Nat} {x y:ByteArray} {E:TypeId} (hm:Mem c hs w) (ht:Take hs (bo g (.cells #[.string x,.string y] E fz)) hs'):Rd w (.w g 2 2) 1 (fX [x,y]):=Mem.dh hm ht I I
theorem EB {w:World} {l:List qh} {E:TypeId} {n:Nat} (hm:Mem c hs w) (ht:Take hs (row E 2 v n (tB l).flatten) hs') (hn:l.length=n):Rd w v 2 (tB l):=hm.qm ht rfl (fun r hr=>by obtain ⟨x,_,rfl⟩:=Zo.1 hr;rfl) (by rw [show (tB l).length=l.length from Zd _,hn])
theorem mP {w:World} {x:qh} {l:List qh} (h:Rd w x.v 2 (gL x.tk)) (h2:qY w x.tk) (k:Ik w l):Ik w (x::l):=fun y hy=>by
 rcases ZO.1 hy with rfl | hy
 ·exact ⟨h,h2⟩
 ·exact k y hy
theorem Av (w:World):Ik w []:=fun _ h=>absurd h Zp
theorem TG {w:World} (h:RR w mo s d t p):aj T_ 85 [.agg #[.q (mo).lv,.q (mo).ma,s,d,t,p]] w (.tuple #[.string (Ka mo),.q 0]):=by
 have:=PS h r9;rwa [Wz] at this
theorem Hc {P:Program} {ty:TypeId} {t u:TypeId} {x y:Operand} {a b:ByteArray} (hx:Is sl x (.string a)) (hy:Is sl y (.string b)) (e:a=b) :
  cY P c sl hs ⟨dst,.binOp .eql t x y u,ty,pos,af,g⟩ (.bool true):=by
 have:=ei (P:=P) (c:=c) (hs:=hs) (dst:=dst) (ty:=ty) (pos:=pos) (af:=af) (g:=g) (t:=t) (u:=u) hx hy;rwa [decide_eq_true e] at this
set_option maxRecDepth 20000 in
set_option maxHeartbeats 4000000 in
theorem nM (w:World):aj T_ 17 [] w (.bool true):=by
 refine ah func17 I I ?_;refine Jr<|Ja I<|Ji ?_;refine JN lK I (fun w1 aG=>jL w1) ?_;rintro ⟨s1,d1,t1,p1⟩ _
 try dsimp only [id_eq,Zb,Za]
 refine cn (r:=mo) (s:=s1) (d:=d1) (t:=t1) (p:=p1) (aQ _ _) fun m1a m1b m1c m1d=>?_
 skip
 refine JN wZ I (fun w1 aG=>Mp 0 cU dL ⟨bM aG (by exact .here) I,bN aG (by exact Take.there .here) I,bL aG bF I,bJ aG cA I⟩ r9 QD.1 QD.2) ?_;rintro x1 _
 try dsimp only [id_eq,Zb,Za]
 refine Jv I<|JJ I I<|JJ I I<|Ja I<|Ja I<|Ji ?_;refine JN lK I (fun w1 aG=>jL w1) ?_;rintro ⟨s2,d2,t2,p2⟩ _
 try dsimp only [id_eq,Zb,Za]
 refine cn (r:=mo) (s:=s2) (d:=d2) (t:=t2) (p:=p2) (aQ _ _) fun m2a m2b m2c m2d=>?_
 skip
 refine JN lK I (fun w1 aG=>QX w1) ?_;rintro ⟨ya,yc⟩ _
 try dsimp only [id_eq,Zb,Za]
 skip
 refine JN ba I (fun w1 aG=>QV (k:=om) Ww ⟨bM aG (by exact Take.there .here) I,bN aG bF I,bL aG cA I,bJ aG df I⟩ r9 (dz aG (by exact .here) (by exact I))) ?_;rintro ⟨s3,d3,t3,p3⟩ _
 try dsimp only [id_eq,Zb,Za]
 refine cn (r:=gy) (s:=s3) (d:=d3) (t:=t3) (p:=p3) (aQ _ _) fun m3a m3b m3c m3d=>?_
 (refine Jv I<|JJ I I<|JJ I I<|Jz I I fun _ _=>an (.of I) (.of I) .here I I (gr I I m3a m3b m3c m3d) (bG I) ak<|Ja I<|Ji<|ab (cK .here) I ?_)
 rename_i b3 uR;refine cz [JW x1 [nT],bo b3 (.cells #[.q (gy).lv,.q (gy).ma,s3,d3,t3,p3] 41 (0,0)),J1 (gy) s3,J2 (gy) d3,J3 (gy) t3,J4 (gy) p3] (by exact .cons lW (.h5 .nil)) ?_
 skip
 refine JN bz I (fun w1 aG=>kT ⟨bM aG bF I,bN aG cA I,bL aG df I,bJ aG eG I⟩ AW) ?_;rintro ⟨s4,d4,t4,p4⟩ _
 try dsimp only [id_eq,Zb,Za]
 refine gi (r:=gy) (s:=s4) (d:=d4) (t:=t4) (p:=p4) (aQ _ _) fun m4a m4b m4c m4d=>?_
 skip
 refine JN bz I (fun w1 aG=>eS ⟨bM aG (by exact .here) I,bN aG (by exact Take.there .here) I,bL aG bF I,bJ aG cA I⟩ AW) ?_;rintro ⟨s5,d5,t5,p5⟩ _
 try dsimp only [id_eq,Zb,Za]
 refine cn (r:=gy) (s:=s5) (d:=d5) (t:=t5) (p:=p5) (aQ _ _) fun m5a m5b m5c m5d=>?_
 skip
 refine JN lK I (fun w1 aG=>WT w1) ?_;rintro ⟨za,zc⟩ _
 try dsimp only [id_eq,Zb,Za]
 skip
 refine JN ba I (fun w1 aG=>QV (k:=TQ) Wv ⟨bM aG (by exact Take.there .here) I,bN aG bF I,bL aG cA I,bJ aG df I⟩ Gx (dz aG (by exact .here) (by exact I))) ?_;rintro ⟨s6,d6,t6,p6⟩ _
 try dsimp only [id_eq,Zb,Za]
 refine cn (r:=hY) (s:=s6) (d:=d6) (t:=t6) (p:=p6) (aQ _ _) fun m6a m6b m6c m6d=>?_
 (refine Jv I<|JJ I I<|JJ I I<|Jz I I fun _ _=>an (.of I) (.of I) .here I I (gr I I m6a m6b m6c m6d) (bG I) ak<|Ja I<|Ji<|ab (cK .here) I ?_)
 rename_i b5 MY;refine cz [JW x1 [nT],bo b3 (.cells #[.q (gy).lv,.q (gy).ma,s3,d3,t3,p3] 41 (0,0)),J1 (gy) s3,J2 (gy) d3,J3 (gy) t3,J4 (gy) p3,bo b5 (.cells #[.q (hY).lv,.q (hY).ma,s6,d6,t6,p6] 41 (0,0)),J1 (hY) s6,J2 (hY) d6,J3 (hY) t6,J4 (hY) p6] (by exact .cons DA (.cons DA (.cons DA (.cons DA (.cons DA (.cons DA (.h5 .nil))))))) ?_
 skip
 refine JN bz I (fun w1 aG=>kT ⟨bM aG uZ I,bN aG fW I,bL aG iS I,bJ aG lW I⟩ AV) ?_;rintro ⟨s7,d7,t7,p7⟩ _
 try dsimp only [id_eq,Zb,Za]
 refine gi (r:=hY) (s:=s7) (d:=d7) (t:=t7) (p:=p7) (aQ _ _) fun m7a m7b m7c m7d=>?_
 skip
 refine JN bz I (fun w1 aG=>eS ⟨bM aG (by exact .here) I,bN aG (by exact Take.there .here) I,bL aG bF I,bJ aG cA I⟩ AV) ?_;rintro ⟨s8,d8,t8,p8⟩ _
 try dsimp only [id_eq,Zb,Za]
 refine cn (r:=hY) (s:=s8) (d:=d8) (t:=t8) (p:=p8) (aQ _ _) fun m8a m8b m8c m8d=>?_
 skip
 refine JN lK I (fun w1 aG=>Mq w1) ?_;rintro ⟨ua,uc⟩ _
 try dsimp only [id_eq,Zb,Za]
 refine bu (bB (.o I .nil) I I bR bR ak) I (fun _ _=>?_);rename_i g4 VU;refine ch (g:=g4) (E:=78) (ys:=(gL [⟨oh,.slice ua 2 uc⟩]).flatten) 1 2 (by exact .here) (by exact I) I I ?_;refine JN ba I (fun w1 aG=>Mr (l:=[⟨oh,.slice ua 2 uc⟩]) QJ ⟨bM aG bF I,bN aG cA I,bL aG df I,bJ aG eG I⟩ Gw (im aG (by exact .here) (by exact I)) (iq (dz aG (by exact Take.there .here) (by exact I)) (j8 _))) ?_;rintro ⟨s9,d9,t9,p9⟩ _
 try dsimp only [id_eq,Zb,Za]
 refine cn (r:=xg) (s:=s9) (d:=d9) (t:=t9) (p:=p9) (aQ _ _) fun m9a m9b m9c m9d=>?_
 (refine Jv I<|JJ I I<|JJ I I<|JJ I I<|Jz I I fun _ _=>an (.of I) (.of I) .here I I (gr I I m9a m9b m9c m9d) (bG I) ak<|Ja I<|Ja I<|Ji<|ab (cK (.there (.there (.there (.there (.there lJ)))))) I ?_)
 rename_i b7 V3;refine cz [JW x1 [nT],bo b3 (.cells #[.q (gy).lv,.q (gy).ma,s3,d3,t3,p3] 41 (0,0)),J1 (gy) s3,J2 (gy) d3,J3 (gy) t3,J4 (gy) p3,bo b5 (.cells #[.q (hY).lv,.q (hY).ma,s6,d6,t6,p6] 41 (0,0)),J1 (hY) s6,J2 (hY) d6,J3 (hY) t6,J4 (hY) p6,bo b7 (.cells #[.q (xg).lv,.q (xg).ma,s9,d9,t9,p9] 41 (0,0)),J1 (xg) s9,J2 (xg) d9,J3 (xg) t9,J4 (xg) p9] (by exact .cons fO (.cons fO (.cons fO (.cons fO (.cons fO (.cons fO (.cons fO (.cons fO (.cons fO (.cons fO (.cons fO (.h5 .nil)))))))))))) ?_
 skip
 refine JN bz I (fun w1 aG=>kT ⟨bM aG uZ I,bN aG fW I,bL aG iS I,bJ aG lW I⟩ AV) ?_;rintro ⟨s10,d10,t10,p10⟩ _
 try dsimp only [id_eq,Zb,Za]
 refine gi (r:=hY) (s:=s10) (d:=d10) (t:=t10) (p:=p10) (aQ _ _) fun agn agm agl agk=>?_
 skip
 refine JN bz I (fun w1 aG=>eS ⟨bM aG (by exact .here) I,bN aG (by exact Take.there .here) I,bL aG bF I,bJ aG cA I⟩ AV) ?_;rintro ⟨s11,d11,t11,p11⟩ _
 try dsimp only [id_eq,Zb,Za]
 refine cn (r:=hY) (s:=s11) (d:=d11) (t:=t11) (p:=p11) (aQ _ _) fun agj agi agh agf=>?_
 skip
 refine JN lK I (fun w1 aG=>Mq w1) ?_;rintro ⟨va,vc⟩ _
 try dsimp only [id_eq,Zb,Za]
 refine bu (bB (.o I .nil) I I bR bR ak) I (fun _ _=>?_);rename_i g5 hg5;refine ch (g:=g5) (E:=78) (ys:=(gL [⟨oh,.slice va 2 vc⟩]).flatten) 1 2 (by exact .here) (by exact I) I I ?_;refine JN ba I (fun w1 aG=>WS (l:=[⟨oh,.slice va 2 vc⟩]) (m:=[om]) (congrArg (fun x:Ro×Int×Int=>x.2.2) QJ) Wt ⟨bM aG bF I,bN aG cA I,bL aG df I,bJ aG eG I⟩ Gw (im aG (by exact .here) (by exact I)) (iq (dz aG (by exact Take.there .here) (by exact I)) (j8 _))) ?_;rintro ⟨xX,W⟩ hW
 try dsimp only at hW
 try dsimp only [id_eq,Zb,Za]
 refine Jv I<|JJ I I<|JJ I I<|Ja I<|Ja I<|Ji ?_;refine cz [JW x1 [nT],bo b3 (.cells #[.q (gy).lv,.q (gy).ma,s3,d3,t3,p3] 41 (0,0)),J1 (gy) s3,J2 (gy) d3,J3 (gy) t3,J4 (gy) p3,bo b5 (.cells #[.q (hY).lv,.q (hY).ma,s6,d6,t6,p6] 41 (0,0)),J1 (hY) s6,J2 (hY) d6,J3 (hY) t6,J4 (hY) p6,bo b7 (.cells #[.q (xg).lv,.q (xg).ma,s9,d9,t9,p9] 41 (0,0)),J1 (xg) s9,J2 (xg) d9,J3 (xg) t9,J4 (xg) p9,row 78 2 xX W.length (gL W).flatten,DX W] (by exact .cons kV (.cons kV (.cons kV (.cons kV (.cons kV (.cons kV (.cons kV (.cons kV (.cons kV (.cons kV (.cons kV (.cons kV (.cons kV (.cons kV (.cons kV (.cons kV (.h2 .nil))))))))))))))))) ?_
 skip
 refine JN lK I (fun w1 aG=>jL w1) ?_;rintro ⟨s12,d12,t12,p12⟩ _
 try dsimp only [id_eq,Zb,Za]
 refine cn (r:=mo) (s:=s12) (d:=d12) (t:=t12) (p:=p12) (aQ _ _) fun age agd agc agb=>?_
 skip
 refine JN wZ I (fun w1 aG=>Mp 0 kz nX ⟨bM aG (by exact .here) I,bN aG (by exact Take.there .here) I,bL aG bF I,bJ aG cA I⟩ r9 QC.1 QC.2) ?_;rintro H9 _
 try dsimp only [id_eq,Zb,Za]
 refine Jv I<|JJ I I<|JJ I I<|Ja I<|Ja I<|Ji ?_;refine JN lK I (fun w1 aG=>jL w1) ?_;rintro ⟨s13,d13,t13,p13⟩ _
 try dsimp only [id_eq,Zb,Za]
 refine cn (r:=mo) (s:=s13) (d:=d13) (t:=t13) (p:=p13) (aQ _ _) fun aga af9 af8 af7=>?_
 skip
 refine JN wZ I (fun w1 aG=>TH 0 kz nX ⟨bM aG (by exact .here) I,bN aG (by exact Take.there .here) I,bL aG bF I,bJ aG cA I⟩ r9 QL.1 QL.2) ?_;rintro Q5 _
 try dsimp only [id_eq,Zb,Za]
 refine Jv I<|JJ I I<|JJ I I<|Ja I<|Ja I<|Ji ?_;refine JN lK I (fun w1 aG=>jL w1) ?_;rintro ⟨XV,d14,t14,X6⟩ _
 try dsimp only [id_eq,Zb,Za]
 refine cn (r:=mo) (s:=XV) (d:=d14) (t:=t14) (p:=X6) (aQ _ _) fun af6 af5 af4 af3=>?_;refine bu (aC (.o I .nil) I I I I) I (fun _ _=>?_);rename_i g8 hg8
 with_reducible apply ai
 case hr=>exact MG
 case hd=>rfl
 case hc=>
  intro w1 aG;have:=Fq (r:=mo) (s:=XV) (d:=d14) (t:=t14) (p:=X6) (cv:=.w g8 1 1) 0 kz nX (L:=[0]) (⟨bM aG (by exact Take.there .here) I,bN aG bF I,bL aG cA I,bJ aG df I⟩:RR w1 mo XV d14 t14 X6) r9 (Mem.dh aG (by exact .here) I I);rw [WA] at this;exact this
 refine cz [JW x1 [nT],bo b3 (.cells #[.q (gy).lv,.q (gy).ma,s3,d3,t3,p3] 41 (0,0)),J1 (gy) s3,J2 (gy) d3,J3 (gy) t3,J4 (gy) p3,bo b5 (.cells #[.q (hY).lv,.q (hY).ma,s6,d6,t6,p6] 41 (0,0)),J1 (hY) s6,J2 (hY) d6,J3 (hY) t6,J4 (hY) p6,bo b7 (.cells #[.q (xg).lv,.q (xg).ma,s9,d9,t9,p9] 41 (0,0)),J1 (xg) s9,J2 (xg) d9,J3 (xg) t9,J4 (xg) p9,row 78 2 xX W.length (gL W).flatten,DX W,row 3 1 Q5 [(1:Int)].length ([(1:Int)].map (Value.int .i64))] (by exact .cons fO (.cons fO (.cons fO (.cons fO (.cons fO (.cons fO (.cons fO (.cons fO (.cons fO (.cons fO (.cons fO (.cons fO (.cons fO (.cons fO (.cons fO (.cons fO (.cons fO (.cons fO (.cons eG .nil))))))))))))))))))) ?_
 (refine Ja I<|Jn<|Jq<|Jr<|Jv I<|Jv I<|JB I (by omega)<|Jv I<|JB I (by omega)<|Jv I<|JB I (by omega)<|Jv I<|JB I (by omega)<|Jv I<|JB I (by omega)<|JD I<|Jv I<|JK I I<|Jv I<|JK I I<|JD I<|ab (dN (.of I) (.of I) (.of I) I) I<|Jv I<|JK I I<|Jv I<|JK I I<|JD I<|ab (dN (.of I) (.of I) (.of I) I) I<|Jv I<|JK I I<|Jv I<|JK I I<|JD I<|ab (dN (.of I) (.of I) (.of I) I) I<|Jv I<|JK I I<|Jv I<|JK I I<|bu (aC (.o I .nil) I I I I) I fun _ _=>JK I I ?_)
 skip
 rename_i g9a ahA;refine ai ba I (fun w1 aG=>l7 (l:=[nT]) (dz aG (by exact Take.there .here) (by exact I)) (Mem.dh aG (by exact .here) I I)) ?_
 (refine JK I I<|JH I<|ab (dN (.of I) (.of I) (.of I) I) I<|Jv I<|JK I I<|Jv I<|JK I I<|bu (aC (.o I .nil) I I I I) I fun _ _=>JK I I ?_)
 rename_i g9b ahz;refine ai ba I (fun w1 aG=>NK (l:=[1]) (kP aG (.there (.there (.there (.there lJ)))) (by exact I)) (Mem.dh aG (by exact .here) I I)) ?_
 (refine JK I I<|JH I<|ab (dN (.of I) (.of I) (.of I) I) I<|Jv I<|JK I I<|Jv I<|JK I I ?_)
 have S8:W.length<=1000:=by
  have h:=congrArg List.length hW;unfold cq at h;rw [Zd] at h;rw [h];decide
 have hWs:∀ x∈W,x.tk.so.length<=1000:=by
  intro x hx;have h:x.tk∈cq W:=ZU hx;rw [hW] at h;rw [ZE.1 h];decide
 refine JN bz I (fun w1 aG=>uz (im aG (.there (.there lJ)) (by exact I)) (Ia aG (.there (.there (.there lJ)))) S8 hWs) ?_;rintro ⟨x9,V⟩ hV
 try dsimp only at hV
 try dsimp only [id_eq,Zb,Za]
 (refine JK I I<|bu (aC (.o I (.o I .nil)) I I I I) I fun _ _=>JK I I<|ab (aU (.o I (.o I .nil)) ak) I<|JK I I<|bu (bB (.o I .nil) I I bR bR ak) I fun _ _=>JK I I ?_)
 rename_i g9c ahy g9d ahx;refine ch (g:=g9d) (E:=69) (ys:=(gL [⟨om,.w g9c 2 2⟩]).flatten) 1 2 (by exact .here) (by exact I) I I ?_;refine ai ba I (fun w1 aG=>NJ (m:=[⟨om,.w g9c 2 2⟩]) (im aG bF (by exact I)) (Ia aG cA) (im aG (by exact .here) (by exact I)) (iq (Mem.dh aG (by exact Take.there .here) I I) (j8 _)) (hV.trans (hW.trans I))) ?_
 (refine JK I I<|JH I<|ab (dN (.of I) (.of I) (.of I) I) I<|Jn<|bE (.of I)<|Jk<|Jq<|Jr<|ab (cK uZ) I<|ab (aU (.o I (.o I (.o I .nil))) ak) I<|ab (aU (.o I (.o I (.o I .nil))) ak) I<|ab (aU (.o I (.o I (.o I .nil))) ak) I<|ab (aU (.o I (.o I (.o I .nil))) ak) I<|bu (bB (.o I (.o I (.o I (.o I .nil)))) I I bR bR ak) I fun _ _=>?_)
 rename_i abi ab8;refine ch (g:=abi) (E:=180) (ys:=gK X4) 4 3 (by exact .here) (by exact I) I I ?_;refine ai ba I (fun w1 aG=>J9 (r:=gy) (q:=X4) ⟨bM aG iS I,bN aG lW I,bL aG Bu I,bJ aG kV I⟩ AW (bJ aG (by exact .here) (by exact I)) I) ?_
 (refine JH I<|Jv I<|JK I I<|ab (cK uu) I<|JK I I<|ab (aU (.o I (.o I (.o I .nil))) ak) I<|JK I I<|ab (aU (.o I (.o I (.o I .nil))) ak) I<|JK I I<|ab (aU (.o I (.o I (.o I .nil))) ak) I<|JK I I<|ab (aU (.o I (.o I (.o I .nil))) ak) I<|JK I I<|ab (aU (.o I (.o I (.o I .nil))) ak) I<|JK I I<|bu (bB (.o I (.o I (.o I (.o I (.o I .nil))))) I I bR bR ak) I fun _ _=>JK I I ?_)
 rename_i abh ab7;refine ch (g:=abh) (E:=180) (ys:=gK X3) 5 3 (by exact .here) (by exact I) I I ?_;refine ai ba I (fun w1 aG=>J9 (r:=hY) (q:=X3) ⟨bM aG fO I,bN aG lJ I,bL aG (.there lJ) I,bJ aG (.there (.there lJ)) I⟩ AV (bJ aG (by exact .here) (by exact I)) I) ?_
 (refine JK I I<|JH I<|ab (dN (.of I) (.of I) (.of I) I) I<|Jv I<|JK I I<|ab (cK (.there (.there (.there lJ)))) I<|JK I I<|ab (aU (.o I (.o I (.o I .nil))) ak) I<|JK I I<|ab (aU (.o I (.o I (.o I .nil))) ak) I<|JK I I<|ab (aU (.o I (.o I (.o I .nil))) ak) I<|JK I I<|ab (aU (.o I (.o I (.o I .nil))) ak) I<|JK I I<|bu (bB (.o I (.o I (.o I (.o I .nil)))) I I bR bR ak) I fun _ _=>JK I I ?_)
 rename_i abg ab6;refine ch (g:=abg) (E:=180) (ys:=gK X2) 4 3 (by exact .here) (by exact I) I I ?_;refine ai ba I (fun w1 aG=>J9 (r:=xg) (q:=X2) ⟨bM aG (.there (.there (.there (.there (.there lJ))))) I,bN aG (.there (.there (.there (.there (.there (.there lJ)))))) I,bL aG (.there (.there (.there (.there (.there (.there (.there lJ))))))) I,bJ aG (.there (.there (.there (.there (.there (.there (.there (.there lJ)))))))) I⟩ abj (bJ aG (by exact .here) (by exact I)) I) ?_
 (refine JK I I<|JH I<|ab (dN (.of I) (.of I) (.of I) I) I<|Jn<|bE (.of I)<|Jk<|Jr<|ab (cK fO) I ?_)
 refine cz [bo b3 (.cells #[.q (gy).lv,.q (gy).ma,s3,d3,t3,p3] 41 (0,0)),J1 (gy) s3,J2 (gy) d3,J3 (gy) t3,J4 (gy) p3,bo b5 (.cells #[.q (hY).lv,.q (hY).ma,s6,d6,t6,p6] 41 (0,0)),J1 (hY) s6,J2 (hY) d6,J3 (hY) t6,J4 (hY) p6] (by exact .cons lW (.cons lW (.cons lW (.cons lW (.cons lW (.cons lW (.cons lW (.cons lW (.cons lW (.cons lW .nil)))))))))) ?_;refine JN bz I (fun w1 aG=>kT ⟨bM aG kU I,bN aG uZ I,bL aG fW I,bJ aG iS I⟩ AV) ?_;rintro ⟨s15,d15,t15,p15⟩ _
 try dsimp only [id_eq,Zb,Za]
 refine gi (r:=hY) (s:=s15) (d:=d15) (t:=t15) (p:=p15) (aQ _ _) fun af2 af1 af0 afZ=>?_
 skip
 refine JN bz I (fun w1 aG=>eS ⟨bM aG (by exact .here) I,bN aG (by exact Take.there .here) I,bL aG bF I,bJ aG cA I⟩ AV) ?_;rintro ⟨s16,d16,t16,p16⟩ _
 try dsimp only [id_eq,Zb,Za]
 refine cn (r:=hY) (s:=s16) (d:=d16) (t:=t16) (p:=p16) (aQ _ _) fun afY afX afW afV=>?_
 skip
 refine JN ba I (fun w1 aG=>QY ji ⟨bM aG (by exact .here) I,bN aG (by exact Take.there .here) I,bL aG bF I,bJ aG cA I⟩ Gw Wx.1 Wx.2) ?_;rintro Il _
 try dsimp only [id_eq,Zb,Za]
 refine Jv I<|JJ I I<|JJ I I<|Ja I<|Ja I<|Ji<|ab (cK iS) I ?_;refine cz [bo b3 (.cells #[.q (gy).lv,.q (gy).ma,s3,d3,t3,p3] 41 (0,0)),J1 (gy) s3,J2 (gy) d3,J3 (gy) t3,J4 (gy) p3,bo b5 (.cells #[.q (hY).lv,.q (hY).ma,s6,d6,t6,p6] 41 (0,0)),J1 (hY) s6,J2 (hY) d6,J3 (hY) t6,J4 (hY) p6,row 9 1 Il ([cU,⟨#[]⟩]:List ByteArray).length (aJ [cU,⟨#[]⟩])] (by exact .cons iS (.cons iS (.cons iS (.cons iS (.cons iS (.cons iS (.cons iS (.cons iS (.cons iS (.cons iS (.h1 .nil))))))))))) ?_;refine JN bz I (fun w1 aG=>kT ⟨bM aG (by exact Take.there .here) I,bN aG bF I,bL aG cA I,bJ aG df I⟩ AW) ?_;rintro ⟨s17,d17,t17,p17⟩ _
 try dsimp only [id_eq,Zb,Za]
 refine gi (r:=gy) (s:=s17) (d:=d17) (t:=t17) (p:=p17) (aQ _ _) fun afU afT afS afR=>?_
 skip
 refine JN bz I (fun w1 aG=>eS ⟨bM aG (by exact .here) I,bN aG (by exact Take.there .here) I,bL aG bF I,bJ aG cA I⟩ AW) ?_;rintro ⟨s18,d18,t18,p18⟩ _
 try dsimp only [id_eq,Zb,Za]
 refine cn (r:=gy) (s:=s18) (d:=d18) (t:=t18) (p:=p18) (aQ _ _) fun afQ afP afO afN=>?_
 skip
 refine JN eK I (fun w1 aG=>QW 0 dL ⟨bM aG (by exact .here) I,bN aG (by exact Take.there .here) I,bL aG bF I,bJ aG cA I⟩ Gx QF.1 QF.2) ?_;rintro MH _
 try dsimp only [id_eq,Zb,Za]
 refine Jv I<|JJ I I<|JJ I I<|Ja I<|Ja I<|Ji<|ab (cK iS) I ?_;refine cz [bo b3 (.cells #[.q (gy).lv,.q (gy).ma,s3,d3,t3,p3] 41 (0,0)),J1 (gy) s3,J2 (gy) d3,J3 (gy) t3,J4 (gy) p3,bo b5 (.cells #[.q (hY).lv,.q (hY).ma,s6,d6,t6,p6] 41 (0,0)),J1 (hY) s6,J2 (hY) d6,J3 (hY) t6,J4 (hY) p6,row 9 1 Il ([cU,⟨#[]⟩]:List ByteArray).length (aJ [cU,⟨#[]⟩]),row 9 1 MH ([cU,nT,dL]:List ByteArray).length (aJ [cU,nT,dL])] (by exact .cons iS (.cons iS (.cons iS (.cons iS (.cons iS (.cons iS (.cons iS (.cons iS (.cons iS (.cons iS (.cons iS (.h1 .nil)))))))))))) ?_;refine JN bz I (fun w1 aG=>kT ⟨bM aG (by exact Take.there .here) I,bN aG bF I,bL aG cA I,bJ aG df I⟩ AW) ?_;rintro ⟨s19,d19,t19,p19⟩ _
 try dsimp only [id_eq,Zb,Za]
 refine gi (r:=gy) (s:=s19) (d:=d19) (t:=t19) (p:=p19) (aQ _ _) fun afM afL afK afJ=>?_
 skip
 refine JN bz I (fun w1 aG=>eS ⟨bM aG (by exact .here) I,bN aG (by exact Take.there .here) I,bL aG bF I,bJ aG cA I⟩ AW) ?_;rintro ⟨s20,d20,t20,p20⟩ _
 try dsimp only [id_eq,Zb,Za]
 refine cn (r:=gy) (s:=s20) (d:=d20) (t:=t20) (p:=p20) (aQ _ _) fun afI afH afG afF=>?_
 skip
 refine JN ba I (fun w1 aG=>QZ 0 ⟨bM aG (by exact .here) I,bN aG (by exact Take.there .here) I,bL aG bF I,bJ aG cA I⟩ Gx QM.1 QM.2) ?_;rintro M7 _
 try dsimp only [id_eq,Zb,Za]
 refine Jv I<|JJ I I<|JJ I I<|Ja I<|Ja I<|Ji<|ab (cK DA) I ?_;refine cz [bo b3 (.cells #[.q (gy).lv,.q (gy).ma,s3,d3,t3,p3] 41 (0,0)),J1 (gy) s3,J2 (gy) d3,J3 (gy) t3,J4 (gy) p3,bo b5 (.cells #[.q (hY).lv,.q (hY).ma,s6,d6,t6,p6] 41 (0,0)),J1 (hY) s6,J2 (hY) d6,J3 (hY) t6,J4 (hY) p6,row 9 1 Il ([cU,⟨#[]⟩]:List ByteArray).length (aJ [cU,⟨#[]⟩]),row 9 1 MH ([cU,nT,dL]:List ByteArray).length (aJ [cU,nT,dL]),row 9 1 M7 ([nT]:List ByteArray).length (aJ [nT])] (by exact .cons iS (.cons iS (.cons iS (.cons iS (.cons iS (.cons iS (.cons iS (.cons iS (.cons iS (.cons iS (.cons iS (.cons iS (.h1 .nil))))))))))))) ?_;refine JN bz I (fun w1 aG=>kT ⟨bM aG kU I,bN aG uZ I,bL aG fW I,bJ aG iS I⟩ AV) ?_;rintro ⟨s21,d21,t21,p21⟩ _
 try dsimp only [id_eq,Zb,Za]
 refine gi (r:=hY) (s:=s21) (d:=d21) (t:=t21) (p:=p21) (aQ _ _) fun afE afD afC afB=>?_
 skip
 refine JN bz I (fun w1 aG=>eS ⟨bM aG (by exact .here) I,bN aG (by exact Take.there .here) I,bL aG bF I,bJ aG cA I⟩ AV) ?_;rintro ⟨s22,d22,t22,p22⟩ _
 try dsimp only [id_eq,Zb,Za]
 refine cn (r:=hY) (s:=s22) (d:=d22) (t:=t22) (p:=p22) (aQ _ _) fun afA afz afy afx=>?_
 skip
 refine JN eK I (fun w1 aG=>WR 0 cU ⟨bM aG (by exact .here) I,bN aG (by exact Take.there .here) I,bL aG bF I,bJ aG cA I⟩ Gw QE.1 QE.2) ?_;rintro PW _
 try dsimp only [id_eq,Zb,Za]
 refine Jv I<|JJ I I<|JJ I I<|Ja I<|Ja I<|Ji<|ab (cK iS) I ?_;refine cz [bo b3 (.cells #[.q (gy).lv,.q (gy).ma,s3,d3,t3,p3] 41 (0,0)),J1 (gy) s3,J2 (gy) d3,J3 (gy) t3,J4 (gy) p3,bo b5 (.cells #[.q (hY).lv,.q (hY).ma,s6,d6,t6,p6] 41 (0,0)),J1 (hY) s6,J2 (hY) d6,J3 (hY) t6,J4 (hY) p6,row 9 1 Il ([cU,⟨#[]⟩]:List ByteArray).length (aJ [cU,⟨#[]⟩]),row 9 1 MH ([cU,nT,dL]:List ByteArray).length (aJ [cU,nT,dL]),row 9 1 M7 ([nT]:List ByteArray).length (aJ [nT]),row 9 1 PW ([dL,ji]:List ByteArray).length (aJ [dL,ji])] (by exact .cons iS (.cons iS (.cons iS (.cons iS (.cons iS (.cons iS (.cons iS (.cons iS (.cons iS (.cons iS (.cons iS (.cons iS (.cons iS (.h1 .nil)))))))))))))) ?_;refine JN bz I (fun w1 aG=>kT ⟨bM aG (by exact Take.there .here) I,bN aG bF I,bL aG cA I,bJ aG df I⟩ AW) ?_;rintro ⟨s23,d23,t23,p23⟩ _
 try dsimp only [id_eq,Zb,Za]
 refine gi (r:=gy) (s:=s23) (d:=d23) (t:=t23) (p:=p23) (aQ _ _) fun afw afv afu aft=>?_
 skip
 refine JN bz I (fun w1 aG=>eS ⟨bM aG (by exact .here) I,bN aG (by exact Take.there .here) I,bL aG bF I,bJ aG cA I⟩ AW) ?_;rintro ⟨s24,d24,t24,p24⟩ _
 try dsimp only [id_eq,Zb,Za]
 refine cn (r:=gy) (s:=s24) (d:=d24) (t:=t24) (p:=p24) (aQ _ _) fun afs afr afq afp=>?_
 skip
 refine JN eK I (fun w1 aG=>WU (b:=true) nX ⟨bM aG (by exact .here) I,bN aG (by exact Take.there .here) I,bL aG bF I,bJ aG cA I⟩ Gx QK.1 QK.2) ?_;rintro ⟨XU,d25,t25,X5⟩ _
 try dsimp only [id_eq,Zb,Za]
 refine cn (r:=Ej) (s:=XU) (d:=d25) (t:=t25) (p:=X5) (aQ _ _) fun Yg Yf Ye Yd=>?_
 (refine Jv I<|JJ I I<|JJ I I<|Jz I I fun _ _=>an (.of I) (.of I) .here I I (gr I I Yg Yf Ye Yd) (bG I) ak<|Ja I<|Ji<|ab (cK .here) I ?_)
 rename_i b25 ah1;refine cz [row 9 1 Il ([cU,⟨#[]⟩]:List ByteArray).length (aJ [cU,⟨#[]⟩]),row 9 1 MH ([cU,nT,dL]:List ByteArray).length (aJ [cU,nT,dL]),row 9 1 M7 ([nT]:List ByteArray).length (aJ [nT]),row 9 1 PW ([dL,ji]:List ByteArray).length (aJ [dL,ji]),bo b25 (.cells #[.q (Ej).lv,.q (Ej).ma,XU,d25,t25,X5] 41 (0,0)),J1 (Ej) XU,J2 (Ej) d25,J3 (Ej) t25,J4 (Ej) X5] (by exact .cons (.there (.there (.there (.there (.there (.there (.there lJ))))))) (.cons (.there (.there (.there (.there (.there (.there (.there lJ))))))) (.cons (.there (.there (.there (.there (.there (.there (.there lJ))))))) (.cons (.there (.there (.there (.there (.there (.there (.there lJ))))))) (.h5 .nil))))) ?_;refine JN bz I (fun w1 aG=>kT ⟨bM aG eG I,bN aG kU I,bL aG uZ I,bJ aG fW I⟩ Wo) ?_;rintro ⟨s26,d26,t26,p26⟩ _
 try dsimp only [id_eq,Zb,Za]
 refine gi (r:=Ej) (s:=s26) (d:=d26) (t:=t26) (p:=p26) (aQ _ _) fun afo afn afm afl=>?_
 skip
 refine JN bz I (fun w1 aG=>eS ⟨bM aG (by exact .here) I,bN aG (by exact Take.there .here) I,bL aG bF I,bJ aG cA I⟩ Wo) ?_;rintro ⟨s27,d27,t27,p27⟩ _
 try dsimp only [id_eq,Zb,Za]
 refine cn (r:=Ej) (s:=s27) (d:=d27) (t:=t27) (p:=p27) (aQ _ _) fun afk afj afi afh=>?_
 (refine bu (aC (.o I (.o I .nil)) I I I I) I fun _ _=>ab (aU (.o I (.o I .nil)) ak) I<|bu (aC (.o I (.o I .nil)) I I I I) I fun _ _=>ab (aU (.o I (.o I .nil)) ak) I<|bu (bB (.o I (.o I .nil)) I I bR bR ak) I fun _ _=>?_)
 rename_i ga hga gb hgb gc hgc;refine ch (g:=gc) (E:=78) (ys:=(gL [⟨⟨ji,[⟨#[45]⟩,⟨#[]⟩]⟩,.w ga 2 2⟩,⟨⟨nX,[cU,cU]⟩,.w gb 2 2⟩]).flatten) 2 2 (by exact .here) (by exact I) I I ?_;refine JN ba I (fun w1 aG=>Mr (q:=(fT Ej [⟨ji,[⟨#[45]⟩,⟨#[]⟩]⟩,⟨nX,[cU,cU]⟩]).1) (i:=1) (e_:=31) (l:=[⟨⟨ji,[⟨#[45]⟩,⟨#[]⟩]⟩,.w ga 2 2⟩,⟨⟨nX,[cU,cU]⟩,.w gb 2 2⟩]) (Prod.ext I Wu) ⟨bM aG cA I,bN aG df I,bL aG eG I,bJ aG kU I⟩ Ws (im aG (by exact .here) (by exact I)) (iq (Et (g:=ga) (x:=⟨#[45]⟩) (y:=⟨#[]⟩) aG bF) (iq (Et (g:=gb) (x:=⟨#[99,97,109]⟩) (y:=⟨#[99,97,109]⟩) aG (by exact Take.there .here)) (j8 _)))) ?_;rintro ⟨s28,d28,t28,p28⟩ _
 try dsimp only [id_eq,Zb,Za]
 refine cn (r:=(fT Ej [⟨ji,[⟨#[45]⟩,⟨#[]⟩]⟩,⟨nX,[cU,cU]⟩]).1) (s:=s28) (d:=d28) (t:=t28) (p:=p28) (aQ _ _) fun Yc Yb Ya X9=>?_
 (refine Jv I<|JJ I I<|JJ I I<|JJ I I<|Jz I I fun _ _=>an (.of I) (.of I) .here I I (gr I I Yc Yb Ya X9) (bG I) ak<|Ja I<|Ja I<|Ji ?_)
 refine cz [row 9 1 Il ([cU,⟨#[]⟩]:List ByteArray).length (aJ [cU,⟨#[]⟩]),row 9 1 MH ([cU,nT,dL]:List ByteArray).length (aJ [cU,nT,dL]),row 9 1 M7 ([nT]:List ByteArray).length (aJ [nT]),row 9 1 PW ([dL,ji]:List ByteArray).length (aJ [dL,ji])] (by exact .cons lJ (.cons lJ (.cons lJ (.cons lJ .nil)))) ?_;refine JN lK I (fun w1 aG=>QX w1) ?_;rintro ⟨ya,yc⟩ _
 try dsimp only [id_eq,Zb,Za]
 (refine bu (bB (.o I .nil) I I bR bR ak) I fun _ _=>ab (aU (.o I (.o I .nil)) ak) I ?_)
 rename_i ge Lk;refine JN lK I (fun w1 aG=>Mq w1) ?_;rintro ⟨ua,uc⟩ _
 try dsimp only [id_eq,Zb,Za]
 (refine bu (bB (.o I .nil) I I bR bR ak) I fun _ _=>ab (aU (.o I (.o I .nil)) ak) I<|bu (bB (.o I (.o I .nil)) I I bR bR ak) I fun _ _=>Ja I<|Ji ?_)
 rename_i gf hgf gg hgg;refine ch (g:=ge) (E:=78) (ys:=(gL [⟨om,.slice ya 2 yc⟩]).flatten) 1 2 cA (by exact I) I I ?_;refine ch (g:=gf) (E:=78) (ys:=(gL [⟨oh,.slice ua 2 uc⟩]).flatten) 1 2 bF (by exact I) I I ?_;refine ch (g:=gg) (E:=182) (ys:=(tB [⟨10,[⟨om,.slice ya 2 yc⟩],.w ge 1 1⟩,⟨12,[⟨oh,.slice ua 2 uc⟩],.w gf 1 1⟩]).flatten) 2 2 bF (by exact I) I I ?_;refine cz [row 9 1 Il ([cU,⟨#[]⟩]:List ByteArray).length (aJ [cU,⟨#[]⟩]),row 9 1 MH ([cU,nT,dL]:List ByteArray).length (aJ [cU,nT,dL]),row 9 1 M7 ([nT]:List ByteArray).length (aJ [nT]),row 9 1 PW ([dL,ji]:List ByteArray).length (aJ [dL,ji]),row 182 2 (.w gg 2 2) 2 (tB [⟨10,[⟨om,.slice ya 2 yc⟩],.w ge 1 1⟩,⟨12,[⟨oh,.slice ua 2 uc⟩],.w gf 1 1⟩]).flatten,row 78 2 (.w ge 1 1) 1 (gL [⟨om,.slice ya 2 yc⟩]).flatten,row 78 2 (.w gf 1 1) 1 (gL [⟨oh,.slice ua 2 uc⟩]).flatten,row 9 1 (.slice ya 2 yc) 2 (aJ om.so),row 9 1 (.slice ua 2 uc) 2 (aJ oh.so)] (by exact .cons eG (.cons eG (.cons eG (.cons eG (.h1 (.cons (.there .here) (.h1 (.cons (.there .here) (.h1 .nil))))))))) ?_
 skip
 refine JN lK I (fun w1 aG=>jL w1) ?_;rintro ⟨s29,d29,t29,p29⟩ _
 try dsimp only [id_eq,Zb,Za]
 refine cn (r:=mo) (s:=s29) (d:=d29) (t:=t29) (p:=p29) (aQ _ _) fun afg aff afe afd=>?_;refine xi I I ?_;refine JN wZ I (fun w1 aG=>Ms (l:=[⟨10,[⟨om,.slice ya 2 yc⟩],.w ge 1 1⟩,⟨12,[⟨oh,.slice ua 2 uc⟩],.w gf 1 1⟩]) (m:=[⟨10,[om]⟩,⟨12,[oh]⟩]) dL 9 I ⟨bM aG (by exact .here) I,bN aG (by exact Take.there .here) I,bL aG bF I,bJ aG cA I⟩ r9 QI.1 QI.2 (EB aG fW (by exact I)) (mP (im aG iS (by exact I)) (iq (dz aG Bu (by exact I)) (j8 _)) (mP (im aG lW (by exact I)) (iq (dz aG kV (by exact I)) (j8 _)) (Av _)))) ?_;rintro Xc _
 try dsimp only [id_eq,Zb,Za]
 refine Jv I<|JJ I I<|JJ I I<|Ja I<|Ja I<|Ji ?_;refine cz [row 9 1 Il ([cU,⟨#[]⟩]:List ByteArray).length (aJ [cU,⟨#[]⟩]),row 9 1 MH ([cU,nT,dL]:List ByteArray).length (aJ [cU,nT,dL]),row 9 1 M7 ([nT]:List ByteArray).length (aJ [nT]),row 9 1 PW ([dL,ji]:List ByteArray).length (aJ [dL,ji]),row 182 2 (.w gg 2 2) 2 (tB [⟨10,[⟨om,.slice ya 2 yc⟩],.w ge 1 1⟩,⟨12,[⟨oh,.slice ua 2 uc⟩],.w gf 1 1⟩]).flatten,row 78 2 (.w ge 1 1) 1 (gL [⟨om,.slice ya 2 yc⟩]).flatten,row 78 2 (.w gf 1 1) 1 (gL [⟨oh,.slice ua 2 uc⟩]).flatten,row 9 1 (.slice ya 2 yc) 2 (aJ om.so),row 9 1 (.slice ua 2 uc) 2 (aJ oh.so),row 9 1 Xc ([⟨#[]⟩,⟨#[]⟩]:List ByteArray).length (aJ [⟨#[]⟩,⟨#[]⟩])] (by exact .cons eG (.cons eG (.cons eG (.cons eG (.cons eG (.cons eG (.cons eG (.cons eG (.cons eG (.h1 .nil)))))))))) ?_
 skip
 refine JN lK I (fun w1 aG=>jL w1) ?_;rintro ⟨s30,d30,t30,p30⟩ _
 try dsimp only [id_eq,Zb,Za]
 refine cn (r:=mo) (s:=s30) (d:=d30) (t:=t30) (p:=p30) (aQ _ _) fun afc afb afa ae9=>?_;refine xi I I ?_;refine JN wZ I (fun w1 aG=>Ms (l:=[⟨10,[⟨om,.slice ya 2 yc⟩],.w ge 1 1⟩,⟨12,[⟨oh,.slice ua 2 uc⟩],.w gf 1 1⟩]) (m:=[⟨10,[om]⟩,⟨12,[oh]⟩]) dL 11 I ⟨bM aG (by exact .here) I,bN aG (by exact Take.there .here) I,bL aG bF I,bJ aG cA I⟩ r9 QH.1 QH.2 (EB aG fW (by exact I)) (mP (im aG iS (by exact I)) (iq (dz aG Bu (by exact I)) (j8 _)) (mP (im aG lW (by exact I)) (iq (dz aG kV (by exact I)) (j8 _)) (Av _)))) ?_;rintro XN _
 try dsimp only [id_eq,Zb,Za]
 refine Jv I<|JJ I I<|JJ I I<|Ja I<|Ja I<|Ji ?_;refine cz [row 9 1 Il ([cU,⟨#[]⟩]:List ByteArray).length (aJ [cU,⟨#[]⟩]),row 9 1 MH ([cU,nT,dL]:List ByteArray).length (aJ [cU,nT,dL]),row 9 1 M7 ([nT]:List ByteArray).length (aJ [nT]),row 9 1 PW ([dL,ji]:List ByteArray).length (aJ [dL,ji]),row 182 2 (.w gg 2 2) 2 (tB [⟨10,[⟨om,.slice ya 2 yc⟩],.w ge 1 1⟩,⟨12,[⟨oh,.slice ua 2 uc⟩],.w gf 1 1⟩]).flatten,row 78 2 (.w ge 1 1) 1 (gL [⟨om,.slice ya 2 yc⟩]).flatten,row 78 2 (.w gf 1 1) 1 (gL [⟨oh,.slice ua 2 uc⟩]).flatten,row 9 1 (.slice ya 2 yc) 2 (aJ om.so),row 9 1 (.slice ua 2 uc) 2 (aJ oh.so),row 9 1 Xc ([⟨#[]⟩,⟨#[]⟩]:List ByteArray).length (aJ [⟨#[]⟩,⟨#[]⟩]),row 9 1 XN ([cU,cU]:List ByteArray).length (aJ [cU,cU])] (by exact .cons eG (.cons eG (.cons eG (.cons eG (.cons eG (.cons eG (.cons eG (.cons eG (.cons eG (.cons eG (.h1 .nil))))))))))) ?_
 skip
 refine JN lK I (fun w1 aG=>jL w1) ?_;rintro ⟨s31,d31,t31,p31⟩ _
 try dsimp only [id_eq,Zb,Za]
 refine cn (r:=mo) (s:=s31) (d:=d31) (t:=t31) (p:=p31) (aQ _ _) fun ae8 ae7 ae6 ae5=>?_;refine xi I I ?_;refine JN wZ I (fun w1 aG=>Ms (l:=[⟨10,[⟨om,.slice ya 2 yc⟩],.w ge 1 1⟩,⟨12,[⟨oh,.slice ua 2 uc⟩],.w gf 1 1⟩]) (m:=[⟨10,[om]⟩,⟨12,[oh]⟩]) dL 12 I ⟨bM aG (by exact .here) I,bN aG (by exact Take.there .here) I,bL aG bF I,bJ aG cA I⟩ r9 QG.1 QG.2 (EB aG fW (by exact I)) (mP (im aG iS (by exact I)) (iq (dz aG Bu (by exact I)) (j8 _)) (mP (im aG lW (by exact I)) (iq (dz aG kV (by exact I)) (j8 _)) (Av _)))) ?_;rintro x35 _
 try dsimp only [id_eq,Zb,Za]
 refine Jv I<|JJ I I<|JJ I I<|Ja I<|Ja I<|Ji ?_;refine cz [row 9 1 Il ([cU,⟨#[]⟩]:List ByteArray).length (aJ [cU,⟨#[]⟩]),row 9 1 MH ([cU,nT,dL]:List ByteArray).length (aJ [cU,nT,dL]),row 9 1 M7 ([nT]:List ByteArray).length (aJ [nT]),row 9 1 PW ([dL,ji]:List ByteArray).length (aJ [dL,ji]),row 182 2 (.w gg 2 2) 2 (tB [⟨10,[⟨om,.slice ya 2 yc⟩],.w ge 1 1⟩,⟨12,[⟨oh,.slice ua 2 uc⟩],.w gf 1 1⟩]).flatten,row 78 2 (.w ge 1 1) 1 (gL [⟨om,.slice ya 2 yc⟩]).flatten,row 78 2 (.w gf 1 1) 1 (gL [⟨oh,.slice ua 2 uc⟩]).flatten,row 9 1 (.slice ya 2 yc) 2 (aJ om.so),row 9 1 (.slice ua 2 uc) 2 (aJ oh.so),row 9 1 Xc ([⟨#[]⟩,⟨#[]⟩]:List ByteArray).length (aJ [⟨#[]⟩,⟨#[]⟩]),row 9 1 XN ([cU,cU]:List ByteArray).length (aJ [cU,cU]),row 9 1 x35 ([kz,kz]:List ByteArray).length (aJ [kz,kz])] (by exact .cons eG (.cons eG (.cons eG (.cons eG (.cons eG (.cons eG (.cons eG (.cons eG (.cons eG (.cons eG (.cons eG (.h1 .nil)))))))))))) ?_;refine JN lK I (fun w1 aG=>jL w1) ?_;rintro ⟨s32,d32,t32,p32⟩ _
 try dsimp only [id_eq,Zb,Za]
 refine cn (r:=mo) (s:=s32) (d:=d32) (t:=t32) (p:=p32) (aQ _ _) fun ae4 ae3 ae2 ae1=>?_
 skip
 refine ai bz I (fun w1 aG=>TG ⟨bM aG (by exact .here) I,bN aG (by exact Take.there .here) I,bL aG bF I,bJ aG cA I⟩) ?_;refine cz [row 9 1 Il ([cU,⟨#[]⟩]:List ByteArray).length (aJ [cU,⟨#[]⟩]),row 9 1 MH ([cU,nT,dL]:List ByteArray).length (aJ [cU,nT,dL]),row 9 1 M7 ([nT]:List ByteArray).length (aJ [nT]),row 9 1 PW ([dL,ji]:List ByteArray).length (aJ [dL,ji]),row 9 1 Xc ([⟨#[]⟩,⟨#[]⟩]:List ByteArray).length (aJ [⟨#[]⟩,⟨#[]⟩]),row 9 1 XN ([cU,cU]:List ByteArray).length (aJ [cU,cU]),row 9 1 x35 ([kz,kz]:List ByteArray).length (aJ [kz,kz])] (by exact .cons df (.cons df (.cons df (.cons df (.cons iS (.cons iS (.cons iS .nil))))))) ?_;refine Jv I<|JJ I I<|JJ I I<|Ja I<|Ja I<|Ji ?_;simp only [Zb,Za,List.append_eq,List.append]
 (refine Jv I<|Jv I<|JB I (by omega)<|Jv I<|JB I (by omega)<|Jv I<|JB I (by omega)<|Jv I<|JB I (by omega)<|Jv I<|JB I (by omega)<|Jv I<|JB I (by omega)<|Jv I<|JB I (by omega)<|Jv I<|JB I (by omega)<|JC I<|Jv I<|JK I I<|Jv I<|JK I I<|JC I<|ab (dN (.of I) (.of I) (.of I) I) I<|Jv I<|JK I I<|Jv I<|JK I I<|JC I<|ab (dN (.of I) (.of I) (.of I) I) I<|Jv I<|JK I I<|Jv I<|JK I I<|bu (aC (.o I (.o I .nil)) I I I I) I fun _ _=>JK I I ?_)
 rename_i gz0 aht;refine ai ba I (fun w1 aG=>l7 (l:=[cU,⟨#[]⟩]) (dz aG (by exact Take.there .here) (by exact I)) (Et (g:=gz0) (x:=⟨#[99,97,109]⟩) (y:=⟨#[]⟩) aG (by exact .here))) ?_
 (refine ab (dN (.of I) (.of I) (.of I) I) I<|Jv I<|JK I I<|Jv I<|JK I I<|bu (aC (.o I (.o I (.o I .nil))) I I I I) I fun _ _=>JK I I ?_)
 rename_i gz1 ahs;refine ai ba I (fun w1 aG=>l7 (l:=[cU,nT,dL]) (dz aG cA (by exact I)) (XX (g:=gz1) (x:=⟨#[99,97,109]⟩) (y:=⟨#[116]⟩) (z:=⟨#[97,105,114]⟩) aG (by exact .here))) ?_
 (refine ab (dN (.of I) (.of I) (.of I) I) I<|Jv I<|JK I I<|Jv I<|JK I I<|bu (aC (.o I .nil) I I I I) I fun _ _=>JK I I ?_)
 rename_i gz2 ahr;refine ai ba I (fun w1 aG=>l7 (l:=[nT]) (dz aG eG (by exact I)) (XY (g:=gz2) (x:=⟨#[116]⟩) aG (by exact .here))) ?_
 (refine ab (dN (.of I) (.of I) (.of I) I) I<|Jv I<|JK I I<|Jv I<|JK I I<|bu (aC (.o I (.o I .nil)) I I I I) I fun _ _=>JK I I ?_)
 rename_i gz3 ahq;refine ai ba I (fun w1 aG=>l7 (l:=[dL,ji]) (dz aG uZ (by exact I)) (Et (g:=gz3) (x:=⟨#[97,105,114]⟩) (y:=⟨#[114,101,99]⟩) aG (by exact .here))) ?_
 (refine ab (dN (.of I) (.of I) (.of I) I) I<|Jv I<|JK I I<|Jv I<|JK I I<|bu (aC (.o I (.o I .nil)) I I I I) I fun _ _=>JK I I ?_)
 rename_i gz4 ahp;refine ai ba I (fun w1 aG=>l7 (l:=[⟨#[]⟩,⟨#[]⟩]) (dz aG iS (by exact I)) (Et (g:=gz4) (x:=⟨#[]⟩) (y:=⟨#[]⟩) aG (by exact .here))) ?_
 (refine ab (dN (.of I) (.of I) (.of I) I) I<|Jv I<|JK I I<|Jv I<|JK I I<|bu (aC (.o I (.o I .nil)) I I I I) I fun _ _=>JK I I ?_)
 rename_i gz5 aho;refine ai ba I (fun w1 aG=>l7 (l:=[cU,cU]) (dz aG Bu (by exact I)) (Et (g:=gz5) (x:=⟨#[99,97,109]⟩) (y:=⟨#[99,97,109]⟩) aG (by exact .here))) ?_
 (refine ab (dN (.of I) (.of I) (.of I) I) I<|Jv I<|JK I I<|Jv I<|JK I I<|bu (aC (.o I (.o I .nil)) I I I I) I fun _ _=>JK I I ?_)
 rename_i gz6 ahn;refine ai ba I (fun w1 aG=>l7 (l:=[kz,kz]) (dz aG uu (by exact I)) (Et (g:=gz6) (x:=⟨#[118,116,114]⟩) (y:=⟨#[118,116,114]⟩) aG (by exact .here))) ?_
 (refine ab (dN (.of I) (.of I) (.of I) I) I<|Jv I<|JK I I<|Jv I<|JK I I<|ab (Hc (.of I) (.of I) Tj) I<|ab (dN (.of I) (.of I) (.of I) I) I<|Ja I<|Jn<|Je<|JT ?_)
 rfl
end Go.Proofs.A1
namespace Go.Proofs.A1
open Go Go.SL Go.ChangeShapes Go.WideShapes Go.Deep Go.Joins
open Tryz
open Tryz renaming prog->T_
section
variable {H:Type} {enc:TypeId×Value->H} {w:World}
theorem laidOut:laidOutB T_=true:=by kernel_rfl
theorem UQ:ownKnob prog.godebug=none:=by kernel_rfl
theorem Mz {b o n:Nat}:Addr.add ⟨b,o,none⟩ n=⟨b,o+n,none⟩:=eT b o n
theorem zP {T:TypeId} (OP:prog.readableRec T=true) (hrow:T<prog.types.size) {W W':World} {sp':Nat->Bool} {n:Nat} {cs:List Value} {x:DataW H×List MemPlace} (h:DataW.trod enc T_ W 0 (fun _=>true) true n T cs=some x)
  (K7:∀ p∈x.2,W.sameAt W' p) (hs:∀ p∈x.2,sp' p.block=true):DataW.trod enc T_ W' 0 sp' true n T cs=some x:=
 DataW.trod_stays (kids_book laidOut OP) (book_sized OP) (fun h=>by cases h) ⟨hrow,book_self T⟩ h K7 hs
theorem vI {α:Type} [Inhabited α] {Q:α->Prop} {T E:TypeId} {sz:Nat} {cells:α->List Value} (hu:prog.underlying T=some (.slice E)) (hsz:prog.cellsOf E=sz) (h0:0<sz) (hlen:∀ a,(cells a).length=sz)
  (hE:∀ (n:Nat) (cs:List Value) (x:DataW H×List MemPlace),DataW.trod enc T_ w 0 (fun _=>true) true n E cs=some x->∃ e:α,cs=cells e/\Q e)
  {n:Nat} {v:Value} {y:DataW H×List MemPlace} (h:DataW.trod enc T_ w 0 (fun _=>true) true n T [v]=some y):∃ l:List α,Rd w v sz (l.map cells)/\∀ x∈l,Q x:=by
 rcases open_slice hu h with ⟨e,_⟩ | ⟨a,len,cap,m,n',D,Pl,Qv,_,hl,hm,hmm,_,hi⟩
 ·simp only [List.cons.injEq,and_true] at e;subst e;exact ⟨[],Rd.nil w sz,fun _ h=>absurd h Zp⟩
 ·simp only [List.cons.injEq,and_true] at Qv;subst Qv;rw [hsz] at hi;have T5:m=cap:=by simpa using hmm
  have hE:∀ i,i<len->∃ e:α,(∀ j,j<sz->w.cell? (a.add (i*sz+j))=(cells e)[j]?)/\Q e:=fun i ju=>by
   obtain ⟨QO,hc,ht⟩:=hi i (by omega);obtain ⟨_,iz,iF⟩:=World.cells?_some hc;obtain ⟨e,rfl,hq⟩:=hE _ _ _ ht;exact ⟨e,fun j hj=>by rw [<- Go.Deep.add_add];exact iF j hj,hq⟩
  let S:Nat->α:=fun i=>if ju:i<len then (hE i ju).choose else default
  have hS:∀ i j,i<len->j<sz->w.cell? (a.add (i*sz+j))=(cells (S i))[j]?:=fun i j ju hj=>by
   have:=(hE i ju).choose_spec.1 j hj;simpa only [S,dif_pos ju] using this
  have hQ:∀ i,i<len->Q (S i):=fun i ju=>by
   have:=(hE i ju).choose_spec.2;simpa only [S,dif_pos ju] using this
  have wc:(((List.range len).map S).map cells).length=len:=by simp
  refine ⟨(List.range len).map S,?_,fun x hx=>by
   obtain ⟨i,hi,rfl⟩:=Zo.1 hx;exact hQ i (ZP.1 hi)⟩
  by_cases hz:len=0
  ·subst hz;exact ⟨some a,cap,0,0,by rw [wc],by rw [wc];omega,hm,fun hne=>absurd (Zaw.1 wc) hne,fun i r hr=>by
    have:=(Zm.1 hr).1;rw [wc] at this;omega⟩
  ·obtain ⟨b,off,spot⟩:=a;have Ve:spot=none:=by
    have h1:=hS 0 0 (by omega) h0;rw [Zc (by rw [hlen];exact h0)] at h1;simpa [Addr.add] using World.cell?_spot h1
   subst Ve;refine ⟨some ⟨b,off,none⟩,cap,b,off,by rw [wc],by rw [wc];exact hl,hm,fun _=>rfl,fun i r hr=>?_⟩;have ju:i<len:=by
    have:=(Zm.1 hr).1;rwa [wc] at this
   have Vo:r=cells (S i):=by
    simp [ju] at hr;exact hr.symm
   subst Vo;refine ⟨hlen _,fun j u hu=>?_⟩;have hj:j<sz:=by
    have:=(Zm.1 hu).1;rwa [hlen] at this
   have:=hS i j ju hj;rw [Mz,hu] at this;rw [Nat.add_assoc];exact this
theorem mO {α:Type} [Inhabited α] {T E:TypeId} {sz:Nat} {cells:α->List Value} (hu:prog.underlying T=some (.slice E)) (hsz:prog.cellsOf E=sz) (h0:0<sz) (hlen:∀ a,(cells a).length=sz)
  (hE:∀ (n:Nat) (cs:List Value) (x:DataW H×List MemPlace),DataW.trod enc T_ w 0 (fun _=>true) true n E cs=some x->∃ e:α,cs=cells e)
  {n:Nat} {v:Value} {y:DataW H×List MemPlace} (h:DataW.trod enc T_ w 0 (fun _=>true) true n T [v]=some y):∃ l:List α,Rd w v sz (l.map cells):=by
 obtain ⟨l,hl,_⟩:=vI (Q:=fun _=>True) hu hsz h0 hlen (fun n cs x h=>by obtain ⟨e,he⟩:=hE n cs x h;exact ⟨e,he,trivial⟩) h;exact ⟨l,hl⟩
theorem Qa {α:Type}:∀ {l:List α},l.length=2->∃ a0 a1,l=[a0,a1]
 | [a0,a1],_=>⟨a0,a1,rfl⟩
theorem KK {α:Type}:∀ {l:List α},l.length=3->∃ a0 a1 a2,l=[a0,a1,a2]
 | [a0,a1,a2],_=>⟨a0,a1,a2,rfl⟩
theorem UZ {α:Type}:∀ {l:List α},l.length=6->∃ a0 a1 a2 a3 a4 a5,l=[a0,a1,a2,a3,a4,a5]
 | [a0,a1,a2,a3,a4,a5],_=>⟨a0,a1,a2,a3,a4,a5,rfl⟩
theorem WK:prog.cellsOf 118=2:=by kernel_rfl
theorem c9:prog.cellsOf 9=1:=by kernel_rfl
theorem c3:prog.cellsOf 3=1:=by kernel_rfl
variable {cs:List Value} {n:Nat} {v:Value} {x:DataW H×List MemPlace}
theorem Mg (h:DataW.trod enc T_ w 0 (fun _=>true) true n 118 cs=some x):∃ (a0:ByteArray) (a1:Int),cs=[.string a0,.q a1]:=by
 obtain ⟨ys,n0,_,_,hlen,K1,hf⟩:=DataW.trod_struct underlying118 h;rw [WK] at hlen;have K0:ys.length=2:=K1;obtain ⟨k0,k1,rfl⟩:=Qa hlen;have f0:DataW.trod enc T_ w 0 (fun _=>true) true n0 9 (List.take (prog.cellsOf 9) (List.drop 0 [k0,k1]))=ys[0]?:=hf 0 _ I
 rw [c9,Zc (by omega)] at f0;obtain ⟨b0,e0,_,_⟩:=DataW.trod_string underlying9 f0;simp at e0;have f1:DataW.trod enc T_ w 0 (fun _=>true) true n0 3 (List.take (prog.cellsOf 3) (List.drop 1 [k0,k1]))=ys[1]?:=hf 1 _ I
 rw [c3,Zc (by omega)] at f1;obtain ⟨b1,e1,_,_⟩:=DataW.trod_int underlying3 f1;simp at e1;subst e0 e1;exact ⟨b0,b1,I⟩
theorem c88:prog.cellsOf 88=3:=by kernel_rfl
theorem c4:prog.cellsOf 4=1:=by kernel_rfl
theorem PF (h:DataW.trod enc T_ w 0 (fun _=>true) true n 88 cs=some x):∃ (a0:ByteArray) (a1:Int) (a2:Bool),cs=[.string a0,.q a1,.bool a2]:=by
 obtain ⟨ys,n0,_,_,hlen,K1,hf⟩:=DataW.trod_struct underlying88 h;rw [c88] at hlen;have K0:ys.length=3:=K1;obtain ⟨k0,k1,k2,rfl⟩:=KK hlen;have f0:DataW.trod enc T_ w 0 (fun _=>true) true n0 9 (List.take (prog.cellsOf 9) (List.drop 0 [k0,k1,k2]))=ys[0]?:=hf 0 _ I
 rw [c9,Zc (by omega)] at f0;obtain ⟨b0,e0,_,_⟩:=DataW.trod_string underlying9 f0;simp at e0;have f1:DataW.trod enc T_ w 0 (fun _=>true) true n0 3 (List.take (prog.cellsOf 3) (List.drop 1 [k0,k1,k2]))=ys[1]?:=hf 1 _ I
 rw [c3,Zc (by omega)] at f1;obtain ⟨b1,e1,_,_⟩:=DataW.trod_int underlying3 f1;simp at e1;have f2:DataW.trod enc T_ w 0 (fun _=>true) true n0 4 (List.take (prog.cellsOf 4) (List.drop 2 [k0,k1,k2]))=ys[2]?:=hf 2 _ I
 rw [c4,Zc (by omega)] at f2;obtain ⟨b2,e2,_⟩:=DataW.trod_bool underlying4 f2;simp at e2;subst e0 e1 e2;exact ⟨b0,b1,b2,I⟩
theorem WJ:prog.cellsOf 122=3:=by kernel_rfl
theorem Mf (h:DataW.trod enc T_ w 0 (fun _=>true) true n 122 cs=some x):∃ (a0:ByteArray) (a1:Int) (a2:Int),cs=[.string a0,.q a1,.q a2]:=by
 obtain ⟨ys,n0,_,_,hlen,K1,hf⟩:=DataW.trod_struct underlying122 h;rw [WJ] at hlen;have K0:ys.length=3:=K1;obtain ⟨k0,k1,k2,rfl⟩:=KK hlen;have f0:DataW.trod enc T_ w 0 (fun _=>true) true n0 9 (List.take (prog.cellsOf 9) (List.drop 0 [k0,k1,k2]))=ys[0]?:=hf 0 _ I
 rw [c9,Zc (by omega)] at f0;obtain ⟨b0,e0,_,_⟩:=DataW.trod_string underlying9 f0;simp at e0;have f1:DataW.trod enc T_ w 0 (fun _=>true) true n0 3 (List.take (prog.cellsOf 3) (List.drop 1 [k0,k1,k2]))=ys[1]?:=hf 1 _ I
 rw [c3,Zc (by omega)] at f1;obtain ⟨b1,e1,_,_⟩:=DataW.trod_int underlying3 f1;simp at e1;have f2:DataW.trod enc T_ w 0 (fun _=>true) true n0 3 (List.take (prog.cellsOf 3) (List.drop 2 [k0,k1,k2]))=ys[2]?:=hf 2 _ I
 rw [c3,Zc (by omega)] at f2;obtain ⟨b2,e2,_,_⟩:=DataW.trod_int underlying3 f2;simp at e2;subst e0 e1 e2;exact ⟨b0,b1,b2,I⟩
theorem WI:prog.cellsOf 180=3:=by kernel_rfl
theorem Me (h:DataW.trod enc T_ w 0 (fun _=>true) true n 180 cs=some x):∃ (a0:Int) (a1:ByteArray) (a2:ByteArray),cs=[.q a0,.string a1,.string a2]:=by
 obtain ⟨ys,n0,_,_,hlen,K1,hf⟩:=DataW.trod_struct underlying180 h;rw [WI] at hlen;have K0:ys.length=3:=K1;obtain ⟨k0,k1,k2,rfl⟩:=KK hlen;have f0:DataW.trod enc T_ w 0 (fun _=>true) true n0 3 (List.take (prog.cellsOf 3) (List.drop 0 [k0,k1,k2]))=ys[0]?:=hf 0 _ I
 rw [c3,Zc (by omega)] at f0;obtain ⟨b0,e0,_,_⟩:=DataW.trod_int underlying3 f0;simp at e0;have f1:DataW.trod enc T_ w 0 (fun _=>true) true n0 9 (List.take (prog.cellsOf 9) (List.drop 1 [k0,k1,k2]))=ys[1]?:=hf 1 _ I
 rw [c9,Zc (by omega)] at f1;obtain ⟨b1,e1,_,_⟩:=DataW.trod_string underlying9 f1;simp at e1;have f2:DataW.trod enc T_ w 0 (fun _=>true) true n0 9 (List.take (prog.cellsOf 9) (List.drop 2 [k0,k1,k2]))=ys[2]?:=hf 2 _ I
 rw [c9,Zc (by omega)] at f2;obtain ⟨b2,e2,_,_⟩:=DataW.trod_string underlying9 f2;simp at e2;subst e0 e1 e2;exact ⟨b0,b1,b2,I⟩
theorem c27:prog.cellsOf 27=6:=by kernel_rfl
theorem c22:prog.cellsOf 22=1:=by kernel_rfl
theorem c23:prog.cellsOf 23=1:=by kernel_rfl
theorem c24:prog.cellsOf 24=1:=by kernel_rfl
theorem c25:prog.cellsOf 25=1:=by kernel_rfl
theorem PH (h:DataW.trod enc T_ w 0 (fun _=>true) true n 27 cs=some x):∃ (a0:Int) (a1:Int) (a2:Value) (a3:Value) (a4:Value) (a5:Value),cs=[.q a0,.q a1,a2,a3,a4,a5]/\(∃ (m:Nat) (y:DataW H×List MemPlace),DataW.trod enc T_ w 0 (fun _=>true) true m 22 [a2]=some y)/\(∃ (m:Nat) (y:DataW H×List MemPlace),DataW.trod enc T_ w 0 (fun _=>true) true m 23 [a3]=some y)/\(∃ (m:Nat) (y:DataW H×List MemPlace),DataW.trod enc T_ w 0 (fun _=>true) true m 24 [a4]=some y)/\(∃ (m:Nat) (y:DataW H×List MemPlace),DataW.trod enc T_ w 0 (fun _=>true) true m 25 [a5]=some y):=by
 obtain ⟨ys,n0,_,_,hlen,K1,hf⟩:=DataW.trod_struct underlying27 h;rw [c27] at hlen;have K0:ys.length=6:=K1;obtain ⟨k0,k1,k2,k3,k4,k5,rfl⟩:=UZ hlen;have f0:DataW.trod enc T_ w 0 (fun _=>true) true n0 3 (List.take (prog.cellsOf 3) (List.drop 0 [k0,k1,k2,k3,k4,k5]))=ys[0]?:=hf 0 _ I
 rw [c3,Zc (by omega)] at f0;obtain ⟨b0,e0,_,_⟩:=DataW.trod_int underlying3 f0;simp at e0;have f1:DataW.trod enc T_ w 0 (fun _=>true) true n0 3 (List.take (prog.cellsOf 3) (List.drop 1 [k0,k1,k2,k3,k4,k5]))=ys[1]?:=hf 1 _ I
 rw [c3,Zc (by omega)] at f1;obtain ⟨b1,e1,_,_⟩:=DataW.trod_int underlying3 f1;simp at e1;have f2:DataW.trod enc T_ w 0 (fun _=>true) true n0 22 (List.take (prog.cellsOf 22) (List.drop 2 [k0,k1,k2,k3,k4,k5]))=ys[2]?:=hf 2 _ I
 rw [c22,Zc (by omega)] at f2;have f3:DataW.trod enc T_ w 0 (fun _=>true) true n0 23 (List.take (prog.cellsOf 23) (List.drop 3 [k0,k1,k2,k3,k4,k5]))=ys[3]?:=hf 3 _ I
 rw [c23,Zc (by omega)] at f3;have f4:DataW.trod enc T_ w 0 (fun _=>true) true n0 24 (List.take (prog.cellsOf 24) (List.drop 4 [k0,k1,k2,k3,k4,k5]))=ys[4]?:=hf 4 _ I
 rw [c24,Zc (by omega)] at f4;have f5:DataW.trod enc T_ w 0 (fun _=>true) true n0 25 (List.take (prog.cellsOf 25) (List.drop 5 [k0,k1,k2,k3,k4,k5]))=ys[5]?:=hf 5 _ I
 rw [c25,Zc (by omega)] at f5;subst e0 e1;exact ⟨b0,b1,k2,k3,k4,k5,I,⟨_,_,by simpa using f2⟩,⟨_,_,by simpa using f3⟩,⟨_,_,by simpa using f4⟩,⟨_,_,by simpa using f5⟩⟩
theorem c69:prog.cellsOf 69=2:=by kernel_rfl
theorem c32:prog.cellsOf 32=1:=by kernel_rfl
theorem PG (h:DataW.trod enc T_ w 0 (fun _=>true) true n 69 cs=some x):∃ (a0:ByteArray) (a1:Value),cs=[.string a0,a1]/\(∃ (m:Nat) (y:DataW H×List MemPlace),DataW.trod enc T_ w 0 (fun _=>true) true m 32 [a1]=some y):=by
 obtain ⟨ys,n0,_,_,hlen,K1,hf⟩:=DataW.trod_struct underlying69 h;rw [c69] at hlen;have K0:ys.length=2:=K1;obtain ⟨k0,k1,rfl⟩:=Qa hlen;have f0:DataW.trod enc T_ w 0 (fun _=>true) true n0 9 (List.take (prog.cellsOf 9) (List.drop 0 [k0,k1]))=ys[0]?:=hf 0 _ I
 rw [c9,Zc (by omega)] at f0;obtain ⟨b0,e0,_,_⟩:=DataW.trod_string underlying9 f0;simp at e0;have f1:DataW.trod enc T_ w 0 (fun _=>true) true n0 32 (List.take (prog.cellsOf 32) (List.drop 1 [k0,k1]))=ys[1]?:=hf 1 _ I
 rw [c32,Zc (by omega)] at f1;subst e0;exact ⟨b0,k1,I,⟨_,_,by simpa using f1⟩⟩
theorem Kr (h:DataW.trod enc T_ w 0 (fun _=>true) true n 22 [v]=some x):∃ l,Rd w v 2 (w9 l):=by
 haveI:Inhabited Sr:=⟨⟨⟨#[]⟩,0⟩⟩
 exact mO (cells:=Sr.cells) underlying22 WK (by decide) (fun _=>rfl) (fun _ _ _ h=>by obtain ⟨a,b,rfl⟩:=Mg h;exact ⟨⟨a,b⟩,rfl⟩) h
theorem Kt (h:DataW.trod enc T_ w 0 (fun _=>true) true n 23 [v]=some x):∃ l,Rd w v 3 (wz l):=by
 haveI:Inhabited De:=⟨⟨⟨#[]⟩,0,false⟩⟩
 exact mO (cells:=De.cells) underlying23 c88 (by decide) (fun _=>rfl) (fun _ _ _ h=>by obtain ⟨a,b,c,rfl⟩:=PF h;exact ⟨⟨a,b,c⟩,rfl⟩) h
theorem Kp (h:DataW.trod enc T_ w 0 (fun _=>true) true n 24 [v]=some x):∃ l,Rd w v 3 (vk l):=by
 haveI:Inhabited Ti:=⟨⟨⟨#[]⟩,0,0⟩⟩
 exact mO (cells:=Ti.cells) underlying24 WJ (by decide) (fun _=>rfl) (fun _ _ _ h=>by obtain ⟨a,b,c,rfl⟩:=Mf h;exact ⟨⟨a,b,c⟩,rfl⟩) h
theorem Ks (h:DataW.trod enc T_ w 0 (fun _=>true) true n 25 [v]=some x):∃ l,Rd w v 3 (ud l):=by
 haveI:Inhabited Po:=⟨⟨0,⟨#[]⟩,⟨#[]⟩⟩⟩
 exact mO (cells:=Po.cells) underlying25 WI (by decide) (fun _=>rfl) (fun _ _ _ h=>by obtain ⟨a,b,c,rfl⟩:=Me h;exact ⟨⟨a,b,c⟩,rfl⟩) h
theorem Kq (h:DataW.trod enc T_ w 0 (fun _=>true) true n 32 [v]=some x):∃ l,Rd w v 1 (fX l):=by
 haveI:Inhabited ByteArray:=⟨⟨#[]⟩⟩
 exact mO (cells:=(fun s:ByteArray=>[Value.string s])) underlying32 c9 (by decide) (fun _=>rfl) (fun _ _ _ h=>by obtain ⟨a,rfl,_⟩:=DataW.trod_string underlying9 h;exact ⟨a,rfl⟩) h
theorem tA (h:DataW.trod enc T_ w 0 (fun _=>true) true n 27 cs=some x):∃ (r:Ro) (s d t p:Value),cs=[.q r.lv,.q r.ma,s,d,t,p]/\RR w r s d t p:=by
 obtain ⟨a,b,s,d,t,p,rfl,⟨_,_,h1⟩,⟨_,_,h2⟩,⟨_,_,h3⟩,⟨_,_,h4⟩⟩:=PH h;obtain ⟨l1,r1⟩:=Kr h1;obtain ⟨l2,r2⟩:=Kt h2;obtain ⟨l3,r3⟩:=Kp h3;obtain ⟨l4,r4⟩:=Ks h4;exact ⟨⟨a,b,l1,l2,l3,l4⟩,s,d,t,p,I,r1,r2,r3,r4⟩
theorem EA (h:DataW.trod enc T_ w 0 (fun _=>true) true n 66 [v]=some x):∃ l,Rd w v 2 (gL l)/\qY w l:=by
 haveI:Inhabited eN:=⟨⟨⟨⟨#[]⟩,[]⟩,.z⟩⟩
 exact vI (α:=eN) (Q:=fun x=>Rd w x.v 1 (fX x.tk.so)) (cells:=eN.cells) underlying66 c69 (by decide) (fun _=>rfl) (fun _ _ _ h=>by
  obtain ⟨a,b,rfl,⟨_,_,h1⟩⟩:=PG h;obtain ⟨l,hl⟩:=Kq h1;exact ⟨⟨⟨a,l⟩,b⟩,I,hl⟩) h
end
end Go.Proofs.A1
namespace Go.Proofs.YteonnodafmegaaaGreatDoor
open Go Go.SL Go.Proofs.A1 Go.ChangeShapes Go.WideShapes Go.ChangeAt Go.RowKit Go.Joins
section
variable {H:Type} {enc:TypeId×Value->H} {P:Program}
theorem qn {f:Func} {s:ChangeSpec} {apart fresh handsOn again:Bool} {W W':World} {args:Array Value} {v:Value} {ds gs:List (DataW H)} {before pa pv:List MemPlace}
  (hW:DataW.Whole enc P f.params.toList s.vars apart W args.toList ds gs before)
  (Vn:∀ (b:Nat) (sp:Nat->Bool) (hd:Bool),DataW.TrodAll enc P W' b sp hd f.resultTypes.toList (v.resultList f.resultTypes.size) (s.fn H (ds++gs)).results [])
  (yW:∀ sp:Nat->Bool,(∀ p∈before,sp p.block=true)->DataW.TrodAll enc P W' 0 sp true f.params.toList args.toList (s.fn H (ds++gs)).args pa)
  (Qe:∀ sp:Nat->Bool,(∀ p∈before,sp p.block=true)->DataW.TrodVars enc P W' sp s.vars (s.fn H (ds++gs)).vars pv)
  (hps:before=pa++pv) (hb:Below W.heap.size W W')
  (ee:∀ (j:Nat) (t:TypeId) (r:Value),f.resultTypes[j]? = some t->(v.resultList f.resultTypes.size)[j]? = some r->Value.okWide P W' .any 0 t r) :
  s.post enc P f apart fresh handsOn again W args v W':=by
 have aN:∀ p∈before,p.block<W.heap.size:=fun p hp=>hW.lt p hp
 have hold:∀ p∈before,(fun b=>decide (b<W.heap.size)) p.block=true:=fun p hp=>by simpa using aN p hp
 refine ⟨ds,gs,before,[],pa,pv,hW,Vn _ _ _,yW _ hold,Qe _ hold,World.keptBut_mono (fun p hp=>⟨hp,?_⟩) (hb.frame (·∈before)),fun _=>?_⟩
 ·rw [hps,Zv] at hp;exact Or.inr hp
 ·obtain ⟨_,_,_,_,_,hz,hn⟩:=hW;refine ⟨ee,_,_,([]++pa)++pv,⟨[]++pa,pv,trodAll_append (yW _ (fun _ _=>rfl)) (Vn _ _ _),Qe _ (fun _ _=>rfl),I,?_,?_⟩,?_⟩
  ·intro b off hp;have n9:MemPlace.cell b off∈before:=by rw [hps];simpa using hp
   rw [hb.frozen (aN _ n9)];exact hz b off n9
  ·intro ha;have:=hn ha;rw [hps] at this;simpa using this
  ·intro p hp _;rw [hps];simpa using hp
end
end Go.Proofs.YteonnodafmegaaaGreatDoor
namespace Go.Proofs.A1
open Go Go.SL
open Tryz
open Tryz renaming prog->T_
variable {k:Nat} {l:List ByteArray} {r:Ro} {s:ByteArray}
theorem Gv {s d t p:Value} (o:ByteArray) {w:World} (h:RR w r s d t p):aj T_ 130 [RA r s d t p,.string o] w (.q (bA (cG r) o)):=by
 obtain ⟨h1,h2,h3,h4⟩:=h.one;have hs:=h.sr;obtain ⟨a,cp,b,o',rfl,dp,bY,ha,hc⟩:=hs;rw [cR] at *;unfold maxLen at bY;unfold RA;refine ah func130 I I ?_;refine Jr<|Jy I I fun _ _=>Ja I<|Jn<|Jq<|Jr<|Ja I<|Jn<|J0 ?_;rename_i b1 tN;refine a7 (ι:=Nat) (fun k=>k<=r.sr.length/\∀ j (hj:j<(cG r).length),j<k->(cG r)[j]≠o) (fun k=>[(5,.int .i64 (k:Nat)),(2,.pointer (some ⟨b1,0,none⟩)),(1,.string o)]) (fun _=>[JQ b1 r (.slice a r.sr.length cp) d t p]) (fun k=>r.sr.length-k) ?_ ?_
 ·apply aI (0:Nat) ⟨Zi _,fun j _ hj=>absurd hj (ZR _)⟩
  case hs1=>exact cu
  case ht=>(try simp only [Ze,Zf,Za]);exact .h1 .nil
 rintro k ⟨hk,hf⟩;have qH:(cG r).length=r.sr.length:=by unfold cG;rw [Zd]
 by_cases aN:k<r.sr.length
 ·have cP:=ha (iK aN);have aB:=(hc k _ (fY aN)).2;have hx:(cG r)[k]'(by omega)=(r.sr[k]).nm:=by unfold cG;rw [Z0]
  have c0:w.cell? ⟨b,o'+k*2,none⟩=some (.string (r.sr[k]).nm):=aB 0 _ I;generalize (r.sr[k]).nm=x at hx c0
  (refine Jq<|Jr<|Jv I<|bP I I ae<|JL I .here I<|JI I<|JA I<|Jn<|Jd I fun ar=>Jk<|Jq<|J0<|Jr<|bP I I ae<|JL I .here I<|Jv I<|ab (fZ cP ar) I<|bP I I ae<|ab (ag (.of I) (At.base c0 I)) I<|Jv I<|ab (ei (.of I) (.of I)) I<|Jn<|gB I (fun ar=>?_) fun ar=>?_;refine Jr<|Jv I<|Ja I<|Jn<|Je<|Jm<|Jh<|Jh<|Jm<|Jh<|JT ?_;rotate_left;refine Jw<|Jj<|Jt<|Jg<|Jv I<|JB I (by omega)<|Ja I<|Jn ?_;rotate_right)
  ·have tJ:x=o:=ar;rw [qL (i:=k) (by omega) (hx.trans tJ) (fun j hj=>hf j (by omega) hj)]
  ·have tJ:¬ x=o:=ar;apply aL (k+1) ⟨(show k+1<=r.sr.length from aN),fun j hj MX=>by
    by_cases e:j=k
    ·subst e;rw [hx];exact tJ
    ·exact hf j hj (by omega)⟩ (show r.sr.length-(k+1)<r.sr.length-k by omega)
   case hs1=>exact cu
   case ht=>(try simp only [Ze,Zf,Za]);exact .h1 .nil
 ·obtain rfl:k=r.sr.length:=by omega
  rw [AX fun j hj=>hf j hj (by omega)]
  (refine Jq<|Jr<|Jv I<|bP I I ae<|JL I .here I<|JI I<|JA I<|Jn<|Jc I fun ar=>Jp<|Jl<|Jo<|Jt<|Jr<|Ja I<|Jn<|Je<|JT ?_)
  rfl
theorem A2 {s d t p:Value} (o:ByteArray) {w:World} (h:RR w r s d t p):aj T_ 56 [RA r s d t p,.string o] w (.q (bA (bU r) o)):=by
 obtain ⟨h1,h2,h3,h4⟩:=h.one;have hs:=h.de;obtain ⟨a,cp,b,o',rfl,dp,bY,ha,hc⟩:=hs;rw [cB] at *;unfold maxLen at bY;unfold RA;refine ah func56 I I ?_;refine Jr<|Jy I I fun _ _=>Ja I<|Jn<|Jq<|Jr<|Ja I<|Jn<|J0 ?_;rename_i b1 tN;refine a7 (ι:=Nat) (fun k=>k<=r.de.length/\∀ j (hj:j<(bU r).length),j<k->(bU r)[j]≠o) (fun k=>[(5,.int .i64 (k:Nat)),(2,.pointer (some ⟨b1,0,none⟩)),(1,.string o)]) (fun _=>[JQ b1 r s (.slice a r.de.length cp) t p]) (fun k=>r.de.length-k) ?_ ?_
 ·apply aI (0:Nat) ⟨Zi _,fun j _ hj=>absurd hj (ZR _)⟩
  case hs1=>exact cu
  case ht=>(try simp only [Ze,Zf,Za]);exact .h1 .nil
 rintro k ⟨hk,hf⟩;have qH:(bU r).length=r.de.length:=by unfold bU;rw [Zd]
 by_cases aN:k<r.de.length
 ·have cP:=ha (gI aN);have aB:=(hc k _ (fm aN)).2;have hx:(bU r)[k]'(by omega)=(r.de[k]).nm:=by unfold bU;rw [Z0]
  have c0:w.cell? ⟨b,o'+k*3,none⟩=some (.string (r.de[k]).nm):=aB 0 _ I;generalize (r.de[k]).nm=x at hx c0
  (refine Jq<|Jr<|Jv I<|bP I I ae<|JL I .here I<|JI I<|JA I<|Jn<|Jd I fun ar=>Jk<|Jq<|J0<|Jr<|bP I I ae<|JL I .here I<|Jv I<|ab (fZ cP ar) I<|bP I I ae<|ab (ag (.of I) (At.base c0 I)) I<|Jv I<|ab (ei (.of I) (.of I)) I<|Jn<|gB I (fun ar=>?_) fun ar=>?_;refine Jr<|Jv I<|Ja I<|Jn<|Je<|Jm<|Jh<|Jh<|Jm<|Jh<|JT ?_;rotate_left;refine Jw<|Jj<|Jt<|Jg<|Jv I<|JB I (by omega)<|Ja I<|Jn ?_;rotate_right)
  ·have tJ:x=o:=ar;rw [qL (i:=k) (by omega) (hx.trans tJ) (fun j hj=>hf j (by omega) hj)]
  ·have tJ:¬ x=o:=ar;apply aL (k+1) ⟨(show k+1<=r.de.length from aN),fun j hj MX=>by
    by_cases e:j=k
    ·subst e;rw [hx];exact tJ
    ·exact hf j hj (by omega)⟩ (show r.de.length-(k+1)<r.de.length-k by omega)
   case hs1=>exact cu
   case ht=>(try simp only [Ze,Zf,Za]);exact .h1 .nil
 ·obtain rfl:k=r.de.length:=by omega
  rw [AX fun j hj=>hf j hj (by omega)]
  (refine Jq<|Jr<|Jv I<|bP I I ae<|JL I .here I<|JI I<|JA I<|Jn<|Jc I fun ar=>Jp<|Jl<|Jo<|Jt<|Jr<|Ja I<|Jn<|Je<|JT ?_)
  rfl
theorem A0 {s d t p:Value} (o:ByteArray) {w:World} (h:RR w r s d t p):aj T_ 60 [RA r s d t p,.string o] w (.q (bA (cN r) o)):=by
 obtain ⟨h1,h2,h3,h4⟩:=h.one;have hs:=h.ti;obtain ⟨a,cp,b,o',rfl,dp,bY,ha,hc⟩:=hs;rw [cr] at *;unfold maxLen at bY;unfold RA;refine ah func60 I I ?_;refine Jr<|Jy I I fun _ _=>Ja I<|Jn<|Jq<|Jr<|Ja I<|Jn<|J0 ?_;rename_i b1 tN;refine a7 (ι:=Nat) (fun k=>k<=r.ti.length/\∀ j (hj:j<(cN r).length),j<k->(cN r)[j]≠o) (fun k=>[(5,.int .i64 (k:Nat)),(2,.pointer (some ⟨b1,0,none⟩)),(1,.string o)]) (fun _=>[JQ b1 r s d (.slice a r.ti.length cp) p]) (fun k=>r.ti.length-k) ?_ ?_
 ·apply aI (0:Nat) ⟨Zi _,fun j _ hj=>absurd hj (ZR _)⟩
  case hs1=>exact cu
  case ht=>(try simp only [Ze,Zf,Za]);exact .h1 .nil
 rintro k ⟨hk,hf⟩;have qH:(cN r).length=r.ti.length:=by unfold cN;rw [Zd]
 by_cases aN:k<r.ti.length
 ·have cP:=ha (fF aN);have aB:=(hc k _ (eO aN)).2;have hx:(cN r)[k]'(by omega)=(r.ti[k]).nm:=by unfold cN;rw [Z0]
  have c0:w.cell? ⟨b,o'+k*3,none⟩=some (.string (r.ti[k]).nm):=aB 0 _ I;generalize (r.ti[k]).nm=x at hx c0
  (refine Jq<|Jr<|Jv I<|bP I I ae<|JL I .here I<|JI I<|JA I<|Jn<|Jd I fun ar=>Jk<|Jq<|J0<|Jr<|bP I I ae<|JL I .here I<|Jv I<|ab (fZ cP ar) I<|bP I I ae<|ab (ag (.of I) (At.base c0 I)) I<|Jv I<|ab (ei (.of I) (.of I)) I<|Jn<|gB I (fun ar=>?_) fun ar=>?_;refine Jr<|Jv I<|Ja I<|Jn<|Je<|Jm<|Jh<|Jh<|Jm<|Jh<|JT ?_;rotate_left;refine Jw<|Jj<|Jt<|Jg<|Jv I<|JB I (by omega)<|Ja I<|Jn ?_;rotate_right)
  ·have tJ:x=o:=ar;rw [qL (i:=k) (by omega) (hx.trans tJ) (fun j hj=>hf j (by omega) hj)]
  ·have tJ:¬ x=o:=ar;apply aL (k+1) ⟨(show k+1<=r.ti.length from aN),fun j hj MX=>by
    by_cases e:j=k
    ·subst e;rw [hx];exact tJ
    ·exact hf j hj (by omega)⟩ (show r.ti.length-(k+1)<r.ti.length-k by omega)
   case hs1=>exact cu
   case ht=>(try simp only [Ze,Zf,Za]);exact .h1 .nil
 ·obtain rfl:k=r.ti.length:=by omega
  rw [AX fun j hj=>hf j hj (by omega)]
  (refine Jq<|Jr<|Jv I<|bP I I ae<|JL I .here I<|JI I<|JA I<|Jn<|Jc I fun ar=>Jp<|Jl<|Jo<|Jt<|Jr<|Ja I<|Jn<|Je<|JT ?_)
  rfl
theorem F6 {s d t p:Value} (v:Int) (o:ByteArray) {w:World} (h:RR w r s d t p):aj T_ 133 [RA r s d t p,.q v,.string o] w (.string ((ed r.po v o).getD ⟨#[]⟩)):=by
 obtain ⟨h1,h2,h3,h4⟩:=h.one;have hs:=h.po;obtain ⟨a,cp,b,o',rfl,dp,bY,ha,hc⟩:=hs;rw [c5] at *;unfold maxLen at bY;unfold RA;refine ah func133 I I ?_;refine Jr<|Jy I I fun _ _=>Ja I<|Jn<|Jq<|Jr<|Ja I<|Jn<|J0 ?_;rename_i b1 tN;refine a7 (ι:=Nat) (fun k=>k<=r.po.length/\ed r.po v o=((r.po.drop k).find? (Bh v o)).map Po.ip) (fun k=>[(7,.int .i64 (k:Nat)),(3,.pointer (some ⟨b1,0,none⟩)),(1,.int .i64 v),(2,.string o)]) (fun _=>[JQ b1 r s d t (.slice a r.po.length cp)]) (fun k=>r.po.length-k) ?_ ?_
 ·apply aI (0:Nat) ⟨Zi _,I⟩
  case hs1=>exact cu
  case ht=>(try simp only [Ze,Zf,Za]);exact .h1 .nil
 rintro k ⟨hk,hf⟩;by_cases aN:k<r.po.length
 ·have cP:=ha (ku aN);have aB:=(hc k _ (iE aN)).2;rw [Zu aN] at hf;have c0:w.cell? ⟨b,o'+k*3,none⟩=some (.q (r.po[k]).lv):=aB 0 _ I;have c1:w.cell? ⟨b,o'+k*3+1,none⟩=some (.string (r.po[k]).ou):=aB 1 _ I;have c2:w.cell? ⟨b,o'+k*3+2,none⟩=some (.string (r.po[k]).ip):=aB 2 _ I;generalize r.po[k]=x at hf c0 c1 c2
  (refine Jq<|Jr<|Jv I<|bP I I ae<|JL I .here I<|JI I<|JA I<|Jn<|Jd I fun ar=>Jk<|Jq<|J0<|Jr<|bP I I ae<|JL I .here I<|Jv I<|ab (fZ cP ar) I<|bP I I ae<|ab (ag (.of I) (At.base c0 I)) I<|Jv I<|JC I<|Jv I<|aF I I (fun hg bT=>(az (.of I) ae)) I<|aF I I (fun hg bT=>(ag (.cD hg I) (At.lit .here I))) I<|iT I I I I<|aF I I (fun hg bT=>(au (.cD hg I) (.cD hg I) cP (by omega) ar bn)) I<|aF I I (fun hg bT=>(az (.cD hg I) ae)) I<|aF I I (fun hg bT=>(ag (.cD hg I) (At.base c1 I))) I<|iT I I I I<|aF I I (fun hg bT=>(ei (.cD hg I) (.cD hg I))) I<|ab (c6 (.of I) I) I<|Jn<|qv I (fun ar=>?_) fun ar=>?_;refine Jr<|bP I I ae<|JL I .here I<|Jv I<|ab (au (.of I) (.of I) cP (by omega) (by assumption) bn) I<|bP I I ae<|ab (ag (.of I) (At.base c2 I)) I<|Ja I<|Jn<|Je<|Jm<|Jh<|Jh<|Jm<|Jh<|JT ?_;rotate_left;refine Jw<|Jj<|Jt<|Jg<|Jv I<|JB I (by omega)<|Ja I<|Jn ?_;rotate_right)
  ·rw [hf,List.find?_cons_of_pos (by unfold Bh;simp only [Zl,decide_eq_true_eq];exact ar)];rfl
  ·apply aL (k+1) ⟨(show k+1<=r.po.length from aN),by rw [hf,List.find?_cons_of_neg (by unfold Bh;simp only [Zl,decide_eq_true_eq];exact fun q=>ar.elim (fun z=>z q.1) (fun z=>z q.2))]⟩ (show r.po.length-(k+1)<r.po.length-k by omega)
   case hs1=>exact cu
   case ht=>(try simp only [Ze,Zf,Za]);exact .h1 .nil
 ·obtain rfl:k=r.po.length:=by omega
  rw [Z7] at hf;rw [hf]
  (refine Jq<|Jr<|Jv I<|bP I I ae<|JL I .here I<|JI I<|JA I<|Jn<|Jc I fun ar=>Jp<|Jl<|Jo<|Jt<|Jr<|Ja I<|Jn<|Je<|JT ?_)
  rfl
theorem Rb {s d t p:Value} (v:Int) (o:ByteArray) {w:World} (h:RR w r s d t p):aj T_ 233 [RA r s d t p,.q v,.string o] w (.bool (nh r.po v o)):=by
 obtain ⟨h1,h2,h3,h4⟩:=h.one;have hs:=h.po;obtain ⟨a,cp,b,o',rfl,dp,bY,ha,hc⟩:=hs;rw [c5] at *;unfold maxLen at bY;unfold RA;refine ah func233 I I ?_;refine Jr<|Jy I I fun _ _=>Ja I<|Jn<|Jq<|Jr<|Ja I<|Jn<|J0 ?_;rename_i b1 tN;refine a7 (ι:=Nat) (fun k=>k<=r.po.length/\nh r.po v o=(r.po.drop k).any (AL v o)) (fun k=>[(7,.int .i64 (k:Nat)),(3,.pointer (some ⟨b1,0,none⟩)),(1,.int .i64 v),(2,.string o)]) (fun _=>[JQ b1 r s d t (.slice a r.po.length cp)]) (fun k=>r.po.length-k) ?_ ?_
 ·apply aI (0:Nat) ⟨Zi _,I⟩
  case hs1=>exact cu
  case ht=>(try simp only [Ze,Zf,Za]);exact .h1 .nil
 rintro k ⟨hk,hf⟩;by_cases aN:k<r.po.length
 ·have cP:=ha (ku aN);have aB:=(hc k _ (iE aN)).2;rw [Zu aN] at hf;have c0:w.cell? ⟨b,o'+k*3,none⟩=some (.q (r.po[k]).lv):=aB 0 _ I;have c1:w.cell? ⟨b,o'+k*3+1,none⟩=some (.string (r.po[k]).ou):=aB 1 _ I;have c2:w.cell? ⟨b,o'+k*3+2,none⟩=some (.string (r.po[k]).ip):=aB 2 _ I;generalize r.po[k]=x at hf c0 c1 c2
  (refine Jq<|Jr<|Jv I<|bP I I ae<|JL I .here I<|JI I<|JA I<|Jn<|Jd I fun ar=>Jk<|Jq<|J0<|Jr<|bP I I ae<|JL I .here I<|Jv I<|ab (fZ cP ar) I<|bP I I ae<|ab (ag (.of I) (At.base c0 I)) I<|Jv I<|JC I<|Jv I<|aF I I (fun hg bT=>(az (.of I) ae)) I<|aF I I (fun hg bT=>(ag (.cD hg I) (At.lit .here I))) I<|iT I I I I<|aF I I (fun hg bT=>(au (.cD hg I) (.cD hg I) cP (by omega) ar bn)) I<|aF I I (fun hg bT=>(az (.cD hg I) ae)) I<|aF I I (fun hg bT=>(ag (.cD hg I) (At.base c2 I))) I<|iT I I I I<|aF I I (fun hg bT=>(ei (.cD hg I) (.cD hg I))) I<|ab (c6 (.of I) I) I<|Jn<|qv I (fun ar=>?_) fun ar=>?_;refine Jr<|Ja I<|Jn<|Je<|Jm<|Jh<|Jh<|Jm<|Jh<|JT ?_;rotate_left;refine Jw<|Jj<|Jt<|Jg<|Jv I<|JB I (by omega)<|Ja I<|Jn ?_;rotate_right)
  ·rw [hf,List.any_cons,show AL v o x=true by unfold AL;simp only [Zl,decide_eq_true_eq];exact ar];rfl
  ·apply aL (k+1) ⟨(show k+1<=r.po.length from aN),by rw [hf,List.any_cons,show AL v o x=false by unfold AL;rw [<- Zax];simp only [Zl,decide_eq_true_eq];exact fun q=>ar.elim (fun z=>z q.1) (fun z=>z q.2),Bool.false_or]⟩ (show r.po.length-(k+1)<r.po.length-k by omega)
   case hs1=>exact cu
   case ht=>(try simp only [Ze,Zf,Za]);exact .h1 .nil
 ·obtain rfl:k=r.po.length:=by omega
  rw [Z7] at hf;rw [hf]
  (refine Jq<|Jr<|Jv I<|bP I I ae<|JL I .here I<|JI I<|JA I<|Jn<|Jc I fun ar=>Jp<|Jl<|Jo<|Jt<|Jr<|Ja I<|Jn<|Je<|JT ?_)
  rfl
theorem r6 (h:0<=bA l s):∃ k:Nat,bA l s=k/\k<l.length:=⟨(bA l s).toNat,by omega,(eF h).1⟩
theorem R7 (e:bA (bU r) s=k) (hk:k<r.de.length):jO r s=(r.de[k]).mx:=by
 unfold jO;rw [if_pos (by omega),e,ZF,Zk,Zc hk];rfl
theorem R5 (h:¬ 0<=bA (bU r) s) (e:bA (cN r) s=k) (hk:k<r.ti.length):jO r s=(r.ti[k]).fr:=by
 unfold jO;rw [if_neg h,if_pos (by omega),e,ZF,Zk,Zc hk];rfl
theorem R6 (h:¬ 0<=bA (bU r) s) (h2:¬ 0<=bA (cN r) s):jO r s = -1:=by
 unfold jO;rw [if_neg h,if_neg h2]
theorem Sk (e:bA (cG r) s=k) (hk:k<r.sr.length):jP r s=(r.sr[k]).mx:=by
 unfold jP;rw [if_pos (by omega),e,ZF,Zk,Zc hk];rfl
theorem Sj (h:¬ 0<=bA (cG r) s) (e:bA (cN r) s=k) (hk:k<r.ti.length):jP r s=(r.ti[k]).to:=by
 unfold jP;rw [if_neg h,if_pos (by omega),e,ZF,Zk,Zc hk];rfl
theorem Sl (h:¬ 0<=bA (cG r) s) (h2:¬ 0<=bA (cN r) s):jP r s = -1:=by
 unfold jP;rw [if_neg h,if_neg h2]
theorem Kl {s d t p:Value} (o:ByteArray) {w:World} (h:RR w r s d t p):aj T_ 232 [RA r s d t p,.string o] w (.q (jO r o)):=by
 obtain ⟨h1,h2,h3,h4⟩:=h.one;have hA:∀ w',aK [] w w'->aj T_ 56 [.agg #[.int .i64 r.lv,.int .i64 r.ma,s,d,t,p],.string o] w' (.int .i64 (bA (bU r) o)):=fun w' hk=>A2 o (h.keeps hk)
 have hB:∀ w',aK [] w w'->aj T_ 60 [.agg #[.q r.lv,.q r.ma,s,d,t,p],.string o] w' (.q (bA (cN r) o)):=fun w' hk=>A0 o (h.keeps hk)
 have n1:(bU r).length=r.de.length:=by unfold bU;rw [Zd]
 have n2:(cN r).length=r.ti.length:=by unfold cN;rw [Zd]
 have hs:=h.de;obtain ⟨a,cp,b,o',rfl,dp,bY,ha,hc⟩:=hs;rw [cB] at *;have ht:=h.ti;obtain ⟨a2,oy,b2,o2,rfl,ki,fB,jT,jS⟩:=ht;rw [cr] at *;unfold maxLen at bY fB;by_cases g1:0<=bA (bU r) o
 ·obtain ⟨k,e,hk⟩:=r6 g1;rw [n1] at hk;rw [R7 e hk];rw [e] at hA;have cP:=ha (gI hk);have aB:=(hc k _ (fm hk)).2;have c0:w.cell? ⟨b,o'+k*3+1,none⟩=some (.int .i64 (r.de[k]).mx):=aB 1 _ I;unfold RA;refine ah func232 I I ?_
  (refine Jr<|Jy I I fun _ _=>Ja I<|Jn<|Jq<|Jr<|ab (cK .here) I<|Jv I<|ai ba I (fun w' aA=>(hA w' (Mem.keeps aA)))<|Ja I<|Ji<|Jv I<|JG I<|Jn<|Jd I fun ar=>Jr<|bP I I ae<|JL I .here I<|Jv I<|ab (au (.of I) (.of I) cP ar (by omega) bn) I<|bP I I ae<|ab (ag (.of I) (At.base c0 I)) I<|Ja I<|Jn<|Ju<|JT ?_)
  rfl
 by_cases g2:0<=bA (cN r) o
 ·obtain ⟨k,e,hk⟩:=r6 g2;rw [n2] at hk;rw [R5 g1 e hk];rw [e] at hB;have cP:=jT (fF hk);have aB:=(jS k _ (eO hk)).2;have c0:w.cell? ⟨b2,o2+k*3+1,none⟩=some (.int .i64 (r.ti[k]).fr):=aB 1 _ I;unfold RA;refine ah func232 I I ?_
  (refine Jr<|Jy I I fun _ _=>Ja I<|Jn<|Jq<|Jr<|ab (cK .here) I<|Jv I<|ai ba I (fun w' aA=>(hA w' (Mem.keeps aA)))<|Ja I<|Ji<|Jv I<|JG I<|Jn<|Jc I fun ar=>Jk<|Jq<|Jr<|ab (cK .here) I<|Jv I<|ai ba I (fun w' aA=>(hB w' (Mem.keeps aA)))<|Ja I<|Ji<|Jv I<|JG I<|Jn<|Jd I fun ar=>Jr<|bP I I ae<|JL I .here I<|Jv I<|ab (au (.of I) (.of I) cP ar (by omega) bn) I<|bP I I ae<|ab (ag (.of I) (At.base c0 I)) I<|Ja I<|Jn<|Ju<|JT ?_)
  rfl
 rw [R6 g1 g2];unfold RA;refine ah func232 I I ?_
 (refine Jr<|Jy I I fun _ _=>Ja I<|Jn<|Jq<|Jr<|ab (cK .here) I<|Jv I<|ai ba I (fun w' aA=>(hA w' (Mem.keeps aA)))<|Ja I<|Ji<|Jv I<|JG I<|Jn<|Jc I fun ar=>Jk<|Jq<|Jr<|ab (cK .here) I<|Jv I<|ai ba I (fun w' aA=>(hB w' (Mem.keeps aA)))<|Ja I<|Ji<|Jv I<|JG I<|Jn<|Jc I fun ar=>Jk<|Jr<|Ja I<|Jn<|Je<|JT ?_)
 rfl
theorem OD {s d t p:Value} (o:ByteArray) {w:World} (h:RR w r s d t p):aj T_ 231 [RA r s d t p,.string o] w (.q (jP r o)):=by
 obtain ⟨h1,h2,h3,h4⟩:=h.one;have hA:∀ w',aK [] w w'->aj T_ 130 [.agg #[.int .i64 r.lv,.int .i64 r.ma,s,d,t,p],.string o] w' (.int .i64 (bA (cG r) o)):=fun w' hk=>Gv o (h.keeps hk)
 have hB:∀ w',aK [] w w'->aj T_ 60 [.agg #[.q r.lv,.q r.ma,s,d,t,p],.string o] w' (.q (bA (cN r) o)):=fun w' hk=>A0 o (h.keeps hk)
 have n1:(cG r).length=r.sr.length:=by unfold cG;rw [Zd]
 have n2:(cN r).length=r.ti.length:=by unfold cN;rw [Zd]
 have hs:=h.sr;obtain ⟨a,cp,b,o',rfl,dp,bY,ha,hc⟩:=hs;rw [cR] at *;have ht:=h.ti;obtain ⟨a2,oy,b2,o2,rfl,ki,fB,jT,jS⟩:=ht;rw [cr] at *;unfold maxLen at bY fB;by_cases g1:0<=bA (cG r) o
 ·obtain ⟨k,e,hk⟩:=r6 g1;rw [n1] at hk;rw [Sk e hk];rw [e] at hA;have cP:=ha (iK hk);have aB:=(hc k _ (fY hk)).2;have c0:w.cell? ⟨b,o'+k*2+1,none⟩=some (.int .i64 (r.sr[k]).mx):=aB 1 _ I;unfold RA;refine ah func231 I I ?_
  (refine Jr<|Jy I I fun _ _=>Ja I<|Jn<|Jq<|Jr<|ab (cK .here) I<|Jv I<|ai ba I (fun w' aA=>(hA w' (Mem.keeps aA)))<|Ja I<|Ji<|Jv I<|JG I<|Jn<|Jd I fun ar=>Jr<|bP I I ae<|JL I .here I<|Jv I<|ab (au (.of I) (.of I) cP ar (by omega) bn) I<|bP I I ae<|ab (ag (.of I) (At.base c0 I)) I<|Ja I<|Jn<|Ju<|JT ?_)
  rfl
 by_cases g2:0<=bA (cN r) o
 ·obtain ⟨k,e,hk⟩:=r6 g2;rw [n2] at hk;rw [Sj g1 e hk];rw [e] at hB;have cP:=jT (fF hk);have aB:=(jS k _ (eO hk)).2;have c0:w.cell? ⟨b2,o2+k*3+2,none⟩=some (.int .i64 (r.ti[k]).to):=aB 2 _ I;unfold RA;refine ah func231 I I ?_
  (refine Jr<|Jy I I fun _ _=>Ja I<|Jn<|Jq<|Jr<|ab (cK .here) I<|Jv I<|ai ba I (fun w' aA=>(hA w' (Mem.keeps aA)))<|Ja I<|Ji<|Jv I<|JG I<|Jn<|Jc I fun ar=>Jk<|Jq<|Jr<|ab (cK .here) I<|Jv I<|ai ba I (fun w' aA=>(hB w' (Mem.keeps aA)))<|Ja I<|Ji<|Jv I<|JG I<|Jn<|Jd I fun ar=>Jr<|bP I I ae<|JL I .here I<|Jv I<|ab (au (.of I) (.of I) cP ar (by omega) bn) I<|bP I I ae<|ab (ag (.of I) (At.base c0 I)) I<|Ja I<|Jn<|Ju<|JT ?_)
  rfl
 rw [Sl g1 g2];unfold RA;refine ah func231 I I ?_
 (refine Jr<|Jy I I fun _ _=>Ja I<|Jn<|Jq<|Jr<|ab (cK .here) I<|Jv I<|ai ba I (fun w' aA=>(hA w' (Mem.keeps aA)))<|Ja I<|Ji<|Jv I<|JG I<|Jn<|Jc I fun ar=>Jk<|Jq<|Jr<|ab (cK .here) I<|Jv I<|ai ba I (fun w' aA=>(hB w' (Mem.keeps aA)))<|Ja I<|Ji<|Jv I<|JG I<|Jn<|Jc I fun ar=>Jk<|Jr<|Ja I<|Jn<|Je<|JT ?_)
 rfl
theorem Of {s d t p:Value} (o:ByteArray) {w:World} (h:RR w r s d t p) (hf:mE r):aj T_ 230 [RA r s d t p,.string o] w (.q (dI r o)):=by
 obtain ⟨h1,h2,h3,h4⟩:=h.one;have hA:∀ w',aK [] w w'->aj T_ 56 [.agg #[.int .i64 r.lv,.int .i64 r.ma,s,d,t,p],.string o] w' (.int .i64 (bA (bU r) o)):=fun w' hk=>A2 o (h.keeps hk)
 have hB:∀ w',aK [] w w'->aj T_ 60 [.agg #[.q r.lv,.q r.ma,s,d,t,p],.string o] w' (.q (bA (cN r) o)):=fun w' hk=>A0 o (h.keeps hk)
 have n2:(cN r).length=r.ti.length:=by unfold cN;rw [Zd]
 have hs:=h.de;obtain ⟨a,cp,b,o',rfl,dp,bY,ha,hc⟩:=hs;rw [cB] at *;obtain ⟨f1,f2,f3,f4⟩:=hf;have hq:0<=bA (cN r) o->bA (cN r) o<=1000000:=fun g=>by
  obtain ⟨k,e,hk⟩:=r6 g;omega
 unfold RA;refine ah func230 I I ?_;unfold dI;generalize bA (bU r) o=x at hA ⊢;generalize bA (cN r) o=y at hB hq ⊢
 (refine Jr<|Jy I I fun _ _=>Ja I<|Jn<|Jq<|Jr<|ab (cK .here) I<|Jv I<|ai ba I (fun w' aA=>(hA w' (Mem.keeps aA)))<|Ja I<|Ji<|Jv I<|JG I<|Jn<|gB I (fun ar=>?_) fun ar=>?_;refine Jr<|Jv I<|Ja I<|Jn<|Ju<|JT ?_;rotate_left;refine Jk<|Jq<|Jr<|ab (cK .here) I<|Jv I<|ai ba I (fun w' aA=>(hB w' (Mem.keeps aA)))<|Ja I<|Ji<|Jv I<|JG I<|Jn<|gB I (fun ar=>?_) fun ar=>?_;refine Jr<|bP I I ae<|JL I .here I<|JI I<|Jv I<|JB I (by omega)<|Ja I<|Jn<|Ju<|JT ?_;rotate_left;refine Jk<|Jr<|Ja I<|Jn<|Je<|JT ?_;rotate_right;rotate_right)
 all_goals first | (rw [if_pos ar];done) | (rw [if_neg ‹¬ 0<=x›,if_pos ar];done) | (rw [if_neg ‹¬ 0<=x›,if_neg ar];done)
theorem Fe {s d t p:Value} (o:ByteArray) {w:World} (h:RR w r s d t p):aj T_ 26 [RA r s d t p,.string o] w (.q (mB r o)):=by
 obtain ⟨h1,h2,h3,h4⟩:=h.one;have xM:∀ w',aK [] w w'->aj T_ 56 [.agg #[.int .i64 r.lv,.int .i64 r.ma,s,d,t,p],.string o] w' (.int .i64 (bA (bU r) o)):=fun w' hk=>A2 o (h.keeps hk)
 unfold RA;refine ah func26 I I ?_
 (refine Jr<|Jy I I fun _ _=>Ja I<|Ji<|ab (cK .here) I<|Jv I<|ai ba I (fun w' aA=>(xM w' (Mem.keeps aA)))<|JA I<|ai ba I (fun w' aA=>(lg _ 10 w'))<|Ja I<|Jn<|Je<|JT ?_)
 rfl
theorem GF (po:List Po) (v:Int):∀ (n:Nat) (o:ByteArray),(tT po v n o).length<=n
 | 0,_=>Zz _
 | n + 1, o => by
  rw [tT];split
  ·exact Zi _
  ·rw [ZI];exact Nat.succ_le_succ (GF po v n _)
theorem PD {s d t p:Value} (v:Int) (o:ByteArray) (n:Nat) (hn:n<=1000) {w:World} (h:RR w r s d t p):bb T_ 132 [RA r s d t p,.q v,.string o,.q (n:Nat)] w [] (fun _:Value=>True) id (fun x=>[row 9 1 x (tT r.po v n o).length (aJ (tT r.po v n o))]):=by
 obtain ⟨h1,h2,h3,h4⟩:=h.one;have n9:∀ (o':ByteArray) w',aK [] w w'->aj T_ 133 [.agg #[.int .i64 r.lv,.int .i64 r.ma,s,d,t,p],.int .i64 v,.string o'] w' (.string ((ed r.po v o').getD ⟨#[]⟩)):=fun o' w' hk=>F6 v o' (h.keeps hk)
 unfold RA;refine aT func132 I I ?_;refine Jr<|Jy I I fun _ _=>Ja I<|Ji<|Ja I<|Jn<|Jq<|Jr<|Ja I<|Jn<|J0 ?_;rename_i b4 uQ;refine aP 9 1 ?_;refine a7 (ι:=Nat×ByteArray×Value×List ByteArray) (fun y=>y.1<=n/\y.2.2.2.length=y.1/\tT r.po v n o=y.2.2.2++tT r.po v (n-y.1) y.2.1) (fun y=>[(10,.q (y.1:Nat)),(9,y.2.2.1),(2,.string y.2.1),(1,.q v),(3,.q (n:Nat)),(4,.p b4)]) (fun y=>[row 9 1 y.2.2.1 y.1 (aJ y.2.2.2),JQ b4 r s d t p]) (fun y=>n-y.1) ?_ ?_
 ·apply aI (0,o,.z,[]) ⟨Zi _,I,I⟩
  case hs1=>exact cu
  case ht=>
   exact .h2 .nil
 rintro ⟨k,o',v',L⟩ ⟨hk,hL,hc⟩;dsimp only at hk hL hc ⊢;have hlen:(aJ L).length=k*1:=by rw [dq,hL];omega
 by_cases aN:k<n/\o'≠⟨#[]⟩
 ·obtain ⟨g1,g2⟩:=aN;have jS:tT r.po v n o=(L++[o'])++tT r.po v (n-(k+1)) ((ed r.po v o').getD ⟨#[]⟩):=by
   rw [hc,show n-k=(n-(k+1))+1 by omega,tT,if_neg g2,Zh];rfl
  (refine Jq<|Jr<|Jv I<|Jv I<|JA I<|Jv I<|iT I I I I<|aF I I (fun hg bT=>(gY (.cD hg I) (.of I))) I<|ab (c6 (.of I) I) I<|Jn<|qv I (fun ar=>?_) fun ar=>?_;refine Jk<|Jq<|J0<|Jr<|Jv I<|Jv I<|bu (aC (.o I .nil) I I I I) I fun _ _=>?_;rotate_left;refine Jp<|Jl<|Jo<|Jt<|Jr<|Jv I<|Ja I<|Jn<|Je ?_;rotate_right)
  refine bK (.of I) (.of I) (.there .here) .here ak (by rfl) (eL I) (by rfl) (by rfl) (by rfl) fa (by rfl) ?_;intro x
  (refine Ja I<|Jn<|Jg<|ab (cK bF) I<|Jv I<|Jv I<|ai eK I (fun w' aA=>(n9 o' w' (Mem.keeps aA)))<|Ja I<|Jx<|Jj<|Jt<|Jg<|Jv I<|JB I (by omega)<|Ja I<|Jn ?_)
  apply aL (k+1,(ed r.po v o').getD ⟨#[]⟩,x,L++[o']) ⟨by show k+1<=n;omega,by show (L++[o']).length=k+1;rw [Zg,hL];rfl,jS⟩ (by show n-(k+1)<n-k;omega)
  case hs1=>exact cu
  case ht=>
   show bj _ [row 9 1 x (k+1) (aJ (L++[o'])),JQ b4 r s d t p] _;rw [show aJ (L++[o'])=aJ L++[.string o'] from fw _ _];exact .h1 (.cons (.there .here) .nil)
  exact ar.elim (fun z=>absurd (show ((k:Nat):Int)<(n:Nat) by omega) z) (fun z=>absurd g2 z)
 ·have he:tT r.po v n o=L:=by
   rw [hc];by_cases g:k<n
   ·have:o'=⟨#[]⟩:=Classical.byContradiction fun q=>aN ⟨g,q⟩
    rw [this,QQ,ZS]
   ·rw [show n-k=0 by omega,tT,ZS]
  have Lb:¬ ((k:Nat):Int)<(n:Nat)\/¬ o'≠⟨#[]⟩:=by
   by_cases g:k<n
   ·exact .inr fun q=>aN ⟨g,q⟩
   ·exact .inl (by omega)
  rw [he,hL]
  (refine Jq<|Jr<|Jv I<|Jv I<|JA I<|Jv I<|iT I I I I<|aF I I (fun hg bT=>(gY (.cD hg I) (.of I))) I<|ab (c6 (.of I) I) I<|Jn<|qv I (fun ar=>?_) fun ar=>?_;refine Jk<|Jq<|J0<|Jr<|Jv I<|Jv I<|bu (aC (.o I .nil) I I I I) I fun _ _=>?_;rotate_left;refine Jp<|Jl<|Jo<|Jt<|Jr<|Jv I<|Ja I<|Jn<|Je ?_;rotate_right)
  ·exact absurd ar (by intro q;rcases Lb with z | z;exact z q.1;exact z q.2)
  with_reducible first|apply aR|apply aS
  case he=>exact dH I I
  case hR=>
   intro w' aA;exact aD v' trivial (by exact .h1 .nil) aA I




theorem Lv {lv:Value} (o:ByteArray) {w:World} (h:Rd w lv 1 (fX l)):aj T_ 59 [lv,.string o] w (.bool (fv l o)):=by
 obtain ⟨a,cp,b,o',rfl,dp,bY,ha,hc⟩:=h;rw [bX] at *;unfold maxLen at bY;refine ah func59 I I ?_;refine Jr<|Ja I<|Jn<|Jq<|Jr<|Ja I<|Jn<|J0 ?_;refine a7 (ι:=Nat) (fun k=>k<=l.length/\∀ j (hj:j<l.length),j<k->l[j]≠o) (fun k=>[(5,.int .i64 (k:Nat)),(0,.slice a l.length cp),(1,.string o)]) (fun _=>[]) (fun k=>l.length-k) ?_ ?_
 ·apply aI (0:Nat) ⟨Zi _,fun j _ hj=>absurd hj (ZR _)⟩
  case hs1=>exact cu
  case ht=>(try simp only [Ze,Zf,Za]);exact .nil
 rintro k ⟨hk,hf⟩;by_cases aN:k<l.length
 ·have cP:=ha (mm aN);have c0:w.cell? ⟨b,o'+k*1,none⟩=some (.string l[k]):=(hc k _ (jf aN)).2 0 _ I;have hm:=Zj aN;have xq:l[k]≠o->∀ j (hj:j<l.length),j<k+1->l[j]≠o:=fun q j hj MX=>by
   by_cases e:j=k
   ·subst e;exact q
   ·exact hf j hj (by omega)
  generalize l[k]=x at c0 hm xq
  (refine Jq<|Jr<|Jv I<|Jv I<|JI I<|JA I<|Jn<|Jd I fun ar=>Jk<|Jq<|J0<|Jr<|Jv I<|Jv I<|ab (fZ cP ar) I<|ab (ag (.of I) (At.base c0 I)) I<|Jv I<|ab (ei (.of I) (.of I)) I<|Jn<|gB I (fun ar=>?_) fun ar=>?_;refine Jr<|Ja I<|Jn<|Je<|Jm<|Jh<|Jh<|Jm<|Jh<|JT ?_;rotate_left;refine Jw<|Jj<|Jt<|Jg<|Jv I<|JB I (by omega)<|Ja I<|Jn ?_;rotate_right)
  ·have tJ:x=o:=ar;rw [dZ.2 (tJ ▸ hm)]
  ·have tJ:¬ x=o:=ar;apply aL (k+1) ⟨(show k+1<=l.length from aN),xq tJ⟩ (show l.length-(k+1)<l.length-k by omega)
   case hs1=>exact cu
   case ht=>(try simp only [Ze,Zf,Za]);exact .nil
 ·have e:fv l o=false:=by
   rw [<- Zax,dZ];intro q;obtain ⟨j,hj,e⟩:=Zx q;exact hf j hj (by omega) e
  obtain rfl:k=l.length:=by omega
  rw [e];refine Jq<|Jr<|Jv I<|Jv I<|JI I<|JA I<|Jn<|Jc I fun ar=>Jp<|Jl<|Jo<|Jt<|Jr<|Ja I<|Jn<|Je<|JT ?_
  rfl
theorem Az {s d t p:Value} {w:World} (h:RR w r s d t p) (hf:mE r):bb T_ 77 [RA r s d t p] w [] (fun _:Value=>True) id (fun x=>[row 9 1 x (bW r).length (aJ (bW r))]):=by
 obtain ⟨h1,h2,h3,h4⟩:=h.one;have Hy:=h.sr;have HH:=h.de;have CR:=h.ti;obtain ⟨a1,eJ,QS,P7,rfl,qp,jc,mG,kc⟩:=Hy;obtain ⟨a2,dB,QR,P6,rfl,ki,fB,jT,jS⟩:=HH;obtain ⟨a3,ep,Mk,Ko,rfl,nR,gP,uh,qI⟩:=CR;rw [cR] at *;rw [cB] at *;rw [cr] at *;unfold maxLen at jc fB gP;obtain ⟨f1,f2,f3,f4⟩:=hf;unfold RA;refine aT func77 I I ?_;refine Jr<|Jy I I fun _ _=>Ja I<|Ji<|Ja I<|Jn<|Jq<|Jr<|Ja I<|Jn<|J0 ?_;rename_i b1 tN;refine aP 9 1 ?_;refine a7 (ι:=Nat×Value×List ByteArray) (fun y=>y.1<=r.sr.length/\y.2.2=([]:List ByteArray)++(cG r).take y.1) (fun y=>[(4,.int .i64 (y.1:Nat)),(3,y.2.1),(1,.pointer (some ⟨b1,0,none⟩))]) (fun y=>[row 9 1 y.2.1 y.2.2.length (aJ y.2.2),JQ b1 r (.slice a1 r.sr.length eJ) (.slice a2 r.de.length dB) (.slice a3 r.ti.length ep) p]) (fun y=>r.sr.length-y.1) ?_ ?_
 ·apply aI (0,.z,[]) ⟨Zi _,I⟩
  case hs1=>exact cu
  case ht=>
   exact .h2 .nil
 rintro ⟨k,v1,L1⟩ ⟨hk,Ud⟩;dsimp only at hk Ud ⊢;have nn1:(cG r).length=r.sr.length:=by unfold cG;rw [Zd]
 by_cases aN:k<r.sr.length
 ·have LD:L1.length=(([]:List ByteArray)).length+k:=by rw [Ud,Zg,Zs];omega
  have hLb:L1.length<=3000000:=by rw [LD];simp only [Zaj];omega
  have hlen:(aJ L1).length=L1.length*1:=by rw [dq];omega
  have cP:=mG (iK aN);have c0:w.cell? ⟨QS,P7+k*2,none⟩=some (.string (r.sr[k]).nm):=(kc k _ (fY aN)).2 0 _ I;have hx:(cG r)[k]'(by omega)=(r.sr[k]).nm:=by unfold cG;rw [Z0]
  have uT:L1++[(r.sr[k]).nm]=([]:List ByteArray)++(cG r).take (k+1):=by rw [Zn (by omega),hx,<- Zh,<- Ud]
  generalize (r.sr[k]).nm=x at c0 hx uT
  (refine Jq<|Jr<|Jv I<|bP I I ae<|JL I (.there .here) I<|JI I<|JA I<|Jn<|Jd I fun ar=>Jk<|Jq<|J0<|Jg<|Jv I<|bP I I ae<|JL I (.there .here) I<|Jv I<|ab (fZ cP ar) I<|bP I I ae<|ab (ag (.of I) (At.base c0 I)) I<|bu (aC (.o I .nil) I I I I) I fun _ _=>?_)
  refine bK (.of I) (.of I) (.there .here) .here ak (by rfl) (eL I) (by rfl) (by rfl) (by rfl) fa (by rfl) ?_;intro z;refine Ja I<|Jx<|Jj<|Jt<|Jg<|Jv I<|JB I (by omega)<|Ja I<|Jn ?_;apply aL (k+1,z,L1++[x]) ⟨by show k+1<=r.sr.length;omega,uT⟩ (by show r.sr.length-(k+1)<r.sr.length-k;omega)
  case hs1=>exact cu
  case ht=>
   show bj _ [row 9 1 z (L1++[x]).length (aJ (L1++[x])),JQ b1 r (.slice a1 r.sr.length eJ) (.slice a2 r.de.length dB) (.slice a3 r.ti.length ep) p] _;rw [show aJ (L1++[x])=aJ L1++[.string x] from fw _ _,Zg,Zbp];exact .h1 (.cons (.there .here) .nil)
 obtain rfl:k=r.sr.length:=by omega
 rw [Zae (by omega)] at Ud;clear hk aN
 (refine Jq<|Jr<|Jv I<|bP I I ae<|JL I (.there .here) I<|JI I<|JA I<|Jn<|Jc I fun ar=>Jp<|Jl<|Jo<|Jt<|Jq<|Jr<|Ja I<|Jn<|J0 ?_)
 rw [Za] at Ud;refine a7 (ι:=Nat×Value×List ByteArray) (fun y=>y.1<=r.de.length/\y.2.2=cG r++(bU r).take y.1) (fun y=>[(5,.q (y.1:Nat)),(3,y.2.1),(1,.p b1)]) (fun y=>[row 9 1 y.2.1 y.2.2.length (aJ y.2.2),JQ b1 r (.slice a1 r.sr.length eJ) (.slice a2 r.de.length dB) (.slice a3 r.ti.length ep) p]) (fun y=>r.de.length-y.1) ?_ ?_
 ·apply aI (0,v1,L1) ⟨Zi _,by rw [Ze,ZS];exact Ud⟩
  case hs1=>exact cu
  case ht=>
   exact .h2 .nil
 rintro ⟨k,v2,L2⟩ ⟨hk,uT⟩;dsimp only at hk uT ⊢;have nn2:(bU r).length=r.de.length:=by unfold bU;rw [Zd]
 by_cases aN:k<r.de.length
 ·have LD:L2.length=(cG r).length+k:=by rw [uT,Zg,Zs];omega
  have hLb:L2.length<=3000000:=by rw [LD];rw [nn1];omega
  have hlen:(aJ L2).length=L2.length*1:=by rw [dq];omega
  have cP:=jT (gI aN);have c0:w.cell? ⟨QR,P6+k*3,none⟩=some (.string (r.de[k]).nm):=(jS k _ (fm aN)).2 0 _ I;have hx:(bU r)[k]'(by omega)=(r.de[k]).nm:=by unfold bU;rw [Z0]
  have uT:L2++[(r.de[k]).nm]=cG r++(bU r).take (k+1):=by rw [Zn (by omega),hx,<- Zh,<- uT]
  generalize (r.de[k]).nm=x at c0 hx uT
  (refine Jq<|Jr<|Jv I<|bP I I ae<|JL I (.there .here) I<|JI I<|JA I<|Jn<|Jd I fun ar=>Jk<|Jq<|J0<|Jg<|Jv I<|bP I I ae<|JL I (.there .here) I<|Jv I<|ab (fZ cP ar) I<|bP I I ae<|ab (ag (.of I) (At.base c0 I)) I<|bu (aC (.o I .nil) I I I I) I fun _ _=>?_)
  refine bK (.of I) (.of I) (.there .here) .here ak (by rfl) (eL I) (by rfl) (by rfl) (by rfl) fa (by rfl) ?_;intro z;refine Ja I<|Jx<|Jj<|Jt<|Jg<|Jv I<|JB I (by omega)<|Ja I<|Jn ?_;apply aL (k+1,z,L2++[x]) ⟨by show k+1<=r.de.length;omega,uT⟩ (by show r.de.length-(k+1)<r.de.length-k;omega)
  case hs1=>exact cu
  case ht=>
   show bj _ [row 9 1 z (L2++[x]).length (aJ (L2++[x])),JQ b1 r (.slice a1 r.sr.length eJ) (.slice a2 r.de.length dB) (.slice a3 r.ti.length ep) p] _;rw [show aJ (L2++[x])=aJ L2++[.string x] from fw _ _,Zg,Zbp];exact .h1 (.cons (.there .here) .nil)
 obtain rfl:k=r.de.length:=by omega
 rw [Zae (by omega)] at uT;clear hk aN
 (refine Jq<|Jr<|Jv I<|bP I I ae<|JL I (.there .here) I<|JI I<|JA I<|Jn<|Jc I fun ar=>Jp<|Jl<|Jo<|Jt<|Jq<|Jr<|Ja I<|Jn<|J0 ?_)
 refine a7 (ι:=Nat×Value×List ByteArray) (fun y=>y.1<=r.ti.length/\y.2.2=(cG r++bU r)++(cN r).take y.1) (fun y=>[(6,.q (y.1:Nat)),(3,y.2.1),(1,.p b1)]) (fun y=>[row 9 1 y.2.1 y.2.2.length (aJ y.2.2),JQ b1 r (.slice a1 r.sr.length eJ) (.slice a2 r.de.length dB) (.slice a3 r.ti.length ep) p]) (fun y=>r.ti.length-y.1) ?_ ?_
 ·apply aI (0,v2,L2) ⟨Zi _,by rw [Ze,ZS];exact uT⟩
  case hs1=>exact cu
  case ht=>
   exact .h2 .nil
 rintro ⟨k,v3,L3⟩ ⟨hk,QB⟩;dsimp only at hk QB ⊢;have nn3:(cN r).length=r.ti.length:=by unfold cN;rw [Zd]
 by_cases aN:k<r.ti.length
 ·have LD:L3.length=((cG r++bU r)).length+k:=by rw [QB,Zg,Zs];omega
  have hLb:L3.length<=3000000:=by rw [LD];rw [Zg,nn1,nn2];omega
  have hlen:(aJ L3).length=L3.length*1:=by rw [dq];omega
  have cP:=uh (fF aN);have c0:w.cell? ⟨Mk,Ko+k*3,none⟩=some (.string (r.ti[k]).nm):=(qI k _ (eO aN)).2 0 _ I;have hx:(cN r)[k]'(by omega)=(r.ti[k]).nm:=by unfold cN;rw [Z0]
  have uT:L3++[(r.ti[k]).nm]=(cG r++bU r)++(cN r).take (k+1):=by rw [Zn (by omega),hx,<- Zh,<- QB]
  generalize (r.ti[k]).nm=x at c0 hx uT
  (refine Jq<|Jr<|Jv I<|bP I I ae<|JL I (.there .here) I<|JI I<|JA I<|Jn<|Jd I fun ar=>Jk<|Jq<|J0<|Jg<|Jv I<|bP I I ae<|JL I (.there .here) I<|Jv I<|ab (fZ cP ar) I<|bP I I ae<|ab (ag (.of I) (At.base c0 I)) I<|bu (aC (.o I .nil) I I I I) I fun _ _=>?_)
  refine bK (.of I) (.of I) (.there .here) .here ak (by rfl) (eL I) (by rfl) (by rfl) (by rfl) fa (by rfl) ?_;intro z;refine Ja I<|Jx<|Jj<|Jt<|Jg<|Jv I<|JB I (by omega)<|Ja I<|Jn ?_;apply aL (k+1,z,L3++[x]) ⟨by show k+1<=r.ti.length;omega,uT⟩ (by show r.ti.length-(k+1)<r.ti.length-k;omega)
  case hs1=>exact cu
  case ht=>
   show bj _ [row 9 1 z (L3++[x]).length (aJ (L3++[x])),JQ b1 r (.slice a1 r.sr.length eJ) (.slice a2 r.de.length dB) (.slice a3 r.ti.length ep) p] _;rw [show aJ (L3++[x])=aJ L3++[.string x] from fw _ _,Zg,Zbp];exact .h1 (.cons (.there .here) .nil)
 obtain rfl:k=r.ti.length:=by omega
 rw [Zae (by omega)] at QB;clear hk aN
 (refine Jq<|Jr<|Jv I<|bP I I ae<|JL I (.there .here) I<|JI I<|JA I<|Jn<|Jc I fun ar=>Jp<|Jl<|Jo<|Jt<|Jr<|Jv I<|Ja I<|Jn<|Je ?_)
 have e:bW r=L3:=QB.symm;rw [e]
 with_reducible first|apply aR|apply aS
 case he=>exact dH I I
 case hR=>
  intro w' aA;exact aD v3 trivial (by exact .h1 .nil) aA I
def ckQ (r:Ro):Int:=if nF r≠0 then nF r else if jC r≠0 then jC r else Ai r
theorem Tz (r:Ro):ckQ r=ew r:=by
 unfold ckQ ew;by_cases h1:nF r=0
 ·rw [if_neg (not_not_intro h1),if_neg (not_not_intro h1)];by_cases h2:jC r=0
  ·rw [if_neg (not_not_intro h2),if_neg (not_not_intro h2),N4 (prt h2)]
  ·rw [if_pos h2,if_pos h2]
 ·rw [if_pos h1,if_pos h1]
def Ah (r:Ro) (k:Nat):Int:=((bW r)[k]?.map fun x=>aW [bQ (!fA x) 8,bQ (fv ((bW r).take k) x) 9]).getD 0
theorem N3 (h:k<(bW r).length):Ah r k=aW [bQ (!fA (bW r)[k]) 8,bQ (fv ((bW r).take k) (bW r)[k]) 9]:=by
 unfold Ah;rw [Zc h];rfl
theorem tb (a b:Int) (l:List Int):aW (aW [a,b]::l)=aW (a::b::l):=by
 by_cases ha:a=0
 ·subst ha;have e:aW [0,b]=b:=by
   unfold aW;rw [if_neg (by decide)];unfold aW;split
   ·rfl
   ·rename_i q;rw [Zq] at q;rw [q];rfl
  rw [e]
  conv=>rhs;unfold aW
  rw [if_neg (by decide)]
 ·have e:aW [a,b]=a:=by unfold aW;rw [if_pos ha]
  rw [e];unfold aW;rw [if_pos ha,if_pos ha]
theorem E7 (a b:Int) (l:List Int):aW [a,b,aW l]=aW (a::b::l):=by
 have h1:∀ x:Int,∀ m,aW (x::m)=if x≠0 then x else aW m:=fun x m=>by rw [aW]
 have h2:∀ x:Int,aW [x]=x:=fun x=>by
  rw [h1];split
  ·rfl
  ·rename_i q;rw [Zq] at q;rw [q];rfl
 rw [h1,h1 b,h2,h1 a,h1 b]
theorem Mw (r:Ro):(bW r).length=r.sr.length+r.de.length+r.ti.length:=by
 unfold bW cG bU cN;simp only [Zg,Zd]
theorem Mv (h:k<r.sr.length):(bW r)[k]? = some (r.sr[k]).nm/\(bW r).take k=[]++(r.sr.take k).map Sr.nm:=by
 have e1:(cG r).length=r.sr.length:=by unfold cG;rw [Zd]
 unfold bW;rw [Zh];refine ⟨?_,?_⟩
 ·rw [ZD (by omega)];unfold cG;rw [ZA,Zc h];rfl
 ·rw [Zag (by omega)];unfold cG;rw [ZaH];rfl
theorem Mx (h:k<r.de.length):(bW r)[r.sr.length+k]? = some (r.de[k]).nm/\(bW r).take (r.sr.length+k)=cG r++(r.de.take k).map De.nm:=by
 have e1:(cG r).length=r.sr.length:=by unfold cG;rw [Zd]
 have e2:(bU r).length=r.de.length:=by unfold bU;rw [Zd]
 unfold bW;rw [Zh];refine ⟨?_,?_⟩
 ·rw [ZJ (by omega),ZD (by omega),show r.sr.length+k-(cG r).length=k by omega];unfold bU;rw [ZA,Zc h];rfl
 ·rw [<- e1,List.take_length_add_append,Zag (by omega)];unfold bU;rw [ZaH]
theorem Mu (h:k<r.ti.length):(bW r)[r.sr.length+r.de.length+k]? = some (r.ti[k]).nm/\(bW r).take (r.sr.length+r.de.length+k)=(cG r++bU r)++(r.ti.take k).map Ti.nm:=by
 have e1:(cG r++bU r).length=r.sr.length+r.de.length:=by unfold cG bU;rw [Zg,Zd,Zd]
 have e2:(cN r).length=r.ti.length:=by unfold cN;rw [Zd]
 unfold bW;refine ⟨?_,?_⟩
 ·rw [ZJ (by omega),e1,show r.sr.length+r.de.length+k-(r.sr.length+r.de.length)=k by omega];unfold cN;rw [ZA,Zc h];rfl
 ·rw [<- e1,List.take_length_add_append];unfold cN;rw [ZaH]
theorem Eu {j:Nat} {x:ByteArray} (h:(bW r)[j]? = some x) (h2:(bW r).take j=l):Ah r j=aW [bQ (!fA x) 8,bQ (fv l x) 9]:=by
 unfold Ah;rw [h,h2];rfl
theorem UK (h:k<r.sr.length):aW [Ah r k,fj r (r.sr[k]).mx]=xF [] Sr.nm (fun x=>fj r x.mx) r.sr k:=by
 rw [nu h,Eu (Mv h).1 (Mv h).2,tb]
theorem UL (h:k<r.de.length):aW [Ah r (r.sr.length+k),fj r (r.de[k]).mx]=xF (cG r) De.nm (fun x=>fj r x.mx) r.de k:=by
 rw [nu h,Eu (Mx h).1 (Mx h).2,tb]
theorem UJ (h:k<r.ti.length):aW [Ah r (r.sr.length+r.de.length+k),fj r (r.ti[k]).fr,fj r (r.ti[k]).to,bQ (decide ((r.ti[k]).fr=(r.ti[k]).to)) 24]=xF (cG r++bU r) Ti.nm (nk r) r.ti k:=by
 rw [nu h,Eu (Mu h).1 (Mu h).2,tb];unfold nk;rw [E7]
theorem Ev (h1:eY 8 [] Sr.nm (fun x=>fj r x.mx) r.sr=0) (h2:eY 8 (cG r) De.nm (fun x=>fj r x.mx) r.de=0):jC r=eY 6 (cG r++bU r) Ti.nm (nk r) r.ti:=by
 rw [Xd h1 h2];unfold aW;split
 ·rfl
 ·rename_i q;rw [Zq] at q;rw [q];rfl
end Go.Proofs.A1
