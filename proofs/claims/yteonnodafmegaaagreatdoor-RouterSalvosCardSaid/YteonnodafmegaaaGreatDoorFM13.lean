/- Parts of the proof: LP POpen LQ LR LS LT LU LV LW LX LY P6c. -/
import Derived.Test.YteonnodafmegaaaGreatDoorFM12
import Derived.Test.YteonnodafmegaaaGreatDoorFM04
import Derived.Test.YteonnodafmegaaaGreatDoorTie
import Derived.Test.YteonnodafmegaaaGreatDoorCards
import Derived.Lib.SmallJoins
import Derived.Lib.LaidTab
import Derived.Deep.Slices
import Derived.Deep.Fields
import Derived.ChangeSame
import Derived.ChangeBook
import Derived.ChangeStays
import Derived.WalkKit
import Derived.ProofKit
import Derived.OpenShut
import Derived.Below
import Derived.LaidMore
import Derived.Lay
import Derived.SevenTiedAt
import Derived.Stop.Joined
import Derived.ChangeMaps5
import Derived.Test.YteonnodafmegaaaGreatDoorFM10
set_option linter.unusedSectionVars false
set_option linter.unusedVariables false
set_option linter.unusedSimpArgs false
namespace Go.Proofs.A1
open Go Go.SL
open Tryz
open Tryz renaming prog->T_
variable {Y:List ByteArray} {af:Array Edge} {c:Cx} {d:Value} {dst:Option Tmp} {e:Int} {fz:Nat×Nat} {g:Option (Nat×Bool)} {hs hs':List bd} {l:List fc} {p:Value} {pos:String} {r:Ro} {s:Value} {sl:aL} {t v v1 v2:Value}
theorem eu {D:List Nat} {hs rest:List bd} {X:Act->World->Prop} (hs2:List bd) (ht:bC hs hs2 rest) (k:Tr c D sl hs2 X):Tr c D sl hs X:=fun a w a7=>k a w (a7.heap (by
 have h1:=a7.mem.jR (ht.append (nE D));obtain ⟨kk,fp,hn,iv,hb⟩:=h1;obtain ⟨f1,f23,rfl,g1,g23⟩:=cr.append_iff.1 iv;obtain ⟨f2,f3,rfl,g2,g3⟩:=cr.append_iff.1 g23;obtain ⟨n1,n23,n12⟩:=ZK.1 hn;obtain ⟨n2,n3,n4⟩:=ZK.1 n23;exact ⟨kk,f1++f3,ZK.2 ⟨n1,n3,fun x hx y hy=>n12 x hx y (ZW _ hy)⟩,cr.append_iff.2 ⟨f1,f3,I,g1,g3⟩,fun b dM=>hb b (by
  rcases ZB.1 dM with h | h
  ·exact ZJ _ h
  ·exact ZW _ (ZW _ h))⟩))
theorem td:og np:=⟨by decide,by decide,by decide⟩
theorem GS:og gX:=⟨by decide,by decide,by decide⟩
theorem GR:og iS:=⟨by decide,by decide,by decide⟩
theorem XS:og Eu:=⟨by decide,by decide,by decide⟩
theorem Bu:kE gX:=⟨by decide,by decide,by decide,by decide⟩
theorem Bt:kE iS:=⟨by decide,by decide,by decide,by decide⟩
theorem acG:kE xZ:=⟨by decide,by decide,by decide,by decide⟩
theorem XO:kE Eu:=⟨by decide,by decide,by decide,by decide⟩
theorem Na {w:World} (v:Int) (so de:ByteArray) (h:RR w r s d t p) (hf:og r) (e1:Ha r v so de=e) (e2:Ea r v so de=Y):bh T_ 70 [.agg #[.q (r).lv,.q (r).ma,s,d,t,p],.q v,.string so,.string de] w [] (fun _:Value=>True) (fun x=>.tuple #[x,.q e]) (fun x=>[row 9 1 x Y.length (aP Y)]):=by
 subst e1 e2;exact Yj v so de h hf
theorem UX {w:World} {Y:List Int} (v:Int) (so de:ByteArray) (h:RR w r s d t p) (hf:og r) (e1:MN r v so de=e) (e2:Ii r v so de=Y):bh T_ 36 [.agg #[.q (r).lv,.q (r).ma,s,d,t,p],.q v,.string so,.string de] w [] (fun _:Value=>True) (fun x=>.tuple #[x,.q e]) (fun x=>[row 3 1 x Y.length (Y.map (Value.int .i64))]):=by
 subst e1 e2;exact Yp v so de h hf
theorem R4 {r q:Ro} {k:Tk} {w:World} (e:il r [k]=(q,0,0)) (h:RR w r s d t p) (hf:og r) (hv:Rd w v 1 (gT k.so)):bh T_ 48 [.agg #[.q (r).lv,.q (r).ma,s,d,t,p],.agg #[.string k.de,v]] w [] (fun _:Value×Value×Value×Value=>True) (fun y=>.tuple #[.agg #[.q (q).lv,.q (q).ma,y.1,y.2.1,y.2.2.1,y.2.2.2],.q 0]) (fun y=>u3 q y):=by
 have:=G6 (x:=⟨k,v⟩) h hf hv;rw [show (fc.mk k v).tk=k from I,e] at this;exact this
theorem Nc {r q:Ro} {i e_:Int} {w:World} (e:il r (bJ l)=(q,i,e_)) (h:RR w r s d t p) (hf:og r) (hv:Rd w v 2 (gP l)) (hM:rp w l):bh T_ 45 [.agg #[.q (r).lv,.q (r).ma,s,d,t,p],v] w [] (fun _:Value×Value×Value×Value=>True) (fun y=>.tuple #[.agg #[.q (q).lv,.q (q).ma,y.1,y.2.1,y.2.2.1,y.2.2.2],.q i,.q e_]) (fun y=>u3 q y):=by
 have:=BU h hf hv hM;rw [e] at this;exact this
theorem Ya {m:List Tk} {w:World} (e:(il r (bJ l)).2.2=0) (e2:sh r (bJ l)=m) (h:RR w r s d t p) (hf:og r) (hv:Rd w v 2 (gP l)) (hM:rp w l):bh T_ 47 [.agg #[.q (r).lv,.q (r).ma,s,d,t,p],v] w [] (fun x:Value×List fc=>bJ x.2=m) (fun x=>.tuple #[x.1,.q 0]) (fun x=>[row 78 2 x.1 x.2.length (gP x.2).flatten,yX x.2]):=by
 have:=DO h hf hv hM;rw [e,e2] at this;exact this
theorem Ye {w:World} (o:ByteArray) (h:RR w r s d t p) (hf:og r) (e1:L9 r o=e) (e2:H2 r o=Y):bh T_ 20 [.agg #[.q (r).lv,.q (r).ma,s,d,t,p],.string o] w [] (fun _:Value=>True) (fun x=>.tuple #[x,.q e]) (fun x=>[row 9 1 x Y.length (aP Y)]):=by
 subst e1 e2;exact U2 o h hf
theorem Yb {w:World} (v:Int) (o:ByteArray) (h:RR w r s d t p) (hf:og r) (e1:Kj r v o=e) (e2:Hj r v o=Y):bh T_ 22 [.agg #[.q (r).lv,.q (r).ma,s,d,t,p],.q v,.string o] w [] (fun _:Value=>True) (fun x=>.tuple #[x,.q e]) (fun x=>[row 9 1 x Y.length (aP Y)]):=by
 subst e1 e2;exact QC v o h hf
theorem Yf {w:World} (v:Int) (h:RR w r s d t p) (hf:og r) (e1:M4 r v=e) (e2:Ir r v=Y):bh T_ 23 [.agg #[.q (r).lv,.q (r).ma,s,d,t,p],.q v] w [] (fun _:Value=>True) (fun x=>.tuple #[x,.q e]) (fun x=>[row 9 1 x Y.length (aP Y)]):=by
 subst e1 e2;exact U4 v h hf
theorem X9 {w:World} (v:Int) (o:ByteArray) (h:RR w r s d t p) (hf:og r) (e1:J7 r v o=e) (e2:Hd r v o=Y):bh T_ 24 [.agg #[.q (r).lv,.q (r).ma,s,d,t,p],.q v,.string o] w [] (fun _:Value=>True) (fun x=>.tuple #[x,.q e]) (fun x=>[row 9 1 x Y.length (aP Y)]):=by
 subst e1 e2;exact QB v o h hf
theorem Yd {r q:Ro} {w:World} {b:Bool} (o:ByteArray) (h:RR w r s d t p) (hf:og r) (e1:zx r o=0) (e2:zw r o b=q):bh T_ 78 [.agg #[.q (r).lv,.q (r).ma,s,d,t,p],.string o,.bool b] w [] (fun _:Value×Value×Value×Value=>True) (fun y=>.tuple #[.agg #[.q (q).lv,.q (q).ma,y.1,y.2.1,y.2.2.1,y.2.2.2],.q 0]) (fun y=>u3 q y):=by
 have:=DR o b h hf;rw [e1,e2] at this;exact this
theorem Nf {l:List qX} {m:List Od} {w:World} (o:ByteArray) (f:Int) (em:eQ l=m) (h:RR w r s d t p) (hf:og r) (e1:su r m o f=0) (e2:u5 r m o f=Y) (hv:Rd w v 2 (uG l)) (hM:IZ w l):bh T_ 64 [.agg #[.q (r).lv,.q (r).ma,s,d,t,p],v,.string o,.q f] w [] (fun _:Value=>True) (fun x=>.tuple #[x,.q 0]) (fun x=>[row 9 1 x Y.length (aP Y)]):=by
 have:=U1 o f h hf hv hM;rw [em,e1,e2] at this;exact this
theorem kB (w:World):bh T_ 105 [] w [] (fun _:Value×Value×Value×Value=>True) (fun x=>.agg #[.q (np).lv,.q (np).ma,x.1,x.2.1,x.2.2.1,x.2.2.2]) (fun x=>u3 np x):=Qd w
theorem lT {w:World} (h:RR w r s d t p) (hf:kE r):bh T_ 57 [.agg #[.q (r).lv,.q (r).ma,s,d,t,p]] w [] (fun _:Value×Value×Value×Value=>True) (fun x=>.agg #[.q (r).lv,.q (r).ma,x.1,x.2.1,x.2.2.1,x.2.2.2]) (fun x=>qt r x):=AB h hf
theorem lC {w:World} (h:RR w r s d t p) (hf:kE r):bh T_ 21 [.agg #[.q (r).lv,.q (r).ma,s,d,t,p]] w [] (fun _:Value×Value×Value×Value=>True) (fun x=>.agg #[.q (r).lv,.q (r).ma,x.1,x.2.1,x.2.2.1,x.2.2.2]) (fun x=>u3 r x):=Wg h hf
theorem R5 (w:World):bh T_ 106 [] w [] (fun _:Option Addr×Nat=>True) (fun x=>.agg #[.string dY,.slice x.1 2 x.2]) (fun x=>[row 9 1 (.slice x.1 2 x.2) 2 (aP o6.so)]):=UC w
theorem Yc (w:World):bh T_ 107 [] w [] (fun _:Option Addr×Nat=>True) (fun x=>.agg #[.string j9,.slice x.1 2 x.2]) (fun x=>[row 9 1 (.slice x.1 2 x.2) 2 (aP U7.so)]):=UB w
theorem Nb (w:World):bh T_ 108 [] w [] (fun _:Option Addr×Nat=>True) (fun x=>.agg #[.string dY,.slice x.1 2 x.2]) (fun x=>[row 9 1 (.slice x.1 2 x.2) 2 (aP o5.so)]):=UA w
theorem iV {w:World} {x:fc} (h:Rd w x.v 1 (gT x.tk.so)) (k:rp w l):rp w (x::l):=fun y hy=>by
 rcases ZT.1 hy with rfl | hy
 ·exact h
 ·exact k y hy
theorem kO (w:World):rp w []:=fun _ h=>absurd h Zp
theorem mR {l:List ByteArray} {w:World} (h1:Rd w v1 1 (gT l)) (h2:Rd w v2 1 (gT l)):ak T_ 58 [v1,v2] w (.bool true):=by
 have:=F7 h1 h2;rwa [decide_eq_true I] at this
theorem OC {l:List Int} {w:World} (h1:Rd w v1 1 (ints l)) (h2:Rd w v2 1 (ints l)):ak T_ 109 [v1,v2] w (.bool true):=by
 have:=OD h1 h2;rwa [decide_eq_true I] at this
theorem Su {w:World} {W:List fc} (hm:Mem c hs w) (ht:Take hs (yX W) hs'):rp w W:=fun x hx=>by
 obtain ⟨j,hj,rfl⟩:=ZA hx;have:=hm.wA (j:=j) (v:=W[j].v) (x:=aP W[j].tk.so) ht (by rw [ZI,Zc hj];rfl) (by rw [ZI,Zc hj];rfl);have e:(aP W[j].tk.so).map (fun u=>[u])=gT W[j].tk.so:=by unfold aP gT;rw [ZaI];rfl
 rwa [e] at this
theorem F8 {l m:List fc} {w:World} (h1:Rd w v1 2 (gP l)) (hM1:rp w l) (h2:Rd w v2 2 (gP m)) (hM2:rp w m) (e:bJ l=bJ m):ak T_ 53 [v1,v2] w (.bool true):=by
 have:=DP h1 hM1 h2 hM2;rwa [decide_eq_true e] at this
theorem KX {q:List Po} {w:World} (h:RR w r s d t p) (c8:kE r) (hv:Rd w v 3 (uE q)) (e:r.po=q):ak T_ 110 [.agg #[.q (r).lv,.q (r).ma,s,d,t,p],v] w (.bool true):=by
 have:=K3 h c8 hv;rwa [decide_eq_true e] at this
theorem dZ {P:Program} {ty:TypeId} {x y z:Operand} {q:Bool} {v u V:Value} (hx:Is sl x (.bool q)) (hy:Is sl y v) (hz:Is sl z u) (e:(bif q then v else u)=V):du P c sl hs ⟨dst,.pick x y z,ty,pos,af,g⟩ V:=e ▸ vq hx hy hz
theorem aat {w:World} {g:Nat} {x:ByteArray} {E:TypeId} (hm:Mem c hs w) (ht:Take hs (bz g (.cells #[.string x] E fz)) hs'):Rd w (.w g 1 1) 1 (gT [x]):=Mem.dH hm ht I I
theorem aas {w:World} {g:Nat} {x y z:ByteArray} {E:TypeId} (hm:Mem c hs w) (ht:Take hs (bz g (.cells #[.string x,.string y,.string z] E fz)) hs'):Rd w (.w g 3 3) 1 (gT [x,y,z]):=Mem.dH hm ht I I
theorem ED {w:World} {g:Nat} {x y:ByteArray} {E:TypeId} (hm:Mem c hs w) (ht:Take hs (bz g (.cells #[.string x,.string y] E fz)) hs'):Rd w (.w g 2 2) 1 (gT [x,y]):=Mem.dH hm ht I I
theorem EL {w:World} {l:List qX} {E:TypeId} {n:Nat} (hm:Mem c hs w) (ht:Take hs (row E 2 v n (uG l).flatten) hs') (hn:l.length=n):Rd w v 2 (uG l):=hm.pH ht rfl (fun r hr=>by obtain ⟨x,_,rfl⟩:=Zy.1 hr;rfl) (by rw [show (uG l).length=l.length from Zd _,hn])
theorem nN {w:World} {x:qX} {l:List qX} (h:Rd w x.v 2 (gP x.tk)) (h2:rp w x.tk) (k:IZ w l):IZ w (x::l):=fun y hy=>by
 rcases ZT.1 hy with rfl | hy
 ·exact ⟨h,h2⟩
 ·exact k y hy
theorem A9 (w:World):IZ w []:=fun _ h=>absurd h Zp
theorem UW {w:World} (h:RR w np s d t p):ak T_ 85 [.agg #[.q (np).lv,.q (np).ma,s,d,t,p]] w (.tuple #[.string (KY np),.q 0]):=by
 have:=QD h td;rwa [XY] at this
theorem HB {P:Program} {ty:TypeId} {t u:TypeId} {x y:Operand} {a b:ByteArray} (hx:Is sl x (.string a)) (hy:Is sl y (.string b)) (e:a=b) :
  du P c sl hs ⟨dst,.binOp .eql t x y u,ty,pos,af,g⟩ (.bool true):=by
 have:=dB (P:=P) (c:=c) (hs:=hs) (dst:=dst) (ty:=ty) (pos:=pos) (af:=af) (g:=g) (t:=t) (u:=u) hx hy;rwa [decide_eq_true e] at this
set_option maxRecDepth 20000 in
set_option maxHeartbeats 4000000 in
theorem th (w:World):ak T_ 17 [] w (.bool true):=by
 refine ah func17 I I ?_;refine Jr<|Ja I<|Ji ?_;refine JN nC I (fun w1 aT=>kB w1) ?_;rintro ⟨s1,d1,t1,p1⟩ _
 try dsimp only [id_eq,Zb,Za]
 refine dE (r:=np) (s:=s1) (d:=d1) (t:=t1) (p:=p1) (br _ _) fun m1a m1b m1c m1d=>?_
 skip
 refine JN rZ I (fun w1 aT=>Na 0 dd dY ⟨cV aT (by exact .here) I,cW aT (by exact Take.there .here) I,cU aT bI I,cH aT cZ I⟩ td RH.1 RH.2) ?_;rintro x1 _
 try dsimp only [id_eq,Zb,Za]
 refine Jv I<|JJ I I<|JJ I I<|Ja I<|Ja I<|Ji ?_;refine JN nC I (fun w1 aT=>kB w1) ?_;rintro ⟨s2,d2,t2,p2⟩ _
 try dsimp only [id_eq,Zb,Za]
 refine dE (r:=np) (s:=s2) (d:=d2) (t:=t2) (p:=p2) (br _ _) fun m2a m2b m2c m2d=>?_
 skip
 refine JN nC I (fun w1 aT=>R5 w1) ?_;rintro ⟨ya,yc⟩ _
 try dsimp only [id_eq,Zb,Za]
 skip
 refine JN bb I (fun w1 aT=>R4 (k:=o6) XW ⟨cV aT (by exact Take.there .here) I,cW aT bI I,cU aT cZ I,cH aT dL I⟩ td (eM aT (by exact .here) (by exact I))) ?_;rintro ⟨s3,d3,t3,p3⟩ _
 try dsimp only [id_eq,Zb,Za]
 refine dE (r:=gX) (s:=s3) (d:=d3) (t:=t3) (p:=p3) (br _ _) fun m3a m3b m3c m3d=>?_
 (refine Jv I<|JJ I I<|JJ I I<|Jz I I fun _ _=>ao (.of I) (.of I) .here I I (fk I I m3a m3b m3c m3d) (bu I) ai<|Ja I<|Ji<|ab (cm .here) I ?_)
 rename_i b3 uf;refine eu [JW x1 [nT],bz b3 (.cells #[.q (gX).lv,.q (gX).ma,s3,d3,t3,p3] 41 (0,0)),J1 (gX) s3,J2 (gX) d3,J3 (gX) t3,J4 (gX) p3] (by exact .cons nB (.h5 .nil)) ?_
 skip
 refine JN bN I (fun w1 aT=>lT ⟨cV aT bI I,cW aT cZ I,cU aT dL I,cH aT eD I⟩ Bu) ?_;rintro ⟨s4,d4,t4,p4⟩ _
 try dsimp only [id_eq,Zb,Za]
 refine jF (r:=gX) (s:=s4) (d:=d4) (t:=t4) (p:=p4) (br _ _) fun m4a m4b m4c m4d=>?_
 skip
 refine JN bN I (fun w1 aT=>lC ⟨cV aT (by exact .here) I,cW aT (by exact Take.there .here) I,cU aT bI I,cH aT cZ I⟩ Bu) ?_;rintro ⟨s5,d5,t5,p5⟩ _
 try dsimp only [id_eq,Zb,Za]
 refine dE (r:=gX) (s:=s5) (d:=d5) (t:=t5) (p:=p5) (br _ _) fun m5a m5b m5c m5d=>?_
 skip
 refine JN nC I (fun w1 aT=>Yc w1) ?_;rintro ⟨za,zc⟩ _
 try dsimp only [id_eq,Zb,Za]
 skip
 refine JN bb I (fun w1 aT=>R4 (k:=U7) XV ⟨cV aT (by exact Take.there .here) I,cW aT bI I,cU aT cZ I,cH aT dL I⟩ GS (eM aT (by exact .here) (by exact I))) ?_;rintro ⟨s6,d6,t6,p6⟩ _
 try dsimp only [id_eq,Zb,Za]
 refine dE (r:=iS) (s:=s6) (d:=d6) (t:=t6) (p:=p6) (br _ _) fun m6a m6b m6c m6d=>?_
 (refine Jv I<|JJ I I<|JJ I I<|Jz I I fun _ _=>ao (.of I) (.of I) .here I I (fk I I m6a m6b m6c m6d) (bu I) ai<|Ja I<|Ji<|ab (cm .here) I ?_)
 rename_i b5 H7;refine eu [JW x1 [nT],bz b3 (.cells #[.q (gX).lv,.q (gX).ma,s3,d3,t3,p3] 41 (0,0)),J1 (gX) s3,J2 (gX) d3,J3 (gX) t3,J4 (gX) p3,bz b5 (.cells #[.q (iS).lv,.q (iS).ma,s6,d6,t6,p6] 41 (0,0)),J1 (iS) s6,J2 (iS) d6,J3 (iS) t6,J4 (iS) p6] (by exact .cons BX (.cons BX (.cons BX (.cons BX (.cons BX (.cons BX (.h5 .nil))))))) ?_
 skip
 refine JN bN I (fun w1 aT=>lT ⟨cV aT oL I,cW aT Iy I,cU aT jY I,cH aT nB I⟩ Bt) ?_;rintro ⟨s7,d7,t7,p7⟩ _
 try dsimp only [id_eq,Zb,Za]
 refine jF (r:=iS) (s:=s7) (d:=d7) (t:=t7) (p:=p7) (br _ _) fun m7a m7b m7c m7d=>?_
 skip
 refine JN bN I (fun w1 aT=>lC ⟨cV aT (by exact .here) I,cW aT (by exact Take.there .here) I,cU aT bI I,cH aT cZ I⟩ Bt) ?_;rintro ⟨s8,d8,t8,p8⟩ _
 try dsimp only [id_eq,Zb,Za]
 refine dE (r:=iS) (s:=s8) (d:=d8) (t:=t8) (p:=p8) (br _ _) fun m8a m8b m8c m8d=>?_
 skip
 refine JN nC I (fun w1 aT=>Nb w1) ?_;rintro ⟨ua,uc⟩ _
 try dsimp only [id_eq,Zb,Za]
 refine a8 (ba (.o I .nil) I I bB bB ai) I (fun _ _=>?_);rename_i g4 hg4;refine bP (g:=g4) (E:=78) (ys:=(gP [⟨o5,.slice ua 2 uc⟩]).flatten) 1 2 (by exact .here) (by exact I) I I ?_;refine JN bb I (fun w1 aT=>Nc (l:=[⟨o5,.slice ua 2 uc⟩]) RN ⟨cV aT bI I,cW aT cZ I,cU aT dL I,cH aT eD I⟩ GR (kF aT (by exact .here) (by exact I)) (iV (eM aT (by exact Take.there .here) (by exact I)) (kO _))) ?_;rintro ⟨s9,d9,t9,p9⟩ _
 try dsimp only [id_eq,Zb,Za]
 refine dE (r:=xZ) (s:=s9) (d:=d9) (t:=t9) (p:=p9) (br _ _) fun m9a m9b m9c m9d=>?_
 (refine Jv I<|JJ I I<|JJ I I<|JJ I I<|Jz I I fun _ _=>ao (.of I) (.of I) .here I I (fk I I m9a m9b m9c m9d) (bu I) ai<|Ja I<|Ja I<|Ji<|ab (cm (.there (.there (.there (.there (.there jN)))))) I ?_)
 rename_i b7 Um;refine eu [JW x1 [nT],bz b3 (.cells #[.q (gX).lv,.q (gX).ma,s3,d3,t3,p3] 41 (0,0)),J1 (gX) s3,J2 (gX) d3,J3 (gX) t3,J4 (gX) p3,bz b5 (.cells #[.q (iS).lv,.q (iS).ma,s6,d6,t6,p6] 41 (0,0)),J1 (iS) s6,J2 (iS) d6,J3 (iS) t6,J4 (iS) p6,bz b7 (.cells #[.q (xZ).lv,.q (xZ).ma,s9,d9,t9,p9] 41 (0,0)),J1 (xZ) s9,J2 (xZ) d9,J3 (xZ) t9,J4 (xZ) p9] (by exact .cons jy (.cons jy (.cons jy (.cons jy (.cons jy (.cons jy (.cons jy (.cons jy (.cons jy (.cons jy (.cons jy (.h5 .nil)))))))))))) ?_
 skip
 refine JN bN I (fun w1 aT=>lT ⟨cV aT oL I,cW aT Iy I,cU aT jY I,cH aT nB I⟩ Bt) ?_;rintro ⟨s10,d10,t10,p10⟩ _
 try dsimp only [id_eq,Zb,Za]
 refine jF (r:=iS) (s:=s10) (d:=d10) (t:=t10) (p:=p10) (br _ _) fun ag0 agZ agY agX=>?_
 skip
 refine JN bN I (fun w1 aT=>lC ⟨cV aT (by exact .here) I,cW aT (by exact Take.there .here) I,cU aT bI I,cH aT cZ I⟩ Bt) ?_;rintro ⟨s11,d11,t11,p11⟩ _
 try dsimp only [id_eq,Zb,Za]
 refine dE (r:=iS) (s:=s11) (d:=d11) (t:=t11) (p:=p11) (br _ _) fun agW agV agU agT=>?_
 skip
 refine JN nC I (fun w1 aT=>Nb w1) ?_;rintro ⟨va,vc⟩ _
 try dsimp only [id_eq,Zb,Za]
 refine a8 (ba (.o I .nil) I I bB bB ai) I (fun _ _=>?_);rename_i g5 hg5;refine bP (g:=g5) (E:=78) (ys:=(gP [⟨o5,.slice va 2 vc⟩]).flatten) 1 2 (by exact .here) (by exact I) I I ?_;refine JN bb I (fun w1 aT=>Ya (l:=[⟨o5,.slice va 2 vc⟩]) (m:=[o6]) (congrArg (fun x:Ro×Int×Int=>x.2.2) RN) XT ⟨cV aT bI I,cW aT cZ I,cU aT dL I,cH aT eD I⟩ GR (kF aT (by exact .here) (by exact I)) (iV (eM aT (by exact Take.there .here) (by exact I)) (kO _))) ?_;rintro ⟨yQ,W⟩ hW
 try dsimp only at hW
 try dsimp only [id_eq,Zb,Za]
 refine Jv I<|JJ I I<|JJ I I<|Ja I<|Ja I<|Ji ?_;refine eu [JW x1 [nT],bz b3 (.cells #[.q (gX).lv,.q (gX).ma,s3,d3,t3,p3] 41 (0,0)),J1 (gX) s3,J2 (gX) d3,J3 (gX) t3,J4 (gX) p3,bz b5 (.cells #[.q (iS).lv,.q (iS).ma,s6,d6,t6,p6] 41 (0,0)),J1 (iS) s6,J2 (iS) d6,J3 (iS) t6,J4 (iS) p6,bz b7 (.cells #[.q (xZ).lv,.q (xZ).ma,s9,d9,t9,p9] 41 (0,0)),J1 (xZ) s9,J2 (xZ) d9,J3 (xZ) t9,J4 (xZ) p9,row 78 2 yQ W.length (gP W).flatten,yX W] (by exact .cons lD (.cons lD (.cons lD (.cons lD (.cons lD (.cons lD (.cons lD (.cons lD (.cons lD (.cons lD (.cons lD (.cons lD (.cons lD (.cons lD (.cons lD (.cons lD (.h2 .nil))))))))))))))))) ?_
 skip
 refine JN nC I (fun w1 aT=>kB w1) ?_;rintro ⟨s12,d12,t12,p12⟩ _
 try dsimp only [id_eq,Zb,Za]
 refine dE (r:=np) (s:=s12) (d:=d12) (t:=t12) (p:=p12) (br _ _) fun agS agR agQ agP=>?_
 skip
 refine JN rZ I (fun w1 aT=>Na 0 lu oW ⟨cV aT (by exact .here) I,cW aT (by exact Take.there .here) I,cU aT bI I,cH aT cZ I⟩ td RG.1 RG.2) ?_;rintro IC _
 try dsimp only [id_eq,Zb,Za]
 refine Jv I<|JJ I I<|JJ I I<|Ja I<|Ja I<|Ji ?_;refine JN nC I (fun w1 aT=>kB w1) ?_;rintro ⟨s13,d13,t13,p13⟩ _
 try dsimp only [id_eq,Zb,Za]
 refine dE (r:=np) (s:=s13) (d:=d13) (t:=t13) (p:=p13) (br _ _) fun agO agN agM agL=>?_
 skip
 refine JN rZ I (fun w1 aT=>UX 0 lu oW ⟨cV aT (by exact .here) I,cW aT (by exact Take.there .here) I,cU aT bI I,cH aT cZ I⟩ td RQ.1 RQ.2) ?_;rintro Sf _
 try dsimp only [id_eq,Zb,Za]
 refine Jv I<|JJ I I<|JJ I I<|Ja I<|Ja I<|Ji ?_;refine JN nC I (fun w1 aT=>kB w1) ?_;rintro ⟨s14,d14,t14,p14⟩ _
 try dsimp only [id_eq,Zb,Za]
 refine dE (r:=np) (s:=s14) (d:=d14) (t:=t14) (p:=p14) (br _ _) fun agK agJ agI agH=>?_;refine a8 (aD (.o I .nil) I I I I) I (fun _ _=>?_);rename_i g8 hg8
 with_reducible apply aj
 case hr=>exact DT
 case hd=>rfl
 case hc=>
  intro w1 aT;have:=FB (r:=np) (s:=s14) (d:=d14) (t:=t14) (p:=p14) (cv:=.w g8 1 1) 0 lu oW (L:=[0]) (⟨cV aT (by exact Take.there .here) I,cW aT bI I,cU aT cZ I,cH aT dL I⟩:RR w1 np s14 d14 t14 p14) td (Mem.dH aT (by exact .here) I I);rw [XZ] at this;exact this
 refine eu [JW x1 [nT],bz b3 (.cells #[.q (gX).lv,.q (gX).ma,s3,d3,t3,p3] 41 (0,0)),J1 (gX) s3,J2 (gX) d3,J3 (gX) t3,J4 (gX) p3,bz b5 (.cells #[.q (iS).lv,.q (iS).ma,s6,d6,t6,p6] 41 (0,0)),J1 (iS) s6,J2 (iS) d6,J3 (iS) t6,J4 (iS) p6,bz b7 (.cells #[.q (xZ).lv,.q (xZ).ma,s9,d9,t9,p9] 41 (0,0)),J1 (xZ) s9,J2 (xZ) d9,J3 (xZ) t9,J4 (xZ) p9,row 78 2 yQ W.length (gP W).flatten,yX W,row 3 1 Sf [(1:Int)].length ([(1:Int)].map (Value.int .i64))] (by exact .cons jy (.cons jy (.cons jy (.cons jy (.cons jy (.cons jy (.cons jy (.cons jy (.cons jy (.cons jy (.cons jy (.cons jy (.cons jy (.cons jy (.cons jy (.cons jy (.cons jy (.cons jy (.cons eD .nil))))))))))))))))))) ?_
 (refine Ja I<|Jn<|Jq<|Jr<|Jv I<|Jv I<|JB I (by omega)<|Jv I<|JB I (by omega)<|Jv I<|JB I (by omega)<|Jv I<|JB I (by omega)<|Jv I<|JB I (by omega)<|JD I<|Jv I<|JK I I<|Jv I<|JK I I<|JD I<|ab (dZ (.of I) (.of I) (.of I) I) I<|Jv I<|JK I I<|Jv I<|JK I I<|JD I<|ab (dZ (.of I) (.of I) (.of I) I) I<|Jv I<|JK I I<|Jv I<|JK I I<|JD I<|ab (dZ (.of I) (.of I) (.of I) I) I<|Jv I<|JK I I<|Jv I<|JK I I<|a8 (aD (.o I .nil) I I I I) I fun _ _=>JK I I ?_)
 skip
 rename_i g9a ahV;refine aj bb I (fun w1 aT=>mR (l:=[nT]) (eM aT (by exact Take.there .here) (by exact I)) (Mem.dH aT (by exact .here) I I)) ?_
 (refine JK I I<|JH I<|ab (dZ (.of I) (.of I) (.of I) I) I<|Jv I<|JK I I<|Jv I<|JK I I<|a8 (aD (.o I .nil) I I I I) I fun _ _=>JK I I ?_)
 rename_i g9b ahU;refine aj bb I (fun w1 aT=>OC (l:=[1]) (lN aT (.there (.there (.there (.there jN)))) (by exact I)) (Mem.dH aT (by exact .here) I I)) ?_
 (refine JK I I<|JH I<|ab (dZ (.of I) (.of I) (.of I) I) I<|Jv I<|JK I I<|Jv I<|JK I I ?_)
 have NL:W.length<=1000:=by
  have h:=congrArg List.length hW;unfold bJ at h;rw [Zd] at h;rw [h];decide
 have hWs:∀ x∈W,x.tk.so.length<=1000:=by
  intro x hx;have h:x.tk∈bJ W:=Z0 hx;rw [hW] at h;rw [ZG.1 h];decide
 refine JN bN I (fun w1 aT=>F0 (kF aT (.there (.there jN)) (by exact I)) (Su aT (.there (.there (.there jN)))) NL hWs) ?_;rintro ⟨x9,V⟩ hV
 try dsimp only at hV
 try dsimp only [id_eq,Zb,Za]
 (refine JK I I<|a8 (aD (.o I (.o I .nil)) I I I I) I fun _ _=>JK I I<|ab (aU (.o I (.o I .nil)) ai) I<|JK I I<|a8 (ba (.o I .nil) I I bB bB ai) I fun _ _=>JK I I ?_)
 rename_i g9c ahT g9d ahS;refine bP (g:=g9d) (E:=69) (ys:=(gP [⟨o6,.w g9c 2 2⟩]).flatten) 1 2 (by exact .here) (by exact I) I I ?_;refine aj bb I (fun w1 aT=>F8 (m:=[⟨o6,.w g9c 2 2⟩]) (kF aT bI (by exact I)) (Su aT cZ) (kF aT (by exact .here) (by exact I)) (iV (Mem.dH aT (by exact Take.there .here) I I) (kO _)) (hV.trans (hW.trans I))) ?_
 (refine JK I I<|JH I<|ab (dZ (.of I) (.of I) (.of I) I) I<|Jn<|bZ (.of I)<|Jk<|Jq<|Jr<|ab (cm oL) I<|ab (aU (.o I (.o I (.o I .nil))) ai) I<|ab (aU (.o I (.o I (.o I .nil))) ai) I<|ab (aU (.o I (.o I (.o I .nil))) ai) I<|ab (aU (.o I (.o I (.o I .nil))) ai) I<|a8 (ba (.o I (.o I (.o I (.o I .nil)))) I I bB bB ai) I fun _ _=>?_)
 rename_i acF adn;refine bP (g:=acF) (E:=180) (ys:=gA pl1) 4 3 (by exact .here) (by exact I) I I ?_;refine aj bb I (fun w1 aT=>KX (r:=gX) (q:=pl1) ⟨cV aT jY I,cW aT nB I,cU aT xU I,cH aT lD I⟩ Bu (cH aT (by exact .here) (by exact I)) I) ?_
 (refine JH I<|Jv I<|JK I I<|ab (cm Iz) I<|JK I I<|ab (aU (.o I (.o I (.o I .nil))) ai) I<|JK I I<|ab (aU (.o I (.o I (.o I .nil))) ai) I<|JK I I<|ab (aU (.o I (.o I (.o I .nil))) ai) I<|JK I I<|ab (aU (.o I (.o I (.o I .nil))) ai) I<|JK I I<|ab (aU (.o I (.o I (.o I .nil))) ai) I<|JK I I<|a8 (ba (.o I (.o I (.o I (.o I (.o I .nil))))) I I bB bB ai) I fun _ _=>JK I I ?_)
 rename_i acE adm;refine bP (g:=acE) (E:=180) (ys:=gA pl2) 5 3 (by exact .here) (by exact I) I I ?_;refine aj bb I (fun w1 aT=>KX (r:=iS) (q:=pl2) ⟨cV aT jy I,cW aT jN I,cU aT (.there jN) I,cH aT (.there (.there jN)) I⟩ Bt (cH aT (by exact .here) (by exact I)) I) ?_
 (refine JK I I<|JH I<|ab (dZ (.of I) (.of I) (.of I) I) I<|Jv I<|JK I I<|ab (cm (.there (.there (.there jN)))) I<|JK I I<|ab (aU (.o I (.o I (.o I .nil))) ai) I<|JK I I<|ab (aU (.o I (.o I (.o I .nil))) ai) I<|JK I I<|ab (aU (.o I (.o I (.o I .nil))) ai) I<|JK I I<|ab (aU (.o I (.o I (.o I .nil))) ai) I<|JK I I<|a8 (ba (.o I (.o I (.o I (.o I .nil)))) I I bB bB ai) I fun _ _=>JK I I ?_)
 rename_i acD adl;refine bP (g:=acD) (E:=180) (ys:=gA pl4) 4 3 (by exact .here) (by exact I) I I ?_;refine aj bb I (fun w1 aT=>KX (r:=xZ) (q:=pl4) ⟨cV aT (.there (.there (.there (.there (.there jN))))) I,cW aT (.there (.there (.there (.there (.there (.there jN)))))) I,cU aT (.there (.there (.there (.there (.there (.there (.there jN))))))) I,cH aT (.there (.there (.there (.there (.there (.there (.there (.there jN)))))))) I⟩ acG (cH aT (by exact .here) (by exact I)) I) ?_
 (refine JK I I<|JH I<|ab (dZ (.of I) (.of I) (.of I) I) I<|Jn<|bZ (.of I)<|Jk<|Jr<|ab (cm jy) I ?_)
 refine eu [bz b3 (.cells #[.q (gX).lv,.q (gX).ma,s3,d3,t3,p3] 41 (0,0)),J1 (gX) s3,J2 (gX) d3,J3 (gX) t3,J4 (gX) p3,bz b5 (.cells #[.q (iS).lv,.q (iS).ma,s6,d6,t6,p6] 41 (0,0)),J1 (iS) s6,J2 (iS) d6,J3 (iS) t6,J4 (iS) p6] (by exact .cons nB (.cons nB (.cons nB (.cons nB (.cons nB (.cons nB (.cons nB (.cons nB (.cons nB (.cons nB .nil)))))))))) ?_;refine JN bN I (fun w1 aT=>lT ⟨cV aT mN I,cW aT oL I,cU aT Iy I,cH aT jY I⟩ Bt) ?_;rintro ⟨s15,d15,t15,p15⟩ _
 try dsimp only [id_eq,Zb,Za]
 refine jF (r:=iS) (s:=s15) (d:=d15) (t:=t15) (p:=p15) (br _ _) fun agG agF agE agD=>?_
 skip
 refine JN bN I (fun w1 aT=>lC ⟨cV aT (by exact .here) I,cW aT (by exact Take.there .here) I,cU aT bI I,cH aT cZ I⟩ Bt) ?_;rintro ⟨s16,d16,t16,p16⟩ _
 try dsimp only [id_eq,Zb,Za]
 refine dE (r:=iS) (s:=s16) (d:=d16) (t:=t16) (p:=p16) (br _ _) fun agC agB agA agz=>?_
 skip
 refine JN bb I (fun w1 aT=>Ye j9 ⟨cV aT (by exact .here) I,cW aT (by exact Take.there .here) I,cU aT bI I,cH aT cZ I⟩ GR XX.1 XX.2) ?_;rintro I0 _
 try dsimp only [id_eq,Zb,Za]
 refine Jv I<|JJ I I<|JJ I I<|Ja I<|Ja I<|Ji<|ab (cm jY) I ?_;refine eu [bz b3 (.cells #[.q (gX).lv,.q (gX).ma,s3,d3,t3,p3] 41 (0,0)),J1 (gX) s3,J2 (gX) d3,J3 (gX) t3,J4 (gX) p3,bz b5 (.cells #[.q (iS).lv,.q (iS).ma,s6,d6,t6,p6] 41 (0,0)),J1 (iS) s6,J2 (iS) d6,J3 (iS) t6,J4 (iS) p6,row 9 1 I0 ([dd,⟨#[]⟩]:List ByteArray).length (aP [dd,⟨#[]⟩])] (by exact .cons jY (.cons jY (.cons jY (.cons jY (.cons jY (.cons jY (.cons jY (.cons jY (.cons jY (.cons jY (.h1 .nil))))))))))) ?_;refine JN bN I (fun w1 aT=>lT ⟨cV aT (by exact Take.there .here) I,cW aT bI I,cU aT cZ I,cH aT dL I⟩ Bu) ?_;rintro ⟨s17,d17,t17,p17⟩ _
 try dsimp only [id_eq,Zb,Za]
 refine jF (r:=gX) (s:=s17) (d:=d17) (t:=t17) (p:=p17) (br _ _) fun agy agx agw agv=>?_
 skip
 refine JN bN I (fun w1 aT=>lC ⟨cV aT (by exact .here) I,cW aT (by exact Take.there .here) I,cU aT bI I,cH aT cZ I⟩ Bu) ?_;rintro ⟨s18,d18,t18,p18⟩ _
 try dsimp only [id_eq,Zb,Za]
 refine dE (r:=gX) (s:=s18) (d:=d18) (t:=t18) (p:=p18) (br _ _) fun agu agt ags agr=>?_
 skip
 refine JN eo I (fun w1 aT=>Yb 0 dY ⟨cV aT (by exact .here) I,cW aT (by exact Take.there .here) I,cU aT bI I,cH aT cZ I⟩ GS RJ.1 RJ.2) ?_;rintro Nq _
 try dsimp only [id_eq,Zb,Za]
 refine Jv I<|JJ I I<|JJ I I<|Ja I<|Ja I<|Ji<|ab (cm jY) I ?_;refine eu [bz b3 (.cells #[.q (gX).lv,.q (gX).ma,s3,d3,t3,p3] 41 (0,0)),J1 (gX) s3,J2 (gX) d3,J3 (gX) t3,J4 (gX) p3,bz b5 (.cells #[.q (iS).lv,.q (iS).ma,s6,d6,t6,p6] 41 (0,0)),J1 (iS) s6,J2 (iS) d6,J3 (iS) t6,J4 (iS) p6,row 9 1 I0 ([dd,⟨#[]⟩]:List ByteArray).length (aP [dd,⟨#[]⟩]),row 9 1 Nq ([dd,nT,dY]:List ByteArray).length (aP [dd,nT,dY])] (by exact .cons jY (.cons jY (.cons jY (.cons jY (.cons jY (.cons jY (.cons jY (.cons jY (.cons jY (.cons jY (.cons jY (.h1 .nil)))))))))))) ?_;refine JN bN I (fun w1 aT=>lT ⟨cV aT (by exact Take.there .here) I,cW aT bI I,cU aT cZ I,cH aT dL I⟩ Bu) ?_;rintro ⟨s19,d19,t19,p19⟩ _
 try dsimp only [id_eq,Zb,Za]
 refine jF (r:=gX) (s:=s19) (d:=d19) (t:=t19) (p:=p19) (br _ _) fun agq agp ago agn=>?_
 skip
 refine JN bN I (fun w1 aT=>lC ⟨cV aT (by exact .here) I,cW aT (by exact Take.there .here) I,cU aT bI I,cH aT cZ I⟩ Bu) ?_;rintro ⟨s20,d20,t20,p20⟩ _
 try dsimp only [id_eq,Zb,Za]
 refine dE (r:=gX) (s:=s20) (d:=d20) (t:=t20) (p:=p20) (br _ _) fun agm agl agk agj=>?_
 skip
 refine JN bb I (fun w1 aT=>Yf 0 ⟨cV aT (by exact .here) I,cW aT (by exact Take.there .here) I,cU aT bI I,cH aT cZ I⟩ GS RS.1 RS.2) ?_;rintro NW _
 try dsimp only [id_eq,Zb,Za]
 refine Jv I<|JJ I I<|JJ I I<|Ja I<|Ja I<|Ji<|ab (cm BX) I ?_;refine eu [bz b3 (.cells #[.q (gX).lv,.q (gX).ma,s3,d3,t3,p3] 41 (0,0)),J1 (gX) s3,J2 (gX) d3,J3 (gX) t3,J4 (gX) p3,bz b5 (.cells #[.q (iS).lv,.q (iS).ma,s6,d6,t6,p6] 41 (0,0)),J1 (iS) s6,J2 (iS) d6,J3 (iS) t6,J4 (iS) p6,row 9 1 I0 ([dd,⟨#[]⟩]:List ByteArray).length (aP [dd,⟨#[]⟩]),row 9 1 Nq ([dd,nT,dY]:List ByteArray).length (aP [dd,nT,dY]),row 9 1 NW ([nT]:List ByteArray).length (aP [nT])] (by exact .cons jY (.cons jY (.cons jY (.cons jY (.cons jY (.cons jY (.cons jY (.cons jY (.cons jY (.cons jY (.cons jY (.cons jY (.h1 .nil))))))))))))) ?_;refine JN bN I (fun w1 aT=>lT ⟨cV aT mN I,cW aT oL I,cU aT Iy I,cH aT jY I⟩ Bt) ?_;rintro ⟨s21,d21,t21,p21⟩ _
 try dsimp only [id_eq,Zb,Za]
 refine jF (r:=iS) (s:=s21) (d:=d21) (t:=t21) (p:=p21) (br _ _) fun agi agh agf age=>?_
 skip
 refine JN bN I (fun w1 aT=>lC ⟨cV aT (by exact .here) I,cW aT (by exact Take.there .here) I,cU aT bI I,cH aT cZ I⟩ Bt) ?_;rintro ⟨s22,d22,t22,p22⟩ _
 try dsimp only [id_eq,Zb,Za]
 refine dE (r:=iS) (s:=s22) (d:=d22) (t:=t22) (p:=p22) (br _ _) fun agd agc agb aga=>?_
 skip
 refine JN eo I (fun w1 aT=>X9 0 dd ⟨cV aT (by exact .here) I,cW aT (by exact Take.there .here) I,cU aT bI I,cH aT cZ I⟩ GR RI.1 RI.2) ?_;rintro QH _
 try dsimp only [id_eq,Zb,Za]
 refine Jv I<|JJ I I<|JJ I I<|Ja I<|Ja I<|Ji<|ab (cm jY) I ?_;refine eu [bz b3 (.cells #[.q (gX).lv,.q (gX).ma,s3,d3,t3,p3] 41 (0,0)),J1 (gX) s3,J2 (gX) d3,J3 (gX) t3,J4 (gX) p3,bz b5 (.cells #[.q (iS).lv,.q (iS).ma,s6,d6,t6,p6] 41 (0,0)),J1 (iS) s6,J2 (iS) d6,J3 (iS) t6,J4 (iS) p6,row 9 1 I0 ([dd,⟨#[]⟩]:List ByteArray).length (aP [dd,⟨#[]⟩]),row 9 1 Nq ([dd,nT,dY]:List ByteArray).length (aP [dd,nT,dY]),row 9 1 NW ([nT]:List ByteArray).length (aP [nT]),row 9 1 QH ([dY,j9]:List ByteArray).length (aP [dY,j9])] (by exact .cons jY (.cons jY (.cons jY (.cons jY (.cons jY (.cons jY (.cons jY (.cons jY (.cons jY (.cons jY (.cons jY (.cons jY (.cons jY (.h1 .nil)))))))))))))) ?_;refine JN bN I (fun w1 aT=>lT ⟨cV aT (by exact Take.there .here) I,cW aT bI I,cU aT cZ I,cH aT dL I⟩ Bu) ?_;rintro ⟨s23,d23,t23,p23⟩ _
 try dsimp only [id_eq,Zb,Za]
 refine jF (r:=gX) (s:=s23) (d:=d23) (t:=t23) (p:=p23) (br _ _) fun af9 af8 af7 af6=>?_
 skip
 refine JN bN I (fun w1 aT=>lC ⟨cV aT (by exact .here) I,cW aT (by exact Take.there .here) I,cU aT bI I,cH aT cZ I⟩ Bu) ?_;rintro ⟨s24,d24,t24,p24⟩ _
 try dsimp only [id_eq,Zb,Za]
 refine dE (r:=gX) (s:=s24) (d:=d24) (t:=t24) (p:=p24) (br _ _) fun af5 af4 af3 af2=>?_
 skip
 refine JN eo I (fun w1 aT=>Yd (b:=true) oW ⟨cV aT (by exact .here) I,cW aT (by exact Take.there .here) I,cU aT bI I,cH aT cZ I⟩ GS RP.1 RP.2) ?_;rintro ⟨s25,d25,t25,p25⟩ _
 try dsimp only [id_eq,Zb,Za]
 refine dE (r:=Eu) (s:=s25) (d:=d25) (t:=t25) (p:=p25) (br _ _) fun aaL aaK aaJ aaI=>?_
 (refine Jv I<|JJ I I<|JJ I I<|Jz I I fun _ _=>ao (.of I) (.of I) .here I I (fk I I aaL aaK aaJ aaI) (bu I) ai<|Ja I<|Ji<|ab (cm .here) I ?_)
 rename_i b25 aic;refine eu [row 9 1 I0 ([dd,⟨#[]⟩]:List ByteArray).length (aP [dd,⟨#[]⟩]),row 9 1 Nq ([dd,nT,dY]:List ByteArray).length (aP [dd,nT,dY]),row 9 1 NW ([nT]:List ByteArray).length (aP [nT]),row 9 1 QH ([dY,j9]:List ByteArray).length (aP [dY,j9]),bz b25 (.cells #[.q (Eu).lv,.q (Eu).ma,s25,d25,t25,p25] 41 (0,0)),J1 (Eu) s25,J2 (Eu) d25,J3 (Eu) t25,J4 (Eu) p25] (by exact .cons (.there (.there (.there (.there (.there (.there (.there jN))))))) (.cons (.there (.there (.there (.there (.there (.there (.there jN))))))) (.cons (.there (.there (.there (.there (.there (.there (.there jN))))))) (.cons (.there (.there (.there (.there (.there (.there (.there jN))))))) (.h5 .nil))))) ?_;refine JN bN I (fun w1 aT=>lT ⟨cV aT eD I,cW aT mN I,cU aT oL I,cH aT Iy I⟩ XO) ?_;rintro ⟨s26,d26,t26,p26⟩ _
 try dsimp only [id_eq,Zb,Za]
 refine jF (r:=Eu) (s:=s26) (d:=d26) (t:=t26) (p:=p26) (br _ _) fun af1 af0 afZ afY=>?_
 skip
 refine JN bN I (fun w1 aT=>lC ⟨cV aT (by exact .here) I,cW aT (by exact Take.there .here) I,cU aT bI I,cH aT cZ I⟩ XO) ?_;rintro ⟨s27,d27,t27,p27⟩ _
 try dsimp only [id_eq,Zb,Za]
 refine dE (r:=Eu) (s:=s27) (d:=d27) (t:=t27) (p:=p27) (br _ _) fun afX afW afV afU=>?_
 (refine a8 (aD (.o I (.o I .nil)) I I I I) I fun _ _=>ab (aU (.o I (.o I .nil)) ai) I<|a8 (aD (.o I (.o I .nil)) I I I I) I fun _ _=>ab (aU (.o I (.o I .nil)) ai) I<|a8 (ba (.o I (.o I .nil)) I I bB bB ai) I fun _ _=>?_)
 rename_i ga hga gb hgb gc hgc;refine bP (g:=gc) (E:=78) (ys:=(gP [⟨⟨j9,[⟨#[45]⟩,⟨#[]⟩]⟩,.w ga 2 2⟩,⟨⟨oW,[dd,dd]⟩,.w gb 2 2⟩]).flatten) 2 2 (by exact .here) (by exact I) I I ?_;refine JN bb I (fun w1 aT=>Nc (q:=(il Eu [⟨j9,[⟨#[45]⟩,⟨#[]⟩]⟩,⟨oW,[dd,dd]⟩]).1) (i:=1) (e_:=31) (l:=[⟨⟨j9,[⟨#[45]⟩,⟨#[]⟩]⟩,.w ga 2 2⟩,⟨⟨oW,[dd,dd]⟩,.w gb 2 2⟩]) (Prod.ext I XU) ⟨cV aT cZ I,cW aT dL I,cU aT eD I,cH aT mN I⟩ XS (kF aT (by exact .here) (by exact I)) (iV (ED (g:=ga) (x:=⟨#[45]⟩) (y:=⟨#[]⟩) aT bI) (iV (ED (g:=gb) (x:=⟨#[99,97,109]⟩) (y:=⟨#[99,97,109]⟩) aT (by exact Take.there .here)) (kO _)))) ?_;rintro ⟨s28,d28,t28,p28⟩ _
 try dsimp only [id_eq,Zb,Za]
 refine dE (r:=(il Eu [⟨j9,[⟨#[45]⟩,⟨#[]⟩]⟩,⟨oW,[dd,dd]⟩]).1) (s:=s28) (d:=d28) (t:=t28) (p:=p28) (br _ _) fun aaH aaG aaF aaE=>?_
 (refine Jv I<|JJ I I<|JJ I I<|JJ I I<|Jz I I fun _ _=>ao (.of I) (.of I) .here I I (fk I I aaH aaG aaF aaE) (bu I) ai<|Ja I<|Ja I<|Ji ?_)
 refine eu [row 9 1 I0 ([dd,⟨#[]⟩]:List ByteArray).length (aP [dd,⟨#[]⟩]),row 9 1 Nq ([dd,nT,dY]:List ByteArray).length (aP [dd,nT,dY]),row 9 1 NW ([nT]:List ByteArray).length (aP [nT]),row 9 1 QH ([dY,j9]:List ByteArray).length (aP [dY,j9])] (by exact .cons jN (.cons jN (.cons jN (.cons jN .nil)))) ?_;refine JN nC I (fun w1 aT=>R5 w1) ?_;rintro ⟨ya,yc⟩ _
 try dsimp only [id_eq,Zb,Za]
 (refine a8 (ba (.o I .nil) I I bB bB ai) I fun _ _=>ab (aU (.o I (.o I .nil)) ai) I ?_)
 rename_i ge Mf;refine JN nC I (fun w1 aT=>Nb w1) ?_;rintro ⟨ua,uc⟩ _
 try dsimp only [id_eq,Zb,Za]
 (refine a8 (ba (.o I .nil) I I bB bB ai) I fun _ _=>ab (aU (.o I (.o I .nil)) ai) I<|a8 (ba (.o I (.o I .nil)) I I bB bB ai) I fun _ _=>Ja I<|Ji ?_)
 rename_i gf hgf gg hgg;refine bP (g:=ge) (E:=78) (ys:=(gP [⟨o6,.slice ya 2 yc⟩]).flatten) 1 2 cZ (by exact I) I I ?_;refine bP (g:=gf) (E:=78) (ys:=(gP [⟨o5,.slice ua 2 uc⟩]).flatten) 1 2 bI (by exact I) I I ?_;refine bP (g:=gg) (E:=182) (ys:=(uG [⟨10,[⟨o6,.slice ya 2 yc⟩],.w ge 1 1⟩,⟨12,[⟨o5,.slice ua 2 uc⟩],.w gf 1 1⟩]).flatten) 2 2 bI (by exact I) I I ?_;refine eu [row 9 1 I0 ([dd,⟨#[]⟩]:List ByteArray).length (aP [dd,⟨#[]⟩]),row 9 1 Nq ([dd,nT,dY]:List ByteArray).length (aP [dd,nT,dY]),row 9 1 NW ([nT]:List ByteArray).length (aP [nT]),row 9 1 QH ([dY,j9]:List ByteArray).length (aP [dY,j9]),row 182 2 (.w gg 2 2) 2 (uG [⟨10,[⟨o6,.slice ya 2 yc⟩],.w ge 1 1⟩,⟨12,[⟨o5,.slice ua 2 uc⟩],.w gf 1 1⟩]).flatten,row 78 2 (.w ge 1 1) 1 (gP [⟨o6,.slice ya 2 yc⟩]).flatten,row 78 2 (.w gf 1 1) 1 (gP [⟨o5,.slice ua 2 uc⟩]).flatten,row 9 1 (.slice ya 2 yc) 2 (aP o6.so),row 9 1 (.slice ua 2 uc) 2 (aP o5.so)] (by exact .cons eD (.cons eD (.cons eD (.cons eD (.h1 (.cons (.there .here) (.h1 (.cons (.there .here) (.h1 .nil))))))))) ?_
 skip
 refine JN nC I (fun w1 aT=>kB w1) ?_;rintro ⟨s29,d29,t29,p29⟩ _
 try dsimp only [id_eq,Zb,Za]
 refine dE (r:=np) (s:=s29) (d:=d29) (t:=t29) (p:=p29) (br _ _) fun afT afS afR afQ=>?_;refine HK I I ?_;refine JN rZ I (fun w1 aT=>Nf (l:=[⟨10,[⟨o6,.slice ya 2 yc⟩],.w ge 1 1⟩,⟨12,[⟨o5,.slice ua 2 uc⟩],.w gf 1 1⟩]) (m:=[⟨10,[o6]⟩,⟨12,[o5]⟩]) dY 9 I ⟨cV aT (by exact .here) I,cW aT (by exact Take.there .here) I,cU aT bI I,cH aT cZ I⟩ td RM.1 RM.2 (EL aT Iy (by exact I)) (nN (kF aT jY (by exact I)) (iV (eM aT xU (by exact I)) (kO _)) (nN (kF aT nB (by exact I)) (iV (eM aT lD (by exact I)) (kO _)) (A9 _)))) ?_;rintro Yt _
 try dsimp only [id_eq,Zb,Za]
 refine Jv I<|JJ I I<|JJ I I<|Ja I<|Ja I<|Ji ?_;refine eu [row 9 1 I0 ([dd,⟨#[]⟩]:List ByteArray).length (aP [dd,⟨#[]⟩]),row 9 1 Nq ([dd,nT,dY]:List ByteArray).length (aP [dd,nT,dY]),row 9 1 NW ([nT]:List ByteArray).length (aP [nT]),row 9 1 QH ([dY,j9]:List ByteArray).length (aP [dY,j9]),row 182 2 (.w gg 2 2) 2 (uG [⟨10,[⟨o6,.slice ya 2 yc⟩],.w ge 1 1⟩,⟨12,[⟨o5,.slice ua 2 uc⟩],.w gf 1 1⟩]).flatten,row 78 2 (.w ge 1 1) 1 (gP [⟨o6,.slice ya 2 yc⟩]).flatten,row 78 2 (.w gf 1 1) 1 (gP [⟨o5,.slice ua 2 uc⟩]).flatten,row 9 1 (.slice ya 2 yc) 2 (aP o6.so),row 9 1 (.slice ua 2 uc) 2 (aP o5.so),row 9 1 Yt ([⟨#[]⟩,⟨#[]⟩]:List ByteArray).length (aP [⟨#[]⟩,⟨#[]⟩])] (by exact .cons eD (.cons eD (.cons eD (.cons eD (.cons eD (.cons eD (.cons eD (.cons eD (.cons eD (.h1 .nil)))))))))) ?_
 skip
 refine JN nC I (fun w1 aT=>kB w1) ?_;rintro ⟨s30,d30,t30,p30⟩ _
 try dsimp only [id_eq,Zb,Za]
 refine dE (r:=np) (s:=s30) (d:=d30) (t:=t30) (p:=p30) (br _ _) fun afP afO afN afM=>?_;refine HK I I ?_;refine JN rZ I (fun w1 aT=>Nf (l:=[⟨10,[⟨o6,.slice ya 2 yc⟩],.w ge 1 1⟩,⟨12,[⟨o5,.slice ua 2 uc⟩],.w gf 1 1⟩]) (m:=[⟨10,[o6]⟩,⟨12,[o5]⟩]) dY 11 I ⟨cV aT (by exact .here) I,cW aT (by exact Take.there .here) I,cU aT bI I,cH aT cZ I⟩ td RL.1 RL.2 (EL aT Iy (by exact I)) (nN (kF aT jY (by exact I)) (iV (eM aT xU (by exact I)) (kO _)) (nN (kF aT nB (by exact I)) (iV (eM aT lD (by exact I)) (kO _)) (A9 _)))) ?_;rintro x33 _
 try dsimp only [id_eq,Zb,Za]
 refine Jv I<|JJ I I<|JJ I I<|Ja I<|Ja I<|Ji ?_;refine eu [row 9 1 I0 ([dd,⟨#[]⟩]:List ByteArray).length (aP [dd,⟨#[]⟩]),row 9 1 Nq ([dd,nT,dY]:List ByteArray).length (aP [dd,nT,dY]),row 9 1 NW ([nT]:List ByteArray).length (aP [nT]),row 9 1 QH ([dY,j9]:List ByteArray).length (aP [dY,j9]),row 182 2 (.w gg 2 2) 2 (uG [⟨10,[⟨o6,.slice ya 2 yc⟩],.w ge 1 1⟩,⟨12,[⟨o5,.slice ua 2 uc⟩],.w gf 1 1⟩]).flatten,row 78 2 (.w ge 1 1) 1 (gP [⟨o6,.slice ya 2 yc⟩]).flatten,row 78 2 (.w gf 1 1) 1 (gP [⟨o5,.slice ua 2 uc⟩]).flatten,row 9 1 (.slice ya 2 yc) 2 (aP o6.so),row 9 1 (.slice ua 2 uc) 2 (aP o5.so),row 9 1 Yt ([⟨#[]⟩,⟨#[]⟩]:List ByteArray).length (aP [⟨#[]⟩,⟨#[]⟩]),row 9 1 x33 ([dd,dd]:List ByteArray).length (aP [dd,dd])] (by exact .cons eD (.cons eD (.cons eD (.cons eD (.cons eD (.cons eD (.cons eD (.cons eD (.cons eD (.cons eD (.h1 .nil))))))))))) ?_
 skip
 refine JN nC I (fun w1 aT=>kB w1) ?_;rintro ⟨s31,d31,t31,p31⟩ _
 try dsimp only [id_eq,Zb,Za]
 refine dE (r:=np) (s:=s31) (d:=d31) (t:=t31) (p:=p31) (br _ _) fun afL afK afJ afI=>?_;refine HK I I ?_;refine JN rZ I (fun w1 aT=>Nf (l:=[⟨10,[⟨o6,.slice ya 2 yc⟩],.w ge 1 1⟩,⟨12,[⟨o5,.slice ua 2 uc⟩],.w gf 1 1⟩]) (m:=[⟨10,[o6]⟩,⟨12,[o5]⟩]) dY 12 I ⟨cV aT (by exact .here) I,cW aT (by exact Take.there .here) I,cU aT bI I,cH aT cZ I⟩ td RK.1 RK.2 (EL aT Iy (by exact I)) (nN (kF aT jY (by exact I)) (iV (eM aT xU (by exact I)) (kO _)) (nN (kF aT nB (by exact I)) (iV (eM aT lD (by exact I)) (kO _)) (A9 _)))) ?_;rintro x35 _
 try dsimp only [id_eq,Zb,Za]
 refine Jv I<|JJ I I<|JJ I I<|Ja I<|Ja I<|Ji ?_;refine eu [row 9 1 I0 ([dd,⟨#[]⟩]:List ByteArray).length (aP [dd,⟨#[]⟩]),row 9 1 Nq ([dd,nT,dY]:List ByteArray).length (aP [dd,nT,dY]),row 9 1 NW ([nT]:List ByteArray).length (aP [nT]),row 9 1 QH ([dY,j9]:List ByteArray).length (aP [dY,j9]),row 182 2 (.w gg 2 2) 2 (uG [⟨10,[⟨o6,.slice ya 2 yc⟩],.w ge 1 1⟩,⟨12,[⟨o5,.slice ua 2 uc⟩],.w gf 1 1⟩]).flatten,row 78 2 (.w ge 1 1) 1 (gP [⟨o6,.slice ya 2 yc⟩]).flatten,row 78 2 (.w gf 1 1) 1 (gP [⟨o5,.slice ua 2 uc⟩]).flatten,row 9 1 (.slice ya 2 yc) 2 (aP o6.so),row 9 1 (.slice ua 2 uc) 2 (aP o5.so),row 9 1 Yt ([⟨#[]⟩,⟨#[]⟩]:List ByteArray).length (aP [⟨#[]⟩,⟨#[]⟩]),row 9 1 x33 ([dd,dd]:List ByteArray).length (aP [dd,dd]),row 9 1 x35 ([lu,lu]:List ByteArray).length (aP [lu,lu])] (by exact .cons eD (.cons eD (.cons eD (.cons eD (.cons eD (.cons eD (.cons eD (.cons eD (.cons eD (.cons eD (.cons eD (.h1 .nil)))))))))))) ?_;refine JN nC I (fun w1 aT=>kB w1) ?_;rintro ⟨s32,d32,t32,p32⟩ _
 try dsimp only [id_eq,Zb,Za]
 refine dE (r:=np) (s:=s32) (d:=d32) (t:=t32) (p:=p32) (br _ _) fun afH afG afF afE=>?_
 skip
 refine aj bN I (fun w1 aT=>UW ⟨cV aT (by exact .here) I,cW aT (by exact Take.there .here) I,cU aT bI I,cH aT cZ I⟩) ?_;refine eu [row 9 1 I0 ([dd,⟨#[]⟩]:List ByteArray).length (aP [dd,⟨#[]⟩]),row 9 1 Nq ([dd,nT,dY]:List ByteArray).length (aP [dd,nT,dY]),row 9 1 NW ([nT]:List ByteArray).length (aP [nT]),row 9 1 QH ([dY,j9]:List ByteArray).length (aP [dY,j9]),row 9 1 Yt ([⟨#[]⟩,⟨#[]⟩]:List ByteArray).length (aP [⟨#[]⟩,⟨#[]⟩]),row 9 1 x33 ([dd,dd]:List ByteArray).length (aP [dd,dd]),row 9 1 x35 ([lu,lu]:List ByteArray).length (aP [lu,lu])] (by exact .cons dL (.cons dL (.cons dL (.cons dL (.cons jY (.cons jY (.cons jY .nil))))))) ?_;refine Jv I<|JJ I I<|JJ I I<|Ja I<|Ja I<|Ji ?_;simp only [Zb,Za,List.append_eq,List.append]
 (refine Jv I<|Jv I<|JB I (by omega)<|Jv I<|JB I (by omega)<|Jv I<|JB I (by omega)<|Jv I<|JB I (by omega)<|Jv I<|JB I (by omega)<|Jv I<|JB I (by omega)<|Jv I<|JB I (by omega)<|Jv I<|JB I (by omega)<|JC I<|Jv I<|JK I I<|Jv I<|JK I I<|JC I<|ab (dZ (.of I) (.of I) (.of I) I) I<|Jv I<|JK I I<|Jv I<|JK I I<|JC I<|ab (dZ (.of I) (.of I) (.of I) I) I<|Jv I<|JK I I<|Jv I<|JK I I<|a8 (aD (.o I (.o I .nil)) I I I I) I fun _ _=>JK I I ?_)
 rename_i gz0 ahO;refine aj bb I (fun w1 aT=>mR (l:=[dd,⟨#[]⟩]) (eM aT (by exact Take.there .here) (by exact I)) (ED (g:=gz0) (x:=⟨#[99,97,109]⟩) (y:=⟨#[]⟩) aT (by exact .here))) ?_
 (refine ab (dZ (.of I) (.of I) (.of I) I) I<|Jv I<|JK I I<|Jv I<|JK I I<|a8 (aD (.o I (.o I (.o I .nil))) I I I I) I fun _ _=>JK I I ?_)
 rename_i gz1 ahN;refine aj bb I (fun w1 aT=>mR (l:=[dd,nT,dY]) (eM aT cZ (by exact I)) (aas (g:=gz1) (x:=⟨#[99,97,109]⟩) (y:=⟨#[116]⟩) (z:=⟨#[97,105,114]⟩) aT (by exact .here))) ?_
 (refine ab (dZ (.of I) (.of I) (.of I) I) I<|Jv I<|JK I I<|Jv I<|JK I I<|a8 (aD (.o I .nil) I I I I) I fun _ _=>JK I I ?_)
 rename_i gz2 ahM;refine aj bb I (fun w1 aT=>mR (l:=[nT]) (eM aT eD (by exact I)) (aat (g:=gz2) (x:=⟨#[116]⟩) aT (by exact .here))) ?_
 (refine ab (dZ (.of I) (.of I) (.of I) I) I<|Jv I<|JK I I<|Jv I<|JK I I<|a8 (aD (.o I (.o I .nil)) I I I I) I fun _ _=>JK I I ?_)
 rename_i gz3 ahL;refine aj bb I (fun w1 aT=>mR (l:=[dY,j9]) (eM aT oL (by exact I)) (ED (g:=gz3) (x:=⟨#[97,105,114]⟩) (y:=⟨#[114,101,99]⟩) aT (by exact .here))) ?_
 (refine ab (dZ (.of I) (.of I) (.of I) I) I<|Jv I<|JK I I<|Jv I<|JK I I<|a8 (aD (.o I (.o I .nil)) I I I I) I fun _ _=>JK I I ?_)
 rename_i gz4 ahK;refine aj bb I (fun w1 aT=>mR (l:=[⟨#[]⟩,⟨#[]⟩]) (eM aT jY (by exact I)) (ED (g:=gz4) (x:=⟨#[]⟩) (y:=⟨#[]⟩) aT (by exact .here))) ?_
 (refine ab (dZ (.of I) (.of I) (.of I) I) I<|Jv I<|JK I I<|Jv I<|JK I I<|a8 (aD (.o I (.o I .nil)) I I I I) I fun _ _=>JK I I ?_)
 rename_i gz5 ahJ;refine aj bb I (fun w1 aT=>mR (l:=[dd,dd]) (eM aT xU (by exact I)) (ED (g:=gz5) (x:=⟨#[99,97,109]⟩) (y:=⟨#[99,97,109]⟩) aT (by exact .here))) ?_
 (refine ab (dZ (.of I) (.of I) (.of I) I) I<|Jv I<|JK I I<|Jv I<|JK I I<|a8 (aD (.o I (.o I .nil)) I I I I) I fun _ _=>JK I I ?_)
 rename_i gz6 ahI;refine aj bb I (fun w1 aT=>mR (l:=[lu,lu]) (eM aT Iz (by exact I)) (ED (g:=gz6) (x:=⟨#[118,116,114]⟩) (y:=⟨#[118,116,114]⟩) aT (by exact .here))) ?_
 (refine ab (dZ (.of I) (.of I) (.of I) I) I<|Jv I<|JK I I<|Jv I<|JK I I<|ab (HB (.of I) (.of I) Uz) I<|ab (dZ (.of I) (.of I) (.of I) I) I<|Ja I<|Jn<|Je<|JT ?_)
 rfl
end Go.Proofs.A1
namespace Go.Proofs.A1
open Go Go.SL Go.ChangeShapes Go.WideShapes Go.Deep Go.Joins
open Tryz
open Tryz renaming prog->T_
section
variable {H:Type} {enc:TypeId×Value->H} {w:World}
theorem laidOut:laidOutB T_=true:=by kernel_rfl
theorem Wh:ownKnob prog.godebug=none:=by kernel_rfl
theorem No {b o n:Nat}:Addr.add ⟨b,o,none⟩ n=⟨b,o+n,none⟩:=eJ b o n
theorem vY {T:TypeId} (PE:prog.readableRec T=true) (hrow:T<prog.types.size) {W W':World} {sp':Nat->Bool} {n:Nat} {cs:List Value} {x:DataW H×List MemPlace} (h:DataW.trod enc T_ W 0 (fun _=>true) true n T cs=some x)
  (LX:∀ p∈x.2,W.sameAt W' p) (hs:∀ p∈x.2,sp' p.block=true):DataW.trod enc T_ W' 0 sp' true n T cs=some x:=
 DataW.trod_stays (kids_book laidOut PE) (book_sized PE) (fun h=>by cases h) ⟨hrow,book_self T⟩ h LX hs
theorem wF {α:Type} [Inhabited α] {Q:α->Prop} {T E:TypeId} {sz:Nat} {cells:α->List Value} (hu:prog.underlying T=some (.slice E)) (hsz:prog.cellsOf E=sz) (h0:0<sz) (hlen:∀ a,(cells a).length=sz)
  (hE:∀ (n:Nat) (cs:List Value) (x:DataW H×List MemPlace),DataW.trod enc T_ w 0 (fun _=>true) true n E cs=some x->∃ e:α,cs=cells e/\Q e)
  {n:Nat} {v:Value} {y:DataW H×List MemPlace} (h:DataW.trod enc T_ w 0 (fun _=>true) true n T [v]=some y):∃ l:List α,Rd w v sz (l.map cells)/\∀ x∈l,Q x:=by
 rcases open_slice hu h with ⟨e,_⟩ | ⟨a,len,cap,m,n',D,Pl,Ru,_,hl,hm,hmm,_,hi⟩
 ·simp only [List.cons.injEq,and_true] at e;subst e;exact ⟨[],Rd.nil w sz,fun _ h=>absurd h Zp⟩
 ·simp only [List.cons.injEq,and_true] at Ru;subst Ru;rw [hsz] at hi;have Vl:m=cap:=by simpa using hmm
  have hE:∀ i,i<len->∃ e:α,(∀ j,j<sz->w.cell? (a.add (i*sz+j))=(cells e)[j]?)/\Q e:=fun i iw=>by
   obtain ⟨R1,hc,ht⟩:=hi i (by omega);obtain ⟨_,jK,jA⟩:=World.cells?_some hc;obtain ⟨e,rfl,hq⟩:=hE _ _ _ ht;exact ⟨e,fun j hj=>by rw [<- Go.Deep.add_add];exact jA j hj,hq⟩
  let S:Nat->α:=fun i=>if iw:i<len then (hE i iw).choose else default
  have hS:∀ i j,i<len->j<sz->w.cell? (a.add (i*sz+j))=(cells (S i))[j]?:=fun i j iw hj=>by
   have:=(hE i iw).choose_spec.1 j hj;simpa only [S,dif_pos iw] using this
  have hQ:∀ i,i<len->Q (S i):=fun i iw=>by
   have:=(hE i iw).choose_spec.2;simpa only [S,dif_pos iw] using this
  have xh:(((List.range len).map S).map cells).length=len:=by simp
  refine ⟨(List.range len).map S,?_,fun x hx=>by
   obtain ⟨i,hi,rfl⟩:=Zy.1 hx;exact hQ i (ZX.1 hi)⟩
  by_cases hz:len=0
  ·subst hz;exact ⟨some a,cap,0,0,by rw [xh],by rw [xh];omega,hm,fun hne=>absurd (Zak.1 xh) hne,fun i r hr=>by
    have:=(Zl.1 hr).1;rw [xh] at this;omega⟩
  ·obtain ⟨b,off,spot⟩:=a;have WG:spot=none:=by
    have h1:=hS 0 0 (by omega) h0;rw [Zc (by rw [hlen];exact h0)] at h1;simpa [Addr.add] using World.cell?_spot h1
   subst WG;refine ⟨some ⟨b,off,none⟩,cap,b,off,by rw [xh],by rw [xh];exact hl,hm,fun _=>rfl,fun i r hr=>?_⟩;have iw:i<len:=by
    have:=(Zl.1 hr).1;rwa [xh] at this
   have NC:r=cells (S i):=by
    simp [iw] at hr;exact hr.symm
   subst NC;refine ⟨hlen _,fun j u hu=>?_⟩;have hj:j<sz:=by
    have:=(Zl.1 hu).1;rwa [hlen] at this
   have:=hS i j iw hj;rw [No,hu] at this;rw [Nat.add_assoc];exact this
theorem nM {α:Type} [Inhabited α] {T E:TypeId} {sz:Nat} {cells:α->List Value} (hu:prog.underlying T=some (.slice E)) (hsz:prog.cellsOf E=sz) (h0:0<sz) (hlen:∀ a,(cells a).length=sz)
  (hE:∀ (n:Nat) (cs:List Value) (x:DataW H×List MemPlace),DataW.trod enc T_ w 0 (fun _=>true) true n E cs=some x->∃ e:α,cs=cells e)
  {n:Nat} {v:Value} {y:DataW H×List MemPlace} (h:DataW.trod enc T_ w 0 (fun _=>true) true n T [v]=some y):∃ l:List α,Rd w v sz (l.map cells):=by
 obtain ⟨l,hl,_⟩:=wF (Q:=fun _=>True) hu hsz h0 hlen (fun n cs x h=>by obtain ⟨e,he⟩:=hE n cs x h;exact ⟨e,he,trivial⟩) h;exact ⟨l,hl⟩
theorem Q8 {α:Type}:∀ {l:List α},l.length=2->∃ a0 a1,l=[a0,a1]
 | [a0,a1],_=>⟨a0,a1,rfl⟩
theorem Lv {α:Type}:∀ {l:List α},l.length=3->∃ a0 a1 a2,l=[a0,a1,a2]
 | [a0,a1,a2],_=>⟨a0,a1,a2,rfl⟩
theorem Wo {α:Type}:∀ {l:List α},l.length=6->∃ a0 a1 a2 a3 a4 a5,l=[a0,a1,a2,a3,a4,a5]
 | [a0,a1,a2,a3,a4,a5],_=>⟨a0,a1,a2,a3,a4,a5,rfl⟩
theorem X6:prog.cellsOf 118=2:=by kernel_rfl
theorem c9:prog.cellsOf 9=1:=by kernel_rfl
theorem c3:prog.cellsOf 3=1:=by kernel_rfl
variable {cs:List Value} {n:Nat} {v:Value} {x:DataW H×List MemPlace}
theorem M0 (h:DataW.trod enc T_ w 0 (fun _=>true) true n 118 cs=some x):∃ (a0:ByteArray) (a1:Int),cs=[.string a0,.q a1]:=by
 obtain ⟨ys,n0,_,_,hlen,LP,hf⟩:=DataW.trod_struct underlying118 h;rw [X6] at hlen;have LO:ys.length=2:=LP;obtain ⟨k0,k1,rfl⟩:=Q8 hlen;have f0:DataW.trod enc T_ w 0 (fun _=>true) true n0 9 (List.take (prog.cellsOf 9) (List.drop 0 [k0,k1]))=ys[0]?:=hf 0 _ I
 rw [c9,Zc (by omega)] at f0;obtain ⟨b0,e0,_,_⟩:=DataW.trod_string underlying9 f0;simp at e0;have f1:DataW.trod enc T_ w 0 (fun _=>true) true n0 3 (List.take (prog.cellsOf 3) (List.drop 1 [k0,k1]))=ys[1]?:=hf 1 _ I
 rw [c3,Zc (by omega)] at f1;obtain ⟨b1,e1,_,_⟩:=DataW.trod_int underlying3 f1;simp at e1;subst e0 e1;exact ⟨b0,b1,I⟩
theorem c88:prog.cellsOf 88=3:=by kernel_rfl
theorem c4:prog.cellsOf 4=1:=by kernel_rfl
theorem Qq (h:DataW.trod enc T_ w 0 (fun _=>true) true n 88 cs=some x):∃ (a0:ByteArray) (a1:Int) (a2:Bool),cs=[.string a0,.q a1,.bool a2]:=by
 obtain ⟨ys,n0,_,_,hlen,LP,hf⟩:=DataW.trod_struct underlying88 h;rw [c88] at hlen;have LO:ys.length=3:=LP;obtain ⟨k0,k1,k2,rfl⟩:=Lv hlen;have f0:DataW.trod enc T_ w 0 (fun _=>true) true n0 9 (List.take (prog.cellsOf 9) (List.drop 0 [k0,k1,k2]))=ys[0]?:=hf 0 _ I
 rw [c9,Zc (by omega)] at f0;obtain ⟨b0,e0,_,_⟩:=DataW.trod_string underlying9 f0;simp at e0;have f1:DataW.trod enc T_ w 0 (fun _=>true) true n0 3 (List.take (prog.cellsOf 3) (List.drop 1 [k0,k1,k2]))=ys[1]?:=hf 1 _ I
 rw [c3,Zc (by omega)] at f1;obtain ⟨b1,e1,_,_⟩:=DataW.trod_int underlying3 f1;simp at e1;have f2:DataW.trod enc T_ w 0 (fun _=>true) true n0 4 (List.take (prog.cellsOf 4) (List.drop 2 [k0,k1,k2]))=ys[2]?:=hf 2 _ I
 rw [c4,Zc (by omega)] at f2;obtain ⟨b2,e2,_⟩:=DataW.trod_bool underlying4 f2;simp at e2;subst e0 e1 e2;exact ⟨b0,b1,b2,I⟩
theorem X5:prog.cellsOf 122=3:=by kernel_rfl
theorem MZ (h:DataW.trod enc T_ w 0 (fun _=>true) true n 122 cs=some x):∃ (a0:ByteArray) (a1:Int) (a2:Int),cs=[.string a0,.q a1,.q a2]:=by
 obtain ⟨ys,n0,_,_,hlen,LP,hf⟩:=DataW.trod_struct underlying122 h;rw [X5] at hlen;have LO:ys.length=3:=LP;obtain ⟨k0,k1,k2,rfl⟩:=Lv hlen;have f0:DataW.trod enc T_ w 0 (fun _=>true) true n0 9 (List.take (prog.cellsOf 9) (List.drop 0 [k0,k1,k2]))=ys[0]?:=hf 0 _ I
 rw [c9,Zc (by omega)] at f0;obtain ⟨b0,e0,_,_⟩:=DataW.trod_string underlying9 f0;simp at e0;have f1:DataW.trod enc T_ w 0 (fun _=>true) true n0 3 (List.take (prog.cellsOf 3) (List.drop 1 [k0,k1,k2]))=ys[1]?:=hf 1 _ I
 rw [c3,Zc (by omega)] at f1;obtain ⟨b1,e1,_,_⟩:=DataW.trod_int underlying3 f1;simp at e1;have f2:DataW.trod enc T_ w 0 (fun _=>true) true n0 3 (List.take (prog.cellsOf 3) (List.drop 2 [k0,k1,k2]))=ys[2]?:=hf 2 _ I
 rw [c3,Zc (by omega)] at f2;obtain ⟨b2,e2,_,_⟩:=DataW.trod_int underlying3 f2;simp at e2;subst e0 e1 e2;exact ⟨b0,b1,b2,I⟩
theorem X4:prog.cellsOf 180=3:=by kernel_rfl
theorem MY (h:DataW.trod enc T_ w 0 (fun _=>true) true n 180 cs=some x):∃ (a0:Int) (a1:ByteArray) (a2:ByteArray),cs=[.q a0,.string a1,.string a2]:=by
 obtain ⟨ys,n0,_,_,hlen,LP,hf⟩:=DataW.trod_struct underlying180 h;rw [X4] at hlen;have LO:ys.length=3:=LP;obtain ⟨k0,k1,k2,rfl⟩:=Lv hlen;have f0:DataW.trod enc T_ w 0 (fun _=>true) true n0 3 (List.take (prog.cellsOf 3) (List.drop 0 [k0,k1,k2]))=ys[0]?:=hf 0 _ I
 rw [c3,Zc (by omega)] at f0;obtain ⟨b0,e0,_,_⟩:=DataW.trod_int underlying3 f0;simp at e0;have f1:DataW.trod enc T_ w 0 (fun _=>true) true n0 9 (List.take (prog.cellsOf 9) (List.drop 1 [k0,k1,k2]))=ys[1]?:=hf 1 _ I
 rw [c9,Zc (by omega)] at f1;obtain ⟨b1,e1,_,_⟩:=DataW.trod_string underlying9 f1;simp at e1;have f2:DataW.trod enc T_ w 0 (fun _=>true) true n0 9 (List.take (prog.cellsOf 9) (List.drop 2 [k0,k1,k2]))=ys[2]?:=hf 2 _ I
 rw [c9,Zc (by omega)] at f2;obtain ⟨b2,e2,_,_⟩:=DataW.trod_string underlying9 f2;simp at e2;subst e0 e1 e2;exact ⟨b0,b1,b2,I⟩
theorem c27:prog.cellsOf 27=6:=by kernel_rfl
theorem c22:prog.cellsOf 22=1:=by kernel_rfl
theorem c23:prog.cellsOf 23=1:=by kernel_rfl
theorem c24:prog.cellsOf 24=1:=by kernel_rfl
theorem c25:prog.cellsOf 25=1:=by kernel_rfl
theorem Qs (h:DataW.trod enc T_ w 0 (fun _=>true) true n 27 cs=some x):∃ (a0:Int) (a1:Int) (a2:Value) (a3:Value) (a4:Value) (a5:Value),cs=[.q a0,.q a1,a2,a3,a4,a5]/\(∃ (m:Nat) (y:DataW H×List MemPlace),DataW.trod enc T_ w 0 (fun _=>true) true m 22 [a2]=some y)/\(∃ (m:Nat) (y:DataW H×List MemPlace),DataW.trod enc T_ w 0 (fun _=>true) true m 23 [a3]=some y)/\(∃ (m:Nat) (y:DataW H×List MemPlace),DataW.trod enc T_ w 0 (fun _=>true) true m 24 [a4]=some y)/\(∃ (m:Nat) (y:DataW H×List MemPlace),DataW.trod enc T_ w 0 (fun _=>true) true m 25 [a5]=some y):=by
 obtain ⟨ys,n0,_,_,hlen,LP,hf⟩:=DataW.trod_struct underlying27 h;rw [c27] at hlen;have LO:ys.length=6:=LP;obtain ⟨k0,k1,k2,k3,k4,k5,rfl⟩:=Wo hlen;have f0:DataW.trod enc T_ w 0 (fun _=>true) true n0 3 (List.take (prog.cellsOf 3) (List.drop 0 [k0,k1,k2,k3,k4,k5]))=ys[0]?:=hf 0 _ I
 rw [c3,Zc (by omega)] at f0;obtain ⟨b0,e0,_,_⟩:=DataW.trod_int underlying3 f0;simp at e0;have f1:DataW.trod enc T_ w 0 (fun _=>true) true n0 3 (List.take (prog.cellsOf 3) (List.drop 1 [k0,k1,k2,k3,k4,k5]))=ys[1]?:=hf 1 _ I
 rw [c3,Zc (by omega)] at f1;obtain ⟨b1,e1,_,_⟩:=DataW.trod_int underlying3 f1;simp at e1;have f2:DataW.trod enc T_ w 0 (fun _=>true) true n0 22 (List.take (prog.cellsOf 22) (List.drop 2 [k0,k1,k2,k3,k4,k5]))=ys[2]?:=hf 2 _ I
 rw [c22,Zc (by omega)] at f2;have f3:DataW.trod enc T_ w 0 (fun _=>true) true n0 23 (List.take (prog.cellsOf 23) (List.drop 3 [k0,k1,k2,k3,k4,k5]))=ys[3]?:=hf 3 _ I
 rw [c23,Zc (by omega)] at f3;have f4:DataW.trod enc T_ w 0 (fun _=>true) true n0 24 (List.take (prog.cellsOf 24) (List.drop 4 [k0,k1,k2,k3,k4,k5]))=ys[4]?:=hf 4 _ I
 rw [c24,Zc (by omega)] at f4;have f5:DataW.trod enc T_ w 0 (fun _=>true) true n0 25 (List.take (prog.cellsOf 25) (List.drop 5 [k0,k1,k2,k3,k4,k5]))=ys[5]?:=hf 5 _ I
 rw [c25,Zc (by omega)] at f5;subst e0 e1;exact ⟨b0,b1,k2,k3,k4,k5,I,⟨_,_,by simpa using f2⟩,⟨_,_,by simpa using f3⟩,⟨_,_,by simpa using f4⟩,⟨_,_,by simpa using f5⟩⟩
theorem c69:prog.cellsOf 69=2:=by kernel_rfl
theorem c32:prog.cellsOf 32=1:=by kernel_rfl
theorem Qr (h:DataW.trod enc T_ w 0 (fun _=>true) true n 69 cs=some x):∃ (a0:ByteArray) (a1:Value),cs=[.string a0,a1]/\(∃ (m:Nat) (y:DataW H×List MemPlace),DataW.trod enc T_ w 0 (fun _=>true) true m 32 [a1]=some y):=by
 obtain ⟨ys,n0,_,_,hlen,LP,hf⟩:=DataW.trod_struct underlying69 h;rw [c69] at hlen;have LO:ys.length=2:=LP;obtain ⟨k0,k1,rfl⟩:=Q8 hlen;have f0:DataW.trod enc T_ w 0 (fun _=>true) true n0 9 (List.take (prog.cellsOf 9) (List.drop 0 [k0,k1]))=ys[0]?:=hf 0 _ I
 rw [c9,Zc (by omega)] at f0;obtain ⟨b0,e0,_,_⟩:=DataW.trod_string underlying9 f0;simp at e0;have f1:DataW.trod enc T_ w 0 (fun _=>true) true n0 32 (List.take (prog.cellsOf 32) (List.drop 1 [k0,k1]))=ys[1]?:=hf 1 _ I
 rw [c32,Zc (by omega)] at f1;subst e0;exact ⟨b0,k1,I,⟨_,_,by simpa using f1⟩⟩
theorem Lb (h:DataW.trod enc T_ w 0 (fun _=>true) true n 22 [v]=some x):∃ l,Rd w v 2 (vZ l):=by
 haveI:Inhabited Sr:=⟨⟨⟨#[]⟩,0⟩⟩
 exact nM (cells:=Sr.cells) underlying22 X6 (by decide) (fun _=>rfl) (fun _ _ _ h=>by obtain ⟨a,b,rfl⟩:=M0 h;exact ⟨⟨a,b⟩,rfl⟩) h
theorem Ld (h:DataW.trod enc T_ w 0 (fun _=>true) true n 23 [v]=some x):∃ l,Rd w v 3 (vJ l):=by
 haveI:Inhabited De:=⟨⟨⟨#[]⟩,0,false⟩⟩
 exact nM (cells:=De.cells) underlying23 c88 (by decide) (fun _=>rfl) (fun _ _ _ h=>by obtain ⟨a,b,c,rfl⟩:=Qq h;exact ⟨⟨a,b,c⟩,rfl⟩) h
theorem La (h:DataW.trod enc T_ w 0 (fun _=>true) true n 24 [v]=some x):∃ l,Rd w v 3 (vm l):=by
 haveI:Inhabited Ti:=⟨⟨⟨#[]⟩,0,0⟩⟩
 exact nM (cells:=Ti.cells) underlying24 X5 (by decide) (fun _=>rfl) (fun _ _ _ h=>by obtain ⟨a,b,c,rfl⟩:=MZ h;exact ⟨⟨a,b,c⟩,rfl⟩) h
theorem Lc (h:DataW.trod enc T_ w 0 (fun _=>true) true n 25 [v]=some x):∃ l,Rd w v 3 (uE l):=by
 haveI:Inhabited Po:=⟨⟨0,⟨#[]⟩,⟨#[]⟩⟩⟩
 exact nM (cells:=Po.cells) underlying25 X4 (by decide) (fun _=>rfl) (fun _ _ _ h=>by obtain ⟨a,b,c,rfl⟩:=MY h;exact ⟨⟨a,b,c⟩,rfl⟩) h
theorem CU (h:DataW.trod enc T_ w 0 (fun _=>true) true n 32 [v]=some x):∃ l,Rd w v 1 (gT l):=by
 haveI:Inhabited ByteArray:=⟨⟨#[]⟩⟩
 exact nM (cells:=(fun s:ByteArray=>[Value.string s])) underlying32 c9 (by decide) (fun _=>rfl) (fun _ _ _ h=>by obtain ⟨a,rfl,_⟩:=DataW.trod_string underlying9 h;exact ⟨a,rfl⟩) h
theorem uF (h:DataW.trod enc T_ w 0 (fun _=>true) true n 27 cs=some x):∃ (r:Ro) (s d t p:Value),cs=[.q r.lv,.q r.ma,s,d,t,p]/\RR w r s d t p:=by
 obtain ⟨a,b,s,d,t,p,rfl,⟨_,_,h1⟩,⟨_,_,h2⟩,⟨_,_,h3⟩,⟨_,_,h4⟩⟩:=Qs h;obtain ⟨l1,r1⟩:=Lb h1;obtain ⟨l2,r2⟩:=Ld h2;obtain ⟨l3,r3⟩:=La h3;obtain ⟨l4,r4⟩:=Lc h4;exact ⟨⟨a,b,l1,l2,l3,l4⟩,s,d,t,p,I,r1,r2,r3,r4⟩
theorem EK (h:DataW.trod enc T_ w 0 (fun _=>true) true n 66 [v]=some x):∃ l,Rd w v 2 (gP l)/\rp w l:=by
 haveI:Inhabited fc:=⟨⟨⟨⟨#[]⟩,[]⟩,.z⟩⟩
 exact wF (α:=fc) (Q:=fun x=>Rd w x.v 1 (gT x.tk.so)) (cells:=fc.cells) underlying66 c69 (by decide) (fun _=>rfl) (fun _ _ _ h=>by
  obtain ⟨a,b,rfl,⟨_,_,h1⟩⟩:=Qr h;obtain ⟨l,hl⟩:=CU h1;exact ⟨⟨⟨a,l⟩,b⟩,I,hl⟩) h
end
end Go.Proofs.A1
namespace Go.Proofs.YteonnodafmegaaaGreatDoor
open Go Go.SL Go.Proofs.A1 Go.ChangeShapes Go.WideShapes Go.ChangeAt Go.RowKit Go.Joins
section
variable {H:Type} {enc:TypeId×Value->H} {P:Program}
theorem q7 {f:Func} {s:ChangeSpec} {apart fresh handsOn again:Bool} {W W':World} {args:Array Value} {v:Value} {ds gs:List (DataW H)} {before pa pv:List MemPlace}
  (hW:DataW.Whole enc P f.params.toList s.vars apart W args.toList ds gs before)
  (WO:∀ (b:Nat) (sp:Nat->Bool) (hd:Bool),DataW.TrodAll enc P W' b sp hd f.resultTypes.toList (v.resultList f.resultTypes.size) (s.fn H (ds++gs)).results [])
  (zR:∀ sp:Nat->Bool,(∀ p∈before,sp p.block=true)->DataW.TrodAll enc P W' 0 sp true f.params.toList args.toList (s.fn H (ds++gs)).args pa)
  (Re:∀ sp:Nat->Bool,(∀ p∈before,sp p.block=true)->DataW.TrodVars enc P W' sp s.vars (s.fn H (ds++gs)).vars pv)
  (hps:before=pa++pv) (hb:Below W.heap.size W W')
  (dU:∀ (j:Nat) (t:TypeId) (r:Value),f.resultTypes[j]? = some t->(v.resultList f.resultTypes.size)[j]? = some r->Value.okWide P W' .any 0 t r) :
  s.post enc P f apart fresh handsOn again W args v W':=by
 have aM:∀ p∈before,p.block<W.heap.size:=fun p hp=>hW.lt p hp
 have hold:∀ p∈before,(fun b=>decide (b<W.heap.size)) p.block=true:=fun p hp=>by simpa using aM p hp
 refine ⟨ds,gs,before,[],pa,pv,hW,WO _ _ _,zR _ hold,Re _ hold,World.keptBut_mono (fun p hp=>⟨hp,?_⟩) (hb.frame (·∈before)),fun _=>?_⟩
 ·rw [hps,ZB] at hp;exact Or.inr hp
 ·obtain ⟨_,_,_,_,_,hz,hn⟩:=hW;refine ⟨dU,_,_,([]++pa)++pv,⟨[]++pa,pv,trodAll_append (zR _ (fun _ _=>rfl)) (WO _ _ _),Re _ (fun _ _=>rfl),I,?_,?_⟩,?_⟩
  ·intro b off hp;have mY:MemPlace.cell b off∈before:=by rw [hps];simpa using hp
   rw [hb.frozen (aM _ mY)];exact hz b off mY
  ·intro ha;have:=hn ha;rw [hps] at this;simpa using this
  ·intro p hp _;rw [hps];simpa using hp
end
end Go.Proofs.YteonnodafmegaaaGreatDoor
namespace Go.Proofs.A1
open Go Go.SL
open Tryz
open Tryz renaming prog->T_
variable {k:Nat} {l:List ByteArray} {r:Ro} {s:ByteArray}
theorem sZ {s d t p:Value} (o:ByteArray) {w:World} (h:RR w r s d t p):ak T_ 130 [RA r s d t p,.string o] w (.q (bA (cK r) o)):=by
 obtain ⟨h1,h2,h3,h4⟩:=h.one;have hs:=h.sr;obtain ⟨a,cp,b,o',rfl,dy,bT,ha,hc⟩:=hs;rw [ct] at *;unfold maxLen at bT;unfold RA;refine ah func130 I I ?_;refine Jr<|Jy I I fun _ _=>Ja I<|Jn<|Jq<|Jr<|Ja I<|Jn<|J0 ?_;rename_i b1 r9;refine aV (ι:=Nat) (fun k=>k<=r.sr.length/\∀ j (hj:j<(cK r).length),j<k->(cK r)[j]≠o) (fun k=>[(5,.int .i64 (k:Nat)),(2,.pointer (some ⟨b1,0,none⟩)),(1,.string o)]) (fun _=>[JQ b1 r (.slice a r.sr.length cp) d t p]) (fun k=>r.sr.length-k) ?_ ?_
 ·apply aI (0:Nat) ⟨Zi _,fun j _ hj=>absurd hj (ZU _)⟩
  case hs1=>exact bS
  case ht=>(try simp only [Ze,Zf,Za]);exact .h1 .nil
 rintro k ⟨hk,hf⟩;have qT:(cK r).length=r.sr.length:=by unfold cK;rw [Zd]
 by_cases aM:k<r.sr.length
 ·have cu:=ha (iK aM);have aC:=(hc k _ (fV aM)).2;have hx:(cK r)[k]'(by omega)=(r.sr[k]).nm:=by unfold cK;rw [Z2]
  have c0:w.cell? ⟨b,o'+k*2,none⟩=some (.string (r.sr[k]).nm):=aC 0 _ I;generalize (r.sr[k]).nm=x at hx c0
  (refine Jq<|Jr<|Jv I<|bG I I ae<|JL I .here I<|JI I<|JA I<|Jn<|Jd I fun au=>Jk<|Jq<|J0<|Jr<|bG I I ae<|JL I .here I<|Jv I<|ab (fY cu au) I<|bG I I ae<|ab (ag (.of I) (At.base c0 I)) I<|Jv I<|ab (dB (.of I) (.of I)) I<|Jn<|gG I (fun au=>?_) fun au=>?_;refine Jr<|Jv I<|Ja I<|Jn<|Je<|Jm<|Jh<|Jh<|Jm<|Jh<|JT ?_;rotate_left;refine Jw<|Jj<|Jt<|Jg<|Jv I<|JB I (by omega)<|Ja I<|Jn ?_;rotate_right)
  ·have uO:x=o:=au;rw [rP (i:=k) (by omega) (hx.trans uO) (fun j hj=>hf j (by omega) hj)]
  ·have uO:¬ x=o:=au;apply aG (k+1) ⟨(show k+1<=r.sr.length from aM),fun j hj NH=>by
    by_cases e:j=k
    ·subst e;rw [hx];exact uO
    ·exact hf j hj (by omega)⟩ (show r.sr.length-(k+1)<r.sr.length-k by omega)
   case hs1=>exact bS
   case ht=>(try simp only [Ze,Zf,Za]);exact .h1 .nil
 ·obtain rfl:k=r.sr.length:=by omega
  rw [Bw fun j hj=>hf j hj (by omega)]
  (refine Jq<|Jr<|Jv I<|bG I I ae<|JL I .here I<|JI I<|JA I<|Jn<|Jc I fun au=>Jp<|Jl<|Jo<|Jt<|Jr<|Ja I<|Jn<|Je<|JT ?_)
  rfl
theorem tb {s d t p:Value} (o:ByteArray) {w:World} (h:RR w r s d t p):ak T_ 56 [RA r s d t p,.string o] w (.q (bA (cy r) o)):=by
 obtain ⟨h1,h2,h3,h4⟩:=h.one;have hs:=h.de;obtain ⟨a,cp,b,o',rfl,dy,bT,ha,hc⟩:=hs;rw [bY] at *;unfold maxLen at bT;unfold RA;refine ah func56 I I ?_;refine Jr<|Jy I I fun _ _=>Ja I<|Jn<|Jq<|Jr<|Ja I<|Jn<|J0 ?_;rename_i b1 r9;refine aV (ι:=Nat) (fun k=>k<=r.de.length/\∀ j (hj:j<(cy r).length),j<k->(cy r)[j]≠o) (fun k=>[(5,.int .i64 (k:Nat)),(2,.pointer (some ⟨b1,0,none⟩)),(1,.string o)]) (fun _=>[JQ b1 r s (.slice a r.de.length cp) t p]) (fun k=>r.de.length-k) ?_ ?_
 ·apply aI (0:Nat) ⟨Zi _,fun j _ hj=>absurd hj (ZU _)⟩
  case hs1=>exact bS
  case ht=>(try simp only [Ze,Zf,Za]);exact .h1 .nil
 rintro k ⟨hk,hf⟩;have qT:(cy r).length=r.de.length:=by unfold cy;rw [Zd]
 by_cases aM:k<r.de.length
 ·have cu:=ha (iy aM);have aC:=(hc k _ (fN aM)).2;have hx:(cy r)[k]'(by omega)=(r.de[k]).nm:=by unfold cy;rw [Z2]
  have c0:w.cell? ⟨b,o'+k*3,none⟩=some (.string (r.de[k]).nm):=aC 0 _ I;generalize (r.de[k]).nm=x at hx c0
  (refine Jq<|Jr<|Jv I<|bG I I ae<|JL I .here I<|JI I<|JA I<|Jn<|Jd I fun au=>Jk<|Jq<|J0<|Jr<|bG I I ae<|JL I .here I<|Jv I<|ab (fY cu au) I<|bG I I ae<|ab (ag (.of I) (At.base c0 I)) I<|Jv I<|ab (dB (.of I) (.of I)) I<|Jn<|gG I (fun au=>?_) fun au=>?_;refine Jr<|Jv I<|Ja I<|Jn<|Je<|Jm<|Jh<|Jh<|Jm<|Jh<|JT ?_;rotate_left;refine Jw<|Jj<|Jt<|Jg<|Jv I<|JB I (by omega)<|Ja I<|Jn ?_;rotate_right)
  ·have uO:x=o:=au;rw [rP (i:=k) (by omega) (hx.trans uO) (fun j hj=>hf j (by omega) hj)]
  ·have uO:¬ x=o:=au;apply aG (k+1) ⟨(show k+1<=r.de.length from aM),fun j hj NH=>by
    by_cases e:j=k
    ·subst e;rw [hx];exact uO
    ·exact hf j hj (by omega)⟩ (show r.de.length-(k+1)<r.de.length-k by omega)
   case hs1=>exact bS
   case ht=>(try simp only [Ze,Zf,Za]);exact .h1 .nil
 ·obtain rfl:k=r.de.length:=by omega
  rw [Bw fun j hj=>hf j hj (by omega)]
  (refine Jq<|Jr<|Jv I<|bG I I ae<|JL I .here I<|JI I<|JA I<|Jn<|Jc I fun au=>Jp<|Jl<|Jo<|Jt<|Jr<|Ja I<|Jn<|Je<|JT ?_)
  rfl
theorem qJ {s d t p:Value} (o:ByteArray) {w:World} (h:RR w r s d t p):ak T_ 60 [RA r s d t p,.string o] w (.q (bA (cR r) o)):=by
 obtain ⟨h1,h2,h3,h4⟩:=h.one;have hs:=h.ti;obtain ⟨a,cp,b,o',rfl,dy,bT,ha,hc⟩:=hs;rw [bQ] at *;unfold maxLen at bT;unfold RA;refine ah func60 I I ?_;refine Jr<|Jy I I fun _ _=>Ja I<|Jn<|Jq<|Jr<|Ja I<|Jn<|J0 ?_;rename_i b1 r9;refine aV (ι:=Nat) (fun k=>k<=r.ti.length/\∀ j (hj:j<(cR r).length),j<k->(cR r)[j]≠o) (fun k=>[(5,.int .i64 (k:Nat)),(2,.pointer (some ⟨b1,0,none⟩)),(1,.string o)]) (fun _=>[JQ b1 r s d (.slice a r.ti.length cp) p]) (fun k=>r.ti.length-k) ?_ ?_
 ·apply aI (0:Nat) ⟨Zi _,fun j _ hj=>absurd hj (ZU _)⟩
  case hs1=>exact bS
  case ht=>(try simp only [Ze,Zf,Za]);exact .h1 .nil
 rintro k ⟨hk,hf⟩;have qT:(cR r).length=r.ti.length:=by unfold cR;rw [Zd]
 by_cases aM:k<r.ti.length
 ·have cu:=ha (fm aM);have aC:=(hc k _ (ef aM)).2;have hx:(cR r)[k]'(by omega)=(r.ti[k]).nm:=by unfold cR;rw [Z2]
  have c0:w.cell? ⟨b,o'+k*3,none⟩=some (.string (r.ti[k]).nm):=aC 0 _ I;generalize (r.ti[k]).nm=x at hx c0
  (refine Jq<|Jr<|Jv I<|bG I I ae<|JL I .here I<|JI I<|JA I<|Jn<|Jd I fun au=>Jk<|Jq<|J0<|Jr<|bG I I ae<|JL I .here I<|Jv I<|ab (fY cu au) I<|bG I I ae<|ab (ag (.of I) (At.base c0 I)) I<|Jv I<|ab (dB (.of I) (.of I)) I<|Jn<|gG I (fun au=>?_) fun au=>?_;refine Jr<|Jv I<|Ja I<|Jn<|Je<|Jm<|Jh<|Jh<|Jm<|Jh<|JT ?_;rotate_left;refine Jw<|Jj<|Jt<|Jg<|Jv I<|JB I (by omega)<|Ja I<|Jn ?_;rotate_right)
  ·have uO:x=o:=au;rw [rP (i:=k) (by omega) (hx.trans uO) (fun j hj=>hf j (by omega) hj)]
  ·have uO:¬ x=o:=au;apply aG (k+1) ⟨(show k+1<=r.ti.length from aM),fun j hj NH=>by
    by_cases e:j=k
    ·subst e;rw [hx];exact uO
    ·exact hf j hj (by omega)⟩ (show r.ti.length-(k+1)<r.ti.length-k by omega)
   case hs1=>exact bS
   case ht=>(try simp only [Ze,Zf,Za]);exact .h1 .nil
 ·obtain rfl:k=r.ti.length:=by omega
  rw [Bw fun j hj=>hf j hj (by omega)]
  (refine Jq<|Jr<|Jv I<|bG I I ae<|JL I .here I<|JI I<|JA I<|Jn<|Jc I fun au=>Jp<|Jl<|Jo<|Jt<|Jr<|Ja I<|Jn<|Je<|JT ?_)
  rfl
theorem qF {s d t p:Value} (v:Int) (o:ByteArray) {w:World} (h:RR w r s d t p):ak T_ 133 [RA r s d t p,.q v,.string o] w (.string ((eB r.po v o).getD ⟨#[]⟩)):=by
 obtain ⟨h1,h2,h3,h4⟩:=h.one;have hs:=h.po;obtain ⟨a,cp,b,o',rfl,dy,bT,ha,hc⟩:=hs;rw [cT] at *;unfold maxLen at bT;unfold RA;refine ah func133 I I ?_;refine Jr<|Jy I I fun _ _=>Ja I<|Jn<|Jq<|Jr<|Ja I<|Jn<|J0 ?_;rename_i b1 r9;refine aV (ι:=Nat) (fun k=>k<=r.po.length/\eB r.po v o=((r.po.drop k).find? (Ft v o)).map Po.ip) (fun k=>[(7,.int .i64 (k:Nat)),(3,.pointer (some ⟨b1,0,none⟩)),(1,.int .i64 v),(2,.string o)]) (fun _=>[JQ b1 r s d t (.slice a r.po.length cp)]) (fun k=>r.po.length-k) ?_ ?_
 ·apply aI (0:Nat) ⟨Zi _,I⟩
  case hs1=>exact bS
  case ht=>(try simp only [Ze,Zf,Za]);exact .h1 .nil
 rintro k ⟨hk,hf⟩;by_cases aM:k<r.po.length
 ·have cu:=ha (kl aM);have aC:=(hc k _ (iq aM)).2;rw [Zu aM] at hf;have c0:w.cell? ⟨b,o'+k*3,none⟩=some (.q (r.po[k]).lv):=aC 0 _ I;have c1:w.cell? ⟨b,o'+k*3+1,none⟩=some (.string (r.po[k]).ou):=aC 1 _ I;have c2:w.cell? ⟨b,o'+k*3+2,none⟩=some (.string (r.po[k]).ip):=aC 2 _ I;generalize r.po[k]=x at hf c0 c1 c2
  (refine Jq<|Jr<|Jv I<|bG I I ae<|JL I .here I<|JI I<|JA I<|Jn<|Jd I fun au=>Jk<|Jq<|J0<|Jr<|bG I I ae<|JL I .here I<|Jv I<|ab (fY cu au) I<|bG I I ae<|ab (ag (.of I) (At.base c0 I)) I<|Jv I<|JC I<|Jv I<|aH I I inferInstance (fun hg bE=>(aq (.of I) ae)) I<|aH I I inferInstance (fun hg bE=>(ag (.bM hg I) (At.lit .here I))) I<|jz I I I I<|aH I I inferInstance (fun hg bE=>(an (.bM hg I) (.bM hg I) cu (by omega) au aW)) I<|aH I I inferInstance (fun hg bE=>(aq (.bM hg I) ae)) I<|aH I I inferInstance (fun hg bE=>(ag (.bM hg I) (At.base c1 I))) I<|jz I I I I<|aH I I inferInstance (fun hg bE=>(dB (.bM hg I) (.bM hg I))) I<|ab (ch (.of I) I) I<|Jn<|nW I (fun au=>?_) fun au=>?_;refine Jr<|bG I I ae<|JL I .here I<|Jv I<|ab (an (.of I) (.of I) cu (by omega) (by assumption) aW) I<|bG I I ae<|ab (ag (.of I) (At.base c2 I)) I<|Ja I<|Jn<|Je<|Jm<|Jh<|Jh<|Jm<|Jh<|JT ?_;rotate_left;refine Jw<|Jj<|Jt<|Jg<|Jv I<|JB I (by omega)<|Ja I<|Jn ?_;rotate_right)
  ·rw [hf,List.find?_cons_of_pos (by unfold Ft;simp only [Zn,decide_eq_true_eq];exact au)];rfl
  ·apply aG (k+1) ⟨(show k+1<=r.po.length from aM),by rw [hf,List.find?_cons_of_neg (by unfold Ft;simp only [Zn,decide_eq_true_eq];exact fun q=>au.elim (fun z=>z q.1) (fun z=>z q.2))]⟩ (show r.po.length-(k+1)<r.po.length-k by omega)
   case hs1=>exact bS
   case ht=>(try simp only [Ze,Zf,Za]);exact .h1 .nil
 ·obtain rfl:k=r.po.length:=by omega
  rw [Z3] at hf;rw [hf]
  (refine Jq<|Jr<|Jv I<|bG I I ae<|JL I .here I<|JI I<|JA I<|Jn<|Jc I fun au=>Jp<|Jl<|Jo<|Jt<|Jr<|Ja I<|Jn<|Je<|JT ?_)
  rfl
theorem J5 {s d t p:Value} (v:Int) (o:ByteArray) {w:World} (h:RR w r s d t p):ak T_ 233 [RA r s d t p,.q v,.string o] w (.bool (nD r.po v o)):=by
 obtain ⟨h1,h2,h3,h4⟩:=h.one;have hs:=h.po;obtain ⟨a,cp,b,o',rfl,dy,bT,ha,hc⟩:=hs;rw [cT] at *;unfold maxLen at bT;unfold RA;refine ah func233 I I ?_;refine Jr<|Jy I I fun _ _=>Ja I<|Jn<|Jq<|Jr<|Ja I<|Jn<|J0 ?_;rename_i b1 r9;refine aV (ι:=Nat) (fun k=>k<=r.po.length/\nD r.po v o=(r.po.drop k).any (yx v o)) (fun k=>[(7,.int .i64 (k:Nat)),(3,.pointer (some ⟨b1,0,none⟩)),(1,.int .i64 v),(2,.string o)]) (fun _=>[JQ b1 r s d t (.slice a r.po.length cp)]) (fun k=>r.po.length-k) ?_ ?_
 ·apply aI (0:Nat) ⟨Zi _,I⟩
  case hs1=>exact bS
  case ht=>(try simp only [Ze,Zf,Za]);exact .h1 .nil
 rintro k ⟨hk,hf⟩;by_cases aM:k<r.po.length
 ·have cu:=ha (kl aM);have aC:=(hc k _ (iq aM)).2;rw [Zu aM] at hf;have c0:w.cell? ⟨b,o'+k*3,none⟩=some (.q (r.po[k]).lv):=aC 0 _ I;have c1:w.cell? ⟨b,o'+k*3+1,none⟩=some (.string (r.po[k]).ou):=aC 1 _ I;have c2:w.cell? ⟨b,o'+k*3+2,none⟩=some (.string (r.po[k]).ip):=aC 2 _ I;generalize r.po[k]=x at hf c0 c1 c2
  (refine Jq<|Jr<|Jv I<|bG I I ae<|JL I .here I<|JI I<|JA I<|Jn<|Jd I fun au=>Jk<|Jq<|J0<|Jr<|bG I I ae<|JL I .here I<|Jv I<|ab (fY cu au) I<|bG I I ae<|ab (ag (.of I) (At.base c0 I)) I<|Jv I<|JC I<|Jv I<|aH I I inferInstance (fun hg bE=>(aq (.of I) ae)) I<|aH I I inferInstance (fun hg bE=>(ag (.bM hg I) (At.lit .here I))) I<|jz I I I I<|aH I I inferInstance (fun hg bE=>(an (.bM hg I) (.bM hg I) cu (by omega) au aW)) I<|aH I I inferInstance (fun hg bE=>(aq (.bM hg I) ae)) I<|aH I I inferInstance (fun hg bE=>(ag (.bM hg I) (At.base c2 I))) I<|jz I I I I<|aH I I inferInstance (fun hg bE=>(dB (.bM hg I) (.bM hg I))) I<|ab (ch (.of I) I) I<|Jn<|nW I (fun au=>?_) fun au=>?_;refine Jr<|Ja I<|Jn<|Je<|Jm<|Jh<|Jh<|Jm<|Jh<|JT ?_;rotate_left;refine Jw<|Jj<|Jt<|Jg<|Jv I<|JB I (by omega)<|Ja I<|Jn ?_;rotate_right)
  ·rw [hf,List.any_cons,show yx v o x=true by unfold yx;simp only [Zn,decide_eq_true_eq];exact au];rfl
  ·apply aG (k+1) ⟨(show k+1<=r.po.length from aM),by rw [hf,List.any_cons,show yx v o x=false by unfold yx;rw [<- Zar];simp only [Zn,decide_eq_true_eq];exact fun q=>au.elim (fun z=>z q.1) (fun z=>z q.2),Bool.false_or]⟩ (show r.po.length-(k+1)<r.po.length-k by omega)
   case hs1=>exact bS
   case ht=>(try simp only [Ze,Zf,Za]);exact .h1 .nil
 ·obtain rfl:k=r.po.length:=by omega
  rw [Z3] at hf;rw [hf]
  (refine Jq<|Jr<|Jv I<|bG I I ae<|JL I .here I<|JI I<|JA I<|Jn<|Jc I fun au=>Jp<|Jl<|Jo<|Jt<|Jr<|Ja I<|Jn<|Je<|JT ?_)
  rfl
theorem sX (h:0<=bA l s):∃ k:Nat,bA l s=k/\k<l.length:=⟨(bA l s).toNat,by omega,(fB h).1⟩
theorem Th (e:bA (cy r) s=k) (hk:k<r.de.length):k6 r s=(r.de[k]).mx:=by
 unfold k6;rw [if_pos (by omega),e,ZL,Zk,Zc hk];rfl
theorem Tf (h:¬ 0<=bA (cy r) s) (e:bA (cR r) s=k) (hk:k<r.ti.length):k6 r s=(r.ti[k]).fr:=by
 unfold k6;rw [if_neg h,if_pos (by omega),e,ZL,Zk,Zc hk];rfl
theorem Tg (h:¬ 0<=bA (cy r) s) (h2:¬ 0<=bA (cR r) s):k6 r s = -1:=by
 unfold k6;rw [if_neg h,if_neg h2]
theorem TA (e:bA (cK r) s=k) (hk:k<r.sr.length):kI r s=(r.sr[k]).mx:=by
 unfold kI;rw [if_pos (by omega),e,ZL,Zk,Zc hk];rfl
theorem Tz (h:¬ 0<=bA (cK r) s) (e:bA (cR r) s=k) (hk:k<r.ti.length):kI r s=(r.ti[k]).to:=by
 unfold kI;rw [if_neg h,if_pos (by omega),e,ZL,Zk,Zc hk];rfl
theorem TB (h:¬ 0<=bA (cK r) s) (h2:¬ 0<=bA (cR r) s):kI r s = -1:=by
 unfold kI;rw [if_neg h,if_neg h2]
theorem K7 {s d t p:Value} (o:ByteArray) {w:World} (h:RR w r s d t p):ak T_ 232 [RA r s d t p,.string o] w (.q (k6 r o)):=by
 obtain ⟨h1,h2,h3,h4⟩:=h.one;have hA:∀ w',aJ [] w w'->ak T_ 56 [.agg #[.int .i64 r.lv,.int .i64 r.ma,s,d,t,p],.string o] w' (.int .i64 (bA (cy r) o)):=fun w' hk=>tb o (h.keeps hk)
 have hB:∀ w',aJ [] w w'->ak T_ 60 [.agg #[.q r.lv,.q r.ma,s,d,t,p],.string o] w' (.q (bA (cR r) o)):=fun w' hk=>qJ o (h.keeps hk)
 have n1:(cy r).length=r.de.length:=by unfold cy;rw [Zd]
 have n2:(cR r).length=r.ti.length:=by unfold cR;rw [Zd]
 have hs:=h.de;obtain ⟨a,cp,b,o',rfl,dy,bT,ha,hc⟩:=hs;rw [bY] at *;have ht:=h.ti;obtain ⟨a2,pb,b2,o2,rfl,kq,eU,jB,kr⟩:=ht;rw [bQ] at *;unfold maxLen at bT eU;by_cases g1:0<=bA (cy r) o
 ·obtain ⟨k,e,hk⟩:=sX g1;rw [n1] at hk;rw [Th e hk];rw [e] at hA;have cu:=ha (iy hk);have aC:=(hc k _ (fN hk)).2;have c0:w.cell? ⟨b,o'+k*3+1,none⟩=some (.int .i64 (r.de[k]).mx):=aC 1 _ I;unfold RA;refine ah func232 I I ?_
  (refine Jr<|Jy I I fun _ _=>Ja I<|Jn<|Jq<|Jr<|ab (cm .here) I<|Jv I<|aj bb I (fun w' aB=>(hA w' (Mem.keeps aB)))<|Ja I<|Ji<|Jv I<|JG I<|Jn<|Jd I fun au=>Jr<|bG I I ae<|JL I .here I<|Jv I<|ab (an (.of I) (.of I) cu au (by omega) aW) I<|bG I I ae<|ab (ag (.of I) (At.base c0 I)) I<|Ja I<|Jn<|Ju<|JT ?_)
  rfl
 by_cases g2:0<=bA (cR r) o
 ·obtain ⟨k,e,hk⟩:=sX g2;rw [n2] at hk;rw [Tf g1 e hk];rw [e] at hB;have cu:=jB (fm hk);have aC:=(kr k _ (ef hk)).2;have c0:w.cell? ⟨b2,o2+k*3+1,none⟩=some (.int .i64 (r.ti[k]).fr):=aC 1 _ I;unfold RA;refine ah func232 I I ?_
  (refine Jr<|Jy I I fun _ _=>Ja I<|Jn<|Jq<|Jr<|ab (cm .here) I<|Jv I<|aj bb I (fun w' aB=>(hA w' (Mem.keeps aB)))<|Ja I<|Ji<|Jv I<|JG I<|Jn<|Jc I fun au=>Jk<|Jq<|Jr<|ab (cm .here) I<|Jv I<|aj bb I (fun w' aB=>(hB w' (Mem.keeps aB)))<|Ja I<|Ji<|Jv I<|JG I<|Jn<|Jd I fun au=>Jr<|bG I I ae<|JL I .here I<|Jv I<|ab (an (.of I) (.of I) cu au (by omega) aW) I<|bG I I ae<|ab (ag (.of I) (At.base c0 I)) I<|Ja I<|Jn<|Ju<|JT ?_)
  rfl
 rw [Tg g1 g2];unfold RA;refine ah func232 I I ?_
 (refine Jr<|Jy I I fun _ _=>Ja I<|Jn<|Jq<|Jr<|ab (cm .here) I<|Jv I<|aj bb I (fun w' aB=>(hA w' (Mem.keeps aB)))<|Ja I<|Ji<|Jv I<|JG I<|Jn<|Jc I fun au=>Jk<|Jq<|Jr<|ab (cm .here) I<|Jv I<|aj bb I (fun w' aB=>(hB w' (Mem.keeps aB)))<|Ja I<|Ji<|Jv I<|JG I<|Jn<|Jc I fun au=>Jk<|Jr<|Ja I<|Jn<|Je<|JT ?_)
 rfl
theorem Pr {s d t p:Value} (o:ByteArray) {w:World} (h:RR w r s d t p):ak T_ 231 [RA r s d t p,.string o] w (.q (kI r o)):=by
 obtain ⟨h1,h2,h3,h4⟩:=h.one;have hA:∀ w',aJ [] w w'->ak T_ 130 [.agg #[.int .i64 r.lv,.int .i64 r.ma,s,d,t,p],.string o] w' (.int .i64 (bA (cK r) o)):=fun w' hk=>sZ o (h.keeps hk)
 have hB:∀ w',aJ [] w w'->ak T_ 60 [.agg #[.q r.lv,.q r.ma,s,d,t,p],.string o] w' (.q (bA (cR r) o)):=fun w' hk=>qJ o (h.keeps hk)
 have n1:(cK r).length=r.sr.length:=by unfold cK;rw [Zd]
 have n2:(cR r).length=r.ti.length:=by unfold cR;rw [Zd]
 have hs:=h.sr;obtain ⟨a,cp,b,o',rfl,dy,bT,ha,hc⟩:=hs;rw [ct] at *;have ht:=h.ti;obtain ⟨a2,pb,b2,o2,rfl,kq,eU,jB,kr⟩:=ht;rw [bQ] at *;unfold maxLen at bT eU;by_cases g1:0<=bA (cK r) o
 ·obtain ⟨k,e,hk⟩:=sX g1;rw [n1] at hk;rw [TA e hk];rw [e] at hA;have cu:=ha (iK hk);have aC:=(hc k _ (fV hk)).2;have c0:w.cell? ⟨b,o'+k*2+1,none⟩=some (.int .i64 (r.sr[k]).mx):=aC 1 _ I;unfold RA;refine ah func231 I I ?_
  (refine Jr<|Jy I I fun _ _=>Ja I<|Jn<|Jq<|Jr<|ab (cm .here) I<|Jv I<|aj bb I (fun w' aB=>(hA w' (Mem.keeps aB)))<|Ja I<|Ji<|Jv I<|JG I<|Jn<|Jd I fun au=>Jr<|bG I I ae<|JL I .here I<|Jv I<|ab (an (.of I) (.of I) cu au (by omega) aW) I<|bG I I ae<|ab (ag (.of I) (At.base c0 I)) I<|Ja I<|Jn<|Ju<|JT ?_)
  rfl
 by_cases g2:0<=bA (cR r) o
 ·obtain ⟨k,e,hk⟩:=sX g2;rw [n2] at hk;rw [Tz g1 e hk];rw [e] at hB;have cu:=jB (fm hk);have aC:=(kr k _ (ef hk)).2;have c0:w.cell? ⟨b2,o2+k*3+2,none⟩=some (.int .i64 (r.ti[k]).to):=aC 2 _ I;unfold RA;refine ah func231 I I ?_
  (refine Jr<|Jy I I fun _ _=>Ja I<|Jn<|Jq<|Jr<|ab (cm .here) I<|Jv I<|aj bb I (fun w' aB=>(hA w' (Mem.keeps aB)))<|Ja I<|Ji<|Jv I<|JG I<|Jn<|Jc I fun au=>Jk<|Jq<|Jr<|ab (cm .here) I<|Jv I<|aj bb I (fun w' aB=>(hB w' (Mem.keeps aB)))<|Ja I<|Ji<|Jv I<|JG I<|Jn<|Jd I fun au=>Jr<|bG I I ae<|JL I .here I<|Jv I<|ab (an (.of I) (.of I) cu au (by omega) aW) I<|bG I I ae<|ab (ag (.of I) (At.base c0 I)) I<|Ja I<|Jn<|Ju<|JT ?_)
  rfl
 rw [TB g1 g2];unfold RA;refine ah func231 I I ?_
 (refine Jr<|Jy I I fun _ _=>Ja I<|Jn<|Jq<|Jr<|ab (cm .here) I<|Jv I<|aj bb I (fun w' aB=>(hA w' (Mem.keeps aB)))<|Ja I<|Ji<|Jv I<|JG I<|Jn<|Jc I fun au=>Jk<|Jq<|Jr<|ab (cm .here) I<|Jv I<|aj bb I (fun w' aB=>(hB w' (Mem.keeps aB)))<|Ja I<|Ji<|Jv I<|JG I<|Jn<|Jc I fun au=>Jk<|Jr<|Ja I<|Jn<|Je<|JT ?_)
 rfl
theorem Gi {s d t p:Value} (o:ByteArray) {w:World} (h:RR w r s d t p) (hf:kE r):ak T_ 230 [RA r s d t p,.string o] w (.q (eC r o)):=by
 obtain ⟨h1,h2,h3,h4⟩:=h.one;have hA:∀ w',aJ [] w w'->ak T_ 56 [.agg #[.int .i64 r.lv,.int .i64 r.ma,s,d,t,p],.string o] w' (.int .i64 (bA (cy r) o)):=fun w' hk=>tb o (h.keeps hk)
 have hB:∀ w',aJ [] w w'->ak T_ 60 [.agg #[.q r.lv,.q r.ma,s,d,t,p],.string o] w' (.q (bA (cR r) o)):=fun w' hk=>qJ o (h.keeps hk)
 have n2:(cR r).length=r.ti.length:=by unfold cR;rw [Zd]
 have hs:=h.de;obtain ⟨a,cp,b,o',rfl,dy,bT,ha,hc⟩:=hs;rw [bY] at *;obtain ⟨f1,f2,f3,f4⟩:=hf;have hq:0<=bA (cR r) o->bA (cR r) o<=1000000:=fun g=>by
  obtain ⟨k,e,hk⟩:=sX g;omega
 unfold RA;refine ah func230 I I ?_;unfold eC;generalize bA (cy r) o=x at hA ⊢;generalize bA (cR r) o=y at hB hq ⊢
 (refine Jr<|Jy I I fun _ _=>Ja I<|Jn<|Jq<|Jr<|ab (cm .here) I<|Jv I<|aj bb I (fun w' aB=>(hA w' (Mem.keeps aB)))<|Ja I<|Ji<|Jv I<|JG I<|Jn<|gG I (fun au=>?_) fun au=>?_;refine Jr<|Jv I<|Ja I<|Jn<|Ju<|JT ?_;rotate_left;refine Jk<|Jq<|Jr<|ab (cm .here) I<|Jv I<|aj bb I (fun w' aB=>(hB w' (Mem.keeps aB)))<|Ja I<|Ji<|Jv I<|JG I<|Jn<|gG I (fun au=>?_) fun au=>?_;refine Jr<|bG I I ae<|JL I .here I<|JI I<|Jv I<|JB I (by omega)<|Ja I<|Jn<|Ju<|JT ?_;rotate_left;refine Jk<|Jr<|Ja I<|Jn<|Je<|JT ?_;rotate_right;rotate_right)
 all_goals first | (rw [if_pos au];done) | (rw [if_neg ‹¬ 0<=x›,if_pos au];done) | (rw [if_neg ‹¬ 0<=x›,if_neg au];done)
theorem Fl {s d t p:Value} (o:ByteArray) {w:World} (h:RR w r s d t p):ak T_ 26 [RA r s d t p,.string o] w (.q (rm r o)):=by
 obtain ⟨h1,h2,h3,h4⟩:=h.one;have yG:∀ w',aJ [] w w'->ak T_ 56 [.agg #[.int .i64 r.lv,.int .i64 r.ma,s,d,t,p],.string o] w' (.int .i64 (bA (cy r) o)):=fun w' hk=>tb o (h.keeps hk)
 unfold RA;refine ah func26 I I ?_
 (refine Jr<|Jy I I fun _ _=>Ja I<|Ji<|ab (cm .here) I<|Jv I<|aj bb I (fun w' aB=>(yG w' (Mem.keeps aB)))<|JA I<|aj bb I (fun w' aB=>(l8 _ 10 w'))<|Ja I<|Jn<|Je<|JT ?_)
 rfl
theorem BH (po:List Po) (v:Int):∀ (n:Nat) (o:ByteArray),(qi po v n o).length<=n
 | 0,_=>Zz _
 | n + 1, o => by
  rw [qi];split
  ·exact Zi _
  ·rw [ZE];exact Nat.succ_le_succ (BH po v n _)
theorem GZ {s d t p:Value} (v:Int) (o:ByteArray) (n:Nat) (hn:n<=1000) {w:World} (h:RR w r s d t p):bh T_ 132 [RA r s d t p,.q v,.string o,.q (n:Nat)] w [] (fun _:Value=>True) id (fun x=>[row 9 1 x (qi r.po v n o).length (aP (qi r.po v n o))]):=by
 obtain ⟨h1,h2,h3,h4⟩:=h.one;have mY:∀ (o':ByteArray) w',aJ [] w w'->ak T_ 133 [.agg #[.int .i64 r.lv,.int .i64 r.ma,s,d,t,p],.int .i64 v,.string o'] w' (.string ((eB r.po v o').getD ⟨#[]⟩)):=fun o' w' hk=>qF v o' (h.keeps hk)
 unfold RA;refine aR func132 I I ?_;refine Jr<|Jy I I fun _ _=>Ja I<|Ji<|Ja I<|Jn<|Jq<|Jr<|Ja I<|Jn<|J0 ?_;rename_i b4 uT;refine aN 9 1 ?_;refine aV (ι:=Nat×ByteArray×Value×List ByteArray) (fun y=>y.1<=n/\y.2.2.2.length=y.1/\qi r.po v n o=y.2.2.2++qi r.po v (n-y.1) y.2.1) (fun y=>[(10,.q (y.1:Nat)),(9,y.2.2.1),(2,.string y.2.1),(1,.q v),(3,.q (n:Nat)),(4,.p b4)]) (fun y=>[row 9 1 y.2.2.1 y.1 (aP y.2.2.2),JQ b4 r s d t p]) (fun y=>n-y.1) ?_ ?_
 ·apply aI (0,o,.z,[]) ⟨Zi _,I,I⟩
  case hs1=>exact bS
  case ht=>
   exact .h2 .nil
 rintro ⟨k,o',v',L⟩ ⟨hk,hL,hc⟩;dsimp only at hk hL hc ⊢;have hlen:(aP L).length=k*1:=by rw [c6,hL];omega
 by_cases aM:k<n/\o'≠⟨#[]⟩
 ·obtain ⟨g1,g2⟩:=aM;have kr:qi r.po v n o=(L++[o'])++qi r.po v (n-(k+1)) ((eB r.po v o').getD ⟨#[]⟩):=by
   rw [hc,show n-k=(n-(k+1))+1 by omega,qi,if_neg g2,Zh];rfl
  (refine Jq<|Jr<|Jv I<|Jv I<|JA I<|Jv I<|jz I I I I<|aH I I inferInstance (fun hg bE=>(fy (.bM hg I) (.of I))) I<|ab (ch (.of I) I) I<|Jn<|nW I (fun au=>?_) fun au=>?_;refine Jk<|Jq<|J0<|Jr<|Jv I<|Jv I<|a8 (aD (.o I .nil) I I I I) I fun _ _=>?_;rotate_left;refine Jp<|Jl<|Jo<|Jt<|Jr<|Jv I<|Ja I<|Jn<|Je ?_;rotate_right)
  refine bn (.of I) (.of I) (.there .here) .here ai (by rfl) (dG I) (by rfl) (by rfl) (by rfl) dW (by rfl) ?_;intro x
  (refine Ja I<|Jn<|Jg<|ab (cm bI) I<|Jv I<|Jv I<|aj eo I (fun w' aB=>(mY o' w' (Mem.keeps aB)))<|Ja I<|Jx<|Jj<|Jt<|Jg<|Jv I<|JB I (by omega)<|Ja I<|Jn ?_)
  apply aG (k+1,(eB r.po v o').getD ⟨#[]⟩,x,L++[o']) ⟨by show k+1<=n;omega,by show (L++[o']).length=k+1;rw [Zg,hL];rfl,kr⟩ (by show n-(k+1)<n-k;omega)
  case hs1=>exact bS
  case ht=>
   show bC _ [row 9 1 x (k+1) (aP (L++[o'])),JQ b4 r s d t p] _;rw [show aP (L++[o'])=aP L++[.string o'] from eT _ _];exact .h1 (.cons (.there .here) .nil)
  exact au.elim (fun z=>absurd (show ((k:Nat):Int)<(n:Nat) by omega) z) (fun z=>absurd g2 z)
 ·have he:qi r.po v n o=L:=by
   rw [hc];by_cases g:k<n
   ·have:o'=⟨#[]⟩:=Classical.byContradiction fun q=>aM ⟨g,q⟩
    rw [this,R2,ZN]
   ·rw [show n-k=0 by omega,qi,ZN]
  have L4:¬ ((k:Nat):Int)<(n:Nat)\/¬ o'≠⟨#[]⟩:=by
   by_cases g:k<n
   ·exact .inr fun q=>aM ⟨g,q⟩
   ·exact .inl (by omega)
  rw [he,hL]
  (refine Jq<|Jr<|Jv I<|Jv I<|JA I<|Jv I<|jz I I I I<|aH I I inferInstance (fun hg bE=>(fy (.bM hg I) (.of I))) I<|ab (ch (.of I) I) I<|Jn<|nW I (fun au=>?_) fun au=>?_;refine Jk<|Jq<|J0<|Jr<|Jv I<|Jv I<|a8 (aD (.o I .nil) I I I I) I fun _ _=>?_;rotate_left;refine Jp<|Jl<|Jo<|Jt<|Jr<|Jv I<|Ja I<|Jn<|Je ?_;rotate_right)
  ·exact absurd au (by intro q;rcases L4 with z | z;exact z q.1;exact z q.2)
  first | with_reducible apply aO | with_reducible apply aQ
  case he=>exact dI I I
  case hR=>
   intro w' aB;exact aF v' trivial (by exact .h1 .nil) aB I

def Cd (r:Ro) (v:Int) (o:ByteArray):List ByteArray:=if bA (cK r) ((qi r.po v 8 o).getLastD ⟨#[]⟩)<0 then [] else (qi r.po v 8 o).reverse
theorem N7 {s d t p:Value} (v:Int) (o:ByteArray) (ho:o≠⟨#[]⟩) {w:World} (h:RR w r s d t p):bh T_ 31 [RA r s d t p,.q v,.string o] w [] (fun _:Value=>True) id (fun x=>[row 9 1 x (Cd r v o).length (aP (Cd r v o))]):=by
 obtain ⟨h1,h2,h3,h4⟩:=h.one;have Mg:∀ (o':ByteArray) w',aJ [] w w'->ak T_ 130 [.agg #[.int .i64 r.lv,.int .i64 r.ma,s,d,t,p],.string o'] w' (.int .i64 (bA (cK r) o')):=fun o' w' hk=>sZ o' (h.keeps hk)
 have PU:∀ w',aJ [] w w'->bh T_ 132 [.agg #[.q r.lv,.q r.ma,s,d,t,p],.q v,.string o,.q 8] w' [] (fun _:Value=>True) id (fun x=>[row 9 1 x (qi r.po v 8 o).length (aP (qi r.po v 8 o))]):=fun w' hk=>GZ v o 8 (by decide) (h.keeps hk)
 have hle:=BH r.po v 8 o;obtain ⟨m,hm⟩:∃ m,(qi r.po v 8 o).length=m+1:=by
  rw [qi,if_neg ho];exact ⟨_,I⟩
 unfold Cd;generalize qi r.po v 8 o=L at PU hle hm ⊢;rw [hm] at PU;unfold RA;refine aR func31 I I ?_
 (refine Jr<|Jy I I fun _ _=>Ja I<|Ji<|ab (cm .here) I<|Jv I<|Jv I ?_)
 refine JN rZ I (fun w1 aT=>PU w1 aT.keeps) ?_;intro x _;dsimp only [id_eq,Zb,Za];refine Ja I<|Jn<|Jq<|Jq ?_;rename_i b3 uf;refine dA (E:=9) (sz:=1) (v:=x) (by exact .here) (Nat.succ_pos m) ?_;rintro g gc cur e dy _ _ _;subst e;have Rp:(aP L++cur)[m*1]? = some (.string (L.getLastD ⟨#[]⟩)):=by
  rw [si L cur (by omega)];congr 2;rw [List.getLastD_eq_getLast?,List.getLast?_eq_getElem?,show L.length-1=m by omega,Zc (by omega)];rfl
 have Ma:(aP L++cur)[(((Nat.succ m:Nat):Int)-1).toNat*1]? = some (.string (L.getLastD ⟨#[]⟩)):=by
  rw [show (((Nat.succ m:Nat):Int)-1).toNat=m by omega];exact Rp
 with_reducible refine cJ 7 (by kernel_rfl) ?_
 (refine ar (cm (.there .here)) I ?_;refine fW I I ?_;refine fW I I ?_;refine ar (cq (.of I)) I ?_;refine ar (tK (.of I) (.of I) (Tx (by omega))) I ?_;refine ar (an (.of I) (.of I) I (by omega) (by omega) aW) I ?_;refine ar (ag (.of I) (At.mJ .here Ma)) I ?_)
 with_reducible refine cN ?_
 (refine aj bb I (fun w' aB=>(Mg _ w' (Mem.keeps aB)))<|JA I<|Jn<|gG I (fun au=>?_) fun au=>?_;refine Jr<|Ja I<|Jn<|Ju ?_;rotate_left;refine Jk<|Jr<|Ja I<|Jn<|Jq<|Jr<|Jv I<|JI I<|JS I (by omega)<|Ja I<|Jn<|J0 ?_;rotate_right)
 ·rw [if_pos au];refine aN 9 1 ?_
  first | with_reducible apply aO | with_reducible apply aQ
  case he=>exact dI I I
  case hR=>
   intro w' aB;exact aF (.z) trivial (by exact .h1 .nil) aB I
 rw [if_neg au];refine aN 9 1 ?_;refine aV (ι:=Nat×Int×Value) (fun y=>y.1<=m+1/\y.2.1=(m:Int)-y.1) (fun y=>[(9,.q y.2.1),(8,y.2.2),(7,.w g m.succ gc)]) (fun y=>[row 9 1 y.2.2 y.1 (aP (L.reverse.take y.1)),bz g (.cells (aP L++cur).toArray 9 (0,0))]) (fun y=>m+1-y.1) ?_ ?_
 ·apply aI (0,((Nat.succ m:Nat):Int)-1,.z) ⟨Zi _,by show ((Nat.succ m:Nat):Int)-1=(m:Int)-((0:Nat):Int);omega⟩
  case hs1=>exact bS
  case ht=>
   exact .h2 .nil
 rintro ⟨k,i,v'⟩ ⟨hk,hi⟩;dsimp only at hk hi ⊢;clear Rp Ma au;have WK:L.reverse.length=m+1:=by rw [List.length_reverse,hm]
 by_cases aM:k<m+1
 ·have hj:(aP L++cur)[i.toNat*1]? = some (.string (L.reverse[k]'(by omega))):=by
   rw [show i.toNat=m-k by omega,si L cur (by omega),List.getElem_reverse];congr 3;omega
  have htk:aP (L.reverse.take (k+1))=aP (L.reverse.take k)++[.string (L.reverse[k]'(by omega))]:=by
   rw [Zm (by omega)];exact eT _ _
  have hlen:(aP (L.reverse.take k)).length=k*1:=by rw [c6,Zq];omega
  generalize L.reverse[k]'(by omega)=z at hj htk
  (refine Jq<|Jr<|Jv I<|JG I<|Jn<|Jd I fun au=>Jk<|Jq<|J0<|Jg<|Jv I<|Jv I<|Jv I<|ab (an (.of I) (.of I) I au (by omega) aW) I ?_;refine ab (ag (.of I) (At.mJ (.there .here) hj)) I ?_;refine a8 (aD (.o I .nil) I I I I) I fun _ _=>?_)
  refine bn (.of I) (.of I) (.there .here) .here ai (by rfl) (dG I) (by rfl) (by rfl) (by rfl) dW (by rfl) ?_;intro q;refine Ja I<|Jx<|Jj<|Jt<|Jg<|Jv I<|JS I (by omega)<|Ja I<|Jn ?_;apply aG (k+1,i-1,q) ⟨by show k+1<=m+1;omega,by show i-1=(m:Int)-((k+1:Nat):Int);omega⟩ (by show m+1-(k+1)<m+1-k;omega)
  case hs1=>exact bS
  case ht=>
   show bC _ [row 9 1 q (k+1) (aP (L.reverse.take (k+1))),bz g (.cells (aP L++cur).toArray 9 (0,0))] _;rw [htk];exact .h1 (.cons (.there .here) .nil)
 obtain rfl:k=m+1:=by omega
 rw [Zab (by omega)];refine Jq<|Jr<|Jv I<|JG I<|Jn<|Jc I fun au=>Jp<|Jl<|Jo<|Jt<|Jr<|Jv I<|Ja I<|Jn<|Je ?_
 first | with_reducible apply aO | with_reducible apply aQ
 case he=>exact dI I I
 case hR=>
  intro w' aB;rw [WK];exact aF v' trivial (by exact .h1 .nil) aB I
def Qu (r:Ro) (v:Int) (o:ByteArray):ByteArray:=(Cd r v o).headD ⟨#[]⟩
theorem qO {s d t p:Value} (v:Int) (o:ByteArray) (ho:o≠⟨#[]⟩) {w:World} (h:RR w r s d t p):ak T_ 131 [RA r s d t p,.q v,.string o] w (.string (Qu r v o)):=by
 obtain ⟨h1,h2,h3,h4⟩:=h.one;have TL:∀ w',aJ [] w w'->bh T_ 31 [.agg #[.int .i64 r.lv,.int .i64 r.ma,s,d,t,p],.int .i64 v,.string o] w' [] (fun _:Value=>True) id (fun x=>[row 9 1 x (Cd r v o).length (aP (Cd r v o))]):=fun w' hk=>N7 v o ho (h.keeps hk)
 unfold Qu;generalize Cd r v o=L at TL ⊢;unfold RA;refine ah func131 I I ?_
 (refine Jr<|Jy I I fun _ _=>Ja I<|Ji<|ab (cm .here) I<|Jv I<|Jv I ?_)
 refine JN eo I (fun w1 aT=>TL w1 aT.keeps) ?_;intro x _;dsimp only [id_eq,Zb,Za];cases L with
 | nil =>
  refine aK (E:=9) (sz:=1) (v:=x) (by exact .here) fun xa xc e=>?_;subst e
  (refine Ja I<|Jn<|Jq<|Jr<|Jv I<|JI I<|JC I<|Jn<|gG I (fun au=>?_) fun au=>?_;refine Jr<|Ja I<|Jn<|Ju<|JT ?_;rotate_left;refine Jk<|Jr<|Jv I ?_;rotate_right)
  all_goals first | rfl | exact absurd I au
 | cons y L =>
  refine dA (E:=9) (sz:=1) (v:=x) (by exact .here) (by exact Nat.succ_pos _) ?_;rintro g gc cur e dy _ _ _;subst e;have jA:(aP (y::L)++cur)[0*1]? = some (.string y):=rfl;have vG:(y::L).length=L.length+1:=rfl;rw [vG]
  (refine Ja I<|Jn<|Jq<|Jr<|Jv I<|JI I<|JC I<|Jn<|Jc I fun au=>Jk<|Jr<|Jv I<|ab (an (.of I) (.of I) I (by omega) (by omega) aW) I<|JL I .here I<|Ja I<|Jn<|Je<|JT ?_)
  all_goals first | rfl | omega

theorem Mo {lv:Value} (o:ByteArray) {w:World} (h:Rd w lv 1 (gT l)):ak T_ 59 [lv,.string o] w (.bool (jL l o)):=by
 obtain ⟨a,cp,b,o',rfl,dy,bT,ha,hc⟩:=h;rw [bF] at *;unfold maxLen at bT;refine ah func59 I I ?_;refine Jr<|Ja I<|Jn<|Jq<|Jr<|Ja I<|Jn<|J0 ?_;refine aV (ι:=Nat) (fun k=>k<=l.length/\∀ j (hj:j<l.length),j<k->l[j]≠o) (fun k=>[(5,.int .i64 (k:Nat)),(0,.slice a l.length cp),(1,.string o)]) (fun _=>[]) (fun k=>l.length-k) ?_ ?_
 ·apply aI (0:Nat) ⟨Zi _,fun j _ hj=>absurd hj (ZU _)⟩
  case hs1=>exact bS
  case ht=>(try simp only [Ze,Zf,Za]);exact .nil
 rintro k ⟨hk,hf⟩;by_cases aM:k<l.length
 ·have cu:=ha (ij aM);have c0:w.cell? ⟨b,o'+k*1,none⟩=some (.string l[k]):=(hc k _ (fw aM)).2 0 _ I;have hm:=Zj aM;have yg:l[k]≠o->∀ j (hj:j<l.length),j<k+1->l[j]≠o:=fun q j hj NH=>by
   by_cases e:j=k
   ·subst e;exact q
   ·exact hf j hj (by omega)
  generalize l[k]=x at c0 hm yg
  (refine Jq<|Jr<|Jv I<|Jv I<|JI I<|JA I<|Jn<|Jd I fun au=>Jk<|Jq<|J0<|Jr<|Jv I<|Jv I<|ab (fY cu au) I<|ab (ag (.of I) (At.base c0 I)) I<|Jv I<|ab (dB (.of I) (.of I)) I<|Jn<|gG I (fun au=>?_) fun au=>?_;refine Jr<|Ja I<|Jn<|Je<|Jm<|Jh<|Jh<|Jm<|Jh<|JT ?_;rotate_left;refine Jw<|Jj<|Jt<|Jg<|Jv I<|JB I (by omega)<|Ja I<|Jn ?_;rotate_right)
  ·have uO:x=o:=au;rw [fG.2 (uO ▸ hm)]
  ·have uO:¬ x=o:=au;apply aG (k+1) ⟨(show k+1<=l.length from aM),yg uO⟩ (show l.length-(k+1)<l.length-k by omega)
   case hs1=>exact bS
   case ht=>(try simp only [Ze,Zf,Za]);exact .nil
 ·have e:jL l o=false:=by
   rw [<- Zar,fG];intro q;obtain ⟨j,hj,e⟩:=ZA q;exact hf j hj (by omega) e
  obtain rfl:k=l.length:=by omega
  rw [e];refine Jq<|Jr<|Jv I<|Jv I<|JI I<|JA I<|Jn<|Jc I fun au=>Jp<|Jl<|Jo<|Jt<|Jr<|Ja I<|Jn<|Je<|JT ?_
  rfl
theorem Gp {s d t p:Value} {w:World} (h:RR w r s d t p) (hf:kE r):bh T_ 77 [RA r s d t p] w [] (fun _:Value=>True) id (fun x=>[row 9 1 x (eI r).length (aP (eI r))]):=by
 obtain ⟨h1,h2,h3,h4⟩:=h.one;have C9:=h.sr;have Dk:=h.de;have yy:=h.ti;obtain ⟨a1,ei,IW,IL,rfl,oP,iI,lF,kS⟩:=C9;obtain ⟨a2,db,IV,IK,rfl,kq,eU,jB,kr⟩:=Dk;obtain ⟨a3,dV,G1,Gj,rfl,nb,gC,se,o9⟩:=yy;rw [ct] at *;rw [bY] at *;rw [bQ] at *;unfold maxLen at iI eU gC;obtain ⟨f1,f2,f3,f4⟩:=hf;unfold RA;refine aR func77 I I ?_;refine Jr<|Jy I I fun _ _=>Ja I<|Ji<|Ja I<|Jn<|Jq<|Jr<|Ja I<|Jn<|J0 ?_;rename_i b1 r9;refine aN 9 1 ?_;refine aV (ι:=Nat×Value×List ByteArray) (fun y=>y.1<=r.sr.length/\y.2.2=([]:List ByteArray)++(cK r).take y.1) (fun y=>[(4,.int .i64 (y.1:Nat)),(3,y.2.1),(1,.pointer (some ⟨b1,0,none⟩))]) (fun y=>[row 9 1 y.2.1 y.2.2.length (aP y.2.2),JQ b1 r (.slice a1 r.sr.length ei) (.slice a2 r.de.length db) (.slice a3 r.ti.length dV) p]) (fun y=>r.sr.length-y.1) ?_ ?_
 ·apply aI (0,.z,[]) ⟨Zi _,I⟩
  case hs1=>exact bS
  case ht=>
   exact .h2 .nil
 rintro ⟨k,v1,L1⟩ ⟨hk,Vw⟩;dsimp only at hk Vw ⊢;have nn1:(cK r).length=r.sr.length:=by unfold cK;rw [Zd]
 by_cases aM:k<r.sr.length
 ·have DZ:L1.length=(([]:List ByteArray)).length+k:=by rw [Vw,Zg,Zq];omega
  have hLb:L1.length<=3000000:=by rw [DZ];simp only [Zae];omega
  have hlen:(aP L1).length=L1.length*1:=by rw [c6];omega
  have cu:=lF (iK aM);have c0:w.cell? ⟨IW,IL+k*2,none⟩=some (.string (r.sr[k]).nm):=(kS k _ (fV aM)).2 0 _ I;have hx:(cK r)[k]'(by omega)=(r.sr[k]).nm:=by unfold cK;rw [Z2]
  have qI:L1++[(r.sr[k]).nm]=([]:List ByteArray)++(cK r).take (k+1):=by rw [Zm (by omega),hx,<- Zh,<- Vw]
  generalize (r.sr[k]).nm=x at c0 hx qI
  (refine Jq<|Jr<|Jv I<|bG I I ae<|JL I (.there .here) I<|JI I<|JA I<|Jn<|Jd I fun au=>Jk<|Jq<|J0<|Jg<|Jv I<|bG I I ae<|JL I (.there .here) I<|Jv I<|ab (fY cu au) I<|bG I I ae<|ab (ag (.of I) (At.base c0 I)) I<|a8 (aD (.o I .nil) I I I I) I fun _ _=>?_)
  refine bn (.of I) (.of I) (.there .here) .here ai (by rfl) (dG I) (by rfl) (by rfl) (by rfl) dW (by rfl) ?_;intro z;refine Ja I<|Jx<|Jj<|Jt<|Jg<|Jv I<|JB I (by omega)<|Ja I<|Jn ?_;apply aG (k+1,z,L1++[x]) ⟨by show k+1<=r.sr.length;omega,qI⟩ (by show r.sr.length-(k+1)<r.sr.length-k;omega)
  case hs1=>exact bS
  case ht=>
   show bC _ [row 9 1 z (L1++[x]).length (aP (L1++[x])),JQ b1 r (.slice a1 r.sr.length ei) (.slice a2 r.de.length db) (.slice a3 r.ti.length dV) p] _;rw [show aP (L1++[x])=aP L1++[.string x] from eT _ _,Zg,Z8];exact .h1 (.cons (.there .here) .nil)
 obtain rfl:k=r.sr.length:=by omega
 rw [Zab (by omega)] at Vw;clear hk aM
 (refine Jq<|Jr<|Jv I<|bG I I ae<|JL I (.there .here) I<|JI I<|JA I<|Jn<|Jc I fun au=>Jp<|Jl<|Jo<|Jt<|Jq<|Jr<|Ja I<|Jn<|J0 ?_)
 rw [Za] at Vw;refine aV (ι:=Nat×Value×List ByteArray) (fun y=>y.1<=r.de.length/\y.2.2=cK r++(cy r).take y.1) (fun y=>[(5,.q (y.1:Nat)),(3,y.2.1),(1,.p b1)]) (fun y=>[row 9 1 y.2.1 y.2.2.length (aP y.2.2),JQ b1 r (.slice a1 r.sr.length ei) (.slice a2 r.de.length db) (.slice a3 r.ti.length dV) p]) (fun y=>r.de.length-y.1) ?_ ?_
 ·apply aI (0,v1,L1) ⟨Zi _,by rw [Ze,ZN];exact Vw⟩
  case hs1=>exact bS
  case ht=>
   exact .h2 .nil
 rintro ⟨k,v2,L2⟩ ⟨hk,qI⟩;dsimp only at hk qI ⊢;have nn2:(cy r).length=r.de.length:=by unfold cy;rw [Zd]
 by_cases aM:k<r.de.length
 ·have DZ:L2.length=(cK r).length+k:=by rw [qI,Zg,Zq];omega
  have hLb:L2.length<=3000000:=by rw [DZ];rw [nn1];omega
  have hlen:(aP L2).length=L2.length*1:=by rw [c6];omega
  have cu:=jB (iy aM);have c0:w.cell? ⟨IV,IK+k*3,none⟩=some (.string (r.de[k]).nm):=(kr k _ (fN aM)).2 0 _ I;have hx:(cy r)[k]'(by omega)=(r.de[k]).nm:=by unfold cy;rw [Z2]
  have qI:L2++[(r.de[k]).nm]=cK r++(cy r).take (k+1):=by rw [Zm (by omega),hx,<- Zh,<- qI]
  generalize (r.de[k]).nm=x at c0 hx qI
  (refine Jq<|Jr<|Jv I<|bG I I ae<|JL I (.there .here) I<|JI I<|JA I<|Jn<|Jd I fun au=>Jk<|Jq<|J0<|Jg<|Jv I<|bG I I ae<|JL I (.there .here) I<|Jv I<|ab (fY cu au) I<|bG I I ae<|ab (ag (.of I) (At.base c0 I)) I<|a8 (aD (.o I .nil) I I I I) I fun _ _=>?_)
  refine bn (.of I) (.of I) (.there .here) .here ai (by rfl) (dG I) (by rfl) (by rfl) (by rfl) dW (by rfl) ?_;intro z;refine Ja I<|Jx<|Jj<|Jt<|Jg<|Jv I<|JB I (by omega)<|Ja I<|Jn ?_;apply aG (k+1,z,L2++[x]) ⟨by show k+1<=r.de.length;omega,qI⟩ (by show r.de.length-(k+1)<r.de.length-k;omega)
  case hs1=>exact bS
  case ht=>
   show bC _ [row 9 1 z (L2++[x]).length (aP (L2++[x])),JQ b1 r (.slice a1 r.sr.length ei) (.slice a2 r.de.length db) (.slice a3 r.ti.length dV) p] _;rw [show aP (L2++[x])=aP L2++[.string x] from eT _ _,Zg,Z8];exact .h1 (.cons (.there .here) .nil)
 obtain rfl:k=r.de.length:=by omega
 rw [Zab (by omega)] at qI;clear hk aM
 (refine Jq<|Jr<|Jv I<|bG I I ae<|JL I (.there .here) I<|JI I<|JA I<|Jn<|Jc I fun au=>Jp<|Jl<|Jo<|Jt<|Jq<|Jr<|Ja I<|Jn<|J0 ?_)
 refine aV (ι:=Nat×Value×List ByteArray) (fun y=>y.1<=r.ti.length/\y.2.2=(cK r++cy r)++(cR r).take y.1) (fun y=>[(6,.q (y.1:Nat)),(3,y.2.1),(1,.p b1)]) (fun y=>[row 9 1 y.2.1 y.2.2.length (aP y.2.2),JQ b1 r (.slice a1 r.sr.length ei) (.slice a2 r.de.length db) (.slice a3 r.ti.length dV) p]) (fun y=>r.ti.length-y.1) ?_ ?_
 ·apply aI (0,v2,L2) ⟨Zi _,by rw [Ze,ZN];exact qI⟩
  case hs1=>exact bS
  case ht=>
   exact .h2 .nil
 rintro ⟨k,v3,L3⟩ ⟨hk,RE⟩;dsimp only at hk RE ⊢;have nn3:(cR r).length=r.ti.length:=by unfold cR;rw [Zd]
 by_cases aM:k<r.ti.length
 ·have DZ:L3.length=((cK r++cy r)).length+k:=by rw [RE,Zg,Zq];omega
  have hLb:L3.length<=3000000:=by rw [DZ];rw [Zg,nn1,nn2];omega
  have hlen:(aP L3).length=L3.length*1:=by rw [c6];omega
  have cu:=se (fm aM);have c0:w.cell? ⟨G1,Gj+k*3,none⟩=some (.string (r.ti[k]).nm):=(o9 k _ (ef aM)).2 0 _ I;have hx:(cR r)[k]'(by omega)=(r.ti[k]).nm:=by unfold cR;rw [Z2]
  have qI:L3++[(r.ti[k]).nm]=(cK r++cy r)++(cR r).take (k+1):=by rw [Zm (by omega),hx,<- Zh,<- RE]
  generalize (r.ti[k]).nm=x at c0 hx qI
  (refine Jq<|Jr<|Jv I<|bG I I ae<|JL I (.there .here) I<|JI I<|JA I<|Jn<|Jd I fun au=>Jk<|Jq<|J0<|Jg<|Jv I<|bG I I ae<|JL I (.there .here) I<|Jv I<|ab (fY cu au) I<|bG I I ae<|ab (ag (.of I) (At.base c0 I)) I<|a8 (aD (.o I .nil) I I I I) I fun _ _=>?_)
  refine bn (.of I) (.of I) (.there .here) .here ai (by rfl) (dG I) (by rfl) (by rfl) (by rfl) dW (by rfl) ?_;intro z;refine Ja I<|Jx<|Jj<|Jt<|Jg<|Jv I<|JB I (by omega)<|Ja I<|Jn ?_;apply aG (k+1,z,L3++[x]) ⟨by show k+1<=r.ti.length;omega,qI⟩ (by show r.ti.length-(k+1)<r.ti.length-k;omega)
  case hs1=>exact bS
  case ht=>
   show bC _ [row 9 1 z (L3++[x]).length (aP (L3++[x])),JQ b1 r (.slice a1 r.sr.length ei) (.slice a2 r.de.length db) (.slice a3 r.ti.length dV) p] _;rw [show aP (L3++[x])=aP L3++[.string x] from eT _ _,Zg,Z8];exact .h1 (.cons (.there .here) .nil)
 obtain rfl:k=r.ti.length:=by omega
 rw [Zab (by omega)] at RE;clear hk aM
 (refine Jq<|Jr<|Jv I<|bG I I ae<|JL I (.there .here) I<|JI I<|JA I<|Jn<|Jc I fun au=>Jp<|Jl<|Jo<|Jt<|Jr<|Jv I<|Ja I<|Jn<|Je ?_)
 have e:eI r=L3:=RE.symm;rw [e]
 first | with_reducible apply aO | with_reducible apply aQ
 case he=>exact dI I I
 case hR=>
  intro w' aB;exact aF v3 trivial (by exact .h1 .nil) aB I
theorem vK (h:fZ r=0):Iv r:=prt (uu h).2.1
theorem LF (h:fZ r=0):∀ p∈r.po,p.ip≠⟨#[]⟩:=fun p hp=>
 (vK h).ne (((BY h).val.yf p hp).elim .inl fun q=>.inr (.inr q))
theorem MX (h:fZ r=0) {v:Int} {o:ByteArray} (ho:o≠⟨#[]⟩):qi r.po v 8 o=o::fJ r.po v 7 o:=vL (LF h) 7 ho
theorem MW (h:fZ r=0) {v:Int} {o:ByteArray} (ho:o≠⟨#[]⟩):(qi r.po v 8 o).getLastD ⟨#[]⟩=iL r.po v 7 o:=by
 rw [MX h ho,List.getLastD_cons];unfold iL;cases fJ r.po v 7 o with
 | nil=>rfl
 | cons a l=>rw [List.getLastD_eq_getLast?]
theorem vM (h:fZ r=0) (v:Int) {o:ByteArray} (ho:o≠⟨#[]⟩):Qu r v o=jD r v o:=by
 rw [xL (BY h).wJ (BY h).val];unfold Qu Cd qK;rw [MW h ho,MX h ho];split
 ·rfl
 ·rw [List.reverse_cons];unfold iL;cases e:fJ r.po v 7 o with
  | nil=>rfl
  | cons a l =>
   rw [List.headD_eq_head?_getD,List.head?_append,List.head?_reverse];cases q:(a::l).getLast? with
   | none=>exact absurd (List.getLast?_eq_none_iff.1 q) (by simp)
   | some y=>rfl
def ckQ (r:Ro):Int:=if oD r≠0 then oD r else if kK r≠0 then kK r else AX r
theorem UO (r:Ro):ckQ r=fZ r:=by
 unfold ckQ fZ;by_cases h1:oD r=0
 ·rw [if_neg (not_not_intro h1),if_neg (not_not_intro h1)];by_cases h2:kK r=0
  ·rw [if_neg (not_not_intro h2),if_neg (not_not_intro h2),OR (prt h2)]
  ·rw [if_pos h2,if_pos h2]
 ·rw [if_pos h1,if_pos h1]
end Go.Proofs.A1
