/- Parts of the proof: LP POpen LQ LR LS LT LU LV LW LX LY P6c P6e. -/
import Derived.Test.YteonnodafmegaaaGreatDoorKM12
import Derived.Test.YteonnodafmegaaaGreatDoorKM04
import Derived.Test.YteonnodafmegaaaGreatDoorTie
import Derived.Test.YteonnodafmegaaaGreatDoorCards
import Derived.Lib.SmallJoins
import Derived.Lib.LaidTab
import Derived.Deep.Slices
import Derived.Deep.Fields
import Derived.ChangeSame
import Derived.ChangeBook
import Derived.ChangeStays
import Derived.WalkKit
import Derived.ProofKit
import Derived.OpenShut
import Derived.Below
import Derived.LaidMore
import Derived.Lay
import Derived.SevenTiedAt
import Derived.Stop.Joined
import Derived.ChangeMaps5
import Derived.Test.YteonnodafmegaaaGreatDoorKM10
set_option linter.unusedSectionVars false
set_option linter.unusedVariables false
set_option linter.unusedSimpArgs false
namespace Go.Proofs.A1
open Go Go.SL
open Tryz
open Tryz renaming prog->T_
variable {Y:List ByteArray} {af:Array Edge} {c:Cx} {d:Value} {dst:Option Tmp} {e:Int} {fz:Nat×Nat} {g:Option (Nat×Bool)} {hs hs':List bh} {l:List gL} {p:Value} {pos:String} {r:Ro} {s:Value} {sl:aD} {t v v1 v2:Value}
theorem cT {D:List Nat} {hs rest:List bh} {X:Act->World->Prop} (hs2:List bh) (ht:bK hs hs2 rest) (k:Tr c D sl hs2 X):Tr c D sl hs X:=fun a w bj=>k a w (bj.heap (by
 have h1:=bj.mem.jo (ht.append (mN D));obtain ⟨kk,fp,hn,gY,hb⟩:=h1;obtain ⟨f1,f23,rfl,g1,g23⟩:=cA.append_iff.1 gY;obtain ⟨f2,f3,rfl,g2,g3⟩:=cA.append_iff.1 g23;obtain ⟨n1,n23,n12⟩:=Zx.1 hn;obtain ⟨n2,n3,n4⟩:=Zx.1 n23;exact ⟨kk,f1++f3,Zx.2 ⟨n1,n3,fun x hx y hy=>n12 x hx y (ZM _ hy)⟩,cA.append_iff.2 ⟨f1,f3,I,g1,g3⟩,fun b dK=>hb b (by
  rcases Zq.1 dK with h | h
  ·exact ZD _ h
  ·exact ZM _ (ZM _ h))⟩))
theorem r6:me mh:=⟨by decide,by decide,by decide⟩
theorem F1:me gn:=⟨by decide,by decide,by decide⟩
theorem F0:me ig:=⟨by decide,by decide,by decide⟩
theorem VE:me DP:=⟨by decide,by decide,by decide⟩
theorem AW:mu gn:=⟨by decide,by decide,by decide,by decide⟩
theorem AV:mu ig:=⟨by decide,by decide,by decide,by decide⟩
theorem aav:mu xy:=⟨by decide,by decide,by decide,by decide⟩
theorem VC:mu DP:=⟨by decide,by decide,by decide,by decide⟩
theorem qR {w:World} (v:Int) (so de:ByteArray) (h:RR w r s d t p) (hf:me r) (e1:sC r v so de=e) (e2:qw r v so de=Y):bB T_ 70 [.agg #[.q (r).lv,.q (r).ma,s,d,t,p],.q v,.string so,.string de] w [] (fun _:Value=>True) (fun x=>.tuple #[x,.q e]) (fun x=>[row 9 1 x Y.length (aO Y)]):=by
 subst e1 e2;exact Wc v so de h hf
theorem EL {w:World} {Y:List Int} (v:Int) (so de:ByteArray) (h:RR w r s d t p) (hf:me r) (e1:A4 r v so de=e) (e2:wU r v so de=Y):bB T_ 36 [.agg #[.q (r).lv,.q (r).ma,s,d,t,p],.q v,.string so,.string de] w [] (fun _:Value=>True) (fun x=>.tuple #[x,.q e]) (fun x=>[row 3 1 x Y.length (Y.map (Value.int .i64))]):=by
 subst e1 e2;exact Wk v so de h hf
theorem Qg {r q:Ro} {k:Tk} {w:World} (e:iv r [k]=(q,0,0)) (h:RR w r s d t p) (hf:me r) (hv:Rd w v 1 (ie k.so)):bB T_ 48 [.agg #[.q (r).lv,.q (r).ma,s,d,t,p],.agg #[.string k.de,v]] w [] (fun _:Value×Value×Value×Value=>True) (fun y=>.tuple #[.agg #[.q (q).lv,.q (q).ma,y.1,y.2.1,y.2.2.1,y.2.2.2],.q 0]) (fun y=>kC q y):=by
 have:=Gg (x:=⟨k,v⟩) h hf hv;rw [show (gL.mk k v).tk=k from I,e] at this;exact this
theorem Qi {r q:Ro} {i e_:Int} {w:World} (e:iv r (du l)=(q,i,e_)) (h:RR w r s d t p) (hf:me r) (hv:Rd w v 2 (jQ l)) (hM:xF w l):bB T_ 45 [.agg #[.q (r).lv,.q (r).ma,s,d,t,p],v] w [] (fun _:Value×Value×Value×Value=>True) (fun y=>.tuple #[.agg #[.q (q).lv,.q (q).ma,y.1,y.2.1,y.2.2.1,y.2.2.2],.q i,.q e_]) (fun y=>kC q y):=by
 have:=Bj h hf hv hM;rw [e] at this;exact this
theorem V5 {m:List Tk} {w:World} (e:(iv r (du l)).2.2=0) (e2:MM r (du l)=m) (h:RR w r s d t p) (hf:me r) (hv:Rd w v 2 (jQ l)) (hM:xF w l):bB T_ 47 [.agg #[.q (r).lv,.q (r).ma,s,d,t,p],v] w [] (fun x:Value×List gL=>du x.2=m) (fun x=>.tuple #[x.1,.q 0]) (fun x=>[row 78 2 x.1 x.2.length (jQ x.2).flatten,MO x.2]):=by
 have:=LX h hf hv hM;rw [e,e2] at this;exact this
theorem V9 {w:World} (o:ByteArray) (h:RR w r s d t p) (hf:me r) (e1:KL r o=e) (e2:G3 r o=Y):bB T_ 20 [.agg #[.q (r).lv,.q (r).ma,s,d,t,p],.string o] w [] (fun _:Value=>True) (fun x=>.tuple #[x,.q e]) (fun x=>[row 9 1 x Y.length (aO Y)]):=by
 subst e1 e2;exact Ta o h hf
theorem V6 {w:World} (v:Int) (o:ByteArray) (h:RR w r s d t p) (hf:me r) (e1:HS r v o=e) (e2:Gn r v o=Y):bB T_ 22 [.agg #[.q (r).lv,.q (r).ma,s,d,t,p],.q v,.string o] w [] (fun _:Value=>True) (fun x=>.tuple #[x,.q e]) (fun x=>[row 9 1 x Y.length (aO Y)]):=by
 subst e1 e2;exact Pa v o h hf
theorem Wa {w:World} (v:Int) (h:RR w r s d t p) (hf:me r) (e1:LG r v=e) (e2:Hp r v=Y):bB T_ 23 [.agg #[.q (r).lv,.q (r).ma,s,d,t,p],.q v] w [] (fun _:Value=>True) (fun x=>.tuple #[x,.q e]) (fun x=>[row 9 1 x Y.length (aO Y)]):=by
 subst e1 e2;exact Tc v h hf
theorem V4 {w:World} (v:Int) (o:ByteArray) (h:RR w r s d t p) (hf:me r) (e1:HN r v o=e) (e2:Gj r v o=Y):bB T_ 24 [.agg #[.q (r).lv,.q (r).ma,s,d,t,p],.q v,.string o] w [] (fun _:Value=>True) (fun x=>.tuple #[x,.q e]) (fun x=>[row 9 1 x Y.length (aO Y)]):=by
 subst e1 e2;exact O9 v o h hf
theorem V8 {r q:Ro} {w:World} {b:Bool} (o:ByteArray) (h:RR w r s d t p) (hf:me r) (e1:yU r o=0) (e2:yT r o b=q):bB T_ 78 [.agg #[.q (r).lv,.q (r).ma,s,d,t,p],.string o,.bool b] w [] (fun _:Value×Value×Value×Value=>True) (fun y=>.tuple #[.agg #[.q (q).lv,.q (q).ma,y.1,y.2.1,y.2.2.1,y.2.2.2],.q 0]) (fun y=>kC q y):=by
 have:=C9 o b h hf;rw [e1,e2] at this;exact this
theorem LN {l:List qh} {m:List Od} {w:World} (o:ByteArray) (f:Int) (em:eH l=m) (h:RR w r s d t p) (hf:me r) (e1:q8 r m o f=0) (e2:um r m o f=Y) (hv:Rd w v 2 (tK l)) (hM:HD w l):bB T_ 64 [.agg #[.q (r).lv,.q (r).ma,s,d,t,p],v,.string o,.q f] w [] (fun _:Value=>True) (fun x=>.tuple #[x,.q 0]) (fun x=>[row 9 1 x Y.length (aO Y)]):=by
 have:=S7 o f h hf hv hM;rw [em,e1,e2] at this;exact this
theorem jN (w:World):bB T_ 105 [] w [] (fun _:Value×Value×Value×Value=>True) (fun x=>.agg #[.q (mh).lv,.q (mh).ma,x.1,x.2.1,x.2.2.1,x.2.2.2]) (fun x=>kC mh x):=OL w
theorem k7 {w:World} (h:RR w r s d t p) (hf:mu r):bB T_ 57 [.agg #[.q (r).lv,.q (r).ma,s,d,t,p]] w [] (fun _:Value×Value×Value×Value=>True) (fun x=>.agg #[.q (r).lv,.q (r).ma,x.1,x.2.1,x.2.2.1,x.2.2.2]) (fun x=>MV r x):=H4 h hf
theorem fU {w:World} (h:RR w r s d t p) (hf:mu r):bB T_ 21 [.agg #[.q (r).lv,.q (r).ma,s,d,t,p]] w [] (fun _:Value×Value×Value×Value=>True) (fun x=>.agg #[.q (r).lv,.q (r).ma,x.1,x.2.1,x.2.2.1,x.2.2.2]) (fun x=>kC r x):=T4 h hf
theorem Qh (w:World):bB T_ 106 [] w [] (fun _:Option Addr×Nat=>True) (fun x=>.agg #[.string dU,.slice x.1 2 x.2]) (fun x=>[row 9 1 (.slice x.1 2 x.2) 2 (aO og.so)]):=SI w
theorem V7 (w:World):bB T_ 107 [] w [] (fun _:Option Addr×Nat=>True) (fun x=>.agg #[.string jk,.slice x.1 2 x.2]) (fun x=>[row 9 1 (.slice x.1 2 x.2) 2 (aO Td.so)]):=SH w
theorem LM (w:World):bB T_ 108 [] w [] (fun _:Option Addr×Nat=>True) (fun x=>.agg #[.string dU,.slice x.1 2 x.2]) (fun x=>[row 9 1 (.slice x.1 2 x.2) 2 (aO oe.so)]):=SG w
theorem ir {w:World} {x:gL} (h:Rd w x.v 1 (ie x.tk.so)) (k:xF w l):xF w (x::l):=fun y hy=>by
 rcases ZO.1 hy with rfl | hy
 ·exact h
 ·exact k y hy
theorem j8 (w:World):xF w []:=fun _ h=>absurd h Zo
theorem lV {l:List ByteArray} {w:World} (h1:Rd w v1 1 (ie l)) (h2:Rd w v2 1 (ie l)):ao T_ 58 [v1,v2] w (.bool true):=by
 have:=Fh h1 h2;rwa [decide_eq_true I] at this
theorem Ng {l:List Int} {w:World} (h1:Rd w v1 1 (ints l)) (h2:Rd w v2 1 (ints l)):ao T_ 109 [v1,v2] w (.bool true):=by
 have:=Nh h1 h2;rwa [decide_eq_true I] at this
theorem twM {w:World} {W:List gL} (hm:Mem c hs w) (ht:Take hs (MO W) hs'):xF w W:=fun x hx=>by
 obtain ⟨j,hj,rfl⟩:=Zu hx;have:=hm.DW (j:=j) (v:=W[j].v) (x:=aO W[j].tk.so) ht (by rw [ZJ,Zc hj];rfl) (by rw [ZJ,Zc hj];rfl);have e:(aO W[j].tk.so).map (fun u=>[u])=ie W[j].tk.so:=by unfold aO ie;rw [ZaI];rfl
 rwa [e] at this
theorem Nf {l m:List gL} {w:World} (h1:Rd w v1 2 (jQ l)) (hM1:xF w l) (h2:Rd w v2 2 (jQ m)) (hM2:xF w m) (e:du l=du m):ao T_ 53 [v1,v2] w (.bool true):=by
 have:=C7 h1 hM1 h2 hM2;rwa [decide_eq_true e] at this
theorem IN {q:List Po} {w:World} (h:RR w r s d t p) (cJ:mu r) (hv:Rd w v 3 (sq q)) (e:r.po=q):ao T_ 110 [.agg #[.q (r).lv,.q (r).ma,s,d,t,p],v] w (.bool true):=by
 have:=IV h cJ hv;rwa [decide_eq_true e] at this
theorem dV {P:Program} {ty:TypeId} {x y z:Operand} {q:Bool} {v u V:Value} (hx:Is sl x (.bool q)) (hy:Is sl y v) (hz:Is sl z u) (e:(bif q then v else u)=V):cM P c sl hs ⟨dst,.pick x y z,ty,pos,af,g⟩ V:=e ▸ uK hx hy hz
theorem Xj {w:World} {g:Nat} {x:ByteArray} {E:TypeId} (hm:Mem c hs w) (ht:Take hs (bA g (.cells #[.string x] E fz)) hs'):Rd w (.w g 1 1) 1 (ie [x]):=Mem.dB hm ht I I
theorem Xi {w:World} {g:Nat} {x y z:ByteArray} {E:TypeId} (hm:Mem c hs w) (ht:Take hs (bA g (.cells #[.string x,.string y,.string z] E fz)) hs'):Rd w (.w g 3 3) 1 (ie [x,y,z]):=Mem.dB hm ht I I
theorem DX {w:World} {g:Nat} {x y:ByteArray} {E:TypeId} (hm:Mem c hs w) (ht:Take hs (bA g (.cells #[.string x,.string y] E fz)) hs'):Rd w (.w g 2 2) 1 (ie [x,y]):=Mem.dB hm ht I I
theorem D7 {w:World} {l:List qh} {E:TypeId} {n:Nat} (hm:Mem c hs w) (ht:Take hs (row E 2 v n (tK l).flatten) hs') (hn:l.length=n):Rd w v 2 (tK l):=hm.qm ht rfl (fun r hr=>by obtain ⟨x,_,rfl⟩:=Zw.1 hr;rfl) (by rw [show (tK l).length=l.length from Zd _,hn])
theorem mM {w:World} {x:qh} {l:List qh} (h:Rd w x.v 2 (jQ x.tk)) (h2:xF w x.tk) (k:HD w l):HD w (x::l):=fun y hy=>by
 rcases ZO.1 hy with rfl | hy
 ·exact ⟨h,h2⟩
 ·exact k y hy
theorem Az (w:World):HD w []:=fun _ h=>absurd h Zo
theorem S2 {w:World} (h:RR w mh s d t p):ao T_ 85 [.agg #[.q (mh).lv,.q (mh).ma,s,d,t,p]] w (.tuple #[.string (IP mh),.q 0]):=by
 have:=Pb h r6;rwa [VK] at this
theorem GG {P:Program} {ty:TypeId} {t u:TypeId} {x y:Operand} {a b:ByteArray} (hx:Is sl x (.string a)) (hy:Is sl y (.string b)) (e:a=b) :
  cM P c sl hs ⟨dst,.binOp .eql t x y u,ty,pos,af,g⟩ (.bool true):=by
 have:=eR (P:=P) (c:=c) (hs:=hs) (dst:=dst) (ty:=ty) (pos:=pos) (af:=af) (g:=g) (t:=t) (u:=u) hx hy;rwa [decide_eq_true e] at this
set_option maxRecDepth 20000 in
set_option maxHeartbeats 4000000 in
theorem mb (w:World):ao T_ 17 [] w (.bool true):=by
 refine ak func17 I I ?_;refine Jr<|Ja I<|Ji ?_;refine JN k8 I (fun w1 aY=>jN w1) ?_;rintro ⟨s1,d1,t1,p1⟩ _
 try dsimp only [id_eq,Zb,Za]
 refine dI (r:=mh) (s:=s1) (d:=d1) (t:=t1) (p:=p1) (bb _ _) fun m1a m1b m1c m1d=>?_
 skip
 refine JN uA I (fun w1 aY=>qR 0 cX dU ⟨df aY (by exact .here) I,di aY (by exact Take.there .here) I,dd aY bO I,c7 aY c6 I⟩ r6 PY.1 PY.2) ?_;rintro x1 _
 try dsimp only [id_eq,Zb,Za]
 refine Jv I<|JJ I I<|JJ I I<|Ja I<|Ja I<|Ji ?_;refine JN k8 I (fun w1 aY=>jN w1) ?_;rintro ⟨s2,d2,t2,p2⟩ _
 try dsimp only [id_eq,Zb,Za]
 refine dI (r:=mh) (s:=s2) (d:=d2) (t:=t2) (p:=p2) (bb _ _) fun m2a m2b m2c m2d=>?_
 skip
 refine JN k8 I (fun w1 aY=>Qh w1) ?_;rintro ⟨ya,yc⟩ _
 try dsimp only [id_eq,Zb,Za]
 skip
 refine JN bo I (fun w1 aY=>Qg (k:=og) VI ⟨df aY (by exact Take.there .here) I,di aY bO I,dd aY c6 I,c7 aY dF I⟩ r6 (dA aY (by exact .here) (by exact I))) ?_;rintro ⟨s3,d3,t3,p3⟩ _
 try dsimp only [id_eq,Zb,Za]
 refine dI (r:=gn) (s:=s3) (d:=d3) (t:=t3) (p:=p3) (bb _ _) fun m3a m3b m3c m3d=>?_
 (refine Jv I<|JJ I I<|JJ I I<|Jz I I fun _ _=>aq (.of I) (.of I) .here I I (hG I I m3a m3b m3c m3d) (bF I) an<|Ja I<|Ji<|ab (cN .here) I ?_)
 rename_i b3 uY;refine cT [JW x1 [nT],bA b3 (.cells #[.q (gn).lv,.q (gn).ma,s3,d3,t3,p3] 41 (0,0)),J1 (gn) s3,J2 (gn) d3,J3 (gn) t3,J4 (gn) p3] (by exact .cons lT (.h5 .nil)) ?_
 skip
 refine JN bS I (fun w1 aY=>k7 ⟨df aY bO I,di aY c6 I,dd aY dF I,c7 aY fx I⟩ AW) ?_;rintro ⟨s4,d4,t4,p4⟩ _
 try dsimp only [id_eq,Zb,Za]
 refine iS (r:=gn) (s:=s4) (d:=d4) (t:=t4) (p:=p4) (bb _ _) fun m4a m4b m4c m4d=>?_
 skip
 refine JN bS I (fun w1 aY=>fU ⟨df aY (by exact .here) I,di aY (by exact Take.there .here) I,dd aY bO I,c7 aY c6 I⟩ AW) ?_;rintro ⟨s5,d5,t5,p5⟩ _
 try dsimp only [id_eq,Zb,Za]
 refine dI (r:=gn) (s:=s5) (d:=d5) (t:=t5) (p:=p5) (bb _ _) fun m5a m5b m5c m5d=>?_
 skip
 refine JN k8 I (fun w1 aY=>V7 w1) ?_;rintro ⟨za,zc⟩ _
 try dsimp only [id_eq,Zb,Za]
 skip
 refine JN bo I (fun w1 aY=>Qg (k:=Td) VH ⟨df aY (by exact Take.there .here) I,di aY bO I,dd aY c6 I,c7 aY dF I⟩ F1 (dA aY (by exact .here) (by exact I))) ?_;rintro ⟨s6,d6,t6,p6⟩ _
 try dsimp only [id_eq,Zb,Za]
 refine dI (r:=ig) (s:=s6) (d:=d6) (t:=t6) (p:=p6) (bb _ _) fun m6a m6b m6c m6d=>?_
 (refine Jv I<|JJ I I<|JJ I I<|Jz I I fun _ _=>aq (.of I) (.of I) .here I I (hG I I m6a m6b m6c m6d) (bF I) an<|Ja I<|Ji<|ab (cN .here) I ?_)
 rename_i b5 Mu;refine cT [JW x1 [nT],bA b3 (.cells #[.q (gn).lv,.q (gn).ma,s3,d3,t3,p3] 41 (0,0)),J1 (gn) s3,J2 (gn) d3,J3 (gn) t3,J4 (gn) p3,bA b5 (.cells #[.q (ig).lv,.q (ig).ma,s6,d6,t6,p6] 41 (0,0)),J1 (ig) s6,J2 (ig) d6,J3 (ig) t6,J4 (ig) p6] (by exact .cons Db (.cons Db (.cons Db (.cons Db (.cons Db (.cons Db (.h5 .nil))))))) ?_
 skip
 refine JN bS I (fun w1 aY=>k7 ⟨df aY nR I,di aY zD I,dd aY jh I,c7 aY lT I⟩ AV) ?_;rintro ⟨s7,d7,t7,p7⟩ _
 try dsimp only [id_eq,Zb,Za]
 refine iS (r:=ig) (s:=s7) (d:=d7) (t:=t7) (p:=p7) (bb _ _) fun m7a m7b m7c m7d=>?_
 skip
 refine JN bS I (fun w1 aY=>fU ⟨df aY (by exact .here) I,di aY (by exact Take.there .here) I,dd aY bO I,c7 aY c6 I⟩ AV) ?_;rintro ⟨s8,d8,t8,p8⟩ _
 try dsimp only [id_eq,Zb,Za]
 refine dI (r:=ig) (s:=s8) (d:=d8) (t:=t8) (p:=p8) (bb _ _) fun m8a m8b m8c m8d=>?_
 skip
 refine JN k8 I (fun w1 aY=>LM w1) ?_;rintro ⟨ua,uc⟩ _
 try dsimp only [id_eq,Zb,Za]
 refine bn (bD (.o I .nil) I I bV bV an) I (fun _ _=>?_);rename_i g4 hg4;refine bR (g:=g4) (E:=78) (ys:=(jQ [⟨oe,.slice ua 2 uc⟩]).flatten) 1 2 (by exact .here) (by exact I) I I ?_;refine JN bo I (fun w1 aY=>Qi (l:=[⟨oe,.slice ua 2 uc⟩]) P4 ⟨df aY bO I,di aY c6 I,dd aY dF I,c7 aY fx I⟩ F0 (mG aY (by exact .here) (by exact I)) (ir (dA aY (by exact Take.there .here) (by exact I)) (j8 _))) ?_;rintro ⟨s9,d9,t9,p9⟩ _
 try dsimp only [id_eq,Zb,Za]
 refine dI (r:=xy) (s:=s9) (d:=d9) (t:=t9) (p:=p9) (bb _ _) fun m9a m9b m9c m9d=>?_
 (refine Jv I<|JJ I I<|JJ I I<|JJ I I<|Jz I I fun _ _=>aq (.of I) (.of I) .here I I (hG I I m9a m9b m9c m9d) (bF I) an<|Ja I<|Ja I<|Ji<|ab (cN (.there (.there (.there (.there (.there kB)))))) I ?_)
 rename_i b7 Ve;refine cT [JW x1 [nT],bA b3 (.cells #[.q (gn).lv,.q (gn).ma,s3,d3,t3,p3] 41 (0,0)),J1 (gn) s3,J2 (gn) d3,J3 (gn) t3,J4 (gn) p3,bA b5 (.cells #[.q (ig).lv,.q (ig).ma,s6,d6,t6,p6] 41 (0,0)),J1 (ig) s6,J2 (ig) d6,J3 (ig) t6,J4 (ig) p6,bA b7 (.cells #[.q (xy).lv,.q (xy).ma,s9,d9,t9,p9] 41 (0,0)),J1 (xy) s9,J2 (xy) d9,J3 (xy) t9,J4 (xy) p9] (by exact .cons je (.cons je (.cons je (.cons je (.cons je (.cons je (.cons je (.cons je (.cons je (.cons je (.cons je (.h5 .nil)))))))))))) ?_
 skip
 refine JN bS I (fun w1 aY=>k7 ⟨df aY nR I,di aY zD I,dd aY jh I,c7 aY lT I⟩ AV) ?_;rintro ⟨s10,d10,t10,p10⟩ _
 try dsimp only [id_eq,Zb,Za]
 refine iS (r:=ig) (s:=s10) (d:=d10) (t:=t10) (p:=p10) (bb _ _) fun aex aew aev aeu=>?_
 skip
 refine JN bS I (fun w1 aY=>fU ⟨df aY (by exact .here) I,di aY (by exact Take.there .here) I,dd aY bO I,c7 aY c6 I⟩ AV) ?_;rintro ⟨s11,d11,t11,p11⟩ _
 try dsimp only [id_eq,Zb,Za]
 refine dI (r:=ig) (s:=s11) (d:=d11) (t:=t11) (p:=p11) (bb _ _) fun aet aes aer aeq=>?_
 skip
 refine JN k8 I (fun w1 aY=>LM w1) ?_;rintro ⟨va,vc⟩ _
 try dsimp only [id_eq,Zb,Za]
 refine bn (bD (.o I .nil) I I bV bV an) I (fun _ _=>?_);rename_i g5 hg5;refine bR (g:=g5) (E:=78) (ys:=(jQ [⟨oe,.slice va 2 vc⟩]).flatten) 1 2 (by exact .here) (by exact I) I I ?_;refine JN bo I (fun w1 aY=>V5 (l:=[⟨oe,.slice va 2 vc⟩]) (m:=[og]) (congrArg (fun x:Ro×Int×Int=>x.2.2) P4) VF ⟨df aY bO I,di aY c6 I,dd aY dF I,c7 aY fx I⟩ F0 (mG aY (by exact .here) (by exact I)) (ir (dA aY (by exact Take.there .here) (by exact I)) (j8 _))) ?_;rintro ⟨yn,W⟩ hW
 try dsimp only at hW
 try dsimp only [id_eq,Zb,Za]
 refine Jv I<|JJ I I<|JJ I I<|Ja I<|Ja I<|Ji ?_;refine cT [JW x1 [nT],bA b3 (.cells #[.q (gn).lv,.q (gn).ma,s3,d3,t3,p3] 41 (0,0)),J1 (gn) s3,J2 (gn) d3,J3 (gn) t3,J4 (gn) p3,bA b5 (.cells #[.q (ig).lv,.q (ig).ma,s6,d6,t6,p6] 41 (0,0)),J1 (ig) s6,J2 (ig) d6,J3 (ig) t6,J4 (ig) p6,bA b7 (.cells #[.q (xy).lv,.q (xy).ma,s9,d9,t9,p9] 41 (0,0)),J1 (xy) s9,J2 (xy) d9,J3 (xy) t9,J4 (xy) p9,row 78 2 yn W.length (jQ W).flatten,MO W] (by exact .cons lS (.cons lS (.cons lS (.cons lS (.cons lS (.cons lS (.cons lS (.cons lS (.cons lS (.cons lS (.cons lS (.cons lS (.cons lS (.cons lS (.cons lS (.cons lS (.h2 .nil))))))))))))))))) ?_
 skip
 refine JN k8 I (fun w1 aY=>jN w1) ?_;rintro ⟨s12,d12,t12,p12⟩ _
 try dsimp only [id_eq,Zb,Za]
 refine dI (r:=mh) (s:=s12) (d:=d12) (t:=t12) (p:=p12) (bb _ _) fun aep aeo aen aem=>?_
 skip
 refine JN uA I (fun w1 aY=>qR 0 kF nV ⟨df aY (by exact .here) I,di aY (by exact Take.there .here) I,dd aY bO I,c7 aY c6 I⟩ r6 PX.1 PX.2) ?_;rintro Hu _
 try dsimp only [id_eq,Zb,Za]
 refine Jv I<|JJ I I<|JJ I I<|Ja I<|Ja I<|Ji ?_;refine JN k8 I (fun w1 aY=>jN w1) ?_;rintro ⟨s13,d13,t13,p13⟩ _
 try dsimp only [id_eq,Zb,Za]
 refine dI (r:=mh) (s:=s13) (d:=d13) (t:=t13) (p:=p13) (bb _ _) fun ael aek aej aei=>?_
 skip
 refine JN uA I (fun w1 aY=>EL 0 kF nV ⟨df aY (by exact .here) I,di aY (by exact Take.there .here) I,dd aY bO I,c7 aY c6 I⟩ r6 P6.1 P6.2) ?_;rintro Qo _
 try dsimp only [id_eq,Zb,Za]
 refine Jv I<|JJ I I<|JJ I I<|Ja I<|Ja I<|Ji ?_;refine JN k8 I (fun w1 aY=>jN w1) ?_;rintro ⟨Xh,d14,t14,Xr⟩ _
 try dsimp only [id_eq,Zb,Za]
 refine dI (r:=mh) (s:=Xh) (d:=d14) (t:=t14) (p:=Xr) (bb _ _) fun aeh aeg aef aee=>?_;refine bn (aB (.o I .nil) I I I I) I (fun _ _=>?_);rename_i g8 hg8
 with_reducible apply aj
 case hr=>exact L6
 case hd=>rfl
 case hc=>
  intro w1 aY;have:=xx (r:=mh) (s:=Xh) (d:=d14) (t:=t14) (p:=Xr) (cv:=.w g8 1 1) 0 kF nV (L:=[0]) (⟨df aY (by exact Take.there .here) I,di aY bO I,dd aY c6 I,c7 aY dF I⟩:RR w1 mh Xh d14 t14 Xr) r6 (Mem.dB aY (by exact .here) I I);rw [VL] at this;exact this
 refine cT [JW x1 [nT],bA b3 (.cells #[.q (gn).lv,.q (gn).ma,s3,d3,t3,p3] 41 (0,0)),J1 (gn) s3,J2 (gn) d3,J3 (gn) t3,J4 (gn) p3,bA b5 (.cells #[.q (ig).lv,.q (ig).ma,s6,d6,t6,p6] 41 (0,0)),J1 (ig) s6,J2 (ig) d6,J3 (ig) t6,J4 (ig) p6,bA b7 (.cells #[.q (xy).lv,.q (xy).ma,s9,d9,t9,p9] 41 (0,0)),J1 (xy) s9,J2 (xy) d9,J3 (xy) t9,J4 (xy) p9,row 78 2 yn W.length (jQ W).flatten,MO W,row 3 1 Qo [(1:Int)].length ([(1:Int)].map (Value.int .i64))] (by exact .cons je (.cons je (.cons je (.cons je (.cons je (.cons je (.cons je (.cons je (.cons je (.cons je (.cons je (.cons je (.cons je (.cons je (.cons je (.cons je (.cons je (.cons je (.cons fx .nil))))))))))))))))))) ?_
 (refine Ja I<|Jn<|Jq<|Jr<|Jv I<|Jv I<|JB I (by omega)<|Jv I<|JB I (by omega)<|Jv I<|JB I (by omega)<|Jv I<|JB I (by omega)<|Jv I<|JB I (by omega)<|JD I<|Jv I<|JK I I<|Jv I<|JK I I<|JD I<|ab (dV (.of I) (.of I) (.of I) I) I<|Jv I<|JK I I<|Jv I<|JK I I<|JD I<|ab (dV (.of I) (.of I) (.of I) I) I<|Jv I<|JK I I<|Jv I<|JK I I<|JD I<|ab (dV (.of I) (.of I) (.of I) I) I<|Jv I<|JK I I<|Jv I<|JK I I<|bn (aB (.o I .nil) I I I I) I fun _ _=>JK I I ?_)
 skip
 rename_i g9a afz;refine aj bo I (fun w1 aY=>lV (l:=[nT]) (dA aY (by exact Take.there .here) (by exact I)) (Mem.dB aY (by exact .here) I I)) ?_
 (refine JK I I<|JH I<|ab (dV (.of I) (.of I) (.of I) I) I<|Jv I<|JK I I<|Jv I<|JK I I<|bn (aB (.o I .nil) I I I I) I fun _ _=>JK I I ?_)
 rename_i g9b afy;refine aj bo I (fun w1 aY=>Ng (l:=[1]) (jF aY (.there (.there (.there (.there kB)))) (by exact I)) (Mem.dB aY (by exact .here) I I)) ?_
 (refine JK I I<|JH I<|ab (dV (.of I) (.of I) (.of I) I) I<|Jv I<|JK I I<|Jv I<|JK I I ?_)
 have PR:W.length<=1000:=by
  have h:=congrArg List.length hW;unfold du at h;rw [Zd] at h;rw [h];decide
 have hWs:∀ x∈W,x.tk.so.length<=1000:=by
  intro x hx;have h:x.tk∈du W:=Zai hx;rw [hW] at h;rw [ZB.1 h];decide
 refine JN bS I (fun w1 aY=>MY (mG aY (.there (.there kB)) (by exact I)) (twM aY (.there (.there (.there kB)))) PR hWs) ?_;rintro ⟨x9,V⟩ hV
 try dsimp only at hV
 try dsimp only [id_eq,Zb,Za]
 (refine JK I I<|bn (aB (.o I (.o I .nil)) I I I I) I fun _ _=>JK I I<|ab (aX (.o I (.o I .nil)) an) I<|JK I I<|bn (bD (.o I .nil) I I bV bV an) I fun _ _=>JK I I ?_)
 rename_i g9c afx g9d afw;refine bR (g:=g9d) (E:=69) (ys:=(jQ [⟨og,.w g9c 2 2⟩]).flatten) 1 2 (by exact .here) (by exact I) I I ?_;refine aj bo I (fun w1 aY=>Nf (m:=[⟨og,.w g9c 2 2⟩]) (mG aY bO (by exact I)) (twM aY c6) (mG aY (by exact .here) (by exact I)) (ir (Mem.dB aY (by exact Take.there .here) I I) (j8 _)) (hV.trans (hW.trans I))) ?_
 (refine JK I I<|JH I<|ab (dV (.of I) (.of I) (.of I) I) I<|Jn<|bJ (.of I)<|Jk<|Jq<|Jr<|ab (cN nR) I<|ab (aX (.o I (.o I (.o I .nil))) an) I<|ab (aX (.o I (.o I (.o I .nil))) an) I<|ab (aX (.o I (.o I (.o I .nil))) an) I<|ab (aX (.o I (.o I (.o I .nil))) an) I<|bn (bD (.o I (.o I (.o I (.o I .nil)))) I I bV bV an) I fun _ _=>?_)
 rename_i aau abh;refine bR (g:=aau) (E:=180) (ys:=jb Xp) 4 3 (by exact .here) (by exact I) I I ?_;refine aj bo I (fun w1 aY=>IN (r:=gn) (q:=Xp) ⟨df aY jh I,di aY lT I,dd aY Dc I,c7 aY lS I⟩ AW (c7 aY (by exact .here) (by exact I)) I) ?_
 (refine JH I<|Jv I<|JK I I<|ab (cN S9) I<|JK I I<|ab (aX (.o I (.o I (.o I .nil))) an) I<|JK I I<|ab (aX (.o I (.o I (.o I .nil))) an) I<|JK I I<|ab (aX (.o I (.o I (.o I .nil))) an) I<|JK I I<|ab (aX (.o I (.o I (.o I .nil))) an) I<|JK I I<|ab (aX (.o I (.o I (.o I .nil))) an) I<|JK I I<|bn (bD (.o I (.o I (.o I (.o I (.o I .nil))))) I I bV bV an) I fun _ _=>JK I I ?_)
 rename_i aat abg;refine bR (g:=aat) (E:=180) (ys:=jb Xo) 5 3 (by exact .here) (by exact I) I I ?_;refine aj bo I (fun w1 aY=>IN (r:=ig) (q:=Xo) ⟨df aY je I,di aY kB I,dd aY (.there kB) I,c7 aY (.there (.there kB)) I⟩ AV (c7 aY (by exact .here) (by exact I)) I) ?_
 (refine JK I I<|JH I<|ab (dV (.of I) (.of I) (.of I) I) I<|Jv I<|JK I I<|ab (cN (.there (.there (.there kB)))) I<|JK I I<|ab (aX (.o I (.o I (.o I .nil))) an) I<|JK I I<|ab (aX (.o I (.o I (.o I .nil))) an) I<|JK I I<|ab (aX (.o I (.o I (.o I .nil))) an) I<|JK I I<|ab (aX (.o I (.o I (.o I .nil))) an) I<|JK I I<|bn (bD (.o I (.o I (.o I (.o I .nil)))) I I bV bV an) I fun _ _=>JK I I ?_)
 rename_i aas abf;refine bR (g:=aas) (E:=180) (ys:=jb Xn) 4 3 (by exact .here) (by exact I) I I ?_;refine aj bo I (fun w1 aY=>IN (r:=xy) (q:=Xn) ⟨df aY (.there (.there (.there (.there (.there kB))))) I,di aY (.there (.there (.there (.there (.there (.there kB)))))) I,dd aY (.there (.there (.there (.there (.there (.there (.there kB))))))) I,c7 aY (.there (.there (.there (.there (.there (.there (.there (.there kB)))))))) I⟩ aav (c7 aY (by exact .here) (by exact I)) I) ?_
 (refine JK I I<|JH I<|ab (dV (.of I) (.of I) (.of I) I) I<|Jn<|bJ (.of I)<|Jk<|Jr<|ab (cN je) I ?_)
 refine cT [bA b3 (.cells #[.q (gn).lv,.q (gn).ma,s3,d3,t3,p3] 41 (0,0)),J1 (gn) s3,J2 (gn) d3,J3 (gn) t3,J4 (gn) p3,bA b5 (.cells #[.q (ig).lv,.q (ig).ma,s6,d6,t6,p6] 41 (0,0)),J1 (ig) s6,J2 (ig) d6,J3 (ig) t6,J4 (ig) p6] (by exact .cons lT (.cons lT (.cons lT (.cons lT (.cons lT (.cons lT (.cons lT (.cons lT (.cons lT (.cons lT .nil)))))))))) ?_;refine JN bS I (fun w1 aY=>k7 ⟨df aY qY I,di aY nR I,dd aY zD I,c7 aY jh I⟩ AV) ?_;rintro ⟨s15,d15,t15,p15⟩ _
 try dsimp only [id_eq,Zb,Za]
 refine iS (r:=ig) (s:=s15) (d:=d15) (t:=t15) (p:=p15) (bb _ _) fun aed aec aeb aea=>?_
 skip
 refine JN bS I (fun w1 aY=>fU ⟨df aY (by exact .here) I,di aY (by exact Take.there .here) I,dd aY bO I,c7 aY c6 I⟩ AV) ?_;rintro ⟨s16,d16,t16,p16⟩ _
 try dsimp only [id_eq,Zb,Za]
 refine dI (r:=ig) (s:=s16) (d:=d16) (t:=t16) (p:=p16) (bb _ _) fun ad9 ad8 ad7 ad6=>?_
 skip
 refine JN bo I (fun w1 aY=>V9 jk ⟨df aY (by exact .here) I,di aY (by exact Take.there .here) I,dd aY bO I,c7 aY c6 I⟩ F0 VJ.1 VJ.2) ?_;rintro HE _
 try dsimp only [id_eq,Zb,Za]
 refine Jv I<|JJ I I<|JJ I I<|Ja I<|Ja I<|Ji<|ab (cN jh) I ?_;refine cT [bA b3 (.cells #[.q (gn).lv,.q (gn).ma,s3,d3,t3,p3] 41 (0,0)),J1 (gn) s3,J2 (gn) d3,J3 (gn) t3,J4 (gn) p3,bA b5 (.cells #[.q (ig).lv,.q (ig).ma,s6,d6,t6,p6] 41 (0,0)),J1 (ig) s6,J2 (ig) d6,J3 (ig) t6,J4 (ig) p6,row 9 1 HE ([cX,⟨#[]⟩]:List ByteArray).length (aO [cX,⟨#[]⟩])] (by exact .cons jh (.cons jh (.cons jh (.cons jh (.cons jh (.cons jh (.cons jh (.cons jh (.cons jh (.cons jh (.h1 .nil))))))))))) ?_;refine JN bS I (fun w1 aY=>k7 ⟨df aY (by exact Take.there .here) I,di aY bO I,dd aY c6 I,c7 aY dF I⟩ AW) ?_;rintro ⟨s17,d17,t17,p17⟩ _
 try dsimp only [id_eq,Zb,Za]
 refine iS (r:=gn) (s:=s17) (d:=d17) (t:=t17) (p:=p17) (bb _ _) fun ad5 ad4 ad3 ad2=>?_
 skip
 refine JN bS I (fun w1 aY=>fU ⟨df aY (by exact .here) I,di aY (by exact Take.there .here) I,dd aY bO I,c7 aY c6 I⟩ AW) ?_;rintro ⟨s18,d18,t18,p18⟩ _
 try dsimp only [id_eq,Zb,Za]
 refine dI (r:=gn) (s:=s18) (d:=d18) (t:=t18) (p:=p18) (bb _ _) fun ad1 ad0 adZ adY=>?_
 skip
 refine JN ek I (fun w1 aY=>V6 0 dU ⟨df aY (by exact .here) I,di aY (by exact Take.there .here) I,dd aY bO I,c7 aY c6 I⟩ F1 P0.1 P0.2) ?_;rintro L7 _
 try dsimp only [id_eq,Zb,Za]
 refine Jv I<|JJ I I<|JJ I I<|Ja I<|Ja I<|Ji<|ab (cN jh) I ?_;refine cT [bA b3 (.cells #[.q (gn).lv,.q (gn).ma,s3,d3,t3,p3] 41 (0,0)),J1 (gn) s3,J2 (gn) d3,J3 (gn) t3,J4 (gn) p3,bA b5 (.cells #[.q (ig).lv,.q (ig).ma,s6,d6,t6,p6] 41 (0,0)),J1 (ig) s6,J2 (ig) d6,J3 (ig) t6,J4 (ig) p6,row 9 1 HE ([cX,⟨#[]⟩]:List ByteArray).length (aO [cX,⟨#[]⟩]),row 9 1 L7 ([cX,nT,dU]:List ByteArray).length (aO [cX,nT,dU])] (by exact .cons jh (.cons jh (.cons jh (.cons jh (.cons jh (.cons jh (.cons jh (.cons jh (.cons jh (.cons jh (.cons jh (.h1 .nil)))))))))))) ?_;refine JN bS I (fun w1 aY=>k7 ⟨df aY (by exact Take.there .here) I,di aY bO I,dd aY c6 I,c7 aY dF I⟩ AW) ?_;rintro ⟨s19,d19,t19,p19⟩ _
 try dsimp only [id_eq,Zb,Za]
 refine iS (r:=gn) (s:=s19) (d:=d19) (t:=t19) (p:=p19) (bb _ _) fun adX adW adV adU=>?_
 skip
 refine JN bS I (fun w1 aY=>fU ⟨df aY (by exact .here) I,di aY (by exact Take.there .here) I,dd aY bO I,c7 aY c6 I⟩ AW) ?_;rintro ⟨s20,d20,t20,p20⟩ _
 try dsimp only [id_eq,Zb,Za]
 refine dI (r:=gn) (s:=s20) (d:=d20) (t:=t20) (p:=p20) (bb _ _) fun adT adS adR adQ=>?_
 skip
 refine JN bo I (fun w1 aY=>Wa 0 ⟨df aY (by exact .here) I,di aY (by exact Take.there .here) I,dd aY bO I,c7 aY c6 I⟩ F1 P7.1 P7.2) ?_;rintro MF _
 try dsimp only [id_eq,Zb,Za]
 refine Jv I<|JJ I I<|JJ I I<|Ja I<|Ja I<|Ji<|ab (cN Db) I ?_;refine cT [bA b3 (.cells #[.q (gn).lv,.q (gn).ma,s3,d3,t3,p3] 41 (0,0)),J1 (gn) s3,J2 (gn) d3,J3 (gn) t3,J4 (gn) p3,bA b5 (.cells #[.q (ig).lv,.q (ig).ma,s6,d6,t6,p6] 41 (0,0)),J1 (ig) s6,J2 (ig) d6,J3 (ig) t6,J4 (ig) p6,row 9 1 HE ([cX,⟨#[]⟩]:List ByteArray).length (aO [cX,⟨#[]⟩]),row 9 1 L7 ([cX,nT,dU]:List ByteArray).length (aO [cX,nT,dU]),row 9 1 MF ([nT]:List ByteArray).length (aO [nT])] (by exact .cons jh (.cons jh (.cons jh (.cons jh (.cons jh (.cons jh (.cons jh (.cons jh (.cons jh (.cons jh (.cons jh (.cons jh (.h1 .nil))))))))))))) ?_;refine JN bS I (fun w1 aY=>k7 ⟨df aY qY I,di aY nR I,dd aY zD I,c7 aY jh I⟩ AV) ?_;rintro ⟨s21,d21,t21,p21⟩ _
 try dsimp only [id_eq,Zb,Za]
 refine iS (r:=ig) (s:=s21) (d:=d21) (t:=t21) (p:=p21) (bb _ _) fun adP adO adN adM=>?_
 skip
 refine JN bS I (fun w1 aY=>fU ⟨df aY (by exact .here) I,di aY (by exact Take.there .here) I,dd aY bO I,c7 aY c6 I⟩ AV) ?_;rintro ⟨s22,d22,t22,p22⟩ _
 try dsimp only [id_eq,Zb,Za]
 refine dI (r:=ig) (s:=s22) (d:=d22) (t:=t22) (p:=p22) (bb _ _) fun adL adK adJ adI=>?_
 skip
 refine JN ek I (fun w1 aY=>V4 0 cX ⟨df aY (by exact .here) I,di aY (by exact Take.there .here) I,dd aY bO I,c7 aY c6 I⟩ F0 PZ.1 PZ.2) ?_;rintro Pg _
 try dsimp only [id_eq,Zb,Za]
 refine Jv I<|JJ I I<|JJ I I<|Ja I<|Ja I<|Ji<|ab (cN jh) I ?_;refine cT [bA b3 (.cells #[.q (gn).lv,.q (gn).ma,s3,d3,t3,p3] 41 (0,0)),J1 (gn) s3,J2 (gn) d3,J3 (gn) t3,J4 (gn) p3,bA b5 (.cells #[.q (ig).lv,.q (ig).ma,s6,d6,t6,p6] 41 (0,0)),J1 (ig) s6,J2 (ig) d6,J3 (ig) t6,J4 (ig) p6,row 9 1 HE ([cX,⟨#[]⟩]:List ByteArray).length (aO [cX,⟨#[]⟩]),row 9 1 L7 ([cX,nT,dU]:List ByteArray).length (aO [cX,nT,dU]),row 9 1 MF ([nT]:List ByteArray).length (aO [nT]),row 9 1 Pg ([dU,jk]:List ByteArray).length (aO [dU,jk])] (by exact .cons jh (.cons jh (.cons jh (.cons jh (.cons jh (.cons jh (.cons jh (.cons jh (.cons jh (.cons jh (.cons jh (.cons jh (.cons jh (.h1 .nil)))))))))))))) ?_;refine JN bS I (fun w1 aY=>k7 ⟨df aY (by exact Take.there .here) I,di aY bO I,dd aY c6 I,c7 aY dF I⟩ AW) ?_;rintro ⟨s23,d23,t23,p23⟩ _
 try dsimp only [id_eq,Zb,Za]
 refine iS (r:=gn) (s:=s23) (d:=d23) (t:=t23) (p:=p23) (bb _ _) fun adH adG adF adE=>?_
 skip
 refine JN bS I (fun w1 aY=>fU ⟨df aY (by exact .here) I,di aY (by exact Take.there .here) I,dd aY bO I,c7 aY c6 I⟩ AW) ?_;rintro ⟨s24,d24,t24,p24⟩ _
 try dsimp only [id_eq,Zb,Za]
 refine dI (r:=gn) (s:=s24) (d:=d24) (t:=t24) (p:=p24) (bb _ _) fun adD adC adB adA=>?_
 skip
 refine JN ek I (fun w1 aY=>V8 (b:=true) nV ⟨df aY (by exact .here) I,di aY (by exact Take.there .here) I,dd aY bO I,c7 aY c6 I⟩ F1 P5.1 P5.2) ?_;rintro ⟨Xg,d25,t25,Xq⟩ _
 try dsimp only [id_eq,Zb,Za]
 refine dI (r:=DP) (s:=Xg) (d:=d25) (t:=t25) (p:=Xq) (bb _ _) fun XE XD XC XB=>?_
 (refine Jv I<|JJ I I<|JJ I I<|Jz I I fun _ _=>aq (.of I) (.of I) .here I I (hG I I XE XD XC XB) (bF I) an<|Ja I<|Ji<|ab (cN .here) I ?_)
 rename_i b25 afR;refine cT [row 9 1 HE ([cX,⟨#[]⟩]:List ByteArray).length (aO [cX,⟨#[]⟩]),row 9 1 L7 ([cX,nT,dU]:List ByteArray).length (aO [cX,nT,dU]),row 9 1 MF ([nT]:List ByteArray).length (aO [nT]),row 9 1 Pg ([dU,jk]:List ByteArray).length (aO [dU,jk]),bA b25 (.cells #[.q (DP).lv,.q (DP).ma,Xg,d25,t25,Xq] 41 (0,0)),J1 (DP) Xg,J2 (DP) d25,J3 (DP) t25,J4 (DP) Xq] (by exact .cons (.there (.there (.there (.there (.there (.there (.there kB))))))) (.cons (.there (.there (.there (.there (.there (.there (.there kB))))))) (.cons (.there (.there (.there (.there (.there (.there (.there kB))))))) (.cons (.there (.there (.there (.there (.there (.there (.there kB))))))) (.h5 .nil))))) ?_;refine JN bS I (fun w1 aY=>k7 ⟨df aY fx I,di aY qY I,dd aY nR I,c7 aY zD I⟩ VC) ?_;rintro ⟨s26,d26,t26,p26⟩ _
 try dsimp only [id_eq,Zb,Za]
 refine iS (r:=DP) (s:=s26) (d:=d26) (t:=t26) (p:=p26) (bb _ _) fun adz ady adx adw=>?_
 skip
 refine JN bS I (fun w1 aY=>fU ⟨df aY (by exact .here) I,di aY (by exact Take.there .here) I,dd aY bO I,c7 aY c6 I⟩ VC) ?_;rintro ⟨s27,d27,t27,p27⟩ _
 try dsimp only [id_eq,Zb,Za]
 refine dI (r:=DP) (s:=s27) (d:=d27) (t:=t27) (p:=p27) (bb _ _) fun adv adu adt ads=>?_
 (refine bn (aB (.o I (.o I .nil)) I I I I) I fun _ _=>ab (aX (.o I (.o I .nil)) an) I<|bn (aB (.o I (.o I .nil)) I I I I) I fun _ _=>ab (aX (.o I (.o I .nil)) an) I<|bn (bD (.o I (.o I .nil)) I I bV bV an) I fun _ _=>?_)
 rename_i ga hga gb hgb gc hgc;refine bR (g:=gc) (E:=78) (ys:=(jQ [⟨⟨jk,[⟨#[45]⟩,⟨#[]⟩]⟩,.w ga 2 2⟩,⟨⟨nV,[cX,cX]⟩,.w gb 2 2⟩]).flatten) 2 2 (by exact .here) (by exact I) I I ?_;refine JN bo I (fun w1 aY=>Qi (q:=(iv DP [⟨jk,[⟨#[45]⟩,⟨#[]⟩]⟩,⟨nV,[cX,cX]⟩]).1) (i:=1) (e_:=31) (l:=[⟨⟨jk,[⟨#[45]⟩,⟨#[]⟩]⟩,.w ga 2 2⟩,⟨⟨nV,[cX,cX]⟩,.w gb 2 2⟩]) (Prod.ext I VG) ⟨df aY c6 I,di aY dF I,dd aY fx I,c7 aY qY I⟩ VE (mG aY (by exact .here) (by exact I)) (ir (DX (g:=ga) (x:=⟨#[45]⟩) (y:=⟨#[]⟩) aY bO) (ir (DX (g:=gb) (x:=⟨#[99,97,109]⟩) (y:=⟨#[99,97,109]⟩) aY (by exact Take.there .here)) (j8 _)))) ?_;rintro ⟨s28,d28,t28,p28⟩ _
 try dsimp only [id_eq,Zb,Za]
 refine dI (r:=(iv DP [⟨jk,[⟨#[45]⟩,⟨#[]⟩]⟩,⟨nV,[cX,cX]⟩]).1) (s:=s28) (d:=d28) (t:=t28) (p:=p28) (bb _ _) fun XA Xz Xy Xx=>?_
 (refine Jv I<|JJ I I<|JJ I I<|JJ I I<|Jz I I fun _ _=>aq (.of I) (.of I) .here I I (hG I I XA Xz Xy Xx) (bF I) an<|Ja I<|Ja I<|Ji ?_)
 refine cT [row 9 1 HE ([cX,⟨#[]⟩]:List ByteArray).length (aO [cX,⟨#[]⟩]),row 9 1 L7 ([cX,nT,dU]:List ByteArray).length (aO [cX,nT,dU]),row 9 1 MF ([nT]:List ByteArray).length (aO [nT]),row 9 1 Pg ([dU,jk]:List ByteArray).length (aO [dU,jk])] (by exact .cons kB (.cons kB (.cons kB (.cons kB .nil)))) ?_;refine JN k8 I (fun w1 aY=>Qh w1) ?_;rintro ⟨ya,yc⟩ _
 try dsimp only [id_eq,Zb,Za]
 (refine bn (bD (.o I .nil) I I bV bV an) I fun _ _=>ab (aX (.o I (.o I .nil)) an) I ?_)
 rename_i ge KQ;refine JN k8 I (fun w1 aY=>LM w1) ?_;rintro ⟨ua,uc⟩ _
 try dsimp only [id_eq,Zb,Za]
 (refine bn (bD (.o I .nil) I I bV bV an) I fun _ _=>ab (aX (.o I (.o I .nil)) an) I<|bn (bD (.o I (.o I .nil)) I I bV bV an) I fun _ _=>Ja I<|Ji ?_)
 rename_i gf hgf gg hgg;refine bR (g:=ge) (E:=78) (ys:=(jQ [⟨og,.slice ya 2 yc⟩]).flatten) 1 2 c6 (by exact I) I I ?_;refine bR (g:=gf) (E:=78) (ys:=(jQ [⟨oe,.slice ua 2 uc⟩]).flatten) 1 2 bO (by exact I) I I ?_;refine bR (g:=gg) (E:=182) (ys:=(tK [⟨10,[⟨og,.slice ya 2 yc⟩],.w ge 1 1⟩,⟨12,[⟨oe,.slice ua 2 uc⟩],.w gf 1 1⟩]).flatten) 2 2 bO (by exact I) I I ?_;refine cT [row 9 1 HE ([cX,⟨#[]⟩]:List ByteArray).length (aO [cX,⟨#[]⟩]),row 9 1 L7 ([cX,nT,dU]:List ByteArray).length (aO [cX,nT,dU]),row 9 1 MF ([nT]:List ByteArray).length (aO [nT]),row 9 1 Pg ([dU,jk]:List ByteArray).length (aO [dU,jk]),row 182 2 (.w gg 2 2) 2 (tK [⟨10,[⟨og,.slice ya 2 yc⟩],.w ge 1 1⟩,⟨12,[⟨oe,.slice ua 2 uc⟩],.w gf 1 1⟩]).flatten,row 78 2 (.w ge 1 1) 1 (jQ [⟨og,.slice ya 2 yc⟩]).flatten,row 78 2 (.w gf 1 1) 1 (jQ [⟨oe,.slice ua 2 uc⟩]).flatten,row 9 1 (.slice ya 2 yc) 2 (aO og.so),row 9 1 (.slice ua 2 uc) 2 (aO oe.so)] (by exact .cons fx (.cons fx (.cons fx (.cons fx (.h1 (.cons (.there .here) (.h1 (.cons (.there .here) (.h1 .nil))))))))) ?_
 skip
 refine JN k8 I (fun w1 aY=>jN w1) ?_;rintro ⟨s29,d29,t29,p29⟩ _
 try dsimp only [id_eq,Zb,Za]
 refine dI (r:=mh) (s:=s29) (d:=d29) (t:=t29) (p:=p29) (bb _ _) fun adr adq adp ado=>?_;refine Pv I I ?_;refine JN uA I (fun w1 aY=>LN (l:=[⟨10,[⟨og,.slice ya 2 yc⟩],.w ge 1 1⟩,⟨12,[⟨oe,.slice ua 2 uc⟩],.w gf 1 1⟩]) (m:=[⟨10,[og]⟩,⟨12,[oe]⟩]) dU 9 I ⟨df aY (by exact .here) I,di aY (by exact Take.there .here) I,dd aY bO I,c7 aY c6 I⟩ r6 P3.1 P3.2 (D7 aY zD (by exact I)) (mM (mG aY jh (by exact I)) (ir (dA aY Dc (by exact I)) (j8 _)) (mM (mG aY lT (by exact I)) (ir (dA aY lS (by exact I)) (j8 _)) (Az _)))) ?_;rintro Wm _
 try dsimp only [id_eq,Zb,Za]
 refine Jv I<|JJ I I<|JJ I I<|Ja I<|Ja I<|Ji ?_;refine cT [row 9 1 HE ([cX,⟨#[]⟩]:List ByteArray).length (aO [cX,⟨#[]⟩]),row 9 1 L7 ([cX,nT,dU]:List ByteArray).length (aO [cX,nT,dU]),row 9 1 MF ([nT]:List ByteArray).length (aO [nT]),row 9 1 Pg ([dU,jk]:List ByteArray).length (aO [dU,jk]),row 182 2 (.w gg 2 2) 2 (tK [⟨10,[⟨og,.slice ya 2 yc⟩],.w ge 1 1⟩,⟨12,[⟨oe,.slice ua 2 uc⟩],.w gf 1 1⟩]).flatten,row 78 2 (.w ge 1 1) 1 (jQ [⟨og,.slice ya 2 yc⟩]).flatten,row 78 2 (.w gf 1 1) 1 (jQ [⟨oe,.slice ua 2 uc⟩]).flatten,row 9 1 (.slice ya 2 yc) 2 (aO og.so),row 9 1 (.slice ua 2 uc) 2 (aO oe.so),row 9 1 Wm ([⟨#[]⟩,⟨#[]⟩]:List ByteArray).length (aO [⟨#[]⟩,⟨#[]⟩])] (by exact .cons fx (.cons fx (.cons fx (.cons fx (.cons fx (.cons fx (.cons fx (.cons fx (.cons fx (.h1 .nil)))))))))) ?_
 skip
 refine JN k8 I (fun w1 aY=>jN w1) ?_;rintro ⟨s30,d30,t30,p30⟩ _
 try dsimp only [id_eq,Zb,Za]
 refine dI (r:=mh) (s:=s30) (d:=d30) (t:=t30) (p:=p30) (bb _ _) fun adn adm adl adk=>?_;refine Pv I I ?_;refine JN uA I (fun w1 aY=>LN (l:=[⟨10,[⟨og,.slice ya 2 yc⟩],.w ge 1 1⟩,⟨12,[⟨oe,.slice ua 2 uc⟩],.w gf 1 1⟩]) (m:=[⟨10,[og]⟩,⟨12,[oe]⟩]) dU 11 I ⟨df aY (by exact .here) I,di aY (by exact Take.there .here) I,dd aY bO I,c7 aY c6 I⟩ r6 P2.1 P2.2 (D7 aY zD (by exact I)) (mM (mG aY jh (by exact I)) (ir (dA aY Dc (by exact I)) (j8 _)) (mM (mG aY lT (by exact I)) (ir (dA aY lS (by exact I)) (j8 _)) (Az _)))) ?_;rintro Xa _
 try dsimp only [id_eq,Zb,Za]
 refine Jv I<|JJ I I<|JJ I I<|Ja I<|Ja I<|Ji ?_;refine cT [row 9 1 HE ([cX,⟨#[]⟩]:List ByteArray).length (aO [cX,⟨#[]⟩]),row 9 1 L7 ([cX,nT,dU]:List ByteArray).length (aO [cX,nT,dU]),row 9 1 MF ([nT]:List ByteArray).length (aO [nT]),row 9 1 Pg ([dU,jk]:List ByteArray).length (aO [dU,jk]),row 182 2 (.w gg 2 2) 2 (tK [⟨10,[⟨og,.slice ya 2 yc⟩],.w ge 1 1⟩,⟨12,[⟨oe,.slice ua 2 uc⟩],.w gf 1 1⟩]).flatten,row 78 2 (.w ge 1 1) 1 (jQ [⟨og,.slice ya 2 yc⟩]).flatten,row 78 2 (.w gf 1 1) 1 (jQ [⟨oe,.slice ua 2 uc⟩]).flatten,row 9 1 (.slice ya 2 yc) 2 (aO og.so),row 9 1 (.slice ua 2 uc) 2 (aO oe.so),row 9 1 Wm ([⟨#[]⟩,⟨#[]⟩]:List ByteArray).length (aO [⟨#[]⟩,⟨#[]⟩]),row 9 1 Xa ([cX,cX]:List ByteArray).length (aO [cX,cX])] (by exact .cons fx (.cons fx (.cons fx (.cons fx (.cons fx (.cons fx (.cons fx (.cons fx (.cons fx (.cons fx (.h1 .nil))))))))))) ?_
 skip
 refine JN k8 I (fun w1 aY=>jN w1) ?_;rintro ⟨s31,d31,t31,p31⟩ _
 try dsimp only [id_eq,Zb,Za]
 refine dI (r:=mh) (s:=s31) (d:=d31) (t:=t31) (p:=p31) (bb _ _) fun adj adi adh adg=>?_;refine Pv I I ?_;refine JN uA I (fun w1 aY=>LN (l:=[⟨10,[⟨og,.slice ya 2 yc⟩],.w ge 1 1⟩,⟨12,[⟨oe,.slice ua 2 uc⟩],.w gf 1 1⟩]) (m:=[⟨10,[og]⟩,⟨12,[oe]⟩]) dU 12 I ⟨df aY (by exact .here) I,di aY (by exact Take.there .here) I,dd aY bO I,c7 aY c6 I⟩ r6 P1.1 P1.2 (D7 aY zD (by exact I)) (mM (mG aY jh (by exact I)) (ir (dA aY Dc (by exact I)) (j8 _)) (mM (mG aY lT (by exact I)) (ir (dA aY lS (by exact I)) (j8 _)) (Az _)))) ?_;rintro x35 _
 try dsimp only [id_eq,Zb,Za]
 refine Jv I<|JJ I I<|JJ I I<|Ja I<|Ja I<|Ji ?_;refine cT [row 9 1 HE ([cX,⟨#[]⟩]:List ByteArray).length (aO [cX,⟨#[]⟩]),row 9 1 L7 ([cX,nT,dU]:List ByteArray).length (aO [cX,nT,dU]),row 9 1 MF ([nT]:List ByteArray).length (aO [nT]),row 9 1 Pg ([dU,jk]:List ByteArray).length (aO [dU,jk]),row 182 2 (.w gg 2 2) 2 (tK [⟨10,[⟨og,.slice ya 2 yc⟩],.w ge 1 1⟩,⟨12,[⟨oe,.slice ua 2 uc⟩],.w gf 1 1⟩]).flatten,row 78 2 (.w ge 1 1) 1 (jQ [⟨og,.slice ya 2 yc⟩]).flatten,row 78 2 (.w gf 1 1) 1 (jQ [⟨oe,.slice ua 2 uc⟩]).flatten,row 9 1 (.slice ya 2 yc) 2 (aO og.so),row 9 1 (.slice ua 2 uc) 2 (aO oe.so),row 9 1 Wm ([⟨#[]⟩,⟨#[]⟩]:List ByteArray).length (aO [⟨#[]⟩,⟨#[]⟩]),row 9 1 Xa ([cX,cX]:List ByteArray).length (aO [cX,cX]),row 9 1 x35 ([kF,kF]:List ByteArray).length (aO [kF,kF])] (by exact .cons fx (.cons fx (.cons fx (.cons fx (.cons fx (.cons fx (.cons fx (.cons fx (.cons fx (.cons fx (.cons fx (.h1 .nil)))))))))))) ?_;refine JN k8 I (fun w1 aY=>jN w1) ?_;rintro ⟨s32,d32,t32,p32⟩ _
 try dsimp only [id_eq,Zb,Za]
 refine dI (r:=mh) (s:=s32) (d:=d32) (t:=t32) (p:=p32) (bb _ _) fun adf ade adb ada=>?_
 skip
 refine aj bS I (fun w1 aY=>S2 ⟨df aY (by exact .here) I,di aY (by exact Take.there .here) I,dd aY bO I,c7 aY c6 I⟩) ?_;refine cT [row 9 1 HE ([cX,⟨#[]⟩]:List ByteArray).length (aO [cX,⟨#[]⟩]),row 9 1 L7 ([cX,nT,dU]:List ByteArray).length (aO [cX,nT,dU]),row 9 1 MF ([nT]:List ByteArray).length (aO [nT]),row 9 1 Pg ([dU,jk]:List ByteArray).length (aO [dU,jk]),row 9 1 Wm ([⟨#[]⟩,⟨#[]⟩]:List ByteArray).length (aO [⟨#[]⟩,⟨#[]⟩]),row 9 1 Xa ([cX,cX]:List ByteArray).length (aO [cX,cX]),row 9 1 x35 ([kF,kF]:List ByteArray).length (aO [kF,kF])] (by exact .cons dF (.cons dF (.cons dF (.cons dF (.cons jh (.cons jh (.cons jh .nil))))))) ?_;refine Jv I<|JJ I I<|JJ I I<|Ja I<|Ja I<|Ji ?_;simp only [Zb,Za,List.append_eq,List.append]
 (refine Jv I<|Jv I<|JB I (by omega)<|Jv I<|JB I (by omega)<|Jv I<|JB I (by omega)<|Jv I<|JB I (by omega)<|Jv I<|JB I (by omega)<|Jv I<|JB I (by omega)<|Jv I<|JB I (by omega)<|Jv I<|JB I (by omega)<|JC I<|Jv I<|JK I I<|Jv I<|JK I I<|JC I<|ab (dV (.of I) (.of I) (.of I) I) I<|Jv I<|JK I I<|Jv I<|JK I I<|JC I<|ab (dV (.of I) (.of I) (.of I) I) I<|Jv I<|JK I I<|Jv I<|JK I I<|bn (aB (.o I (.o I .nil)) I I I I) I fun _ _=>JK I I ?_)
 rename_i gz0 afs;refine aj bo I (fun w1 aY=>lV (l:=[cX,⟨#[]⟩]) (dA aY (by exact Take.there .here) (by exact I)) (DX (g:=gz0) (x:=⟨#[99,97,109]⟩) (y:=⟨#[]⟩) aY (by exact .here))) ?_
 (refine ab (dV (.of I) (.of I) (.of I) I) I<|Jv I<|JK I I<|Jv I<|JK I I<|bn (aB (.o I (.o I (.o I .nil))) I I I I) I fun _ _=>JK I I ?_)
 rename_i gz1 afr;refine aj bo I (fun w1 aY=>lV (l:=[cX,nT,dU]) (dA aY c6 (by exact I)) (Xi (g:=gz1) (x:=⟨#[99,97,109]⟩) (y:=⟨#[116]⟩) (z:=⟨#[97,105,114]⟩) aY (by exact .here))) ?_
 (refine ab (dV (.of I) (.of I) (.of I) I) I<|Jv I<|JK I I<|Jv I<|JK I I<|bn (aB (.o I .nil) I I I I) I fun _ _=>JK I I ?_)
 rename_i gz2 afq;refine aj bo I (fun w1 aY=>lV (l:=[nT]) (dA aY fx (by exact I)) (Xj (g:=gz2) (x:=⟨#[116]⟩) aY (by exact .here))) ?_
 (refine ab (dV (.of I) (.of I) (.of I) I) I<|Jv I<|JK I I<|Jv I<|JK I I<|bn (aB (.o I (.o I .nil)) I I I I) I fun _ _=>JK I I ?_)
 rename_i gz3 afp;refine aj bo I (fun w1 aY=>lV (l:=[dU,jk]) (dA aY nR (by exact I)) (DX (g:=gz3) (x:=⟨#[97,105,114]⟩) (y:=⟨#[114,101,99]⟩) aY (by exact .here))) ?_
 (refine ab (dV (.of I) (.of I) (.of I) I) I<|Jv I<|JK I I<|Jv I<|JK I I<|bn (aB (.o I (.o I .nil)) I I I I) I fun _ _=>JK I I ?_)
 rename_i gz4 afo;refine aj bo I (fun w1 aY=>lV (l:=[⟨#[]⟩,⟨#[]⟩]) (dA aY jh (by exact I)) (DX (g:=gz4) (x:=⟨#[]⟩) (y:=⟨#[]⟩) aY (by exact .here))) ?_
 (refine ab (dV (.of I) (.of I) (.of I) I) I<|Jv I<|JK I I<|Jv I<|JK I I<|bn (aB (.o I (.o I .nil)) I I I I) I fun _ _=>JK I I ?_)
 rename_i gz5 afn;refine aj bo I (fun w1 aY=>lV (l:=[cX,cX]) (dA aY Dc (by exact I)) (DX (g:=gz5) (x:=⟨#[99,97,109]⟩) (y:=⟨#[99,97,109]⟩) aY (by exact .here))) ?_
 (refine ab (dV (.of I) (.of I) (.of I) I) I<|Jv I<|JK I I<|Jv I<|JK I I<|bn (aB (.o I (.o I .nil)) I I I I) I fun _ _=>JK I I ?_)
 rename_i gz6 afm;refine aj bo I (fun w1 aY=>lV (l:=[kF,kF]) (dA aY S9 (by exact I)) (DX (g:=gz6) (x:=⟨#[118,116,114]⟩) (y:=⟨#[118,116,114]⟩) aY (by exact .here))) ?_
 (refine ab (dV (.of I) (.of I) (.of I) I) I<|Jv I<|JK I I<|Jv I<|JK I I<|ab (GG (.of I) (.of I) SF) I<|ab (dV (.of I) (.of I) (.of I) I) I<|Ja I<|Jn<|Je<|JT ?_)
 rfl
end Go.Proofs.A1
namespace Go.Proofs.A1
open Go Go.SL Go.ChangeShapes Go.WideShapes Go.Deep Go.Joins
open Tryz
open Tryz renaming prog->T_
section
variable {H:Type} {enc:TypeId×Value->H} {w:World}
theorem laidOut:laidOutB T_=true:=by kernel_rfl
theorem Re:ownKnob prog.godebug=none:=by kernel_rfl
theorem LW {b o n:Nat}:Addr.add ⟨b,o,none⟩ n=⟨b,o+n,none⟩:=eW b o n
theorem sJ {T:TypeId} (N9:prog.readableRec T=true) (hrow:T<prog.types.size) {W W':World} {sp':Nat->Bool} {n:Nat} {cs:List Value} {x:DataW H×List MemPlace} (h:DataW.trod enc T_ W 0 (fun _=>true) true n T cs=some x)
  (KA:∀ p∈x.2,W.sameAt W' p) (hs:∀ p∈x.2,sp' p.block=true):DataW.trod enc T_ W' 0 sp' true n T cs=some x:=
 DataW.trod_stays (kids_book laidOut N9) (book_sized N9) (fun h=>by cases h) ⟨hrow,book_self T⟩ h KA hs
theorem D6 {α:Type} [Inhabited α] {Q:α->Prop} {T E:TypeId} {sz:Nat} {cells:α->List Value} (hu:prog.underlying T=some (.slice E)) (hsz:prog.cellsOf E=sz) (h0:0<sz) (hlen:∀ a,(cells a).length=sz)
  (hE:∀ (n:Nat) (cs:List Value) (x:DataW H×List MemPlace),DataW.trod enc T_ w 0 (fun _=>true) true n E cs=some x->∃ e:α,cs=cells e/\Q e)
  {n:Nat} {v:Value} {y:DataW H×List MemPlace} (h:DataW.trod enc T_ w 0 (fun _=>true) true n T [v]=some y):∃ l:List α,Rd w v sz (l.map cells)/\∀ x∈l,Q x:=by
 rcases open_slice hu h with ⟨e,_⟩ | ⟨a,len,cap,m,n',D,Pl,hcs,_,hl,hm,hmm,_,hi⟩
 ·simp only [List.cons.injEq,and_true] at e;subst e;exact ⟨[],Rd.nil w sz,fun _ h=>absurd h Zo⟩
 ·simp only [List.cons.injEq,and_true] at hcs;subst hcs;rw [hsz] at hi;have PF:m=cap:=by simpa using hmm
  have hE:∀ i,i<len->∃ e:α,(∀ j,j<sz->w.cell? (a.add (i*sz+j))=(cells e)[j]?)/\Q e:=fun i iY=>by
   obtain ⟨Qa,hc,ht⟩:=hi i (by omega);obtain ⟨_,iE,jJ⟩:=World.cells?_some hc;obtain ⟨e,rfl,hq⟩:=hE _ _ _ ht;exact ⟨e,fun j hj=>by rw [<- Go.Deep.add_add];exact jJ j hj,hq⟩
  let S:Nat->α:=fun i=>if iY:i<len then (hE i iY).choose else default
  have hS:∀ i j,i<len->j<sz->w.cell? (a.add (i*sz+j))=(cells (S i))[j]?:=fun i j iY hj=>by
   have:=(hE i iY).choose_spec.1 j hj;simpa only [S,dif_pos iY] using this
  have hQ:∀ i,i<len->Q (S i):=fun i iY=>by
   have:=(hE i iY).choose_spec.2;simpa only [S,dif_pos iY] using this
  have wq:(((List.range len).map S).map cells).length=len:=by simp
  refine ⟨(List.range len).map S,?_,fun x hx=>by
   obtain ⟨i,hi,rfl⟩:=Zw.1 hx;exact hQ i (ZU.1 hi)⟩
  by_cases hz:len=0
  ·subst hz;exact ⟨some a,cap,0,0,by rw [wq],by rw [wq];omega,hm,fun hne=>absurd (Zaq.1 wq) hne,fun i r hr=>by
    have:=(Zl.1 hr).1;rw [wq] at this;omega⟩
  ·obtain ⟨b,off,spot⟩:=a;have Uw:spot=none:=by
    have h1:=hS 0 0 (by omega) h0;rw [Zc (by rw [hlen];exact h0)] at h1;simpa [Addr.add] using World.cell?_spot h1
   subst Uw;refine ⟨some ⟨b,off,none⟩,cap,b,off,by rw [wq],by rw [wq];exact hl,hm,fun _=>rfl,fun i r hr=>?_⟩;have iY:i<len:=by
    have:=(Zl.1 hr).1;rwa [wq] at this
   have KC:r=cells (S i):=by
    simp [iY] at hr;exact hr.symm
   subst KC;refine ⟨hlen _,fun j u hu=>?_⟩;have hj:j<sz:=by
    have:=(Zl.1 hu).1;rwa [hlen] at this
   have:=hS i j iY hj;rw [LW,hu] at this;rw [Nat.add_assoc];exact this
theorem pO {α:Type} [Inhabited α] {T E:TypeId} {sz:Nat} {cells:α->List Value} (hu:prog.underlying T=some (.slice E)) (hsz:prog.cellsOf E=sz) (h0:0<sz) (hlen:∀ a,(cells a).length=sz)
  (hE:∀ (n:Nat) (cs:List Value) (x:DataW H×List MemPlace),DataW.trod enc T_ w 0 (fun _=>true) true n E cs=some x->∃ e:α,cs=cells e)
  {n:Nat} {v:Value} {y:DataW H×List MemPlace} (h:DataW.trod enc T_ w 0 (fun _=>true) true n T [v]=some y):∃ l:List α,Rd w v sz (l.map cells):=by
 obtain ⟨l,hl,_⟩:=D6 (Q:=fun _=>True) hu hsz h0 hlen (fun n cs x h=>by obtain ⟨e,he⟩:=hE n cs x h;exact ⟨e,he,trivial⟩) h;exact ⟨l,hl⟩
theorem Uc {α:Type}:∀ {l:List α},l.length=2->∃ a0 a1,l=[a0,a1]
 | [a0,a1],_=>⟨a0,a1,rfl⟩
theorem Fz {α:Type}:∀ {l:List α},l.length=3->∃ a0 a1 a2,l=[a0,a1,a2]
 | [a0,a1,a2],_=>⟨a0,a1,a2,rfl⟩
theorem Ub {α:Type}:∀ {l:List α},l.length=6->∃ a0 a1 a2 a3 a4 a5,l=[a0,a1,a2,a3,a4,a5]
 | [a0,a1,a2,a3,a4,a5],_=>⟨a0,a1,a2,a3,a4,a5,rfl⟩
theorem VX:prog.cellsOf 118=2:=by kernel_rfl
theorem c9:prog.cellsOf 9=1:=by kernel_rfl
theorem c3:prog.cellsOf 3=1:=by kernel_rfl
variable {cs:List Value} {n:Nat} {v:Value} {x:DataW H×List MemPlace}
theorem LB (h:DataW.trod enc T_ w 0 (fun _=>true) true n 118 cs=some x):∃ (a0:ByteArray) (a1:Int),cs=[.string a0,.q a1]:=by
 obtain ⟨ys,n0,_,_,hlen,Mk,hf⟩:=DataW.trod_struct underlying118 h;rw [VX] at hlen;have N5:ys.length=2:=Mk;obtain ⟨k0,k1,rfl⟩:=Uc hlen;have f0:DataW.trod enc T_ w 0 (fun _=>true) true n0 9 (List.take (prog.cellsOf 9) (List.drop 0 [k0,k1]))=ys[0]?:=hf 0 _ I
 rw [c9,Zc (by omega)] at f0;obtain ⟨b0,e0,_,_⟩:=DataW.trod_string underlying9 f0;simp at e0;have f1:DataW.trod enc T_ w 0 (fun _=>true) true n0 3 (List.take (prog.cellsOf 3) (List.drop 1 [k0,k1]))=ys[1]?:=hf 1 _ I
 rw [c3,Zc (by omega)] at f1;obtain ⟨b1,e1,_,_⟩:=DataW.trod_int underlying3 f1;simp at e1;subst e0 e1;exact ⟨b0,b1,I⟩
theorem c88:prog.cellsOf 88=3:=by kernel_rfl
theorem c4:prog.cellsOf 4=1:=by kernel_rfl
theorem OZ (h:DataW.trod enc T_ w 0 (fun _=>true) true n 88 cs=some x):∃ (a0:ByteArray) (a1:Int) (a2:Bool),cs=[.string a0,.q a1,.bool a2]:=by
 obtain ⟨ys,n0,_,_,hlen,Mk,hf⟩:=DataW.trod_struct underlying88 h;rw [c88] at hlen;have N5:ys.length=3:=Mk;obtain ⟨k0,k1,k2,rfl⟩:=Fz hlen;have f0:DataW.trod enc T_ w 0 (fun _=>true) true n0 9 (List.take (prog.cellsOf 9) (List.drop 0 [k0,k1,k2]))=ys[0]?:=hf 0 _ I
 rw [c9,Zc (by omega)] at f0;obtain ⟨b0,e0,_,_⟩:=DataW.trod_string underlying9 f0;simp at e0;have f1:DataW.trod enc T_ w 0 (fun _=>true) true n0 3 (List.take (prog.cellsOf 3) (List.drop 1 [k0,k1,k2]))=ys[1]?:=hf 1 _ I
 rw [c3,Zc (by omega)] at f1;obtain ⟨b1,e1,_,_⟩:=DataW.trod_int underlying3 f1;simp at e1;have f2:DataW.trod enc T_ w 0 (fun _=>true) true n0 4 (List.take (prog.cellsOf 4) (List.drop 2 [k0,k1,k2]))=ys[2]?:=hf 2 _ I
 rw [c4,Zc (by omega)] at f2;obtain ⟨b2,e2,_⟩:=DataW.trod_bool underlying4 f2;simp at e2;subst e0 e1 e2;exact ⟨b0,b1,b2,I⟩
theorem VW:prog.cellsOf 122=3:=by kernel_rfl
theorem LA (h:DataW.trod enc T_ w 0 (fun _=>true) true n 122 cs=some x):∃ (a0:ByteArray) (a1:Int) (a2:Int),cs=[.string a0,.q a1,.q a2]:=by
 obtain ⟨ys,n0,_,_,hlen,Mk,hf⟩:=DataW.trod_struct underlying122 h;rw [VW] at hlen;have N5:ys.length=3:=Mk;obtain ⟨k0,k1,k2,rfl⟩:=Fz hlen;have f0:DataW.trod enc T_ w 0 (fun _=>true) true n0 9 (List.take (prog.cellsOf 9) (List.drop 0 [k0,k1,k2]))=ys[0]?:=hf 0 _ I
 rw [c9,Zc (by omega)] at f0;obtain ⟨b0,e0,_,_⟩:=DataW.trod_string underlying9 f0;simp at e0;have f1:DataW.trod enc T_ w 0 (fun _=>true) true n0 3 (List.take (prog.cellsOf 3) (List.drop 1 [k0,k1,k2]))=ys[1]?:=hf 1 _ I
 rw [c3,Zc (by omega)] at f1;obtain ⟨b1,e1,_,_⟩:=DataW.trod_int underlying3 f1;simp at e1;have f2:DataW.trod enc T_ w 0 (fun _=>true) true n0 3 (List.take (prog.cellsOf 3) (List.drop 2 [k0,k1,k2]))=ys[2]?:=hf 2 _ I
 rw [c3,Zc (by omega)] at f2;obtain ⟨b2,e2,_,_⟩:=DataW.trod_int underlying3 f2;simp at e2;subst e0 e1 e2;exact ⟨b0,b1,b2,I⟩
theorem VV:prog.cellsOf 180=3:=by kernel_rfl
theorem Lz (h:DataW.trod enc T_ w 0 (fun _=>true) true n 180 cs=some x):∃ (a0:Int) (a1:ByteArray) (a2:ByteArray),cs=[.q a0,.string a1,.string a2]:=by
 obtain ⟨ys,n0,_,_,hlen,Mk,hf⟩:=DataW.trod_struct underlying180 h;rw [VV] at hlen;have N5:ys.length=3:=Mk;obtain ⟨k0,k1,k2,rfl⟩:=Fz hlen;have f0:DataW.trod enc T_ w 0 (fun _=>true) true n0 3 (List.take (prog.cellsOf 3) (List.drop 0 [k0,k1,k2]))=ys[0]?:=hf 0 _ I
 rw [c3,Zc (by omega)] at f0;obtain ⟨b0,e0,_,_⟩:=DataW.trod_int underlying3 f0;simp at e0;have f1:DataW.trod enc T_ w 0 (fun _=>true) true n0 9 (List.take (prog.cellsOf 9) (List.drop 1 [k0,k1,k2]))=ys[1]?:=hf 1 _ I
 rw [c9,Zc (by omega)] at f1;obtain ⟨b1,e1,_,_⟩:=DataW.trod_string underlying9 f1;simp at e1;have f2:DataW.trod enc T_ w 0 (fun _=>true) true n0 9 (List.take (prog.cellsOf 9) (List.drop 2 [k0,k1,k2]))=ys[2]?:=hf 2 _ I
 rw [c9,Zc (by omega)] at f2;obtain ⟨b2,e2,_,_⟩:=DataW.trod_string underlying9 f2;simp at e2;subst e0 e1 e2;exact ⟨b0,b1,b2,I⟩
theorem c27:prog.cellsOf 27=6:=by kernel_rfl
theorem c22:prog.cellsOf 22=1:=by kernel_rfl
theorem c23:prog.cellsOf 23=1:=by kernel_rfl
theorem c24:prog.cellsOf 24=1:=by kernel_rfl
theorem c25:prog.cellsOf 25=1:=by kernel_rfl
theorem O0 (h:DataW.trod enc T_ w 0 (fun _=>true) true n 27 cs=some x):∃ (a0:Int) (a1:Int) (a2:Value) (a3:Value) (a4:Value) (a5:Value),cs=[.q a0,.q a1,a2,a3,a4,a5]/\(∃ (m:Nat) (y:DataW H×List MemPlace),DataW.trod enc T_ w 0 (fun _=>true) true m 22 [a2]=some y)/\(∃ (m:Nat) (y:DataW H×List MemPlace),DataW.trod enc T_ w 0 (fun _=>true) true m 23 [a3]=some y)/\(∃ (m:Nat) (y:DataW H×List MemPlace),DataW.trod enc T_ w 0 (fun _=>true) true m 24 [a4]=some y)/\(∃ (m:Nat) (y:DataW H×List MemPlace),DataW.trod enc T_ w 0 (fun _=>true) true m 25 [a5]=some y):=by
 obtain ⟨ys,n0,_,_,hlen,Mk,hf⟩:=DataW.trod_struct underlying27 h;rw [c27] at hlen;have N5:ys.length=6:=Mk;obtain ⟨k0,k1,k2,k3,k4,k5,rfl⟩:=Ub hlen;have f0:DataW.trod enc T_ w 0 (fun _=>true) true n0 3 (List.take (prog.cellsOf 3) (List.drop 0 [k0,k1,k2,k3,k4,k5]))=ys[0]?:=hf 0 _ I
 rw [c3,Zc (by omega)] at f0;obtain ⟨b0,e0,_,_⟩:=DataW.trod_int underlying3 f0;simp at e0;have f1:DataW.trod enc T_ w 0 (fun _=>true) true n0 3 (List.take (prog.cellsOf 3) (List.drop 1 [k0,k1,k2,k3,k4,k5]))=ys[1]?:=hf 1 _ I
 rw [c3,Zc (by omega)] at f1;obtain ⟨b1,e1,_,_⟩:=DataW.trod_int underlying3 f1;simp at e1;have f2:DataW.trod enc T_ w 0 (fun _=>true) true n0 22 (List.take (prog.cellsOf 22) (List.drop 2 [k0,k1,k2,k3,k4,k5]))=ys[2]?:=hf 2 _ I
 rw [c22,Zc (by omega)] at f2;have f3:DataW.trod enc T_ w 0 (fun _=>true) true n0 23 (List.take (prog.cellsOf 23) (List.drop 3 [k0,k1,k2,k3,k4,k5]))=ys[3]?:=hf 3 _ I
 rw [c23,Zc (by omega)] at f3;have f4:DataW.trod enc T_ w 0 (fun _=>true) true n0 24 (List.take (prog.cellsOf 24) (List.drop 4 [k0,k1,k2,k3,k4,k5]))=ys[4]?:=hf 4 _ I
 rw [c24,Zc (by omega)] at f4;have f5:DataW.trod enc T_ w 0 (fun _=>true) true n0 25 (List.take (prog.cellsOf 25) (List.drop 5 [k0,k1,k2,k3,k4,k5]))=ys[5]?:=hf 5 _ I
 rw [c25,Zc (by omega)] at f5;subst e0 e1;exact ⟨b0,b1,k2,k3,k4,k5,I,⟨_,_,by simpa using f2⟩,⟨_,_,by simpa using f3⟩,⟨_,_,by simpa using f4⟩,⟨_,_,by simpa using f5⟩⟩
theorem c5:prog.cellsOf 5=1:=by kernel_rfl
theorem aaD:prog.cellsOf 116=3:=by kernel_rfl
theorem wf_u8 {n:Int} (h:(Lit.int .u8 n).wf=true):0<=n/\n<=255:=by
 simpa [Lit.wf,IntKind.min,IntKind.max,IntKind.signed,IntKind.bits] using h
theorem LC (h:DataW.trod enc T_ w 0 (fun _=>true) true n 116 cs=some x):∃ a0 a1 a2:Int,cs=[.int .u8 a0,.int .u8 a1,.int .u8 a2]/\(0<=a0/\a0<=255)/\(0<=a1/\a1<=255)/\(0<=a2/\a2<=255):=by
 obtain ⟨ys,n0,_,_,hlen,Mk,hf⟩:=DataW.trod_array underlying116 h;rw [aaD] at hlen;obtain ⟨k0,k1,k2,rfl⟩:=Fz hlen;have key:∀ i,i<3->DataW.trod enc T_ w 0 (fun _=>true) true n0 5 (List.take 1 (List.drop i [k0,k1,k2]))=ys[i]?:=fun i hi=>by
  have:=hf i hi;rwa [c5,Zas] at this
 have f0:=key 0 (by omega);rw [Zc (by omega)] at f0;obtain ⟨b0,e0,_,w0⟩:=DataW.trod_int underlying5 f0;simp at e0;have f1:=key 1 (by omega);rw [Zc (by omega)] at f1;obtain ⟨b1,e1,_,w1⟩:=DataW.trod_int underlying5 f1;simp at e1;have f2:=key 2 (by omega);rw [Zc (by omega)] at f2;obtain ⟨b2,e2,_,w2⟩:=DataW.trod_int underlying5 f2;simp at e2;subst e0 e1 e2;exact ⟨b0,b1,b2,I,wf_u8 w0,wf_u8 w1,wf_u8 w2⟩
theorem I6 (h:DataW.trod enc T_ w 0 (fun _=>true) true n 22 [v]=some x):∃ l,Rd w v 2 (uj l):=by
 haveI:Inhabited Sr:=⟨⟨⟨#[]⟩,0⟩⟩
 exact pO (cells:=Sr.cells) underlying22 VX (by decide) (fun _=>rfl) (fun _ _ _ h=>by obtain ⟨a,b,rfl⟩:=LB h;exact ⟨⟨a,b⟩,rfl⟩) h
theorem I8 (h:DataW.trod enc T_ w 0 (fun _=>true) true n 23 [v]=some x):∃ l,Rd w v 3 (ue l):=by
 haveI:Inhabited De:=⟨⟨⟨#[]⟩,0,false⟩⟩
 exact pO (cells:=De.cells) underlying23 c88 (by decide) (fun _=>rfl) (fun _ _ _ h=>by obtain ⟨a,b,c,rfl⟩:=OZ h;exact ⟨⟨a,b,c⟩,rfl⟩) h
theorem I5 (h:DataW.trod enc T_ w 0 (fun _=>true) true n 24 [v]=some x):∃ l,Rd w v 3 (tE l):=by
 haveI:Inhabited Ti:=⟨⟨⟨#[]⟩,0,0⟩⟩
 exact pO (cells:=Ti.cells) underlying24 VW (by decide) (fun _=>rfl) (fun _ _ _ h=>by obtain ⟨a,b,c,rfl⟩:=LA h;exact ⟨⟨a,b,c⟩,rfl⟩) h
theorem I7 (h:DataW.trod enc T_ w 0 (fun _=>true) true n 25 [v]=some x):∃ l,Rd w v 3 (sq l):=by
 haveI:Inhabited Po:=⟨⟨0,⟨#[]⟩,⟨#[]⟩⟩⟩
 exact pO (cells:=Po.cells) underlying25 VV (by decide) (fun _=>rfl) (fun _ _ _ h=>by obtain ⟨a,b,c,rfl⟩:=Lz h;exact ⟨⟨a,b,c⟩,rfl⟩) h
theorem oL (h:DataW.trod enc T_ w 0 (fun _=>true) true n 27 cs=some x):∃ (r:Ro) (s d t p:Value),cs=[.q r.lv,.q r.ma,s,d,t,p]/\RR w r s d t p:=by
 obtain ⟨a,b,s,d,t,p,rfl,⟨_,_,h1⟩,⟨_,_,h2⟩,⟨_,_,h3⟩,⟨_,_,h4⟩⟩:=O0 h;obtain ⟨l1,r1⟩:=I6 h1;obtain ⟨l2,r2⟩:=I8 h2;obtain ⟨l3,r3⟩:=I5 h3;obtain ⟨l4,r4⟩:=I7 h4;exact ⟨⟨a,b,l1,l2,l3,l4⟩,s,d,t,p,I,r1,r2,r3,r4⟩
theorem xP {P:Program} {w:World} {r:Reach} {base:Nat} {t:TypeId} {e:TypeId} (ht:P.underlying t=some (.array n e)) (h:Value.okWide P w r base t v):∃ cs,v=.agg cs/\cs.size=P.cellsOf t:=by
 simp only [Value.okWide,ht] at h;obtain ⟨cs,h1,h2,_⟩:=h;exact ⟨cs,h1,h2⟩
end
end Go.Proofs.A1
namespace Go.Proofs.YteonnodafmegaaaGreatDoor
open Go Go.SL Go.Proofs.A1 Go.ChangeShapes Go.WideShapes Go.ChangeAt Go.RowKit Go.Joins
section
variable {H:Type} {enc:TypeId×Value->H} {P:Program}
theorem mm {f:Func} {s:ChangeSpec} {apart fresh handsOn again:Bool} {W W':World} {args:Array Value} {v:Value} {ds gs:List (DataW H)} {before pa pv:List MemPlace}
  (hW:DataW.Whole enc P f.params.toList s.vars apart W args.toList ds gs before)
  (UC:∀ (b:Nat) (sp:Nat->Bool) (hd:Bool),DataW.TrodAll enc P W' b sp hd f.resultTypes.toList (v.resultList f.resultTypes.size) (s.fn H (ds++gs)).results [])
  (tY:∀ sp:Nat->Bool,(∀ p∈before,sp p.block=true)->DataW.TrodAll enc P W' 0 sp true f.params.toList args.toList (s.fn H (ds++gs)).args pa)
  (PA:∀ sp:Nat->Bool,(∀ p∈before,sp p.block=true)->DataW.TrodVars enc P W' sp s.vars (s.fn H (ds++gs)).vars pv)
  (hps:before=pa++pv) (hb:Below W.heap.size W W')
  (dw:∀ (j:Nat) (t:TypeId) (r:Value),f.resultTypes[j]? = some t->(v.resultList f.resultTypes.size)[j]? = some r->Value.okWide P W' .any 0 t r) :
  s.post enc P f apart fresh handsOn again W args v W':=by
 have aN:∀ p∈before,p.block<W.heap.size:=fun p hp=>hW.lt p hp
 have hold:∀ p∈before,(fun b=>decide (b<W.heap.size)) p.block=true:=fun p hp=>by simpa using aN p hp
 refine ⟨ds,gs,before,[],pa,pv,hW,UC _ _ _,tY _ hold,PA _ hold,World.keptBut_mono (fun p hp=>⟨hp,?_⟩) (hb.frame (·∈before)),fun _=>?_⟩
 ·rw [hps,Zq] at hp;exact Or.inr hp
 ·obtain ⟨_,_,_,_,_,hz,hn⟩:=hW;refine ⟨dw,_,_,([]++pa)++pv,⟨[]++pa,pv,trodAll_append (tY _ (fun _ _=>rfl)) (UC _ _ _),PA _ (fun _ _=>rfl),I,?_,?_⟩,?_⟩
  ·intro b off hp;have oU:MemPlace.cell b off∈before:=by rw [hps];simpa using hp
   rw [hb.frozen (aN _ oU)];exact hz b off oU
  ·intro ha;have:=hn ha;rw [hps] at this;simpa using this
  ·intro p hp _;rw [hps];simpa using hp
end
end Go.Proofs.YteonnodafmegaaaGreatDoor
namespace Go.Proofs.A1
open Go Go.SL
open Tryz
open Tryz renaming prog->T_
variable {k:Nat} {l:List ByteArray} {r:Ro} {s:ByteArray}
theorem OF {s d t p:Value} (o:ByteArray) {w:World} (h:RR w r s d t p):ao T_ 130 [RA r s d t p,.string o] w (.q (br (cz r) o)):=by
 obtain ⟨h1,h2,h3,h4⟩:=h.one;have hs:=h.sr;obtain ⟨a,cp,b,o',rfl,dD,cr,ha,hc⟩:=hs;rw [cy] at *;unfold maxLen at cr;unfold RA;refine ak func130 I I ?_;refine Jr<|Jy I I fun _ _=>Ja I<|Jn<|Jq<|Jr<|Ja I<|Jn<|J0 ?_;rename_i b1 rW;refine bd (ι:=Nat) (fun k=>k<=r.sr.length/\∀ j (hj:j<(cz r).length),j<k->(cz r)[j]≠o) (fun k=>[(5,.int .i64 (k:Nat)),(2,.pointer (some ⟨b1,0,none⟩)),(1,.string o)]) (fun _=>[JQ b1 r (.slice a r.sr.length cp) d t p]) (fun k=>r.sr.length-k) ?_ ?_
 ·apply aJ (0:Nat) ⟨Zi _,fun j _ hj=>absurd hj (ZW _)⟩
  case hs1=>exact cB
  case ht=>(try simp only [Ze,Zf,Za]);exact .h1 .nil
 rintro k ⟨hk,hf⟩;have rS:(cz r).length=r.sr.length:=by unfold cz;rw [Zd]
 by_cases aN:k<r.sr.length
 ·have c8:=ha (gW aN);have aG:=(hc k _ (fG aN)).2;have hx:(cz r)[k]'(by omega)=(r.sr[k]).nm:=by unfold cz;rw [Z2]
  have c0:w.cell? ⟨b,o'+k*2,none⟩=some (.string (r.sr[k]).nm):=aG 0 _ I;generalize (r.sr[k]).nm=x at hx c0
  (refine Jq<|Jr<|Jv I<|bN I I ae<|JL I .here I<|JI I<|JA I<|Jn<|Jd I fun aA=>Jk<|Jq<|J0<|Jr<|bN I I ae<|JL I .here I<|Jv I<|ab (gr c8 aA) I<|bN I I ae<|ab (ag (.of I) (At.base c0 I)) I<|Jv I<|ab (eR (.of I) (.of I)) I<|Jn<|gR I (fun aA=>?_) fun aA=>?_;refine Jr<|Jv I<|Ja I<|Jn<|Je<|Jm<|Jh<|Jh<|Jm<|Jh<|JT ?_;rotate_left;refine Jw<|Jj<|Jt<|Jg<|Jv I<|JB I (by omega)<|Ja I<|Jn ?_;rotate_right)
  ·have tS:x=o:=aA;rw [lx (i:=k) (by omega) (hx.trans tS) (fun j hj=>hf j (by omega) hj)]
  ·have tS:¬ x=o:=aA;apply aI (k+1) ⟨(show k+1<=r.sr.length from aN),fun j hj WR=>by
    by_cases e:j=k
    ·subst e;rw [hx];exact tS
    ·exact hf j hj (by omega)⟩ (show r.sr.length-(k+1)<r.sr.length-k by omega)
   case hs1=>exact cB
   case ht=>(try simp only [Ze,Zf,Za]);exact .h1 .nil
 ·obtain rfl:k=r.sr.length:=by omega
  rw [AX fun j hj=>hf j hj (by omega)]
  (refine Jq<|Jr<|Jv I<|bN I I ae<|JL I .here I<|JI I<|JA I<|Jn<|Jc I fun aA=>Jp<|Jl<|Jo<|Jt<|Jr<|Ja I<|Jn<|Je<|JT ?_)
  rfl
theorem FZ {s d t p:Value} (o:ByteArray) {w:World} (h:RR w r s d t p):ao T_ 56 [RA r s d t p,.string o] w (.q (br (bY r) o)):=by
 obtain ⟨h1,h2,h3,h4⟩:=h.one;have hs:=h.de;obtain ⟨a,cp,b,o',rfl,dD,cr,ha,hc⟩:=hs;rw [bZ] at *;unfold maxLen at cr;unfold RA;refine ak func56 I I ?_;refine Jr<|Jy I I fun _ _=>Ja I<|Jn<|Jq<|Jr<|Ja I<|Jn<|J0 ?_;rename_i b1 rW;refine bd (ι:=Nat) (fun k=>k<=r.de.length/\∀ j (hj:j<(bY r).length),j<k->(bY r)[j]≠o) (fun k=>[(5,.int .i64 (k:Nat)),(2,.pointer (some ⟨b1,0,none⟩)),(1,.string o)]) (fun _=>[JQ b1 r s (.slice a r.de.length cp) t p]) (fun k=>r.de.length-k) ?_ ?_
 ·apply aJ (0:Nat) ⟨Zi _,fun j _ hj=>absurd hj (ZW _)⟩
  case hs1=>exact cB
  case ht=>(try simp only [Ze,Zf,Za]);exact .h1 .nil
 rintro k ⟨hk,hf⟩;have rS:(bY r).length=r.de.length:=by unfold bY;rw [Zd]
 by_cases aN:k<r.de.length
 ·have c8:=ha (gI aN);have aG:=(hc k _ (fq aN)).2;have hx:(bY r)[k]'(by omega)=(r.de[k]).nm:=by unfold bY;rw [Z2]
  have c0:w.cell? ⟨b,o'+k*3,none⟩=some (.string (r.de[k]).nm):=aG 0 _ I;generalize (r.de[k]).nm=x at hx c0
  (refine Jq<|Jr<|Jv I<|bN I I ae<|JL I .here I<|JI I<|JA I<|Jn<|Jd I fun aA=>Jk<|Jq<|J0<|Jr<|bN I I ae<|JL I .here I<|Jv I<|ab (gr c8 aA) I<|bN I I ae<|ab (ag (.of I) (At.base c0 I)) I<|Jv I<|ab (eR (.of I) (.of I)) I<|Jn<|gR I (fun aA=>?_) fun aA=>?_;refine Jr<|Jv I<|Ja I<|Jn<|Je<|Jm<|Jh<|Jh<|Jm<|Jh<|JT ?_;rotate_left;refine Jw<|Jj<|Jt<|Jg<|Jv I<|JB I (by omega)<|Ja I<|Jn ?_;rotate_right)
  ·have tS:x=o:=aA;rw [lx (i:=k) (by omega) (hx.trans tS) (fun j hj=>hf j (by omega) hj)]
  ·have tS:¬ x=o:=aA;apply aI (k+1) ⟨(show k+1<=r.de.length from aN),fun j hj WR=>by
    by_cases e:j=k
    ·subst e;rw [hx];exact tS
    ·exact hf j hj (by omega)⟩ (show r.de.length-(k+1)<r.de.length-k by omega)
   case hs1=>exact cB
   case ht=>(try simp only [Ze,Zf,Za]);exact .h1 .nil
 ·obtain rfl:k=r.de.length:=by omega
  rw [AX fun j hj=>hf j hj (by omega)]
  (refine Jq<|Jr<|Jv I<|bN I I ae<|JL I .here I<|JI I<|JA I<|Jn<|Jc I fun aA=>Jp<|Jl<|Jo<|Jt<|Jr<|Ja I<|Jn<|Je<|JT ?_)
  rfl
theorem AZ {s d t p:Value} (o:ByteArray) {w:World} (h:RR w r s d t p):ao T_ 60 [RA r s d t p,.string o] w (.q (br (ct r) o)):=by
 obtain ⟨h1,h2,h3,h4⟩:=h.one;have hs:=h.ti;obtain ⟨a,cp,b,o',rfl,dD,cr,ha,hc⟩:=hs;rw [bU] at *;unfold maxLen at cr;unfold RA;refine ak func60 I I ?_;refine Jr<|Jy I I fun _ _=>Ja I<|Jn<|Jq<|Jr<|Ja I<|Jn<|J0 ?_;rename_i b1 rW;refine bd (ι:=Nat) (fun k=>k<=r.ti.length/\∀ j (hj:j<(ct r).length),j<k->(ct r)[j]≠o) (fun k=>[(5,.int .i64 (k:Nat)),(2,.pointer (some ⟨b1,0,none⟩)),(1,.string o)]) (fun _=>[JQ b1 r s d (.slice a r.ti.length cp) p]) (fun k=>r.ti.length-k) ?_ ?_
 ·apply aJ (0:Nat) ⟨Zi _,fun j _ hj=>absurd hj (ZW _)⟩
  case hs1=>exact cB
  case ht=>(try simp only [Ze,Zf,Za]);exact .h1 .nil
 rintro k ⟨hk,hf⟩;have rS:(ct r).length=r.ti.length:=by unfold ct;rw [Zd]
 by_cases aN:k<r.ti.length
 ·have c8:=ha (eV aN);have aG:=(hc k _ (ed aN)).2;have hx:(ct r)[k]'(by omega)=(r.ti[k]).nm:=by unfold ct;rw [Z2]
  have c0:w.cell? ⟨b,o'+k*3,none⟩=some (.string (r.ti[k]).nm):=aG 0 _ I;generalize (r.ti[k]).nm=x at hx c0
  (refine Jq<|Jr<|Jv I<|bN I I ae<|JL I .here I<|JI I<|JA I<|Jn<|Jd I fun aA=>Jk<|Jq<|J0<|Jr<|bN I I ae<|JL I .here I<|Jv I<|ab (gr c8 aA) I<|bN I I ae<|ab (ag (.of I) (At.base c0 I)) I<|Jv I<|ab (eR (.of I) (.of I)) I<|Jn<|gR I (fun aA=>?_) fun aA=>?_;refine Jr<|Jv I<|Ja I<|Jn<|Je<|Jm<|Jh<|Jh<|Jm<|Jh<|JT ?_;rotate_left;refine Jw<|Jj<|Jt<|Jg<|Jv I<|JB I (by omega)<|Ja I<|Jn ?_;rotate_right)
  ·have tS:x=o:=aA;rw [lx (i:=k) (by omega) (hx.trans tS) (fun j hj=>hf j (by omega) hj)]
  ·have tS:¬ x=o:=aA;apply aI (k+1) ⟨(show k+1<=r.ti.length from aN),fun j hj WR=>by
    by_cases e:j=k
    ·subst e;rw [hx];exact tS
    ·exact hf j hj (by omega)⟩ (show r.ti.length-(k+1)<r.ti.length-k by omega)
   case hs1=>exact cB
   case ht=>(try simp only [Ze,Zf,Za]);exact .h1 .nil
 ·obtain rfl:k=r.ti.length:=by omega
  rw [AX fun j hj=>hf j hj (by omega)]
  (refine Jq<|Jr<|Jv I<|bN I I ae<|JL I .here I<|JI I<|JA I<|Jn<|Jc I fun aA=>Jp<|Jl<|Jo<|Jt<|Jr<|Ja I<|Jn<|Je<|JT ?_)
  rfl
theorem FE {s d t p:Value} (v:Int) (o:ByteArray) {w:World} (h:RR w r s d t p):ao T_ 133 [RA r s d t p,.q v,.string o] w (.string ((eJ r.po v o).getD ⟨#[]⟩)):=by
 obtain ⟨h1,h2,h3,h4⟩:=h.one;have hs:=h.po;obtain ⟨a,cp,b,o',rfl,dD,cr,ha,hc⟩:=hs;rw [cO] at *;unfold maxLen at cr;unfold RA;refine ak func133 I I ?_;refine Jr<|Jy I I fun _ _=>Ja I<|Jn<|Jq<|Jr<|Ja I<|Jn<|J0 ?_;rename_i b1 rW;refine bd (ι:=Nat) (fun k=>k<=r.po.length/\eJ r.po v o=((r.po.drop k).find? (EM v o)).map Po.ip) (fun k=>[(7,.int .i64 (k:Nat)),(3,.pointer (some ⟨b1,0,none⟩)),(1,.int .i64 v),(2,.string o)]) (fun _=>[JQ b1 r s d t (.slice a r.po.length cp)]) (fun k=>r.po.length-k) ?_ ?_
 ·apply aJ (0:Nat) ⟨Zi _,I⟩
  case hs1=>exact cB
  case ht=>(try simp only [Ze,Zf,Za]);exact .h1 .nil
 rintro k ⟨hk,hf⟩;by_cases aN:k<r.po.length
 ·have c8:=ha (kE aN);have aG:=(hc k _ (iK aN)).2;rw [Zv aN] at hf;have c0:w.cell? ⟨b,o'+k*3,none⟩=some (.q (r.po[k]).lv):=aG 0 _ I;have c1:w.cell? ⟨b,o'+k*3+1,none⟩=some (.string (r.po[k]).ou):=aG 1 _ I;have c2:w.cell? ⟨b,o'+k*3+2,none⟩=some (.string (r.po[k]).ip):=aG 2 _ I;generalize r.po[k]=x at hf c0 c1 c2
  (refine Jq<|Jr<|Jv I<|bN I I ae<|JL I .here I<|JI I<|JA I<|Jn<|Jd I fun aA=>Jk<|Jq<|J0<|Jr<|bN I I ae<|JL I .here I<|Jv I<|ab (gr c8 aA) I<|bN I I ae<|ab (ag (.of I) (At.base c0 I)) I<|Jv I<|JC I<|Jv I<|au I I (fun hg bG=>(ai (.of I) ae)) I<|au I I (fun hg bG=>(ag (.bX hg I) (At.lit .here I))) I<|gy I I I I<|au I I (fun hg bG=>(aC (.bX hg I) (.bX hg I) c8 (by omega) aA bu)) I<|au I I (fun hg bG=>(ai (.bX hg I) ae)) I<|au I I (fun hg bG=>(ag (.bX hg I) (At.base c1 I))) I<|gy I I I I<|au I I (fun hg bG=>(eR (.bX hg I) (.bX hg I))) I<|ab (cE (.of I) I) I<|Jn<|oq I (fun aA=>?_) fun aA=>?_;refine Jr<|bN I I ae<|JL I .here I<|Jv I<|ab (aC (.of I) (.of I) c8 (by omega) (by assumption) bu) I<|bN I I ae<|ab (ag (.of I) (At.base c2 I)) I<|Ja I<|Jn<|Je<|Jm<|Jh<|Jh<|Jm<|Jh<|JT ?_;rotate_left;refine Jw<|Jj<|Jt<|Jg<|Jv I<|JB I (by omega)<|Ja I<|Jn ?_;rotate_right)
  ·rw [hf,List.find?_cons_of_pos (by unfold EM;simp only [Zm,decide_eq_true_eq];exact aA)];rfl
  ·apply aI (k+1) ⟨(show k+1<=r.po.length from aN),by rw [hf,List.find?_cons_of_neg (by unfold EM;simp only [Zm,decide_eq_true_eq];exact fun q=>aA.elim (fun z=>z q.1) (fun z=>z q.2))]⟩ (show r.po.length-(k+1)<r.po.length-k by omega)
   case hs1=>exact cB
   case ht=>(try simp only [Ze,Zf,Za]);exact .h1 .nil
 ·obtain rfl:k=r.po.length:=by omega
  rw [Z8] at hf;rw [hf]
  (refine Jq<|Jr<|Jv I<|bN I I ae<|JL I .here I<|JI I<|JA I<|Jn<|Jc I fun aA=>Jp<|Jl<|Jo<|Jt<|Jr<|Ja I<|Jn<|Je<|JT ?_)
  rfl
theorem Qw {s d t p:Value} (v:Int) (o:ByteArray) {w:World} (h:RR w r s d t p):ao T_ 233 [RA r s d t p,.q v,.string o] w (.bool (nS r.po v o)):=by
 obtain ⟨h1,h2,h3,h4⟩:=h.one;have hs:=h.po;obtain ⟨a,cp,b,o',rfl,dD,cr,ha,hc⟩:=hs;rw [cO] at *;unfold maxLen at cr;unfold RA;refine ak func233 I I ?_;refine Jr<|Jy I I fun _ _=>Ja I<|Jn<|Jq<|Jr<|Ja I<|Jn<|J0 ?_;rename_i b1 rW;refine bd (ι:=Nat) (fun k=>k<=r.po.length/\nS r.po v o=(r.po.drop k).any (AK v o)) (fun k=>[(7,.int .i64 (k:Nat)),(3,.pointer (some ⟨b1,0,none⟩)),(1,.int .i64 v),(2,.string o)]) (fun _=>[JQ b1 r s d t (.slice a r.po.length cp)]) (fun k=>r.po.length-k) ?_ ?_
 ·apply aJ (0:Nat) ⟨Zi _,I⟩
  case hs1=>exact cB
  case ht=>(try simp only [Ze,Zf,Za]);exact .h1 .nil
 rintro k ⟨hk,hf⟩;by_cases aN:k<r.po.length
 ·have c8:=ha (kE aN);have aG:=(hc k _ (iK aN)).2;rw [Zv aN] at hf;have c0:w.cell? ⟨b,o'+k*3,none⟩=some (.q (r.po[k]).lv):=aG 0 _ I;have c1:w.cell? ⟨b,o'+k*3+1,none⟩=some (.string (r.po[k]).ou):=aG 1 _ I;have c2:w.cell? ⟨b,o'+k*3+2,none⟩=some (.string (r.po[k]).ip):=aG 2 _ I;generalize r.po[k]=x at hf c0 c1 c2
  (refine Jq<|Jr<|Jv I<|bN I I ae<|JL I .here I<|JI I<|JA I<|Jn<|Jd I fun aA=>Jk<|Jq<|J0<|Jr<|bN I I ae<|JL I .here I<|Jv I<|ab (gr c8 aA) I<|bN I I ae<|ab (ag (.of I) (At.base c0 I)) I<|Jv I<|JC I<|Jv I<|au I I (fun hg bG=>(ai (.of I) ae)) I<|au I I (fun hg bG=>(ag (.bX hg I) (At.lit .here I))) I<|gy I I I I<|au I I (fun hg bG=>(aC (.bX hg I) (.bX hg I) c8 (by omega) aA bu)) I<|au I I (fun hg bG=>(ai (.bX hg I) ae)) I<|au I I (fun hg bG=>(ag (.bX hg I) (At.base c2 I))) I<|gy I I I I<|au I I (fun hg bG=>(eR (.bX hg I) (.bX hg I))) I<|ab (cE (.of I) I) I<|Jn<|oq I (fun aA=>?_) fun aA=>?_;refine Jr<|Ja I<|Jn<|Je<|Jm<|Jh<|Jh<|Jm<|Jh<|JT ?_;rotate_left;refine Jw<|Jj<|Jt<|Jg<|Jv I<|JB I (by omega)<|Ja I<|Jn ?_;rotate_right)
  ·rw [hf,List.any_cons,show AK v o x=true by unfold AK;simp only [Zm,decide_eq_true_eq];exact aA];rfl
  ·apply aI (k+1) ⟨(show k+1<=r.po.length from aN),by rw [hf,List.any_cons,show AK v o x=false by unfold AK;rw [<- Zae];simp only [Zm,decide_eq_true_eq];exact fun q=>aA.elim (fun z=>z q.1) (fun z=>z q.2),ZbD]⟩ (show r.po.length-(k+1)<r.po.length-k by omega)
   case hs1=>exact cB
   case ht=>(try simp only [Ze,Zf,Za]);exact .h1 .nil
 ·obtain rfl:k=r.po.length:=by omega
  rw [Z8] at hf;rw [hf]
  (refine Jq<|Jr<|Jv I<|bN I I ae<|JL I .here I<|JI I<|JA I<|Jn<|Jc I fun aA=>Jp<|Jl<|Jo<|Jt<|Jr<|Ja I<|Jn<|Je<|JT ?_)
  rfl
theorem rY (h:0<=br l s):∃ k:Nat,br l s=k/\k<l.length:=⟨(br l s).toNat,by omega,(ei h).1⟩
theorem Rn (e:br (bY r) s=k) (hk:k<r.de.length):jR r s=(r.de[k]).mx:=by
 unfold jR;rw [if_pos (by omega),e,Zy,Zk,Zc hk];rfl
theorem Rl (h:¬ 0<=br (bY r) s) (e:br (ct r) s=k) (hk:k<r.ti.length):jR r s=(r.ti[k]).fr:=by
 unfold jR;rw [if_neg h,if_pos (by omega),e,Zy,Zk,Zc hk];rfl
theorem Rm (h:¬ 0<=br (bY r) s) (h2:¬ 0<=br (ct r) s):jR r s = -1:=by
 unfold jR;rw [if_neg h,if_neg h2]
theorem RF (e:br (cz r) s=k) (hk:k<r.sr.length):jH r s=(r.sr[k]).mx:=by
 unfold jH;rw [if_pos (by omega),e,Zy,Zk,Zc hk];rfl
theorem RE (h:¬ 0<=br (cz r) s) (e:br (ct r) s=k) (hk:k<r.ti.length):jH r s=(r.ti[k]).to:=by
 unfold jH;rw [if_neg h,if_pos (by omega),e,Zy,Zk,Zc hk];rfl
theorem RG (h:¬ 0<=br (cz r) s) (h2:¬ 0<=br (ct r) s):jH r s = -1:=by
 unfold jH;rw [if_neg h,if_neg h2]
theorem I0 {s d t p:Value} (o:ByteArray) {w:World} (h:RR w r s d t p):ao T_ 232 [RA r s d t p,.string o] w (.q (jR r o)):=by
 obtain ⟨h1,h2,h3,h4⟩:=h.one;have hA:∀ w',aH [] w w'->ao T_ 56 [.agg #[.int .i64 r.lv,.int .i64 r.ma,s,d,t,p],.string o] w' (.int .i64 (br (bY r) o)):=fun w' hk=>FZ o (h.keeps hk)
 have hB:∀ w',aH [] w w'->ao T_ 60 [.agg #[.q r.lv,.q r.ma,s,d,t,p],.string o] w' (.q (br (ct r) o)):=fun w' hk=>AZ o (h.keeps hk)
 have n1:(bY r).length=r.de.length:=by unfold bY;rw [Zd]
 have n2:(ct r).length=r.ti.length:=by unfold ct;rw [Zd]
 have hs:=h.de;obtain ⟨a,cp,b,o',rfl,dD,cr,ha,hc⟩:=hs;rw [bZ] at *;have ht:=h.ti;obtain ⟨a2,l9,b2,o2,rfl,kp,fh,js,jT⟩:=ht;rw [bU] at *;unfold maxLen at cr fh;by_cases g1:0<=br (bY r) o
 ·obtain ⟨k,e,hk⟩:=rY g1;rw [n1] at hk;rw [Rn e hk];rw [e] at hA;have c8:=ha (gI hk);have aG:=(hc k _ (fq hk)).2;have c0:w.cell? ⟨b,o'+k*3+1,none⟩=some (.int .i64 (r.de[k]).mx):=aG 1 _ I;unfold RA;refine ak func232 I I ?_
  (refine Jr<|Jy I I fun _ _=>Ja I<|Jn<|Jq<|Jr<|ab (cN .here) I<|Jv I<|aj bo I (fun w' az=>(hA w' (Mem.keeps az)))<|Ja I<|Ji<|Jv I<|JG I<|Jn<|Jd I fun aA=>Jr<|bN I I ae<|JL I .here I<|Jv I<|ab (aC (.of I) (.of I) c8 aA (by omega) bu) I<|bN I I ae<|ab (ag (.of I) (At.base c0 I)) I<|Ja I<|Jn<|Ju<|JT ?_)
  rfl
 by_cases g2:0<=br (ct r) o
 ·obtain ⟨k,e,hk⟩:=rY g2;rw [n2] at hk;rw [Rl g1 e hk];rw [e] at hB;have c8:=js (eV hk);have aG:=(jT k _ (ed hk)).2;have c0:w.cell? ⟨b2,o2+k*3+1,none⟩=some (.int .i64 (r.ti[k]).fr):=aG 1 _ I;unfold RA;refine ak func232 I I ?_
  (refine Jr<|Jy I I fun _ _=>Ja I<|Jn<|Jq<|Jr<|ab (cN .here) I<|Jv I<|aj bo I (fun w' az=>(hA w' (Mem.keeps az)))<|Ja I<|Ji<|Jv I<|JG I<|Jn<|Jc I fun aA=>Jk<|Jq<|Jr<|ab (cN .here) I<|Jv I<|aj bo I (fun w' az=>(hB w' (Mem.keeps az)))<|Ja I<|Ji<|Jv I<|JG I<|Jn<|Jd I fun aA=>Jr<|bN I I ae<|JL I .here I<|Jv I<|ab (aC (.of I) (.of I) c8 aA (by omega) bu) I<|bN I I ae<|ab (ag (.of I) (At.base c0 I)) I<|Ja I<|Jn<|Ju<|JT ?_)
  rfl
 rw [Rm g1 g2];unfold RA;refine ak func232 I I ?_
 (refine Jr<|Jy I I fun _ _=>Ja I<|Jn<|Jq<|Jr<|ab (cN .here) I<|Jv I<|aj bo I (fun w' az=>(hA w' (Mem.keeps az)))<|Ja I<|Ji<|Jv I<|JG I<|Jn<|Jc I fun aA=>Jk<|Jq<|Jr<|ab (cN .here) I<|Jv I<|aj bo I (fun w' az=>(hB w' (Mem.keeps az)))<|Ja I<|Ji<|Jv I<|JG I<|Jn<|Jc I fun aA=>Jk<|Jr<|Ja I<|Jn<|Je<|JT ?_)
 rfl
theorem NY {s d t p:Value} (o:ByteArray) {w:World} (h:RR w r s d t p):ao T_ 231 [RA r s d t p,.string o] w (.q (jH r o)):=by
 obtain ⟨h1,h2,h3,h4⟩:=h.one;have hA:∀ w',aH [] w w'->ao T_ 130 [.agg #[.int .i64 r.lv,.int .i64 r.ma,s,d,t,p],.string o] w' (.int .i64 (br (cz r) o)):=fun w' hk=>OF o (h.keeps hk)
 have hB:∀ w',aH [] w w'->ao T_ 60 [.agg #[.q r.lv,.q r.ma,s,d,t,p],.string o] w' (.q (br (ct r) o)):=fun w' hk=>AZ o (h.keeps hk)
 have n1:(cz r).length=r.sr.length:=by unfold cz;rw [Zd]
 have n2:(ct r).length=r.ti.length:=by unfold ct;rw [Zd]
 have hs:=h.sr;obtain ⟨a,cp,b,o',rfl,dD,cr,ha,hc⟩:=hs;rw [cy] at *;have ht:=h.ti;obtain ⟨a2,l9,b2,o2,rfl,kp,fh,js,jT⟩:=ht;rw [bU] at *;unfold maxLen at cr fh;by_cases g1:0<=br (cz r) o
 ·obtain ⟨k,e,hk⟩:=rY g1;rw [n1] at hk;rw [RF e hk];rw [e] at hA;have c8:=ha (gW hk);have aG:=(hc k _ (fG hk)).2;have c0:w.cell? ⟨b,o'+k*2+1,none⟩=some (.int .i64 (r.sr[k]).mx):=aG 1 _ I;unfold RA;refine ak func231 I I ?_
  (refine Jr<|Jy I I fun _ _=>Ja I<|Jn<|Jq<|Jr<|ab (cN .here) I<|Jv I<|aj bo I (fun w' az=>(hA w' (Mem.keeps az)))<|Ja I<|Ji<|Jv I<|JG I<|Jn<|Jd I fun aA=>Jr<|bN I I ae<|JL I .here I<|Jv I<|ab (aC (.of I) (.of I) c8 aA (by omega) bu) I<|bN I I ae<|ab (ag (.of I) (At.base c0 I)) I<|Ja I<|Jn<|Ju<|JT ?_)
  rfl
 by_cases g2:0<=br (ct r) o
 ·obtain ⟨k,e,hk⟩:=rY g2;rw [n2] at hk;rw [RE g1 e hk];rw [e] at hB;have c8:=js (eV hk);have aG:=(jT k _ (ed hk)).2;have c0:w.cell? ⟨b2,o2+k*3+2,none⟩=some (.int .i64 (r.ti[k]).to):=aG 2 _ I;unfold RA;refine ak func231 I I ?_
  (refine Jr<|Jy I I fun _ _=>Ja I<|Jn<|Jq<|Jr<|ab (cN .here) I<|Jv I<|aj bo I (fun w' az=>(hA w' (Mem.keeps az)))<|Ja I<|Ji<|Jv I<|JG I<|Jn<|Jc I fun aA=>Jk<|Jq<|Jr<|ab (cN .here) I<|Jv I<|aj bo I (fun w' az=>(hB w' (Mem.keeps az)))<|Ja I<|Ji<|Jv I<|JG I<|Jn<|Jd I fun aA=>Jr<|bN I I ae<|JL I .here I<|Jv I<|ab (aC (.of I) (.of I) c8 aA (by omega) bu) I<|bN I I ae<|ab (ag (.of I) (At.base c0 I)) I<|Ja I<|Jn<|Ju<|JT ?_)
  rfl
 rw [RG g1 g2];unfold RA;refine ak func231 I I ?_
 (refine Jr<|Jy I I fun _ _=>Ja I<|Jn<|Jq<|Jr<|ab (cN .here) I<|Jv I<|aj bo I (fun w' az=>(hA w' (Mem.keeps az)))<|Ja I<|Ji<|Jv I<|JG I<|Jn<|Jc I fun aA=>Jk<|Jq<|Jr<|ab (cN .here) I<|Jv I<|aj bo I (fun w' az=>(hB w' (Mem.keeps az)))<|Ja I<|Ji<|Jv I<|JG I<|Jn<|Jc I fun aA=>Jk<|Jr<|Ja I<|Jn<|Je<|JT ?_)
 rfl
theorem NG {s d t p:Value} (o:ByteArray) {w:World} (h:RR w r s d t p) (hf:mu r):ao T_ 230 [RA r s d t p,.string o] w (.q (dY r o)):=by
 obtain ⟨h1,h2,h3,h4⟩:=h.one;have hA:∀ w',aH [] w w'->ao T_ 56 [.agg #[.int .i64 r.lv,.int .i64 r.ma,s,d,t,p],.string o] w' (.int .i64 (br (bY r) o)):=fun w' hk=>FZ o (h.keeps hk)
 have hB:∀ w',aH [] w w'->ao T_ 60 [.agg #[.q r.lv,.q r.ma,s,d,t,p],.string o] w' (.q (br (ct r) o)):=fun w' hk=>AZ o (h.keeps hk)
 have n2:(ct r).length=r.ti.length:=by unfold ct;rw [Zd]
 have hs:=h.de;obtain ⟨a,cp,b,o',rfl,dD,cr,ha,hc⟩:=hs;rw [bZ] at *;obtain ⟨f1,f2,f3,f4⟩:=hf;have hq:0<=br (ct r) o->br (ct r) o<=1000000:=fun g=>by
  obtain ⟨k,e,hk⟩:=rY g;omega
 unfold RA;refine ak func230 I I ?_;unfold dY;generalize br (bY r) o=x at hA ⊢;generalize br (ct r) o=y at hB hq ⊢
 (refine Jr<|Jy I I fun _ _=>Ja I<|Jn<|Jq<|Jr<|ab (cN .here) I<|Jv I<|aj bo I (fun w' az=>(hA w' (Mem.keeps az)))<|Ja I<|Ji<|Jv I<|JG I<|Jn<|gR I (fun aA=>?_) fun aA=>?_;refine Jr<|Jv I<|Ja I<|Jn<|Ju<|JT ?_;rotate_left;refine Jk<|Jq<|Jr<|ab (cN .here) I<|Jv I<|aj bo I (fun w' az=>(hB w' (Mem.keeps az)))<|Ja I<|Ji<|Jv I<|JG I<|Jn<|gR I (fun aA=>?_) fun aA=>?_;refine Jr<|bN I I ae<|JL I .here I<|JI I<|Jv I<|JB I (by omega)<|Ja I<|Jn<|Ju<|JT ?_;rotate_left;refine Jk<|Jr<|Ja I<|Jn<|Je<|JT ?_;rotate_right;rotate_right)
 all_goals first | (rw [if_pos aA];done) | (rw [if_neg ‹¬ 0<=x›,if_pos aA];done) | (rw [if_neg ‹¬ 0<=x›,if_neg aA];done)
theorem F9 (po:List Po) (v:Int):∀ (n:Nat) (o:ByteArray),(uf po v n o).length<=n
 | 0,_=>ZC _
 | n + 1, o => by
  rw [uf];split
  ·exact Zi _
  ·rw [ZL];exact Nat.succ_le_succ (F9 po v n _)
theorem OY {s d t p:Value} (v:Int) (o:ByteArray) (n:Nat) (hn:n<=1000) {w:World} (h:RR w r s d t p):bB T_ 132 [RA r s d t p,.q v,.string o,.q (n:Nat)] w [] (fun _:Value=>True) id (fun x=>[row 9 1 x (uf r.po v n o).length (aO (uf r.po v n o))]):=by
 obtain ⟨h1,h2,h3,h4⟩:=h.one;have oU:∀ (o':ByteArray) w',aH [] w w'->ao T_ 133 [.agg #[.int .i64 r.lv,.int .i64 r.ma,s,d,t,p],.int .i64 v,.string o'] w' (.string ((eJ r.po v o').getD ⟨#[]⟩)):=fun o' w' hk=>FE v o' (h.keeps hk)
 unfold RA;refine aV func132 I I ?_;refine Jr<|Jy I I fun _ _=>Ja I<|Ji<|Ja I<|Jn<|Jq<|Jr<|Ja I<|Jn<|J0 ?_;rename_i b4 xB;refine aR 9 1 ?_;refine bd (ι:=Nat×ByteArray×Value×List ByteArray) (fun y=>y.1<=n/\y.2.2.2.length=y.1/\uf r.po v n o=y.2.2.2++uf r.po v (n-y.1) y.2.1) (fun y=>[(10,.q (y.1:Nat)),(9,y.2.2.1),(2,.string y.2.1),(1,.q v),(3,.q (n:Nat)),(4,.p b4)]) (fun y=>[row 9 1 y.2.2.1 y.1 (aO y.2.2.2),JQ b4 r s d t p]) (fun y=>n-y.1) ?_ ?_
 ·apply aJ (0,o,.z,[]) ⟨Zi _,I,I⟩
  case hs1=>exact cB
  case ht=>
   exact .h2 .nil
 rintro ⟨k,o',v',L⟩ ⟨hk,hL,hc⟩;dsimp only at hk hL hc ⊢;have hlen:(aO L).length=k*1:=by rw [dj,hL];omega
 by_cases aN:k<n/\o'≠⟨#[]⟩
 ·obtain ⟨g1,g2⟩:=aN;have jT:uf r.po v n o=(L++[o'])++uf r.po v (n-(k+1)) ((eJ r.po v o').getD ⟨#[]⟩):=by
   rw [hc,show n-k=(n-(k+1))+1 by omega,uf,if_neg g2,Zh];rfl
  (refine Jq<|Jr<|Jv I<|Jv I<|JA I<|Jv I<|gy I I I I<|au I I (fun hg bG=>(jv (.bX hg I) (.of I))) I<|ab (cE (.of I) I) I<|Jn<|oq I (fun aA=>?_) fun aA=>?_;refine Jk<|Jq<|J0<|Jr<|Jv I<|Jv I<|bn (aB (.o I .nil) I I I I) I fun _ _=>?_;rotate_left;refine Jp<|Jl<|Jo<|Jt<|Jr<|Jv I<|Ja I<|Jn<|Je ?_;rotate_right)
  refine bH (.of I) (.of I) (.there .here) .here an (by rfl) (dG I) (by rfl) (by rfl) (by rfl) eC (by rfl) ?_;intro x
  (refine Ja I<|Jn<|Jg<|ab (cN bO) I<|Jv I<|Jv I<|aj ek I (fun w' az=>(oU o' w' (Mem.keeps az)))<|Ja I<|Jx<|Jj<|Jt<|Jg<|Jv I<|JB I (by omega)<|Ja I<|Jn ?_)
  apply aI (k+1,(eJ r.po v o').getD ⟨#[]⟩,x,L++[o']) ⟨by show k+1<=n;omega,by show (L++[o']).length=k+1;rw [Zg,hL];rfl,jT⟩ (by show n-(k+1)<n-k;omega)
  case hs1=>exact cB
  case ht=>
   show bK _ [row 9 1 x (k+1) (aO (L++[o'])),JQ b4 r s d t p] _;rw [show aO (L++[o'])=aO L++[.string o'] from fg _ _];exact .h1 (.cons (.there .here) .nil)
  exact aA.elim (fun z=>absurd (show ((k:Nat):Int)<(n:Nat) by omega) z) (fun z=>absurd g2 z)
 ·have he:uf r.po v n o=L:=by
   rw [hc];by_cases g:k<n
   ·have:o'=⟨#[]⟩:=Classical.byContradiction fun q=>aN ⟨g,q⟩
    rw [this,Qc,ZQ]
   ·rw [show n-k=0 by omega,uf,ZQ]
  have KF:¬ ((k:Nat):Int)<(n:Nat)\/¬ o'≠⟨#[]⟩:=by
   by_cases g:k<n
   ·exact .inr fun q=>aN ⟨g,q⟩
   ·exact .inl (by omega)
  rw [he,hL]
  (refine Jq<|Jr<|Jv I<|Jv I<|JA I<|Jv I<|gy I I I I<|au I I (fun hg bG=>(jv (.bX hg I) (.of I))) I<|ab (cE (.of I) I) I<|Jn<|oq I (fun aA=>?_) fun aA=>?_;refine Jk<|Jq<|J0<|Jr<|Jv I<|Jv I<|bn (aB (.o I .nil) I I I I) I fun _ _=>?_;rotate_left;refine Jp<|Jl<|Jo<|Jt<|Jr<|Jv I<|Ja I<|Jn<|Je ?_;rotate_right)
  ·exact absurd aA (by intro q;rcases KF with z | z;exact z q.1;exact z q.2)
  with_reducible first|apply aP|apply aQ
  case he=>exact dS I I
  case hR=>
   intro w' az;exact aF v' trivial (by exact .h1 .nil) az I




theorem K0 {lv:Value} (o:ByteArray) {w:World} (h:Rd w lv 1 (ie l)):ao T_ 59 [lv,.string o] w (.bool (fy l o)):=by
 obtain ⟨a,cp,b,o',rfl,dD,cr,ha,hc⟩:=h;rw [cu] at *;unfold maxLen at cr;refine ak func59 I I ?_;refine Jr<|Ja I<|Jn<|Jq<|Jr<|Ja I<|Jn<|J0 ?_;refine bd (ι:=Nat) (fun k=>k<=l.length/\∀ j (hj:j<l.length),j<k->l[j]≠o) (fun k=>[(5,.int .i64 (k:Nat)),(0,.slice a l.length cp),(1,.string o)]) (fun _=>[]) (fun k=>l.length-k) ?_ ?_
 ·apply aJ (0:Nat) ⟨Zi _,fun j _ hj=>absurd hj (ZW _)⟩
  case hs1=>exact cB
  case ht=>(try simp only [Ze,Zf,Za]);exact .nil
 rintro k ⟨hk,hf⟩;by_cases aN:k<l.length
 ·have c8:=ha (lk aN);have c0:w.cell? ⟨b,o'+k*1,none⟩=some (.string l[k]):=(hc k _ (jf aN)).2 0 _ I;have hm:=Zj aN;have Bt:l[k]≠o->∀ j (hj:j<l.length),j<k+1->l[j]≠o:=fun q j hj WR=>by
   by_cases e:j=k
   ·subst e;exact q
   ·exact hf j hj (by omega)
  generalize l[k]=x at c0 hm Bt
  (refine Jq<|Jr<|Jv I<|Jv I<|JI I<|JA I<|Jn<|Jd I fun aA=>Jk<|Jq<|J0<|Jr<|Jv I<|Jv I<|ab (gr c8 aA) I<|ab (ag (.of I) (At.base c0 I)) I<|Jv I<|ab (eR (.of I) (.of I)) I<|Jn<|gR I (fun aA=>?_) fun aA=>?_;refine Jr<|Ja I<|Jn<|Je<|Jm<|Jh<|Jh<|Jm<|Jh<|JT ?_;rotate_left;refine Jw<|Jj<|Jt<|Jg<|Jv I<|JB I (by omega)<|Ja I<|Jn ?_;rotate_right)
  ·have tS:x=o:=aA;rw [dN.2 (tS ▸ hm)]
  ·have tS:¬ x=o:=aA;apply aI (k+1) ⟨(show k+1<=l.length from aN),Bt tS⟩ (show l.length-(k+1)<l.length-k by omega)
   case hs1=>exact cB
   case ht=>(try simp only [Ze,Zf,Za]);exact .nil
 ·have e:fy l o=false:=by
   rw [<- Zae,dN];intro q;obtain ⟨j,hj,e⟩:=Zu q;exact hf j hj (by omega) e
  obtain rfl:k=l.length:=by omega
  rw [e];refine Jq<|Jr<|Jv I<|Jv I<|JI I<|JA I<|Jn<|Jc I fun aA=>Jp<|Jl<|Jo<|Jt<|Jr<|Ja I<|Jn<|Je<|JT ?_
  rfl
theorem uR {s d t p:Value} {w:World} (h:RR w r s d t p) (hf:mu r):bB T_ 77 [RA r s d t p] w [] (fun _:Value=>True) id (fun x=>[row 9 1 x (cY r).length (aO (cY r))]):=by
 obtain ⟨h1,h2,h3,h4⟩:=h.one;have GZ:=h.sr;have G7:=h.de;have Cz:=h.ti;obtain ⟨a1,eI,Qe,Ps,rfl,qp,jd,l7,kM⟩:=GZ;obtain ⟨a2,dL,Qd,Pr,rfl,kp,fh,js,jT⟩:=G7;obtain ⟨a3,ew,LH,I4,rfl,mS,gi,sX,qe⟩:=Cz;rw [cy] at *;rw [bZ] at *;rw [bU] at *;unfold maxLen at jd fh gi;obtain ⟨f1,f2,f3,f4⟩:=hf;unfold RA;refine aV func77 I I ?_;refine Jr<|Jy I I fun _ _=>Ja I<|Ji<|Ja I<|Jn<|Jq<|Jr<|Ja I<|Jn<|J0 ?_;rename_i b1 rW;refine aR 9 1 ?_;refine bd (ι:=Nat×Value×List ByteArray) (fun y=>y.1<=r.sr.length/\y.2.2=([]:List ByteArray)++(cz r).take y.1) (fun y=>[(4,.int .i64 (y.1:Nat)),(3,y.2.1),(1,.pointer (some ⟨b1,0,none⟩))]) (fun y=>[row 9 1 y.2.1 y.2.2.length (aO y.2.2),JQ b1 r (.slice a1 r.sr.length eI) (.slice a2 r.de.length dL) (.slice a3 r.ti.length ew) p]) (fun y=>r.sr.length-y.1) ?_ ?_
 ·apply aJ (0,.z,[]) ⟨Zi _,I⟩
  case hs1=>exact cB
  case ht=>
   exact .h2 .nil
 rintro ⟨k,v1,L1⟩ ⟨hk,Tz⟩;dsimp only at hk Tz ⊢;have nn1:(cz r).length=r.sr.length:=by unfold cz;rw [Zd]
 by_cases aN:k<r.sr.length
 ·have Ha:L1.length=(([]:List ByteArray)).length+k:=by rw [Tz,Zg,Zs];omega
  have hLb:L1.length<=3000000:=by rw [Ha];simp only [Zan];omega
  have hlen:(aO L1).length=L1.length*1:=by rw [dj];omega
  have c8:=l7 (gW aN);have c0:w.cell? ⟨Qe,Ps+k*2,none⟩=some (.string (r.sr[k]).nm):=(kM k _ (fG aN)).2 0 _ I;have hx:(cz r)[k]'(by omega)=(r.sr[k]).nm:=by unfold cz;rw [Z2]
  have u0:L1++[(r.sr[k]).nm]=([]:List ByteArray)++(cz r).take (k+1):=by rw [Zn (by omega),hx,<- Zh,<- Tz]
  generalize (r.sr[k]).nm=x at c0 hx u0
  (refine Jq<|Jr<|Jv I<|bN I I ae<|JL I (.there .here) I<|JI I<|JA I<|Jn<|Jd I fun aA=>Jk<|Jq<|J0<|Jg<|Jv I<|bN I I ae<|JL I (.there .here) I<|Jv I<|ab (gr c8 aA) I<|bN I I ae<|ab (ag (.of I) (At.base c0 I)) I<|bn (aB (.o I .nil) I I I I) I fun _ _=>?_)
  refine bH (.of I) (.of I) (.there .here) .here an (by rfl) (dG I) (by rfl) (by rfl) (by rfl) eC (by rfl) ?_;intro z;refine Ja I<|Jx<|Jj<|Jt<|Jg<|Jv I<|JB I (by omega)<|Ja I<|Jn ?_;apply aI (k+1,z,L1++[x]) ⟨by show k+1<=r.sr.length;omega,u0⟩ (by show r.sr.length-(k+1)<r.sr.length-k;omega)
  case hs1=>exact cB
  case ht=>
   show bK _ [row 9 1 z (L1++[x]).length (aO (L1++[x])),JQ b1 r (.slice a1 r.sr.length eI) (.slice a2 r.de.length dL) (.slice a3 r.ti.length ew) p] _;rw [show aO (L1++[x])=aO L1++[.string x] from fg _ _,Zg,Zbj];exact .h1 (.cons (.there .here) .nil)
 obtain rfl:k=r.sr.length:=by omega
 rw [Zal (by omega)] at Tz;clear hk aN
 (refine Jq<|Jr<|Jv I<|bN I I ae<|JL I (.there .here) I<|JI I<|JA I<|Jn<|Jc I fun aA=>Jp<|Jl<|Jo<|Jt<|Jq<|Jr<|Ja I<|Jn<|J0 ?_)
 rw [Za] at Tz;refine bd (ι:=Nat×Value×List ByteArray) (fun y=>y.1<=r.de.length/\y.2.2=cz r++(bY r).take y.1) (fun y=>[(5,.q (y.1:Nat)),(3,y.2.1),(1,.p b1)]) (fun y=>[row 9 1 y.2.1 y.2.2.length (aO y.2.2),JQ b1 r (.slice a1 r.sr.length eI) (.slice a2 r.de.length dL) (.slice a3 r.ti.length ew) p]) (fun y=>r.de.length-y.1) ?_ ?_
 ·apply aJ (0,v1,L1) ⟨Zi _,by rw [Ze,ZQ];exact Tz⟩
  case hs1=>exact cB
  case ht=>
   exact .h2 .nil
 rintro ⟨k,v2,L2⟩ ⟨hk,u0⟩;dsimp only at hk u0 ⊢;have nn2:(bY r).length=r.de.length:=by unfold bY;rw [Zd]
 by_cases aN:k<r.de.length
 ·have Ha:L2.length=(cz r).length+k:=by rw [u0,Zg,Zs];omega
  have hLb:L2.length<=3000000:=by rw [Ha];rw [nn1];omega
  have hlen:(aO L2).length=L2.length*1:=by rw [dj];omega
  have c8:=js (gI aN);have c0:w.cell? ⟨Qd,Pr+k*3,none⟩=some (.string (r.de[k]).nm):=(jT k _ (fq aN)).2 0 _ I;have hx:(bY r)[k]'(by omega)=(r.de[k]).nm:=by unfold bY;rw [Z2]
  have u0:L2++[(r.de[k]).nm]=cz r++(bY r).take (k+1):=by rw [Zn (by omega),hx,<- Zh,<- u0]
  generalize (r.de[k]).nm=x at c0 hx u0
  (refine Jq<|Jr<|Jv I<|bN I I ae<|JL I (.there .here) I<|JI I<|JA I<|Jn<|Jd I fun aA=>Jk<|Jq<|J0<|Jg<|Jv I<|bN I I ae<|JL I (.there .here) I<|Jv I<|ab (gr c8 aA) I<|bN I I ae<|ab (ag (.of I) (At.base c0 I)) I<|bn (aB (.o I .nil) I I I I) I fun _ _=>?_)
  refine bH (.of I) (.of I) (.there .here) .here an (by rfl) (dG I) (by rfl) (by rfl) (by rfl) eC (by rfl) ?_;intro z;refine Ja I<|Jx<|Jj<|Jt<|Jg<|Jv I<|JB I (by omega)<|Ja I<|Jn ?_;apply aI (k+1,z,L2++[x]) ⟨by show k+1<=r.de.length;omega,u0⟩ (by show r.de.length-(k+1)<r.de.length-k;omega)
  case hs1=>exact cB
  case ht=>
   show bK _ [row 9 1 z (L2++[x]).length (aO (L2++[x])),JQ b1 r (.slice a1 r.sr.length eI) (.slice a2 r.de.length dL) (.slice a3 r.ti.length ew) p] _;rw [show aO (L2++[x])=aO L2++[.string x] from fg _ _,Zg,Zbj];exact .h1 (.cons (.there .here) .nil)
 obtain rfl:k=r.de.length:=by omega
 rw [Zal (by omega)] at u0;clear hk aN
 (refine Jq<|Jr<|Jv I<|bN I I ae<|JL I (.there .here) I<|JI I<|JA I<|Jn<|Jc I fun aA=>Jp<|Jl<|Jo<|Jt<|Jq<|Jr<|Ja I<|Jn<|J0 ?_)
 refine bd (ι:=Nat×Value×List ByteArray) (fun y=>y.1<=r.ti.length/\y.2.2=(cz r++bY r)++(ct r).take y.1) (fun y=>[(6,.q (y.1:Nat)),(3,y.2.1),(1,.p b1)]) (fun y=>[row 9 1 y.2.1 y.2.2.length (aO y.2.2),JQ b1 r (.slice a1 r.sr.length eI) (.slice a2 r.de.length dL) (.slice a3 r.ti.length ew) p]) (fun y=>r.ti.length-y.1) ?_ ?_
 ·apply aJ (0,v2,L2) ⟨Zi _,by rw [Ze,ZQ];exact u0⟩
  case hs1=>exact cB
  case ht=>
   exact .h2 .nil
 rintro ⟨k,v3,L3⟩ ⟨hk,PU⟩;dsimp only at hk PU ⊢;have nn3:(ct r).length=r.ti.length:=by unfold ct;rw [Zd]
 by_cases aN:k<r.ti.length
 ·have Ha:L3.length=((cz r++bY r)).length+k:=by rw [PU,Zg,Zs];omega
  have hLb:L3.length<=3000000:=by rw [Ha];rw [Zg,nn1,nn2];omega
  have hlen:(aO L3).length=L3.length*1:=by rw [dj];omega
  have c8:=sX (eV aN);have c0:w.cell? ⟨LH,I4+k*3,none⟩=some (.string (r.ti[k]).nm):=(qe k _ (ed aN)).2 0 _ I;have hx:(ct r)[k]'(by omega)=(r.ti[k]).nm:=by unfold ct;rw [Z2]
  have u0:L3++[(r.ti[k]).nm]=(cz r++bY r)++(ct r).take (k+1):=by rw [Zn (by omega),hx,<- Zh,<- PU]
  generalize (r.ti[k]).nm=x at c0 hx u0
  (refine Jq<|Jr<|Jv I<|bN I I ae<|JL I (.there .here) I<|JI I<|JA I<|Jn<|Jd I fun aA=>Jk<|Jq<|J0<|Jg<|Jv I<|bN I I ae<|JL I (.there .here) I<|Jv I<|ab (gr c8 aA) I<|bN I I ae<|ab (ag (.of I) (At.base c0 I)) I<|bn (aB (.o I .nil) I I I I) I fun _ _=>?_)
  refine bH (.of I) (.of I) (.there .here) .here an (by rfl) (dG I) (by rfl) (by rfl) (by rfl) eC (by rfl) ?_;intro z;refine Ja I<|Jx<|Jj<|Jt<|Jg<|Jv I<|JB I (by omega)<|Ja I<|Jn ?_;apply aI (k+1,z,L3++[x]) ⟨by show k+1<=r.ti.length;omega,u0⟩ (by show r.ti.length-(k+1)<r.ti.length-k;omega)
  case hs1=>exact cB
  case ht=>
   show bK _ [row 9 1 z (L3++[x]).length (aO (L3++[x])),JQ b1 r (.slice a1 r.sr.length eI) (.slice a2 r.de.length dL) (.slice a3 r.ti.length ew) p] _;rw [show aO (L3++[x])=aO L3++[.string x] from fg _ _,Zg,Zbj];exact .h1 (.cons (.there .here) .nil)
 obtain rfl:k=r.ti.length:=by omega
 rw [Zal (by omega)] at PU;clear hk aN
 (refine Jq<|Jr<|Jv I<|bN I I ae<|JL I (.there .here) I<|JI I<|JA I<|Jn<|Jc I fun aA=>Jp<|Jl<|Jo<|Jt<|Jr<|Jv I<|Ja I<|Jn<|Je ?_)
 have e:cY r=L3:=PU.symm;rw [e]
 with_reducible first|apply aP|apply aQ
 case he=>exact dS I I
 case hR=>
  intro w' az;exact aF v3 trivial (by exact .h1 .nil) az I
def ckQ (r:Ro):Int:=if nE r≠0 then nE r else if jy r≠0 then jy r else Al r
theorem SX (r:Ro):ckQ r=fT r:=by
 unfold ckQ fT;by_cases h1:nE r=0
 ·rw [if_neg (not_not_intro h1),if_neg (not_not_intro h1)];by_cases h2:jy r=0
  ·rw [if_neg (not_not_intro h2),if_neg (not_not_intro h2),Nw (prt h2)]
  ·rw [if_pos h2,if_pos h2]
 ·rw [if_pos h1,if_pos h1]
def Ak (r:Ro) (k:Nat):Int:=((cY r)[k]?.map fun x=>ba [bT (!jD x) 8,bT (fy ((cY r).take k) x) 9]).getD 0
theorem Nv (h:k<(cY r).length):Ak r k=ba [bT (!jD (cY r)[k]) 8,bT (fy ((cY r).take k) (cY r)[k]) 9]:=by
 unfold Ak;rw [Zc h];rfl
theorem te (a b:Int) (l:List Int):ba (ba [a,b]::l)=ba (a::b::l):=by
 by_cases ha:a=0
 ·subst ha;have e:ba [0,b]=b:=by
   unfold ba;rw [if_neg (by decide)];unfold ba;split
   ·rfl
   ·rename_i q;rw [Zr] at q;rw [q];rfl
  rw [e]
  conv=>rhs;unfold ba
  rw [if_neg (by decide)]
 ·have e:ba [a,b]=a:=by unfold ba;rw [if_pos ha]
  rw [e];unfold ba;rw [if_pos ha,if_pos ha]
theorem Ey (a b:Int) (l:List Int):ba [a,b,ba l]=ba (a::b::l):=by
 have h1:∀ x:Int,∀ m,ba (x::m)=if x≠0 then x else ba m:=fun x m=>by rw [ba]
 have h2:∀ x:Int,ba [x]=x:=fun x=>by
  rw [h1];split
  ·rfl
  ·rename_i q;rw [Zr] at q;rw [q];rfl
 rw [h1,h1 b,h2,h1 a,h1 b]
theorem LS (r:Ro):(cY r).length=r.sr.length+r.de.length+r.ti.length:=by
 unfold cY cz bY ct;simp only [Zg,Zd]
theorem LR (h:k<r.sr.length):(cY r)[k]? = some (r.sr[k]).nm/\(cY r).take k=[]++(r.sr.take k).map Sr.nm:=by
 have e1:(cz r).length=r.sr.length:=by unfold cz;rw [Zd]
 unfold cY;rw [Zh];refine ⟨?_,?_⟩
 ·rw [ZG (by omega)];unfold cz;rw [ZJ,Zc h];rfl
 ·rw [Zad (by omega)];unfold cz;rw [ZaN];rfl
theorem LU (h:k<r.de.length):(cY r)[r.sr.length+k]? = some (r.de[k]).nm/\(cY r).take (r.sr.length+k)=cz r++(r.de.take k).map De.nm:=by
 have e1:(cz r).length=r.sr.length:=by unfold cz;rw [Zd]
 have e2:(bY r).length=r.de.length:=by unfold bY;rw [Zd]
 unfold cY;rw [Zh];refine ⟨?_,?_⟩
 ·rw [ZI (by omega),ZG (by omega),show r.sr.length+k-(cz r).length=k by omega];unfold bY;rw [ZJ,Zc h];rfl
 ·rw [<- e1,List.take_length_add_append,Zad (by omega)];unfold bY;rw [ZaN]
theorem LQ (h:k<r.ti.length):(cY r)[r.sr.length+r.de.length+k]? = some (r.ti[k]).nm/\(cY r).take (r.sr.length+r.de.length+k)=(cz r++bY r)++(r.ti.take k).map Ti.nm:=by
 have e1:(cz r++bY r).length=r.sr.length+r.de.length:=by unfold cz bY;rw [Zg,Zd,Zd]
 have e2:(ct r).length=r.ti.length:=by unfold ct;rw [Zd]
 unfold cY;refine ⟨?_,?_⟩
 ·rw [ZI (by omega),e1,show r.sr.length+r.de.length+k-(r.sr.length+r.de.length)=k by omega];unfold ct;rw [ZJ,Zc h];rfl
 ·rw [<- e1,List.take_length_add_append];unfold ct;rw [ZaN]
theorem DZ {j:Nat} {x:ByteArray} (h:(cY r)[j]? = some x) (h2:(cY r).take j=l):Ak r j=ba [bT (!jD x) 8,bT (fy l x) 9]:=by
 unfold Ak;rw [h,h2];rfl
theorem TY (h:k<r.sr.length):ba [Ak r k,fo r (r.sr[k]).mx]=xM [] Sr.nm (fun x=>fo r x.mx) r.sr k:=by
 rw [ns h,DZ (LR h).1 (LR h).2,te]
theorem TZ (h:k<r.de.length):ba [Ak r (r.sr.length+k),fo r (r.de[k]).mx]=xM (cz r) De.nm (fun x=>fo r x.mx) r.de k:=by
 rw [ns h,DZ (LU h).1 (LU h).2,te]
theorem TX (h:k<r.ti.length):ba [Ak r (r.sr.length+r.de.length+k),fo r (r.ti[k]).fr,fo r (r.ti[k]).to,bT (decide ((r.ti[k]).fr=(r.ti[k]).to)) 24]=xM (cz r++bY r) Ti.nm (nq r) r.ti k:=by
 rw [ns h,DZ (LQ h).1 (LQ h).2,te];unfold nq;rw [Ey]
theorem D1 (h1:fa 8 [] Sr.nm (fun x=>fo r x.mx) r.sr=0) (h2:fa 8 (cz r) De.nm (fun x=>fo r x.mx) r.de=0):jy r=fa 6 (cz r++bY r) Ti.nm (nq r) r.ti:=by
 rw [Wo h1 h2];unfold ba;split
 ·rfl
 ·rename_i q;rw [Zr] at q;rw [q];rfl
end Go.Proofs.A1
