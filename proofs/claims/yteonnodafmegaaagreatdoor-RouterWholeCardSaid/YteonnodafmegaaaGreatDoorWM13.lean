/- Parts of the proof: LP POpen LQ LR LS LT LU LV LW LX LY P6c P6e. -/
import Derived.Test.YteonnodafmegaaaGreatDoorWM12
import Derived.Test.YteonnodafmegaaaGreatDoorWM04
import Derived.Test.YteonnodafmegaaaGreatDoorTie
import Derived.Test.YteonnodafmegaaaGreatDoorCards
import Derived.Lib.SmallJoins
import Derived.Lib.LaidTab
import Derived.Deep.Slices
import Derived.Deep.Fields
import Derived.ChangeSame
import Derived.ChangeBook
import Derived.ChangeStays
import Derived.WalkKit
import Derived.ProofKit
import Derived.OpenShut
import Derived.Below
import Derived.LaidMore
import Derived.Lay
import Derived.SevenTiedAt
import Derived.Stop.Joined
import Derived.ChangeMaps5
import Derived.Test.YteonnodafmegaaaGreatDoorWM10
set_option linter.unusedSectionVars false
set_option linter.unusedVariables false
set_option linter.unusedSimpArgs false
namespace Go.Proofs.A1
open Go Go.SL
theorem dF {c:Cx} {D:List Nat} {sl:aH} {hs rest:List bd} {X:Act→World→Prop} (hs2:List bd) (ht:bD hs hs2 rest) (k:Tr c D sl hs2 X):Tr c D sl hs X:=fun a w bh=>k a w (bh.heap (by
 have h1:=bh.mem.jo (ht.append (mE D))
 obtain ⟨kk,fp,hn,iz,hb⟩:=h1
 obtain ⟨f1,f23,rfl,g1,g23⟩:=ct.append_iff.1 iz
 obtain ⟨f2,f3,rfl,g2,g3⟩:=ct.append_iff.1 g23
 obtain ⟨n1,n23,n12⟩:=ZH.1 hn
 obtain ⟨n2,n3,n4⟩:=ZH.1 n23
 exact ⟨kk,f1++f3,ZH.2 ⟨n1,n3,fun x hx y hy=>n12 x hx y (ZT _ hy)⟩,ct.append_iff.2 ⟨f1,f3,rfl,g1,g3⟩,fun b dz=>hb b (by
  rcases Zx.1 dz with h | h
  ·exact ZE _ h
  ·exact ZT _ (ZT _ h))⟩))
theorem rI:lD me:=⟨by decide,by decide,by decide⟩
theorem Fy:lD fZ:=⟨by decide,by decide,by decide⟩
theorem Fx:lD gQ:=⟨by decide,by decide,by decide⟩
theorem UT:lD Dm:=⟨by decide,by decide,by decide⟩
theorem Ag:mn fZ:=⟨by decide,by decide,by decide,by decide⟩
theorem Af:mn gQ:=⟨by decide,by decide,by decide,by decide⟩
theorem YC:mn wq:=⟨by decide,by decide,by decide,by decide⟩
theorem UR:mn Dm:=⟨by decide,by decide,by decide,by decide⟩
theorem KZ {r:Ro} {s d t p:Value} {w:World} {e:Int} {Y:List ByteArray} (v:Int) (so de:ByteArray) (h:RR w r s d t p) (hf:lD r) (e1:FQ r v so de=e) (e2:C1 r v so de=Y):bu Tryz.prog 70 [.agg #[.int .i64 (r).lv,.int .i64 (r).ma,s,d,t,p],.int .i64 v,.string so,.string de] w [] (fun _:Value=>True) (fun x=>.tuple #[x,.int .i64 e]) (fun x=>[row 9 1 x Y.length (aL Y)]):=by
 subst e1 e2;exact Vk v so de h hf
theorem Sf {r:Ro} {s d t p:Value} {w:World} {e:Int} {Y:List Int} (v:Int) (so de:ByteArray) (h:RR w r s d t p) (hf:lD r) (e1:KB r v so de=e) (e2:GP r v so de=Y):bu Tryz.prog 36 [.agg #[.int .i64 (r).lv,.int .i64 (r).ma,s,d,t,p],.int .i64 v,.string so,.string de] w [] (fun _:Value=>True) (fun x=>.tuple #[x,.int .i64 e]) (fun x=>[row 3 1 x Y.length (Y.map (Value.int .i64))]):=by
 subst e1 e2;exact Vq v so de h hf
theorem Pv {r q:Ro} {k:Tk} {s d t p v:Value} {w:World} (e:gI r [k]=(q,0,0)) (h:RR w r s d t p) (hf:lD r) (hv:Rd w v 1 (im k.so)):bu Tryz.prog 48 [.agg #[.int .i64 (r).lv,.int .i64 (r).ma,s,d,t,p],.agg #[.string k.de,v]] w [] (fun _:Value×Value×Value×Value=>True) (fun y=>.tuple #[.agg #[.int .i64 (q).lv,.int .i64 (q).ma,y.1,y.2.1,y.2.2.1,y.2.2.2],.int .i64 0]) (fun y=>nS q y):=by
 have:=FL (x:=⟨k,v⟩) h hf hv
 rw [show (fu.mk k v).tk=k from rfl,e] at this
 exact this
theorem K1 {r q:Ro} {l:List fu} {i e_:Int} {s d t p v:Value} {w:World} (e:gI r (cr l)=(q,i,e_)) (h:RR w r s d t p) (hf:lD r) (hv:Rd w v 2 (iF l)) (hM:sR w l):bu Tryz.prog 45 [.agg #[.int .i64 (r).lv,.int .i64 (r).ma,s,d,t,p],v] w [] (fun _:Value×Value×Value×Value=>True) (fun y=>.tuple #[.agg #[.int .i64 (q).lv,.int .i64 (q).ma,y.1,y.2.1,y.2.2.1,y.2.2.2],.int .i64 i,.int .i64 e_]) (fun y=>nS q y):=by
 have:=AD h hf hv hM
 rw [e] at this
 exact this
theorem Vf {r:Ro} {l:List fu} {m:List Tk} {s d t p v:Value} {w:World} (e:(gI r (cr l)).2.2=0) (e2:LS r (cr l)=m) (h:RR w r s d t p) (hf:lD r) (hv:Rd w v 2 (iF l)) (hM:sR w l):bu Tryz.prog 47 [.agg #[.int .i64 (r).lv,.int .i64 (r).ma,s,d,t,p],v] w [] (fun x:Value×List fu=>cr x.2=m) (fun x=>.tuple #[x.1,.int .i64 0]) (fun x=>[row 78 2 x.1 x.2.length (iF x.2).flatten,Li x.2]):=by
 have:=Lb h hf hv hM
 rw [e,e2] at this
 exact this
theorem Py {r:Ro} {s d t p:Value} {w:World} {e:Int} {Y:List ByteArray} (o:ByteArray) (h:RR w r s d t p) (hf:lD r) (e1:B4 r o=e) (e2:DS r o=Y):bu Tryz.prog 20 [.agg #[.int .i64 (r).lv,.int .i64 (r).ma,s,d,t,p],.string o] w [] (fun _:Value=>True) (fun x=>.tuple #[x,.int .i64 e]) (fun x=>[row 9 1 x Y.length (aL Y)]):=by
 subst e1 e2;exact Sn o h hf
theorem Pw {r:Ro} {s d t p:Value} {w:World} {e:Int} {Y:List ByteArray} (v:Int) (o:ByteArray) (h:RR w r s d t p) (hf:lD r) (e1:A2 r v o=e) (e2:C2 r v o=Y):bu Tryz.prog 22 [.agg #[.int .i64 (r).lv,.int .i64 (r).ma,s,d,t,p],.int .i64 v,.string o] w [] (fun _:Value=>True) (fun x=>.tuple #[x,.int .i64 e]) (fun x=>[row 9 1 x Y.length (aL Y)]):=by
 subst e1 e2;exact On v o h hf
theorem Pz {r:Ro} {s d t p:Value} {w:World} {e:Int} {Y:List ByteArray} (v:Int) (h:RR w r s d t p) (hf:lD r) (e1:Cz r v=e) (e2:Eg r v=Y):bu Tryz.prog 23 [.agg #[.int .i64 (r).lv,.int .i64 (r).ma,s,d,t,p],.int .i64 v] w [] (fun _:Value=>True) (fun x=>.tuple #[x,.int .i64 e]) (fun x=>[row 9 1 x Y.length (aL Y)]):=by
 subst e1 e2;exact Sq v h hf
theorem Ve {r:Ro} {s d t p:Value} {w:World} {e:Int} {Y:List ByteArray} (v:Int) (o:ByteArray) (h:RR w r s d t p) (hf:lD r) (e1:Hh r v o=e) (e2:FU r v o=Y):bu Tryz.prog 24 [.agg #[.int .i64 (r).lv,.int .i64 (r).ma,s,d,t,p],.int .i64 v,.string o] w [] (fun _:Value=>True) (fun x=>.tuple #[x,.int .i64 e]) (fun x=>[row 9 1 x Y.length (aL Y)]):=by
 subst e1 e2;exact Om v o h hf
theorem Vh {r q:Ro} {s d t p:Value} {w:World} {b:Bool} (o:ByteArray) (h:RR w r s d t p) (hf:lD r) (e1:yk r o=0) (e2:yj r o b=q):bu Tryz.prog 78 [.agg #[.int .i64 (r).lv,.int .i64 (r).ma,s,d,t,p],.string o,.bool b] w [] (fun _:Value×Value×Value×Value=>True) (fun y=>.tuple #[.agg #[.int .i64 (q).lv,.int .i64 (q).ma,y.1,y.2.1,y.2.2.1,y.2.2.2],.int .i64 0]) (fun y=>nS q y):=by
 have:=CH o b h hf
 rw [e1,e2] at this
 exact this
theorem K2 {r:Ro} {l:List pE} {m:List Od} {s d t p v:Value} {w:World} {Y:List ByteArray} (o:ByteArray) (f:Int) (em:eo l=m) (h:RR w r s d t p) (hf:lD r) (e1:qW r m o f=0) (e2:tJ r m o f=Y) (hv:Rd w v 2 (te l)) (hM:G8 w l):bu Tryz.prog 64 [.agg #[.int .i64 (r).lv,.int .i64 (r).ma,s,d,t,p],v,.string o,.int .i64 f] w [] (fun _:Value=>True) (fun x=>.tuple #[x,.int .i64 0]) (fun x=>[row 9 1 x Y.length (aL Y)]):=by
 have:=Sj o f h hf hv hM
 rw [em,e1,e2] at this
 exact this
theorem jH (w:World):bu Tryz.prog 105 [] w [] (fun _:Value×Value×Value×Value=>True) (fun x=>.agg #[.int .i64 (me).lv,.int .i64 (me).ma,x.1,x.2.1,x.2.2.1,x.2.2.2]) (fun x=>nS me x):=NW w
theorem kU {r:Ro} {s d t p:Value} {w:World} (h:RR w r s d t p) (hf:mn r):bu Tryz.prog 57 [.agg #[.int .i64 (r).lv,.int .i64 (r).ma,s,d,t,p]] w [] (fun _:Value×Value×Value×Value=>True) (fun x=>.agg #[.int .i64 (r).lv,.int .i64 (r).ma,x.1,x.2.1,x.2.2.1,x.2.2.2]) (fun x=>AI r x):=C8 h hf
theorem gM {r:Ro} {s d t p:Value} {w:World} (h:RR w r s d t p) (hf:mn r):bu Tryz.prog 21 [.agg #[.int .i64 (r).lv,.int .i64 (r).ma,s,d,t,p]] w [] (fun _:Value×Value×Value×Value=>True) (fun x=>.agg #[.int .i64 (r).lv,.int .i64 (r).ma,x.1,x.2.1,x.2.2.1,x.2.2.2]) (fun x=>nS r x):=Tp h hf
theorem Px (w:World):bu Tryz.prog 106 [] w [] (fun _:Option Addr×Nat=>True) (fun x=>.agg #[.string dJ,.slice x.1 2 x.2]) (fun x=>[row 9 1 (.slice x.1 2 x.2) 2 (aL nN.so)]):=RT w
theorem Vg (w:World):bu Tryz.prog 107 [] w [] (fun _:Option Addr×Nat=>True) (fun x=>.agg #[.string jl,.slice x.1 2 x.2]) (fun x=>[row 9 1 (.slice x.1 2 x.2) 2 (aL Ss.so)]):=RS w
theorem K0 (w:World):bu Tryz.prog 108 [] w [] (fun _:Option Addr×Nat=>True) (fun x=>.agg #[.string dJ,.slice x.1 2 x.2]) (fun x=>[row 9 1 (.slice x.1 2 x.2) 2 (aL nM.so)]):=RQ w
theorem gZ {w:World} {x:fu} {l:List fu} (h:Rd w x.v 1 (im x.tk.so)) (k:sR w l):sR w (x::l):=fun y hy=>by
 rcases ZS.1 hy with rfl | hy
 ·exact h
 ·exact k y hy
theorem jY (w:World):sR w []:=fun _ h=>absurd h Zp
theorem lO {v1 v2:Value} {l:List ByteArray} {w:World} (h1:Rd w v1 1 (im l)) (h2:Rd w v2 1 (im l)):aj Tryz.prog 58 [v1,v2] w (.bool true):=by
 have:=zo h1 h2
 rwa [decide_eq_true rfl] at this
theorem Mr {v1 v2:Value} {l:List Int} {w:World} (h1:Rd w v1 1 (ints l)) (h2:Rd w v2 1 (ints l)):aj Tryz.prog 109 [v1,v2] w (.bool true):=by
 have:=Ms h1 h2
 rwa [decide_eq_true rfl] at this
theorem V8 {c:Cx} {hs hs':List bd} {w:World} {W:List fu} (hm:Mem c hs w) (ht:Take hs (Li W) hs'):sR w W:=fun x hx=>by
 obtain ⟨j,hj,rfl⟩:=Zu hx
 have:=hm.Dt (j:=j) (v:=W[j].v) (x:=aL W[j].tk.so) ht (by rw [ZF,Zc hj];rfl) (by rw [ZF,Zc hj];rfl)
 have e:(aL W[j].tk.so).map (fun u=>[u])=im W[j].tk.so:=by unfold aL im;rw [ZaH];rfl
 rwa [e] at this
theorem Mq {v1 v2:Value} {l m:List fu} {w:World} (h1:Rd w v1 2 (iF l)) (Yt:sR w l) (h2:Rd w v2 2 (iF m)) (Ys:sR w m) (e:cr l=cr m):aj Tryz.prog 53 [v1,v2] w (.bool true):=by
 have:=CG h1 Yt h2 Ys
 rwa [decide_eq_true e] at this
theorem H6 {r:Ro} {s d t p v:Value} {q:List Po} {w:World} (h:RR w r s d t p) (cT:mn r) (hv:Rd w v 3 (td q)) (e:r.po=q):aj Tryz.prog 110 [.agg #[.int .i64 (r).lv,.int .i64 (r).ma,s,d,t,p],v] w (.bool true):=by
 have:=Ic h cT hv
 rwa [decide_eq_true e] at this
theorem dK {P:Program} {c:Cx} {sl:aH} {hs:List bd} {dst:Option Tmp} {ty:TypeId} {pos:String} {af:Array Edge} {g:Option (Nat×Bool)} {x y z:Operand} {q:Bool} {v u V:Value} (hx:Is sl x (.bool q)) (hy:Is sl y v) (hz:Is sl z u) (e:(bif q then v else u)=V):cY P c sl hs ⟨dst,.pick x y z,ty,pos,af,g⟩ V:=e ▸ ub hx hy hz
theorem Wm {c:Cx} {hs hs':List bd} {w:World} {g:Nat} {x:ByteArray} {E:TypeId} {fz:Nat×Nat} (hm:Mem c hs w) (ht:Take hs (bH g (.cells #[.string x] E fz)) hs'):Rd w (.slice (some ⟨g,0,none⟩) 1 1) 1 (im [x]):=Mem.dw hm ht rfl rfl
theorem Wl {c:Cx} {hs hs':List bd} {w:World} {g:Nat} {x y z:ByteArray} {E:TypeId} {fz:Nat×Nat} (hm:Mem c hs w) (ht:Take hs (bH g (.cells #[.string x,.string y,.string z] E fz)) hs'):Rd w (.slice (some ⟨g,0,none⟩) 3 3) 1 (im [x,y,z]):=Mem.dw hm ht rfl rfl
theorem Du {c:Cx} {hs hs':List bd} {w:World} {g:Nat} {x y:ByteArray} {E:TypeId} {fz:Nat×Nat} (hm:Mem c hs w) (ht:Take hs (bH g (.cells #[.string x,.string y] E fz)) hs'):Rd w (.slice (some ⟨g,0,none⟩) 2 2) 1 (im [x,y]):=Mem.dw hm ht rfl rfl
theorem DB {c:Cx} {hs hs':List bd} {w:World} {l:List pE} {E:TypeId} {v:Value} {n:Nat} (hm:Mem c hs w) (ht:Take hs (row E 2 v n (te l).flatten) hs') (hn:l.length=n):Rd w v 2 (te l):=hm.om ht rfl (fun r hr=>by obtain ⟨x,_,rfl⟩:=Zt.1 hr;rfl) (by rw [show (te l).length=l.length from Zd _,hn])
theorem mD {w:World} {x:pE} {l:List pE} (h:Rd w x.v 2 (iF x.tk)) (h2:sR w x.tk) (k:G8 w l):G8 w (x::l):=fun y hy=>by
 rcases ZS.1 hy with rfl | hy
 ·exact ⟨h,h2⟩
 ·exact k y hy
theorem zM (w:World):G8 w []:=fun _ h=>absurd h Zp
theorem Se {s d t p:Value} {w:World} (h:RR w me s d t p):aj Tryz.prog 85 [.agg #[.int .i64 (me).lv,.int .i64 (me).ma,s,d,t,p]] w (.tuple #[.string (H7 me),.int .i64 0]):=by
 have:=Oo h rI
 rwa [U0] at this
theorem Gd {P:Program} {c:Cx} {sl:aH} {hs:List bd} {dst:Option Tmp} {ty:TypeId} {pos:String} {af:Array Edge} {g:Option (Nat×Bool)} {t u:TypeId} {x y:Operand} {a b:ByteArray} (hx:Is sl x (.string a)) (hy:Is sl y (.string b)) (e:a=b) :
  cY P c sl hs ⟨dst,.binOp .eql t x y u,ty,pos,af,g⟩ (.bool true):=by
 have:=dG (P:=P) (c:=c) (hs:=hs) (dst:=dst) (ty:=ty) (pos:=pos) (af:=af) (g:=g) (t:=t) (u:=u) hx hy
 rwa [decide_eq_true e] at this
set_option maxRecDepth 20000 in
set_option maxHeartbeats 4000000 in
theorem nw (w:World):aj Tryz.prog 17 [] w (.bool true):=by
 refine ah Tryz.func17 rfl rfl ?_
 refine Jr<|Ja rfl<|Ji ?_
 refine JN lC rfl (fun w1 aR=>jH w1) ?_
 rintro ⟨s1,d1,t1,p1⟩ _
 try dsimp only [id_eq,Zb,Za]
 refine di (r:=me) (s:=s1) (d:=d1) (t:=t1) (p:=p1) (a8 _ _) fun m1a m1b m1c m1d=>?_
 skip
 refine JN wj rfl (fun w1 aR=>KZ 0 cV dJ ⟨cK aR (by exact .here) rfl,cL aR (by exact Take.there .here) rfl,cJ aR bL rfl,cE aR cW rfl⟩ rI Pb.1 Pb.2) ?_
 rintro x1 _
 try dsimp only [id_eq,Zb,Za]
 refine Jv rfl<|JJ rfl rfl<|JJ rfl rfl<|Ja rfl<|Ja rfl<|Ji ?_
 refine JN lC rfl (fun w1 aR=>jH w1) ?_
 rintro ⟨s2,d2,t2,p2⟩ _
 try dsimp only [id_eq,Zb,Za]
 refine di (r:=me) (s:=s2) (d:=d2) (t:=t2) (p:=p2) (a8 _ _) fun m2a m2b m2c m2d=>?_
 skip
 refine JN lC rfl (fun w1 aR=>Px w1) ?_
 rintro ⟨ya,yc⟩ _
 try dsimp only [id_eq,Zb,Za]
 skip
 refine JN bj rfl (fun w1 aR=>Pv (k:=nN) UY ⟨cK aR (by exact Take.there .here) rfl,cL aR bL rfl,cJ aR cW rfl,cE aR dT rfl⟩ rI (dM aR (by exact .here) (by exact rfl))) ?_
 rintro ⟨s3,d3,t3,p3⟩ _
 try dsimp only [id_eq,Zb,Za]
 refine di (r:=fZ) (s:=s3) (d:=d3) (t:=t3) (p:=p3) (a8 _ _) fun m3a m3b m3c m3d=>?_
 (refine Jv rfl<|JJ rfl rfl<|JJ rfl rfl<|Jz rfl rfl fun _ _=>aq (.of rfl) (.of rfl) .here rfl rfl (gA rfl rfl m3a m3b m3c m3d) (bG rfl) ak<|Ja rfl<|Ji<|ab (cR .here) rfl ?_)
 rename_i b3 vI
 refine dF [JW x1 [nT],bH b3 (.cells #[.int .i64 (fZ).lv,.int .i64 (fZ).ma,s3,d3,t3,p3] 41 (0,0)),J1 (fZ) s3,J2 (fZ) d3,J3 (fZ) t3,J4 (fZ) p3] (by exact .cons lL (.cons .here (.cons .here (.cons .here (.cons .here (.cons .here .nil)))))) ?_
 skip
 refine JN bN rfl (fun w1 aR=>kU ⟨cK aR bL rfl,cL aR cW rfl,cJ aR dT rfl,cE aR eX rfl⟩ Ag) ?_
 rintro ⟨s4,d4,t4,p4⟩ _
 try dsimp only [id_eq,Zb,Za]
 refine ki (r:=fZ) (s:=s4) (d:=d4) (t:=t4) (p:=p4) (a8 _ _) fun m4a m4b m4c m4d=>?_
 skip
 refine JN bN rfl (fun w1 aR=>gM ⟨cK aR (by exact .here) rfl,cL aR (by exact Take.there .here) rfl,cJ aR bL rfl,cE aR cW rfl⟩ Ag) ?_
 rintro ⟨s5,d5,t5,p5⟩ _
 try dsimp only [id_eq,Zb,Za]
 refine di (r:=fZ) (s:=s5) (d:=d5) (t:=t5) (p:=p5) (a8 _ _) fun m5a m5b m5c m5d=>?_
 skip
 refine JN lC rfl (fun w1 aR=>Vg w1) ?_
 rintro ⟨za,zc⟩ _
 try dsimp only [id_eq,Zb,Za]
 skip
 refine JN bj rfl (fun w1 aR=>Pv (k:=Ss) UX ⟨cK aR (by exact Take.there .here) rfl,cL aR bL rfl,cJ aR cW rfl,cE aR dT rfl⟩ Fy (dM aR (by exact .here) (by exact rfl))) ?_
 rintro ⟨s6,d6,t6,p6⟩ _
 try dsimp only [id_eq,Zb,Za]
 refine di (r:=gQ) (s:=s6) (d:=d6) (t:=t6) (p:=p6) (a8 _ _) fun m6a m6b m6c m6d=>?_
 (refine Jv rfl<|JJ rfl rfl<|JJ rfl rfl<|Jz rfl rfl fun _ _=>aq (.of rfl) (.of rfl) .here rfl rfl (gA rfl rfl m6a m6b m6c m6d) (bG rfl) ak<|Ja rfl<|Ji<|ab (cR .here) rfl ?_)
 rename_i b5 ND
 refine dF [JW x1 [nT],bH b3 (.cells #[.int .i64 (fZ).lv,.int .i64 (fZ).ma,s3,d3,t3,p3] 41 (0,0)),J1 (fZ) s3,J2 (fZ) d3,J3 (fZ) t3,J4 (fZ) p3,bH b5 (.cells #[.int .i64 (gQ).lv,.int .i64 (gQ).ma,s6,d6,t6,p6] 41 (0,0)),J1 (gQ) s6,J2 (gQ) d6,J3 (gQ) t6,J4 (gQ) p6] (by exact .cons CJ (.cons CJ (.cons CJ (.cons CJ (.cons CJ (.cons CJ (.cons .here (.cons .here (.cons .here (.cons .here (.cons .here .nil))))))))))) ?_
 skip
 refine JN bN rfl (fun w1 aR=>kU ⟨cK aR AH rfl,cL aR iW rfl,cJ aR iE rfl,cE aR lL rfl⟩ Af) ?_
 rintro ⟨s7,d7,t7,p7⟩ _
 try dsimp only [id_eq,Zb,Za]
 refine ki (r:=gQ) (s:=s7) (d:=d7) (t:=t7) (p:=p7) (a8 _ _) fun m7a m7b m7c m7d=>?_
 skip
 refine JN bN rfl (fun w1 aR=>gM ⟨cK aR (by exact .here) rfl,cL aR (by exact Take.there .here) rfl,cJ aR bL rfl,cE aR cW rfl⟩ Af) ?_
 rintro ⟨s8,d8,t8,p8⟩ _
 try dsimp only [id_eq,Zb,Za]
 refine di (r:=gQ) (s:=s8) (d:=d8) (t:=t8) (p:=p8) (a8 _ _) fun m8a m8b m8c m8d=>?_
 skip
 refine JN lC rfl (fun w1 aR=>K0 w1) ?_
 rintro ⟨ua,uc⟩ _
 try dsimp only [id_eq,Zb,Za]
 refine br (bB (.cons (.of rfl) .nil) rfl rfl bQ bQ ak) rfl (fun _ _=>?_)
 rename_i g4 hg4
 refine bZ (g:=g4) (E:=78) (ys:=(iF [⟨nM,.slice ua 2 uc⟩]).flatten) 1 2 (by exact .here) (by exact rfl) rfl rfl ?_
 refine JN bj rfl (fun w1 aR=>K1 (l:=[⟨nM,.slice ua 2 uc⟩]) Ph ⟨cK aR bL rfl,cL aR cW rfl,cJ aR dT rfl,cE aR eX rfl⟩ Fx (lN aR (by exact .here) (by exact rfl)) (gZ (dM aR (by exact Take.there .here) (by exact rfl)) (jY _))) ?_
 rintro ⟨s9,d9,t9,p9⟩ _
 try dsimp only [id_eq,Zb,Za]
 refine di (r:=wq) (s:=s9) (d:=d9) (t:=t9) (p:=p9) (a8 _ _) fun m9a m9b m9c m9d=>?_
 (refine Jv rfl<|JJ rfl rfl<|JJ rfl rfl<|JJ rfl rfl<|Jz rfl rfl fun _ _=>aq (.of rfl) (.of rfl) .here rfl rfl (gA rfl rfl m9a m9b m9c m9d) (bG rfl) ak<|Ja rfl<|Ja rfl<|Ji<|ab (cR (.there (.there (.there (.there (.there mP)))))) rfl ?_)
 rename_i b7 Ux
 refine dF [JW x1 [nT],bH b3 (.cells #[.int .i64 (fZ).lv,.int .i64 (fZ).ma,s3,d3,t3,p3] 41 (0,0)),J1 (fZ) s3,J2 (fZ) d3,J3 (fZ) t3,J4 (fZ) p3,bH b5 (.cells #[.int .i64 (gQ).lv,.int .i64 (gQ).ma,s6,d6,t6,p6] 41 (0,0)),J1 (gQ) s6,J2 (gQ) d6,J3 (gQ) t6,J4 (gQ) p6,bH b7 (.cells #[.int .i64 (wq).lv,.int .i64 (wq).ma,s9,d9,t9,p9] 41 (0,0)),J1 (wq) s9,J2 (wq) d9,J3 (wq) t9,J4 (wq) p9] (by exact .cons iX (.cons iX (.cons iX (.cons iX (.cons iX (.cons iX (.cons iX (.cons iX (.cons iX (.cons iX (.cons iX (.cons .here (.cons .here (.cons .here (.cons .here (.cons .here .nil)))))))))))))))) ?_
 skip
 refine JN bN rfl (fun w1 aR=>kU ⟨cK aR AH rfl,cL aR iW rfl,cJ aR iE rfl,cE aR lL rfl⟩ Af) ?_
 rintro ⟨s10,d10,t10,p10⟩ _
 try dsimp only [id_eq,Zb,Za]
 refine ki (r:=gQ) (s:=s10) (d:=d10) (t:=t10) (p:=p10) (a8 _ _) fun adS adR adQ adP=>?_
 skip
 refine JN bN rfl (fun w1 aR=>gM ⟨cK aR (by exact .here) rfl,cL aR (by exact Take.there .here) rfl,cJ aR bL rfl,cE aR cW rfl⟩ Af) ?_
 rintro ⟨s11,d11,t11,p11⟩ _
 try dsimp only [id_eq,Zb,Za]
 refine di (r:=gQ) (s:=s11) (d:=d11) (t:=t11) (p:=p11) (a8 _ _) fun adO adN adM adL=>?_
 skip
 refine JN lC rfl (fun w1 aR=>K0 w1) ?_
 rintro ⟨va,vc⟩ _
 try dsimp only [id_eq,Zb,Za]
 refine br (bB (.cons (.of rfl) .nil) rfl rfl bQ bQ ak) rfl (fun _ _=>?_)
 rename_i g5 hg5
 refine bZ (g:=g5) (E:=78) (ys:=(iF [⟨nM,.slice va 2 vc⟩]).flatten) 1 2 (by exact .here) (by exact rfl) rfl rfl ?_
 refine JN bj rfl (fun w1 aR=>Vf (l:=[⟨nM,.slice va 2 vc⟩]) (m:=[nN]) (congrArg (fun x:Ro×Int×Int=>x.2.2) Ph) UU ⟨cK aR bL rfl,cL aR cW rfl,cJ aR dT rfl,cE aR eX rfl⟩ Fx (lN aR (by exact .here) (by exact rfl)) (gZ (dM aR (by exact Take.there .here) (by exact rfl)) (jY _))) ?_
 rintro ⟨xx,W⟩ hW
 try dsimp only at hW
 try dsimp only [id_eq,Zb,Za]
 refine Jv rfl<|JJ rfl rfl<|JJ rfl rfl<|Ja rfl<|Ja rfl<|Ji ?_
 refine dF [JW x1 [nT],bH b3 (.cells #[.int .i64 (fZ).lv,.int .i64 (fZ).ma,s3,d3,t3,p3] 41 (0,0)),J1 (fZ) s3,J2 (fZ) d3,J3 (fZ) t3,J4 (fZ) p3,bH b5 (.cells #[.int .i64 (gQ).lv,.int .i64 (gQ).ma,s6,d6,t6,p6] 41 (0,0)),J1 (gQ) s6,J2 (gQ) d6,J3 (gQ) t6,J4 (gQ) p6,bH b7 (.cells #[.int .i64 (wq).lv,.int .i64 (wq).ma,s9,d9,t9,p9] 41 (0,0)),J1 (wq) s9,J2 (wq) d9,J3 (wq) t9,J4 (wq) p9,row 78 2 xx W.length (iF W).flatten,Li W] (by exact .cons iY (.cons iY (.cons iY (.cons iY (.cons iY (.cons iY (.cons iY (.cons iY (.cons iY (.cons iY (.cons iY (.cons iY (.cons iY (.cons iY (.cons iY (.cons iY (.cons .here (.cons .here .nil)))))))))))))))))) ?_
 skip
 refine JN lC rfl (fun w1 aR=>jH w1) ?_
 rintro ⟨s12,d12,t12,p12⟩ _
 try dsimp only [id_eq,Zb,Za]
 refine di (r:=me) (s:=s12) (d:=d12) (t:=t12) (p:=p12) (a8 _ _) fun adK adJ adI adH=>?_
 skip
 refine JN wj rfl (fun w1 aR=>KZ 0 kp nJ ⟨cK aR (by exact .here) rfl,cL aR (by exact Take.there .here) rfl,cJ aR bL rfl,cE aR cW rfl⟩ rI Pa.1 Pa.2) ?_
 rintro G1 _
 try dsimp only [id_eq,Zb,Za]
 refine Jv rfl<|JJ rfl rfl<|JJ rfl rfl<|Ja rfl<|Ja rfl<|Ji ?_
 refine JN lC rfl (fun w1 aR=>jH w1) ?_
 rintro ⟨s13,d13,t13,p13⟩ _
 try dsimp only [id_eq,Zb,Za]
 refine di (r:=me) (s:=s13) (d:=d13) (t:=t13) (p:=p13) (a8 _ _) fun adG adF adE adD=>?_
 skip
 refine JN wj rfl (fun w1 aR=>Sf 0 kp nJ ⟨cK aR (by exact .here) rfl,cL aR (by exact Take.there .here) rfl,cJ aR bL rfl,cE aR cW rfl⟩ rI Pk.1 Pk.2) ?_
 rintro PG _
 try dsimp only [id_eq,Zb,Za]
 refine Jv rfl<|JJ rfl rfl<|JJ rfl rfl<|Ja rfl<|Ja rfl<|Ji ?_
 refine JN lC rfl (fun w1 aR=>jH w1) ?_
 rintro ⟨Wf,d14,t14,Ww⟩ _
 try dsimp only [id_eq,Zb,Za]
 refine di (r:=me) (s:=Wf) (d:=d14) (t:=t14) (p:=Ww) (a8 _ _) fun adC adB adA adz=>?_
 refine br (aC (.cons (.of rfl) .nil) rfl rfl rfl rfl) rfl (fun _ _=>?_)
 rename_i g8 hg8
 with_reducible apply ai
 case hr=>exact Lf
 case hd=>rfl
 case hc=>
  intro w1 aR
  have:=Ep (r:=me) (s:=Wf) (d:=d14) (t:=t14) (p:=Ww) (cv:=.slice (some ⟨g8,0,none⟩) 1 1) 0 kp nJ (L:=[0]) (⟨cK aR (by exact Take.there .here) rfl,cL aR bL rfl,cJ aR cW rfl,cE aR dT rfl⟩:RR w1 me Wf d14 t14 Ww) rI (Mem.dw aR (by exact .here) rfl rfl)
  rw [U1] at this
  exact this
 refine dF [JW x1 [nT],bH b3 (.cells #[.int .i64 (fZ).lv,.int .i64 (fZ).ma,s3,d3,t3,p3] 41 (0,0)),J1 (fZ) s3,J2 (fZ) d3,J3 (fZ) t3,J4 (fZ) p3,bH b5 (.cells #[.int .i64 (gQ).lv,.int .i64 (gQ).ma,s6,d6,t6,p6] 41 (0,0)),J1 (gQ) s6,J2 (gQ) d6,J3 (gQ) t6,J4 (gQ) p6,bH b7 (.cells #[.int .i64 (wq).lv,.int .i64 (wq).ma,s9,d9,t9,p9] 41 (0,0)),J1 (wq) s9,J2 (wq) d9,J3 (wq) t9,J4 (wq) p9,row 78 2 xx W.length (iF W).flatten,Li W,row 3 1 PG [(1:Int)].length ([(1:Int)].map (Value.int .i64))] (by exact .cons iX (.cons iX (.cons iX (.cons iX (.cons iX (.cons iX (.cons iX (.cons iX (.cons iX (.cons iX (.cons iX (.cons iX (.cons iX (.cons iX (.cons iX (.cons iX (.cons iX (.cons iX (.cons eX .nil))))))))))))))))))) ?_
 (refine Ja rfl<|Jn<|Jq<|Jr<|Jv rfl<|Jv rfl<|JB rfl (by omega)<|Jv rfl<|JB rfl (by omega)<|Jv rfl<|JB rfl (by omega)<|Jv rfl<|JB rfl (by omega)<|Jv rfl<|JB rfl (by omega)<|JD rfl<|Jv rfl<|JK rfl rfl<|Jv rfl<|JK rfl rfl<|JD rfl<|ab (dK (.of rfl) (.of rfl) (.of rfl) rfl) rfl<|Jv rfl<|JK rfl rfl<|Jv rfl<|JK rfl rfl<|JD rfl<|ab (dK (.of rfl) (.of rfl) (.of rfl) rfl) rfl<|Jv rfl<|JK rfl rfl<|Jv rfl<|JK rfl rfl<|JD rfl<|ab (dK (.of rfl) (.of rfl) (.of rfl) rfl) rfl<|Jv rfl<|JK rfl rfl<|Jv rfl<|JK rfl rfl<|br (aC (.cons (.of rfl) .nil) rfl rfl rfl rfl) rfl fun _ _=>JK rfl rfl ?_)
 skip
 rename_i g9a ae9
 refine ai bj rfl (fun w1 aR=>lO (l:=[nT]) (dM aR (by exact Take.there .here) (by exact rfl)) (Mem.dw aR (by exact .here) rfl rfl)) ?_
 (refine JK rfl rfl<|JH rfl<|ab (dK (.of rfl) (.of rfl) (.of rfl) rfl) rfl<|Jv rfl<|JK rfl rfl<|Jv rfl<|JK rfl rfl<|br (aC (.cons (.of rfl) .nil) rfl rfl rfl rfl) rfl fun _ _=>JK rfl rfl ?_)
 rename_i g9b ae8
 refine ai bj rfl (fun w1 aR=>Mr (l:=[1]) (kO aR (.there (.there (.there (.there mP)))) (by exact rfl)) (Mem.dw aR (by exact .here) rfl rfl)) ?_
 (refine JK rfl rfl<|JH rfl<|ab (dK (.of rfl) (.of rfl) (.of rfl) rfl) rfl<|Jv rfl<|JK rfl rfl<|Jv rfl<|JK rfl rfl ?_)
 have RD:W.length≤1000:=by
  have h:=congrArg List.length hW
  unfold cr at h
  rw [Zd] at h
  rw [h];decide
 have hWs:∀ x∈W,x.tk.so.length≤1000:=by
  intro x hx
  have h:x.tk∈cr W:=Z3 hx
  rw [hW] at h
  rw [ZB.1 h];decide
 refine JN bN rfl (fun w1 aR=>Ma (lN aR (.there (.there mP)) (by exact rfl)) (V8 aR (.there (.there (.there mP)))) RD hWs) ?_
 rintro ⟨x9,V⟩ hV
 try dsimp only at hV
 try dsimp only [id_eq,Zb,Za]
 (refine JK rfl rfl<|br (aC (.cons (.of rfl) (.cons (.of rfl) .nil)) rfl rfl rfl rfl) rfl fun _ _=>JK rfl rfl<|ab (aU (.cons (.of rfl) (.cons (.of rfl) .nil)) ak) rfl<|JK rfl rfl<|br (bB (.cons (.of rfl) .nil) rfl rfl bQ bQ ak) rfl fun _ _=>JK rfl rfl ?_)
 rename_i g9c ae7 g9d ae6
 refine bZ (g:=g9d) (E:=69) (ys:=(iF [⟨nN,.slice (some ⟨g9c,0,none⟩) 2 2⟩]).flatten) 1 2 (by exact .here) (by exact rfl) rfl rfl ?_
 refine ai bj rfl (fun w1 aR=>Mq (m:=[⟨nN,.slice (some ⟨g9c,0,none⟩) 2 2⟩]) (lN aR bL (by exact rfl)) (V8 aR cW) (lN aR (by exact .here) (by exact rfl)) (gZ (Mem.dw aR (by exact Take.there .here) rfl rfl) (jY _)) (hV.trans (hW.trans rfl))) ?_
 (refine JK rfl rfl<|JH rfl<|ab (dK (.of rfl) (.of rfl) (.of rfl) rfl) rfl<|Jn<|bK (.of rfl)<|Jk<|Jq<|Jr<|ab (cR AH) rfl<|ab (aU (.cons (.of rfl) (.cons (.of rfl) (.cons (.of rfl) .nil))) ak) rfl<|ab (aU (.cons (.of rfl) (.cons (.of rfl) (.cons (.of rfl) .nil))) ak) rfl<|ab (aU (.cons (.of rfl) (.cons (.of rfl) (.cons (.of rfl) .nil))) ak) rfl<|ab (aU (.cons (.of rfl) (.cons (.of rfl) (.cons (.of rfl) .nil))) ak) rfl<|br (bB (.cons (.of rfl) (.cons (.of rfl) (.cons (.of rfl) (.cons (.of rfl) .nil)))) rfl rfl bQ bQ ak) rfl fun _ _=>?_)
 rename_i YB aau
 refine bZ (g:=YB) (E:=180) (ys:=fO Wu) 4 3 (by exact .here) (by exact rfl) rfl rfl ?_
 refine ai bj rfl (fun w1 aR=>H6 (r:=fZ) (q:=Wu) ⟨cK aR iE rfl,cL aR lL rfl,cJ aR qJ rfl,cE aR iY rfl⟩ Ag (cE aR (by exact .here) (by exact rfl)) rfl) ?_
 (refine JH rfl<|Jv rfl<|JK rfl rfl<|ab (cR Sm) rfl<|JK rfl rfl<|ab (aU (.cons (.of rfl) (.cons (.of rfl) (.cons (.of rfl) .nil))) ak) rfl<|JK rfl rfl<|ab (aU (.cons (.of rfl) (.cons (.of rfl) (.cons (.of rfl) .nil))) ak) rfl<|JK rfl rfl<|ab (aU (.cons (.of rfl) (.cons (.of rfl) (.cons (.of rfl) .nil))) ak) rfl<|JK rfl rfl<|ab (aU (.cons (.of rfl) (.cons (.of rfl) (.cons (.of rfl) .nil))) ak) rfl<|JK rfl rfl<|ab (aU (.cons (.of rfl) (.cons (.of rfl) (.cons (.of rfl) .nil))) ak) rfl<|JK rfl rfl<|br (bB (.cons (.of rfl) (.cons (.of rfl) (.cons (.of rfl) (.cons (.of rfl) (.cons (.of rfl) .nil))))) rfl rfl bQ bQ ak) rfl fun _ _=>JK rfl rfl ?_)
 rename_i YA aat
 refine bZ (g:=YA) (E:=180) (ys:=fO Wt) 5 3 (by exact .here) (by exact rfl) rfl rfl ?_
 refine ai bj rfl (fun w1 aR=>H6 (r:=gQ) (q:=Wt) ⟨cK aR iX rfl,cL aR mP rfl,cJ aR (.there mP) rfl,cE aR (.there (.there mP)) rfl⟩ Af (cE aR (by exact .here) (by exact rfl)) rfl) ?_
 (refine JK rfl rfl<|JH rfl<|ab (dK (.of rfl) (.of rfl) (.of rfl) rfl) rfl<|Jv rfl<|JK rfl rfl<|ab (cR (.there (.there (.there mP)))) rfl<|JK rfl rfl<|ab (aU (.cons (.of rfl) (.cons (.of rfl) (.cons (.of rfl) .nil))) ak) rfl<|JK rfl rfl<|ab (aU (.cons (.of rfl) (.cons (.of rfl) (.cons (.of rfl) .nil))) ak) rfl<|JK rfl rfl<|ab (aU (.cons (.of rfl) (.cons (.of rfl) (.cons (.of rfl) .nil))) ak) rfl<|JK rfl rfl<|ab (aU (.cons (.of rfl) (.cons (.of rfl) (.cons (.of rfl) .nil))) ak) rfl<|JK rfl rfl<|br (bB (.cons (.of rfl) (.cons (.of rfl) (.cons (.of rfl) (.cons (.of rfl) .nil)))) rfl rfl bQ bQ ak) rfl fun _ _=>JK rfl rfl ?_)
 rename_i Yz aas
 refine bZ (g:=Yz) (E:=180) (ys:=fO Ws) 4 3 (by exact .here) (by exact rfl) rfl rfl ?_
 refine ai bj rfl (fun w1 aR=>H6 (r:=wq) (q:=Ws) ⟨cK aR (.there (.there (.there (.there (.there mP))))) rfl,cL aR (.there (.there (.there (.there (.there (.there mP)))))) rfl,cJ aR (.there (.there (.there (.there (.there (.there (.there mP))))))) rfl,cE aR (.there (.there (.there (.there (.there (.there (.there (.there mP)))))))) rfl⟩ YC (cE aR (by exact .here) (by exact rfl)) rfl) ?_
 (refine JK rfl rfl<|JH rfl<|ab (dK (.of rfl) (.of rfl) (.of rfl) rfl) rfl<|Jn<|bK (.of rfl)<|Jk<|Jr<|ab (cR iX) rfl ?_)
 refine dF [bH b3 (.cells #[.int .i64 (fZ).lv,.int .i64 (fZ).ma,s3,d3,t3,p3] 41 (0,0)),J1 (fZ) s3,J2 (fZ) d3,J3 (fZ) t3,J4 (fZ) p3,bH b5 (.cells #[.int .i64 (gQ).lv,.int .i64 (gQ).ma,s6,d6,t6,p6] 41 (0,0)),J1 (gQ) s6,J2 (gQ) d6,J3 (gQ) t6,J4 (gQ) p6] (by exact .cons lL (.cons lL (.cons lL (.cons lL (.cons lL (.cons lL (.cons lL (.cons lL (.cons lL (.cons lL .nil)))))))))) ?_
 refine JN bN rfl (fun w1 aR=>kU ⟨cK aR pz rfl,cL aR AH rfl,cJ aR iW rfl,cE aR iE rfl⟩ Af) ?_
 rintro ⟨s15,d15,t15,p15⟩ _
 try dsimp only [id_eq,Zb,Za]
 refine ki (r:=gQ) (s:=s15) (d:=d15) (t:=t15) (p:=p15) (a8 _ _) fun ady adx adw adv=>?_
 skip
 refine JN bN rfl (fun w1 aR=>gM ⟨cK aR (by exact .here) rfl,cL aR (by exact Take.there .here) rfl,cJ aR bL rfl,cE aR cW rfl⟩ Af) ?_
 rintro ⟨s16,d16,t16,p16⟩ _
 try dsimp only [id_eq,Zb,Za]
 refine di (r:=gQ) (s:=s16) (d:=d16) (t:=t16) (p:=p16) (a8 _ _) fun adu adt ads adr=>?_
 skip
 refine JN bj rfl (fun w1 aR=>Py jl ⟨cK aR (by exact .here) rfl,cL aR (by exact Take.there .here) rfl,cJ aR bL rfl,cE aR cW rfl⟩ Fx UZ.1 UZ.2) ?_
 rintro G9 _
 try dsimp only [id_eq,Zb,Za]
 refine Jv rfl<|JJ rfl rfl<|JJ rfl rfl<|Ja rfl<|Ja rfl<|Ji<|ab (cR iE) rfl ?_
 refine dF [bH b3 (.cells #[.int .i64 (fZ).lv,.int .i64 (fZ).ma,s3,d3,t3,p3] 41 (0,0)),J1 (fZ) s3,J2 (fZ) d3,J3 (fZ) t3,J4 (fZ) p3,bH b5 (.cells #[.int .i64 (gQ).lv,.int .i64 (gQ).ma,s6,d6,t6,p6] 41 (0,0)),J1 (gQ) s6,J2 (gQ) d6,J3 (gQ) t6,J4 (gQ) p6,row 9 1 G9 ([cV,⟨#[]⟩]:List ByteArray).length (aL [cV,⟨#[]⟩])] (by exact .cons iE (.cons iE (.cons iE (.cons iE (.cons iE (.cons iE (.cons iE (.cons iE (.cons iE (.cons iE (.cons .here .nil))))))))))) ?_
 refine JN bN rfl (fun w1 aR=>kU ⟨cK aR (by exact Take.there .here) rfl,cL aR bL rfl,cJ aR cW rfl,cE aR dT rfl⟩ Ag) ?_
 rintro ⟨s17,d17,t17,p17⟩ _
 try dsimp only [id_eq,Zb,Za]
 refine ki (r:=fZ) (s:=s17) (d:=d17) (t:=t17) (p:=p17) (a8 _ _) fun adq adp ado adn=>?_
 skip
 refine JN bN rfl (fun w1 aR=>gM ⟨cK aR (by exact .here) rfl,cL aR (by exact Take.there .here) rfl,cJ aR bL rfl,cE aR cW rfl⟩ Ag) ?_
 rintro ⟨s18,d18,t18,p18⟩ _
 try dsimp only [id_eq,Zb,Za]
 refine di (r:=fZ) (s:=s18) (d:=d18) (t:=t18) (p:=p18) (a8 _ _) fun adm adl adk adj=>?_
 skip
 refine JN eM rfl (fun w1 aR=>Pw 0 dJ ⟨cK aR (by exact .here) rfl,cL aR (by exact Take.there .here) rfl,cJ aR bL rfl,cE aR cW rfl⟩ Fy Pd.1 Pd.2) ?_
 rintro Lh _
 try dsimp only [id_eq,Zb,Za]
 refine Jv rfl<|JJ rfl rfl<|JJ rfl rfl<|Ja rfl<|Ja rfl<|Ji<|ab (cR iE) rfl ?_
 refine dF [bH b3 (.cells #[.int .i64 (fZ).lv,.int .i64 (fZ).ma,s3,d3,t3,p3] 41 (0,0)),J1 (fZ) s3,J2 (fZ) d3,J3 (fZ) t3,J4 (fZ) p3,bH b5 (.cells #[.int .i64 (gQ).lv,.int .i64 (gQ).ma,s6,d6,t6,p6] 41 (0,0)),J1 (gQ) s6,J2 (gQ) d6,J3 (gQ) t6,J4 (gQ) p6,row 9 1 G9 ([cV,⟨#[]⟩]:List ByteArray).length (aL [cV,⟨#[]⟩]),row 9 1 Lh ([cV,nT,dJ]:List ByteArray).length (aL [cV,nT,dJ])] (by exact .cons iE (.cons iE (.cons iE (.cons iE (.cons iE (.cons iE (.cons iE (.cons iE (.cons iE (.cons iE (.cons iE (.cons .here .nil)))))))))))) ?_
 refine JN bN rfl (fun w1 aR=>kU ⟨cK aR (by exact Take.there .here) rfl,cL aR bL rfl,cJ aR cW rfl,cE aR dT rfl⟩ Ag) ?_
 rintro ⟨s19,d19,t19,p19⟩ _
 try dsimp only [id_eq,Zb,Za]
 refine ki (r:=fZ) (s:=s19) (d:=d19) (t:=t19) (p:=p19) (a8 _ _) fun adi adh adg adf=>?_
 skip
 refine JN bN rfl (fun w1 aR=>gM ⟨cK aR (by exact .here) rfl,cL aR (by exact Take.there .here) rfl,cJ aR bL rfl,cE aR cW rfl⟩ Ag) ?_
 rintro ⟨s20,d20,t20,p20⟩ _
 try dsimp only [id_eq,Zb,Za]
 refine di (r:=fZ) (s:=s20) (d:=d20) (t:=t20) (p:=p20) (a8 _ _) fun ade adb ada ac9=>?_
 skip
 refine JN bj rfl (fun w1 aR=>Pz 0 ⟨cK aR (by exact .here) rfl,cL aR (by exact Take.there .here) rfl,cJ aR bL rfl,cE aR cW rfl⟩ Fy Pm.1 Pm.2) ?_
 rintro LJ _
 try dsimp only [id_eq,Zb,Za]
 refine Jv rfl<|JJ rfl rfl<|JJ rfl rfl<|Ja rfl<|Ja rfl<|Ji<|ab (cR CJ) rfl ?_
 refine dF [bH b3 (.cells #[.int .i64 (fZ).lv,.int .i64 (fZ).ma,s3,d3,t3,p3] 41 (0,0)),J1 (fZ) s3,J2 (fZ) d3,J3 (fZ) t3,J4 (fZ) p3,bH b5 (.cells #[.int .i64 (gQ).lv,.int .i64 (gQ).ma,s6,d6,t6,p6] 41 (0,0)),J1 (gQ) s6,J2 (gQ) d6,J3 (gQ) t6,J4 (gQ) p6,row 9 1 G9 ([cV,⟨#[]⟩]:List ByteArray).length (aL [cV,⟨#[]⟩]),row 9 1 Lh ([cV,nT,dJ]:List ByteArray).length (aL [cV,nT,dJ]),row 9 1 LJ ([nT]:List ByteArray).length (aL [nT])] (by exact .cons iE (.cons iE (.cons iE (.cons iE (.cons iE (.cons iE (.cons iE (.cons iE (.cons iE (.cons iE (.cons iE (.cons iE (.cons .here .nil))))))))))))) ?_
 refine JN bN rfl (fun w1 aR=>kU ⟨cK aR pz rfl,cL aR AH rfl,cJ aR iW rfl,cE aR iE rfl⟩ Af) ?_
 rintro ⟨s21,d21,t21,p21⟩ _
 try dsimp only [id_eq,Zb,Za]
 refine ki (r:=gQ) (s:=s21) (d:=d21) (t:=t21) (p:=p21) (a8 _ _) fun ac8 ac7 ac6 ac5=>?_
 skip
 refine JN bN rfl (fun w1 aR=>gM ⟨cK aR (by exact .here) rfl,cL aR (by exact Take.there .here) rfl,cJ aR bL rfl,cE aR cW rfl⟩ Af) ?_
 rintro ⟨s22,d22,t22,p22⟩ _
 try dsimp only [id_eq,Zb,Za]
 refine di (r:=gQ) (s:=s22) (d:=d22) (t:=t22) (p:=p22) (a8 _ _) fun ac4 ac3 ac2 ac1=>?_
 skip
 refine JN eM rfl (fun w1 aR=>Ve 0 cV ⟨cK aR (by exact .here) rfl,cL aR (by exact Take.there .here) rfl,cJ aR bL rfl,cE aR cW rfl⟩ Fx Pc.1 Pc.2) ?_
 rintro Ov _
 try dsimp only [id_eq,Zb,Za]
 refine Jv rfl<|JJ rfl rfl<|JJ rfl rfl<|Ja rfl<|Ja rfl<|Ji<|ab (cR iE) rfl ?_
 refine dF [bH b3 (.cells #[.int .i64 (fZ).lv,.int .i64 (fZ).ma,s3,d3,t3,p3] 41 (0,0)),J1 (fZ) s3,J2 (fZ) d3,J3 (fZ) t3,J4 (fZ) p3,bH b5 (.cells #[.int .i64 (gQ).lv,.int .i64 (gQ).ma,s6,d6,t6,p6] 41 (0,0)),J1 (gQ) s6,J2 (gQ) d6,J3 (gQ) t6,J4 (gQ) p6,row 9 1 G9 ([cV,⟨#[]⟩]:List ByteArray).length (aL [cV,⟨#[]⟩]),row 9 1 Lh ([cV,nT,dJ]:List ByteArray).length (aL [cV,nT,dJ]),row 9 1 LJ ([nT]:List ByteArray).length (aL [nT]),row 9 1 Ov ([dJ,jl]:List ByteArray).length (aL [dJ,jl])] (by exact .cons iE (.cons iE (.cons iE (.cons iE (.cons iE (.cons iE (.cons iE (.cons iE (.cons iE (.cons iE (.cons iE (.cons iE (.cons iE (.cons .here .nil)))))))))))))) ?_
 refine JN bN rfl (fun w1 aR=>kU ⟨cK aR (by exact Take.there .here) rfl,cL aR bL rfl,cJ aR cW rfl,cE aR dT rfl⟩ Ag) ?_
 rintro ⟨s23,d23,t23,p23⟩ _
 try dsimp only [id_eq,Zb,Za]
 refine ki (r:=fZ) (s:=s23) (d:=d23) (t:=t23) (p:=p23) (a8 _ _) fun ac0 acZ acY acX=>?_
 skip
 refine JN bN rfl (fun w1 aR=>gM ⟨cK aR (by exact .here) rfl,cL aR (by exact Take.there .here) rfl,cJ aR bL rfl,cE aR cW rfl⟩ Ag) ?_
 rintro ⟨s24,d24,t24,p24⟩ _
 try dsimp only [id_eq,Zb,Za]
 refine di (r:=fZ) (s:=s24) (d:=d24) (t:=t24) (p:=p24) (a8 _ _) fun acW acV acU acT=>?_
 skip
 refine JN eM rfl (fun w1 aR=>Vh (b:=true) nJ ⟨cK aR (by exact .here) rfl,cL aR (by exact Take.there .here) rfl,cJ aR bL rfl,cE aR cW rfl⟩ Fy Pj.1 Pj.2) ?_
 rintro ⟨We,d25,t25,Wv⟩ _
 try dsimp only [id_eq,Zb,Za]
 refine di (r:=Dm) (s:=We) (d:=d25) (t:=t25) (p:=Wv) (a8 _ _) fun WJ WI WH WG=>?_
 (refine Jv rfl<|JJ rfl rfl<|JJ rfl rfl<|Jz rfl rfl fun _ _=>aq (.of rfl) (.of rfl) .here rfl rfl (gA rfl rfl WJ WI WH WG) (bG rfl) ak<|Ja rfl<|Ji<|ab (cR .here) rfl ?_)
 rename_i b25 afv
 refine dF [row 9 1 G9 ([cV,⟨#[]⟩]:List ByteArray).length (aL [cV,⟨#[]⟩]),row 9 1 Lh ([cV,nT,dJ]:List ByteArray).length (aL [cV,nT,dJ]),row 9 1 LJ ([nT]:List ByteArray).length (aL [nT]),row 9 1 Ov ([dJ,jl]:List ByteArray).length (aL [dJ,jl]),bH b25 (.cells #[.int .i64 (Dm).lv,.int .i64 (Dm).ma,We,d25,t25,Wv] 41 (0,0)),J1 (Dm) We,J2 (Dm) d25,J3 (Dm) t25,J4 (Dm) Wv] (by exact .cons (.there (.there (.there (.there (.there (.there (.there mP))))))) (.cons (.there (.there (.there (.there (.there (.there (.there mP))))))) (.cons (.there (.there (.there (.there (.there (.there (.there mP))))))) (.cons (.there (.there (.there (.there (.there (.there (.there mP))))))) (.cons .here (.cons .here (.cons .here (.cons .here (.cons .here .nil))))))))) ?_
 refine JN bN rfl (fun w1 aR=>kU ⟨cK aR eX rfl,cL aR pz rfl,cJ aR AH rfl,cE aR iW rfl⟩ UR) ?_
 rintro ⟨s26,d26,t26,p26⟩ _
 try dsimp only [id_eq,Zb,Za]
 refine ki (r:=Dm) (s:=s26) (d:=d26) (t:=t26) (p:=p26) (a8 _ _) fun acS acR acQ acP=>?_
 skip
 refine JN bN rfl (fun w1 aR=>gM ⟨cK aR (by exact .here) rfl,cL aR (by exact Take.there .here) rfl,cJ aR bL rfl,cE aR cW rfl⟩ UR) ?_
 rintro ⟨s27,d27,t27,p27⟩ _
 try dsimp only [id_eq,Zb,Za]
 refine di (r:=Dm) (s:=s27) (d:=d27) (t:=t27) (p:=p27) (a8 _ _) fun acO acN acM acL=>?_
 (refine br (aC (.cons (.of rfl) (.cons (.of rfl) .nil)) rfl rfl rfl rfl) rfl fun _ _=>ab (aU (.cons (.of rfl) (.cons (.of rfl) .nil)) ak) rfl<|br (aC (.cons (.of rfl) (.cons (.of rfl) .nil)) rfl rfl rfl rfl) rfl fun _ _=>ab (aU (.cons (.of rfl) (.cons (.of rfl) .nil)) ak) rfl<|br (bB (.cons (.of rfl) (.cons (.of rfl) .nil)) rfl rfl bQ bQ ak) rfl fun _ _=>?_)
 rename_i ga hga gb hgb gc hgc
 refine bZ (g:=gc) (E:=78) (ys:=(iF [⟨⟨jl,[⟨#[45]⟩,⟨#[]⟩]⟩,.slice (some ⟨ga,0,none⟩) 2 2⟩,⟨⟨nJ,[cV,cV]⟩,.slice (some ⟨gb,0,none⟩) 2 2⟩]).flatten) 2 2 (by exact .here) (by exact rfl) rfl rfl ?_
 refine JN bj rfl (fun w1 aR=>K1 (q:=(gI Dm [⟨jl,[⟨#[45]⟩,⟨#[]⟩]⟩,⟨nJ,[cV,cV]⟩]).1) (i:=1) (e_:=31) (l:=[⟨⟨jl,[⟨#[45]⟩,⟨#[]⟩]⟩,.slice (some ⟨ga,0,none⟩) 2 2⟩,⟨⟨nJ,[cV,cV]⟩,.slice (some ⟨gb,0,none⟩) 2 2⟩]) (Prod.ext rfl UW) ⟨cK aR cW rfl,cL aR dT rfl,cJ aR eX rfl,cE aR pz rfl⟩ UT (lN aR (by exact .here) (by exact rfl)) (gZ (Du (g:=ga) (x:=⟨#[45]⟩) (y:=⟨#[]⟩) aR bL) (gZ (Du (g:=gb) (x:=⟨#[99,97,109]⟩) (y:=⟨#[99,97,109]⟩) aR (by exact Take.there .here)) (jY _)))) ?_
 rintro ⟨s28,d28,t28,p28⟩ _
 try dsimp only [id_eq,Zb,Za]
 refine di (r:=(gI Dm [⟨jl,[⟨#[45]⟩,⟨#[]⟩]⟩,⟨nJ,[cV,cV]⟩]).1) (s:=s28) (d:=d28) (t:=t28) (p:=p28) (a8 _ _) fun WE WD WC WB=>?_
 (refine Jv rfl<|JJ rfl rfl<|JJ rfl rfl<|JJ rfl rfl<|Jz rfl rfl fun _ _=>aq (.of rfl) (.of rfl) .here rfl rfl (gA rfl rfl WE WD WC WB) (bG rfl) ak<|Ja rfl<|Ja rfl<|Ji ?_)
 refine dF [row 9 1 G9 ([cV,⟨#[]⟩]:List ByteArray).length (aL [cV,⟨#[]⟩]),row 9 1 Lh ([cV,nT,dJ]:List ByteArray).length (aL [cV,nT,dJ]),row 9 1 LJ ([nT]:List ByteArray).length (aL [nT]),row 9 1 Ov ([dJ,jl]:List ByteArray).length (aL [dJ,jl])] (by exact .cons mP (.cons mP (.cons mP (.cons mP .nil)))) ?_
 refine JN lC rfl (fun w1 aR=>Px w1) ?_
 rintro ⟨ya,yc⟩ _
 try dsimp only [id_eq,Zb,Za]
 (refine br (bB (.cons (.of rfl) .nil) rfl rfl bQ bQ ak) rfl fun _ _=>ab (aU (.cons (.of rfl) (.cons (.of rfl) .nil)) ak) rfl ?_)
 rename_i ge J8
 refine JN lC rfl (fun w1 aR=>K0 w1) ?_
 rintro ⟨ua,uc⟩ _
 try dsimp only [id_eq,Zb,Za]
 (refine br (bB (.cons (.of rfl) .nil) rfl rfl bQ bQ ak) rfl fun _ _=>ab (aU (.cons (.of rfl) (.cons (.of rfl) .nil)) ak) rfl<|br (bB (.cons (.of rfl) (.cons (.of rfl) .nil)) rfl rfl bQ bQ ak) rfl fun _ _=>Ja rfl<|Ji ?_)
 rename_i gf hgf gg hgg
 refine bZ (g:=ge) (E:=78) (ys:=(iF [⟨nN,.slice ya 2 yc⟩]).flatten) 1 2 cW (by exact rfl) rfl rfl ?_
 refine bZ (g:=gf) (E:=78) (ys:=(iF [⟨nM,.slice ua 2 uc⟩]).flatten) 1 2 bL (by exact rfl) rfl rfl ?_
 refine bZ (g:=gg) (E:=182) (ys:=(te [⟨10,[⟨nN,.slice ya 2 yc⟩],.slice (some ⟨ge,0,none⟩) 1 1⟩,⟨12,[⟨nM,.slice ua 2 uc⟩],.slice (some ⟨gf,0,none⟩) 1 1⟩]).flatten) 2 2 bL (by exact rfl) rfl rfl ?_
 refine dF [row 9 1 G9 ([cV,⟨#[]⟩]:List ByteArray).length (aL [cV,⟨#[]⟩]),row 9 1 Lh ([cV,nT,dJ]:List ByteArray).length (aL [cV,nT,dJ]),row 9 1 LJ ([nT]:List ByteArray).length (aL [nT]),row 9 1 Ov ([dJ,jl]:List ByteArray).length (aL [dJ,jl]),row 182 2 (.slice (some ⟨gg,0,none⟩) 2 2) 2 (te [⟨10,[⟨nN,.slice ya 2 yc⟩],.slice (some ⟨ge,0,none⟩) 1 1⟩,⟨12,[⟨nM,.slice ua 2 uc⟩],.slice (some ⟨gf,0,none⟩) 1 1⟩]).flatten,row 78 2 (.slice (some ⟨ge,0,none⟩) 1 1) 1 (iF [⟨nN,.slice ya 2 yc⟩]).flatten,row 78 2 (.slice (some ⟨gf,0,none⟩) 1 1) 1 (iF [⟨nM,.slice ua 2 uc⟩]).flatten,row 9 1 (.slice ya 2 yc) 2 (aL nN.so),row 9 1 (.slice ua 2 uc) 2 (aL nM.so)] (by exact .cons eX (.cons eX (.cons eX (.cons eX (.cons .here (.cons (.there .here) (.cons .here (.cons (.there .here) (.cons .here .nil))))))))) ?_
 skip
 refine JN lC rfl (fun w1 aR=>jH w1) ?_
 rintro ⟨s29,d29,t29,p29⟩ _
 try dsimp only [id_eq,Zb,Za]
 refine di (r:=me) (s:=s29) (d:=d29) (t:=t29) (p:=p29) (a8 _ _) fun acK acJ acI acH=>?_
 refine Lq rfl rfl ?_
 refine JN wj rfl (fun w1 aR=>K2 (l:=[⟨10,[⟨nN,.slice ya 2 yc⟩],.slice (some ⟨ge,0,none⟩) 1 1⟩,⟨12,[⟨nM,.slice ua 2 uc⟩],.slice (some ⟨gf,0,none⟩) 1 1⟩]) (m:=[⟨10,[nN]⟩,⟨12,[nM]⟩]) dJ 9 rfl ⟨cK aR (by exact .here) rfl,cL aR (by exact Take.there .here) rfl,cJ aR bL rfl,cE aR cW rfl⟩ rI Pg.1 Pg.2 (DB aR iW (by exact rfl)) (mD (lN aR iE (by exact rfl)) (gZ (dM aR qJ (by exact rfl)) (jY _)) (mD (lN aR lL (by exact rfl)) (gZ (dM aR iY (by exact rfl)) (jY _)) (zM _)))) ?_
 rintro Vr _
 try dsimp only [id_eq,Zb,Za]
 refine Jv rfl<|JJ rfl rfl<|JJ rfl rfl<|Ja rfl<|Ja rfl<|Ji ?_
 refine dF [row 9 1 G9 ([cV,⟨#[]⟩]:List ByteArray).length (aL [cV,⟨#[]⟩]),row 9 1 Lh ([cV,nT,dJ]:List ByteArray).length (aL [cV,nT,dJ]),row 9 1 LJ ([nT]:List ByteArray).length (aL [nT]),row 9 1 Ov ([dJ,jl]:List ByteArray).length (aL [dJ,jl]),row 182 2 (.slice (some ⟨gg,0,none⟩) 2 2) 2 (te [⟨10,[⟨nN,.slice ya 2 yc⟩],.slice (some ⟨ge,0,none⟩) 1 1⟩,⟨12,[⟨nM,.slice ua 2 uc⟩],.slice (some ⟨gf,0,none⟩) 1 1⟩]).flatten,row 78 2 (.slice (some ⟨ge,0,none⟩) 1 1) 1 (iF [⟨nN,.slice ya 2 yc⟩]).flatten,row 78 2 (.slice (some ⟨gf,0,none⟩) 1 1) 1 (iF [⟨nM,.slice ua 2 uc⟩]).flatten,row 9 1 (.slice ya 2 yc) 2 (aL nN.so),row 9 1 (.slice ua 2 uc) 2 (aL nM.so),row 9 1 Vr ([⟨#[]⟩,⟨#[]⟩]:List ByteArray).length (aL [⟨#[]⟩,⟨#[]⟩])] (by exact .cons eX (.cons eX (.cons eX (.cons eX (.cons eX (.cons eX (.cons eX (.cons eX (.cons eX (.cons .here .nil)))))))))) ?_
 skip
 refine JN lC rfl (fun w1 aR=>jH w1) ?_
 rintro ⟨s30,d30,t30,p30⟩ _
 try dsimp only [id_eq,Zb,Za]
 refine di (r:=me) (s:=s30) (d:=d30) (t:=t30) (p:=p30) (a8 _ _) fun acG acF acE acD=>?_
 refine Lq rfl rfl ?_
 refine JN wj rfl (fun w1 aR=>K2 (l:=[⟨10,[⟨nN,.slice ya 2 yc⟩],.slice (some ⟨ge,0,none⟩) 1 1⟩,⟨12,[⟨nM,.slice ua 2 uc⟩],.slice (some ⟨gf,0,none⟩) 1 1⟩]) (m:=[⟨10,[nN]⟩,⟨12,[nM]⟩]) dJ 11 rfl ⟨cK aR (by exact .here) rfl,cL aR (by exact Take.there .here) rfl,cJ aR bL rfl,cE aR cW rfl⟩ rI Pf.1 Pf.2 (DB aR iW (by exact rfl)) (mD (lN aR iE (by exact rfl)) (gZ (dM aR qJ (by exact rfl)) (jY _)) (mD (lN aR lL (by exact rfl)) (gZ (dM aR iY (by exact rfl)) (jY _)) (zM _)))) ?_
 rintro V6 _
 try dsimp only [id_eq,Zb,Za]
 refine Jv rfl<|JJ rfl rfl<|JJ rfl rfl<|Ja rfl<|Ja rfl<|Ji ?_
 refine dF [row 9 1 G9 ([cV,⟨#[]⟩]:List ByteArray).length (aL [cV,⟨#[]⟩]),row 9 1 Lh ([cV,nT,dJ]:List ByteArray).length (aL [cV,nT,dJ]),row 9 1 LJ ([nT]:List ByteArray).length (aL [nT]),row 9 1 Ov ([dJ,jl]:List ByteArray).length (aL [dJ,jl]),row 182 2 (.slice (some ⟨gg,0,none⟩) 2 2) 2 (te [⟨10,[⟨nN,.slice ya 2 yc⟩],.slice (some ⟨ge,0,none⟩) 1 1⟩,⟨12,[⟨nM,.slice ua 2 uc⟩],.slice (some ⟨gf,0,none⟩) 1 1⟩]).flatten,row 78 2 (.slice (some ⟨ge,0,none⟩) 1 1) 1 (iF [⟨nN,.slice ya 2 yc⟩]).flatten,row 78 2 (.slice (some ⟨gf,0,none⟩) 1 1) 1 (iF [⟨nM,.slice ua 2 uc⟩]).flatten,row 9 1 (.slice ya 2 yc) 2 (aL nN.so),row 9 1 (.slice ua 2 uc) 2 (aL nM.so),row 9 1 Vr ([⟨#[]⟩,⟨#[]⟩]:List ByteArray).length (aL [⟨#[]⟩,⟨#[]⟩]),row 9 1 V6 ([cV,cV]:List ByteArray).length (aL [cV,cV])] (by exact .cons eX (.cons eX (.cons eX (.cons eX (.cons eX (.cons eX (.cons eX (.cons eX (.cons eX (.cons eX (.cons .here .nil))))))))))) ?_
 skip
 refine JN lC rfl (fun w1 aR=>jH w1) ?_
 rintro ⟨s31,d31,t31,p31⟩ _
 try dsimp only [id_eq,Zb,Za]
 refine di (r:=me) (s:=s31) (d:=d31) (t:=t31) (p:=p31) (a8 _ _) fun acC acB acA acz=>?_
 refine Lq rfl rfl ?_
 refine JN wj rfl (fun w1 aR=>K2 (l:=[⟨10,[⟨nN,.slice ya 2 yc⟩],.slice (some ⟨ge,0,none⟩) 1 1⟩,⟨12,[⟨nM,.slice ua 2 uc⟩],.slice (some ⟨gf,0,none⟩) 1 1⟩]) (m:=[⟨10,[nN]⟩,⟨12,[nM]⟩]) dJ 12 rfl ⟨cK aR (by exact .here) rfl,cL aR (by exact Take.there .here) rfl,cJ aR bL rfl,cE aR cW rfl⟩ rI Pe.1 Pe.2 (DB aR iW (by exact rfl)) (mD (lN aR iE (by exact rfl)) (gZ (dM aR qJ (by exact rfl)) (jY _)) (mD (lN aR lL (by exact rfl)) (gZ (dM aR iY (by exact rfl)) (jY _)) (zM _)))) ?_
 rintro YK _
 try dsimp only [id_eq,Zb,Za]
 refine Jv rfl<|JJ rfl rfl<|JJ rfl rfl<|Ja rfl<|Ja rfl<|Ji ?_
 refine dF [row 9 1 G9 ([cV,⟨#[]⟩]:List ByteArray).length (aL [cV,⟨#[]⟩]),row 9 1 Lh ([cV,nT,dJ]:List ByteArray).length (aL [cV,nT,dJ]),row 9 1 LJ ([nT]:List ByteArray).length (aL [nT]),row 9 1 Ov ([dJ,jl]:List ByteArray).length (aL [dJ,jl]),row 182 2 (.slice (some ⟨gg,0,none⟩) 2 2) 2 (te [⟨10,[⟨nN,.slice ya 2 yc⟩],.slice (some ⟨ge,0,none⟩) 1 1⟩,⟨12,[⟨nM,.slice ua 2 uc⟩],.slice (some ⟨gf,0,none⟩) 1 1⟩]).flatten,row 78 2 (.slice (some ⟨ge,0,none⟩) 1 1) 1 (iF [⟨nN,.slice ya 2 yc⟩]).flatten,row 78 2 (.slice (some ⟨gf,0,none⟩) 1 1) 1 (iF [⟨nM,.slice ua 2 uc⟩]).flatten,row 9 1 (.slice ya 2 yc) 2 (aL nN.so),row 9 1 (.slice ua 2 uc) 2 (aL nM.so),row 9 1 Vr ([⟨#[]⟩,⟨#[]⟩]:List ByteArray).length (aL [⟨#[]⟩,⟨#[]⟩]),row 9 1 V6 ([cV,cV]:List ByteArray).length (aL [cV,cV]),row 9 1 YK ([kp,kp]:List ByteArray).length (aL [kp,kp])] (by exact .cons eX (.cons eX (.cons eX (.cons eX (.cons eX (.cons eX (.cons eX (.cons eX (.cons eX (.cons eX (.cons eX (.cons .here .nil)))))))))))) ?_
 refine JN lC rfl (fun w1 aR=>jH w1) ?_
 rintro ⟨s32,d32,t32,p32⟩ _
 try dsimp only [id_eq,Zb,Za]
 refine di (r:=me) (s:=s32) (d:=d32) (t:=t32) (p:=p32) (a8 _ _) fun acx acw acv acu=>?_
 skip
 refine ai bN rfl (fun w1 aR=>Se ⟨cK aR (by exact .here) rfl,cL aR (by exact Take.there .here) rfl,cJ aR bL rfl,cE aR cW rfl⟩) ?_
 refine dF [row 9 1 G9 ([cV,⟨#[]⟩]:List ByteArray).length (aL [cV,⟨#[]⟩]),row 9 1 Lh ([cV,nT,dJ]:List ByteArray).length (aL [cV,nT,dJ]),row 9 1 LJ ([nT]:List ByteArray).length (aL [nT]),row 9 1 Ov ([dJ,jl]:List ByteArray).length (aL [dJ,jl]),row 9 1 Vr ([⟨#[]⟩,⟨#[]⟩]:List ByteArray).length (aL [⟨#[]⟩,⟨#[]⟩]),row 9 1 V6 ([cV,cV]:List ByteArray).length (aL [cV,cV]),row 9 1 YK ([kp,kp]:List ByteArray).length (aL [kp,kp])] (by exact .cons dT (.cons dT (.cons dT (.cons dT (.cons iE (.cons iE (.cons iE .nil))))))) ?_
 refine Jv rfl<|JJ rfl rfl<|JJ rfl rfl<|Ja rfl<|Ja rfl<|Ji ?_
 simp only [Zb,Za,List.append_eq,List.append]
 (refine Jv rfl<|Jv rfl<|JB rfl (by omega)<|Jv rfl<|JB rfl (by omega)<|Jv rfl<|JB rfl (by omega)<|Jv rfl<|JB rfl (by omega)<|Jv rfl<|JB rfl (by omega)<|Jv rfl<|JB rfl (by omega)<|Jv rfl<|JB rfl (by omega)<|Jv rfl<|JB rfl (by omega)<|JC rfl<|Jv rfl<|JK rfl rfl<|Jv rfl<|JK rfl rfl<|JC rfl<|ab (dK (.of rfl) (.of rfl) (.of rfl) rfl) rfl<|Jv rfl<|JK rfl rfl<|Jv rfl<|JK rfl rfl<|JC rfl<|ab (dK (.of rfl) (.of rfl) (.of rfl) rfl) rfl<|Jv rfl<|JK rfl rfl<|Jv rfl<|JK rfl rfl<|br (aC (.cons (.of rfl) (.cons (.of rfl) .nil)) rfl rfl rfl rfl) rfl fun _ _=>JK rfl rfl ?_)
 rename_i gz0 ae2
 refine ai bj rfl (fun w1 aR=>lO (l:=[cV,⟨#[]⟩]) (dM aR (by exact Take.there .here) (by exact rfl)) (Du (g:=gz0) (x:=⟨#[99,97,109]⟩) (y:=⟨#[]⟩) aR (by exact .here))) ?_
 (refine ab (dK (.of rfl) (.of rfl) (.of rfl) rfl) rfl<|Jv rfl<|JK rfl rfl<|Jv rfl<|JK rfl rfl<|br (aC (.cons (.of rfl) (.cons (.of rfl) (.cons (.of rfl) .nil))) rfl rfl rfl rfl) rfl fun _ _=>JK rfl rfl ?_)
 rename_i gz1 ae1
 refine ai bj rfl (fun w1 aR=>lO (l:=[cV,nT,dJ]) (dM aR cW (by exact rfl)) (Wl (g:=gz1) (x:=⟨#[99,97,109]⟩) (y:=⟨#[116]⟩) (z:=⟨#[97,105,114]⟩) aR (by exact .here))) ?_
 (refine ab (dK (.of rfl) (.of rfl) (.of rfl) rfl) rfl<|Jv rfl<|JK rfl rfl<|Jv rfl<|JK rfl rfl<|br (aC (.cons (.of rfl) .nil) rfl rfl rfl rfl) rfl fun _ _=>JK rfl rfl ?_)
 rename_i gz2 ae0
 refine ai bj rfl (fun w1 aR=>lO (l:=[nT]) (dM aR eX (by exact rfl)) (Wm (g:=gz2) (x:=⟨#[116]⟩) aR (by exact .here))) ?_
 (refine ab (dK (.of rfl) (.of rfl) (.of rfl) rfl) rfl<|Jv rfl<|JK rfl rfl<|Jv rfl<|JK rfl rfl<|br (aC (.cons (.of rfl) (.cons (.of rfl) .nil)) rfl rfl rfl rfl) rfl fun _ _=>JK rfl rfl ?_)
 rename_i gz3 aeZ
 refine ai bj rfl (fun w1 aR=>lO (l:=[dJ,jl]) (dM aR AH (by exact rfl)) (Du (g:=gz3) (x:=⟨#[97,105,114]⟩) (y:=⟨#[114,101,99]⟩) aR (by exact .here))) ?_
 (refine ab (dK (.of rfl) (.of rfl) (.of rfl) rfl) rfl<|Jv rfl<|JK rfl rfl<|Jv rfl<|JK rfl rfl<|br (aC (.cons (.of rfl) (.cons (.of rfl) .nil)) rfl rfl rfl rfl) rfl fun _ _=>JK rfl rfl ?_)
 rename_i gz4 aeY
 refine ai bj rfl (fun w1 aR=>lO (l:=[⟨#[]⟩,⟨#[]⟩]) (dM aR iE (by exact rfl)) (Du (g:=gz4) (x:=⟨#[]⟩) (y:=⟨#[]⟩) aR (by exact .here))) ?_
 (refine ab (dK (.of rfl) (.of rfl) (.of rfl) rfl) rfl<|Jv rfl<|JK rfl rfl<|Jv rfl<|JK rfl rfl<|br (aC (.cons (.of rfl) (.cons (.of rfl) .nil)) rfl rfl rfl rfl) rfl fun _ _=>JK rfl rfl ?_)
 rename_i gz5 aeX
 refine ai bj rfl (fun w1 aR=>lO (l:=[cV,cV]) (dM aR qJ (by exact rfl)) (Du (g:=gz5) (x:=⟨#[99,97,109]⟩) (y:=⟨#[99,97,109]⟩) aR (by exact .here))) ?_
 (refine ab (dK (.of rfl) (.of rfl) (.of rfl) rfl) rfl<|Jv rfl<|JK rfl rfl<|Jv rfl<|JK rfl rfl<|br (aC (.cons (.of rfl) (.cons (.of rfl) .nil)) rfl rfl rfl rfl) rfl fun _ _=>JK rfl rfl ?_)
 rename_i gz6 aeW
 refine ai bj rfl (fun w1 aR=>lO (l:=[kp,kp]) (dM aR Sm (by exact rfl)) (Du (g:=gz6) (x:=⟨#[118,116,114]⟩) (y:=⟨#[118,116,114]⟩) aR (by exact .here))) ?_
 (refine ab (dK (.of rfl) (.of rfl) (.of rfl) rfl) rfl<|Jv rfl<|JK rfl rfl<|Jv rfl<|JK rfl rfl<|ab (Gd (.of rfl) (.of rfl) RP) rfl<|ab (dK (.of rfl) (.of rfl) (.of rfl) rfl) rfl<|Ja rfl<|Jn<|Je<|JT ?_)
 rfl
end Go.Proofs.A1
namespace Go.Proofs.A1
open Go Go.SL Go.ChangeShapes Go.WideShapes Go.Deep Go.Joins
section
variable {H:Type} {enc:TypeId×Value→H} {w:World}
theorem laidOut:laidOutB Tryz.prog=true:=by kernel_rfl
theorem Wx:ownKnob Tryz.prog.godebug=none:=by kernel_rfl
theorem La {b o n:Nat}:Addr.add ⟨b,o,none⟩ n=⟨b,o+n,none⟩:=eK b o n
theorem HG {T:TypeId} (Nr:Tryz.prog.readableRec T=true) (hrow:T<Tryz.prog.types.size) {W W':World} {YO:Nat→Bool} {n:Nat} {cs:List Value} {x:DataW H×List MemPlace} (h:DataW.trod enc Tryz.prog W 0 (fun _=>true) true n T cs=some x)
  (I9:∀ p∈x.2,W.sameAt W' p) (hs:∀ p∈x.2,YO p.block=true):DataW.trod enc Tryz.prog W' 0 YO true n T cs=some x:=
 DataW.trod_stays (kids_book laidOut Nr) (book_sized Nr) (fun h=>by cases h) ⟨hrow,book_self T⟩ h I9 hs
theorem u7 {α:Type} [Inhabited α] {Q:α→Prop} {T E:TypeId} {sz:Nat} {cells:α→List Value} (hu:Tryz.prog.underlying T=some (.slice E)) (hsz:Tryz.prog.cellsOf E=sz) (h0:0<sz) (hlen:∀ a,(cells a).length=sz)
  (hE:∀ (n:Nat) (cs:List Value) (x:DataW H×List MemPlace),DataW.trod enc Tryz.prog w 0 (fun _=>true) true n E cs=some x→∃ e:α,cs=cells e∧Q e)
  {n:Nat} {v:Value} {y:DataW H×List MemPlace} (h:DataW.trod enc Tryz.prog w 0 (fun _=>true) true n T [v]=some y):∃ l:List α,Rd w v sz (l.map cells)∧∀ x∈l,Q x:=by
 rcases open_slice hu h with ⟨e,_⟩ | ⟨a,len,cap,m,n',D,Pl,O2,_,hl,hm,hmm,_,hi⟩
 ·simp only [List.cons.injEq,and_true] at e
  subst e
  exact ⟨[],Rd.nil w sz,fun _ h=>absurd h Zp⟩
 ·simp only [List.cons.injEq,and_true] at O2
  subst O2
  rw [hsz] at hi
  have SG:m=cap:=by simpa using hmm
  have hE:∀ i,i<len→∃ e:α,(∀ j,j<sz→w.cell? (a.add (i*sz+j))=(cells e)[j]?)∧Q e:=fun i gU=>by
   obtain ⟨Pq,hc,ht⟩:=hi i (by omega)
   obtain ⟨_,iT,jv⟩:=World.cells?_some hc
   obtain ⟨e,rfl,hq⟩:=hE _ _ _ ht
   exact ⟨e,fun j hj=>by rw [← Go.Deep.add_add];exact jv j hj,hq⟩
  let S:Nat→α:=fun i=>if gU:i<len then (hE i gU).choose else default
  have hS:∀ i j,i<len→j<sz→w.cell? (a.add (i*sz+j))=(cells (S i))[j]?:=fun i j gU hj=>by
   have:=(hE i gU).choose_spec.1 j hj
   simpa only [S,dif_pos gU] using this
  have hQ:∀ i,i<len→Q (S i):=fun i gU=>by
   have:=(hE i gU).choose_spec.2
   simpa only [S,dif_pos gU] using this
  have vB:(((List.range len).map S).map cells).length=len:=by simp
  refine ⟨(List.range len).map S,?_,fun x hx=>by
   obtain ⟨i,hi,rfl⟩:=Zt.1 hx
   exact hQ i (ZQ.1 hi)⟩
  by_cases hz:len=0
  ·subst hz
   exact ⟨some a,cap,0,0,by rw [vB],by rw [vB];omega,hm,fun hne=>absurd (Zan.1 vB) hne,fun i r hr=>by
    have:=(Zl.1 hr).1
    rw [vB] at this;omega⟩
  ·obtain ⟨b,off,spot⟩:=a
   have TO:spot=none:=by
    have h1:=hS 0 0 (by omega) h0
    rw [Zc (by rw [hlen];exact h0)] at h1
    simpa [Addr.add] using World.cell?_spot h1
   subst TO
   refine ⟨some ⟨b,off,none⟩,cap,b,off,by rw [vB],by rw [vB];exact hl,hm,fun _=>rfl,fun i r hr=>?_⟩
   have gU:i<len:=by
    have:=(Zl.1 hr).1
    rwa [vB] at this
   have TY:r=cells (S i):=by
    simp [gU] at hr;exact hr.symm
   subst TY
   refine ⟨hlen _,fun j u hu=>?_⟩
   have hj:j<sz:=by
    have:=(Zl.1 hu).1
    rwa [hlen] at this
   have:=hS i j gU hj
   rw [La,hu] at this
   rw [Nat.add_assoc];exact this
theorem mC {α:Type} [Inhabited α] {T E:TypeId} {sz:Nat} {cells:α→List Value} (hu:Tryz.prog.underlying T=some (.slice E)) (hsz:Tryz.prog.cellsOf E=sz) (h0:0<sz) (hlen:∀ a,(cells a).length=sz)
  (hE:∀ (n:Nat) (cs:List Value) (x:DataW H×List MemPlace),DataW.trod enc Tryz.prog w 0 (fun _=>true) true n E cs=some x→∃ e:α,cs=cells e)
  {n:Nat} {v:Value} {y:DataW H×List MemPlace} (h:DataW.trod enc Tryz.prog w 0 (fun _=>true) true n T [v]=some y):∃ l:List α,Rd w v sz (l.map cells):=by
 obtain ⟨l,hl,_⟩:=u7 (Q:=fun _=>True) hu hsz h0 hlen (fun n cs x h=>by obtain ⟨e,he⟩:=hE n cs x h;exact ⟨e,he,trivial⟩) h
 exact ⟨l,hl⟩
theorem OK {α:Type}:∀ {l:List α},l.length=2→∃ a0 a1,l=[a0,a1]
 | [a0,a1],_=>⟨a0,a1,rfl⟩
theorem IH {α:Type}:∀ {l:List α},l.length=3→∃ a0 a1 a2,l=[a0,a1,a2]
 | [a0,a1,a2],_=>⟨a0,a1,a2,rfl⟩
theorem Tx {α:Type}:∀ {l:List α},l.length=6→∃ a0 a1 a2 a3 a4 a5,l=[a0,a1,a2,a3,a4,a5]
 | [a0,a1,a2,a3,a4,a5],_=>⟨a0,a1,a2,a3,a4,a5,rfl⟩
theorem Vb:Tryz.prog.cellsOf 118=2:=by kernel_rfl
theorem c9:Tryz.prog.cellsOf 9=1:=by kernel_rfl
theorem c3:Tryz.prog.cellsOf 3=1:=by kernel_rfl
theorem KO {n:Nat} {cs:List Value} {x:DataW H×List MemPlace} (h:DataW.trod enc Tryz.prog w 0 (fun _=>true) true n 118 cs=some x):∃ (a0:ByteArray) (a1:Int),cs=[.string a0,.int .i64 a1]:=by
 obtain ⟨ys,n0,_,_,hlen,I0,hf⟩:=DataW.trod_struct Tryz.underlying118 h
 rw [Vb] at hlen
 have IZ:ys.length=2:=I0
 obtain ⟨k0,k1,rfl⟩:=OK hlen
 have f0:DataW.trod enc Tryz.prog w 0 (fun _=>true) true n0 9 (List.take (Tryz.prog.cellsOf 9) (List.drop 0 [k0,k1]))=ys[0]?:=hf 0 _ rfl
 rw [c9,Zc (by omega)] at f0
 obtain ⟨b0,e0,_,_⟩:=DataW.trod_string Tryz.underlying9 f0
 simp at e0
 have f1:DataW.trod enc Tryz.prog w 0 (fun _=>true) true n0 3 (List.take (Tryz.prog.cellsOf 3) (List.drop 1 [k0,k1]))=ys[1]?:=hf 1 _ rfl
 rw [c3,Zc (by omega)] at f1
 obtain ⟨b1,e1,_,_⟩:=DataW.trod_int Tryz.underlying3 f1
 simp at e1
 subst e0 e1
 exact ⟨b0,b1,rfl⟩
theorem c88:Tryz.prog.cellsOf 88=3:=by kernel_rfl
theorem c4:Tryz.prog.cellsOf 4=1:=by kernel_rfl
theorem Ob {n:Nat} {cs:List Value} {x:DataW H×List MemPlace} (h:DataW.trod enc Tryz.prog w 0 (fun _=>true) true n 88 cs=some x):∃ (a0:ByteArray) (a1:Int) (a2:Bool),cs=[.string a0,.int .i64 a1,.bool a2]:=by
 obtain ⟨ys,n0,_,_,hlen,I0,hf⟩:=DataW.trod_struct Tryz.underlying88 h
 rw [c88] at hlen
 have IZ:ys.length=3:=I0
 obtain ⟨k0,k1,k2,rfl⟩:=IH hlen
 have f0:DataW.trod enc Tryz.prog w 0 (fun _=>true) true n0 9 (List.take (Tryz.prog.cellsOf 9) (List.drop 0 [k0,k1,k2]))=ys[0]?:=hf 0 _ rfl
 rw [c9,Zc (by omega)] at f0
 obtain ⟨b0,e0,_,_⟩:=DataW.trod_string Tryz.underlying9 f0
 simp at e0
 have f1:DataW.trod enc Tryz.prog w 0 (fun _=>true) true n0 3 (List.take (Tryz.prog.cellsOf 3) (List.drop 1 [k0,k1,k2]))=ys[1]?:=hf 1 _ rfl
 rw [c3,Zc (by omega)] at f1
 obtain ⟨b1,e1,_,_⟩:=DataW.trod_int Tryz.underlying3 f1
 simp at e1
 have f2:DataW.trod enc Tryz.prog w 0 (fun _=>true) true n0 4 (List.take (Tryz.prog.cellsOf 4) (List.drop 2 [k0,k1,k2]))=ys[2]?:=hf 2 _ rfl
 rw [c4,Zc (by omega)] at f2
 obtain ⟨b2,e2,_⟩:=DataW.trod_bool Tryz.underlying4 f2
 simp at e2
 subst e0 e1 e2
 exact ⟨b0,b1,b2,rfl⟩
theorem Va:Tryz.prog.cellsOf 122=3:=by kernel_rfl
theorem KN {n:Nat} {cs:List Value} {x:DataW H×List MemPlace} (h:DataW.trod enc Tryz.prog w 0 (fun _=>true) true n 122 cs=some x):∃ (a0:ByteArray) (a1:Int) (a2:Int),cs=[.string a0,.int .i64 a1,.int .i64 a2]:=by
 obtain ⟨ys,n0,_,_,hlen,I0,hf⟩:=DataW.trod_struct Tryz.underlying122 h
 rw [Va] at hlen
 have IZ:ys.length=3:=I0
 obtain ⟨k0,k1,k2,rfl⟩:=IH hlen
 have f0:DataW.trod enc Tryz.prog w 0 (fun _=>true) true n0 9 (List.take (Tryz.prog.cellsOf 9) (List.drop 0 [k0,k1,k2]))=ys[0]?:=hf 0 _ rfl
 rw [c9,Zc (by omega)] at f0
 obtain ⟨b0,e0,_,_⟩:=DataW.trod_string Tryz.underlying9 f0
 simp at e0
 have f1:DataW.trod enc Tryz.prog w 0 (fun _=>true) true n0 3 (List.take (Tryz.prog.cellsOf 3) (List.drop 1 [k0,k1,k2]))=ys[1]?:=hf 1 _ rfl
 rw [c3,Zc (by omega)] at f1
 obtain ⟨b1,e1,_,_⟩:=DataW.trod_int Tryz.underlying3 f1
 simp at e1
 have f2:DataW.trod enc Tryz.prog w 0 (fun _=>true) true n0 3 (List.take (Tryz.prog.cellsOf 3) (List.drop 2 [k0,k1,k2]))=ys[2]?:=hf 2 _ rfl
 rw [c3,Zc (by omega)] at f2
 obtain ⟨b2,e2,_,_⟩:=DataW.trod_int Tryz.underlying3 f2
 simp at e2
 subst e0 e1 e2
 exact ⟨b0,b1,b2,rfl⟩
theorem U9:Tryz.prog.cellsOf 180=3:=by kernel_rfl
theorem KM {n:Nat} {cs:List Value} {x:DataW H×List MemPlace} (h:DataW.trod enc Tryz.prog w 0 (fun _=>true) true n 180 cs=some x):∃ (a0:Int) (a1:ByteArray) (a2:ByteArray),cs=[.int .i64 a0,.string a1,.string a2]:=by
 obtain ⟨ys,n0,_,_,hlen,I0,hf⟩:=DataW.trod_struct Tryz.underlying180 h
 rw [U9] at hlen
 have IZ:ys.length=3:=I0
 obtain ⟨k0,k1,k2,rfl⟩:=IH hlen
 have f0:DataW.trod enc Tryz.prog w 0 (fun _=>true) true n0 3 (List.take (Tryz.prog.cellsOf 3) (List.drop 0 [k0,k1,k2]))=ys[0]?:=hf 0 _ rfl
 rw [c3,Zc (by omega)] at f0
 obtain ⟨b0,e0,_,_⟩:=DataW.trod_int Tryz.underlying3 f0
 simp at e0
 have f1:DataW.trod enc Tryz.prog w 0 (fun _=>true) true n0 9 (List.take (Tryz.prog.cellsOf 9) (List.drop 1 [k0,k1,k2]))=ys[1]?:=hf 1 _ rfl
 rw [c9,Zc (by omega)] at f1
 obtain ⟨b1,e1,_,_⟩:=DataW.trod_string Tryz.underlying9 f1
 simp at e1
 have f2:DataW.trod enc Tryz.prog w 0 (fun _=>true) true n0 9 (List.take (Tryz.prog.cellsOf 9) (List.drop 2 [k0,k1,k2]))=ys[2]?:=hf 2 _ rfl
 rw [c9,Zc (by omega)] at f2
 obtain ⟨b2,e2,_,_⟩:=DataW.trod_string Tryz.underlying9 f2
 simp at e2
 subst e0 e1 e2
 exact ⟨b0,b1,b2,rfl⟩
theorem c27:Tryz.prog.cellsOf 27=6:=by kernel_rfl
theorem c22:Tryz.prog.cellsOf 22=1:=by kernel_rfl
theorem c23:Tryz.prog.cellsOf 23=1:=by kernel_rfl
theorem c24:Tryz.prog.cellsOf 24=1:=by kernel_rfl
theorem c25:Tryz.prog.cellsOf 25=1:=by kernel_rfl
theorem Oe {n:Nat} {cs:List Value} {x:DataW H×List MemPlace} (h:DataW.trod enc Tryz.prog w 0 (fun _=>true) true n 27 cs=some x):∃ (a0:Int) (a1:Int) (a2:Value) (a3:Value) (a4:Value) (a5:Value),cs=[.int .i64 a0,.int .i64 a1,a2,a3,a4,a5]∧(∃ (m:Nat) (y:DataW H×List MemPlace),DataW.trod enc Tryz.prog w 0 (fun _=>true) true m 22 [a2]=some y)∧(∃ (m:Nat) (y:DataW H×List MemPlace),DataW.trod enc Tryz.prog w 0 (fun _=>true) true m 23 [a3]=some y)∧(∃ (m:Nat) (y:DataW H×List MemPlace),DataW.trod enc Tryz.prog w 0 (fun _=>true) true m 24 [a4]=some y)∧(∃ (m:Nat) (y:DataW H×List MemPlace),DataW.trod enc Tryz.prog w 0 (fun _=>true) true m 25 [a5]=some y):=by
 obtain ⟨ys,n0,_,_,hlen,I0,hf⟩:=DataW.trod_struct Tryz.underlying27 h
 rw [c27] at hlen
 have IZ:ys.length=6:=I0
 obtain ⟨k0,k1,k2,k3,k4,k5,rfl⟩:=Tx hlen
 have f0:DataW.trod enc Tryz.prog w 0 (fun _=>true) true n0 3 (List.take (Tryz.prog.cellsOf 3) (List.drop 0 [k0,k1,k2,k3,k4,k5]))=ys[0]?:=hf 0 _ rfl
 rw [c3,Zc (by omega)] at f0
 obtain ⟨b0,e0,_,_⟩:=DataW.trod_int Tryz.underlying3 f0
 simp at e0
 have f1:DataW.trod enc Tryz.prog w 0 (fun _=>true) true n0 3 (List.take (Tryz.prog.cellsOf 3) (List.drop 1 [k0,k1,k2,k3,k4,k5]))=ys[1]?:=hf 1 _ rfl
 rw [c3,Zc (by omega)] at f1
 obtain ⟨b1,e1,_,_⟩:=DataW.trod_int Tryz.underlying3 f1
 simp at e1
 have f2:DataW.trod enc Tryz.prog w 0 (fun _=>true) true n0 22 (List.take (Tryz.prog.cellsOf 22) (List.drop 2 [k0,k1,k2,k3,k4,k5]))=ys[2]?:=hf 2 _ rfl
 rw [c22,Zc (by omega)] at f2
 have f3:DataW.trod enc Tryz.prog w 0 (fun _=>true) true n0 23 (List.take (Tryz.prog.cellsOf 23) (List.drop 3 [k0,k1,k2,k3,k4,k5]))=ys[3]?:=hf 3 _ rfl
 rw [c23,Zc (by omega)] at f3
 have f4:DataW.trod enc Tryz.prog w 0 (fun _=>true) true n0 24 (List.take (Tryz.prog.cellsOf 24) (List.drop 4 [k0,k1,k2,k3,k4,k5]))=ys[4]?:=hf 4 _ rfl
 rw [c24,Zc (by omega)] at f4
 have f5:DataW.trod enc Tryz.prog w 0 (fun _=>true) true n0 25 (List.take (Tryz.prog.cellsOf 25) (List.drop 5 [k0,k1,k2,k3,k4,k5]))=ys[5]?:=hf 5 _ rfl
 rw [c25,Zc (by omega)] at f5
 subst e0 e1
 exact ⟨b0,b1,k2,k3,k4,k5,rfl,⟨_,_,by simpa using f2⟩,⟨_,_,by simpa using f3⟩,⟨_,_,by simpa using f4⟩,⟨_,_,by simpa using f5⟩⟩
theorem c69:Tryz.prog.cellsOf 69=2:=by kernel_rfl
theorem c32:Tryz.prog.cellsOf 32=1:=by kernel_rfl
theorem Oc {n:Nat} {cs:List Value} {x:DataW H×List MemPlace} (h:DataW.trod enc Tryz.prog w 0 (fun _=>true) true n 69 cs=some x):∃ (a0:ByteArray) (a1:Value),cs=[.string a0,a1]∧(∃ (m:Nat) (y:DataW H×List MemPlace),DataW.trod enc Tryz.prog w 0 (fun _=>true) true m 32 [a1]=some y):=by
 obtain ⟨ys,n0,_,_,hlen,I0,hf⟩:=DataW.trod_struct Tryz.underlying69 h
 rw [c69] at hlen
 have IZ:ys.length=2:=I0
 obtain ⟨k0,k1,rfl⟩:=OK hlen
 have f0:DataW.trod enc Tryz.prog w 0 (fun _=>true) true n0 9 (List.take (Tryz.prog.cellsOf 9) (List.drop 0 [k0,k1]))=ys[0]?:=hf 0 _ rfl
 rw [c9,Zc (by omega)] at f0
 obtain ⟨b0,e0,_,_⟩:=DataW.trod_string Tryz.underlying9 f0
 simp at e0
 have f1:DataW.trod enc Tryz.prog w 0 (fun _=>true) true n0 32 (List.take (Tryz.prog.cellsOf 32) (List.drop 1 [k0,k1]))=ys[1]?:=hf 1 _ rfl
 rw [c32,Zc (by omega)] at f1
 subst e0
 exact ⟨b0,k1,rfl,⟨_,_,by simpa using f1⟩⟩
theorem Io {n:Nat} {v:Value} {x:DataW H×List MemPlace} (h:DataW.trod enc Tryz.prog w 0 (fun _=>true) true n 22 [v]=some x):∃ l,Rd w v 2 (uL l):=by
 haveI:Inhabited Sr:=⟨⟨⟨#[]⟩,0⟩⟩
 exact mC (cells:=Sr.cells) Tryz.underlying22 Vb (by decide) (fun _=>rfl) (fun _ _ _ h=>by obtain ⟨a,b,rfl⟩:=KO h;exact ⟨⟨a,b⟩,rfl⟩) h
theorem Iq {n:Nat} {v:Value} {x:DataW H×List MemPlace} (h:DataW.trod enc Tryz.prog w 0 (fun _=>true) true n 23 [v]=some x):∃ l,Rd w v 3 (uy l):=by
 haveI:Inhabited De:=⟨⟨⟨#[]⟩,0,false⟩⟩
 exact mC (cells:=De.cells) Tryz.underlying23 c88 (by decide) (fun _=>rfl) (fun _ _ _ h=>by obtain ⟨a,b,c,rfl⟩:=Ob h;exact ⟨⟨a,b,c⟩,rfl⟩) h
theorem Il {n:Nat} {v:Value} {x:DataW H×List MemPlace} (h:DataW.trod enc Tryz.prog w 0 (fun _=>true) true n 24 [v]=some x):∃ l,Rd w v 3 (tX l):=by
 haveI:Inhabited Ti:=⟨⟨⟨#[]⟩,0,0⟩⟩
 exact mC (cells:=Ti.cells) Tryz.underlying24 Va (by decide) (fun _=>rfl) (fun _ _ _ h=>by obtain ⟨a,b,c,rfl⟩:=KN h;exact ⟨⟨a,b,c⟩,rfl⟩) h
theorem Ip {n:Nat} {v:Value} {x:DataW H×List MemPlace} (h:DataW.trod enc Tryz.prog w 0 (fun _=>true) true n 25 [v]=some x):∃ l,Rd w v 3 (td l):=by
 haveI:Inhabited Po:=⟨⟨0,⟨#[]⟩,⟨#[]⟩⟩⟩
 exact mC (cells:=Po.cells) Tryz.underlying25 U9 (by decide) (fun _=>rfl) (fun _ _ _ h=>by obtain ⟨a,b,c,rfl⟩:=KM h;exact ⟨⟨a,b,c⟩,rfl⟩) h
theorem Im {n:Nat} {v:Value} {x:DataW H×List MemPlace} (h:DataW.trod enc Tryz.prog w 0 (fun _=>true) true n 32 [v]=some x):∃ l,Rd w v 1 (im l):=by
 haveI:Inhabited ByteArray:=⟨⟨#[]⟩⟩
 exact mC (cells:=(fun s:ByteArray=>[Value.string s])) Tryz.underlying32 c9 (by decide) (fun _=>rfl) (fun _ _ _ h=>by obtain ⟨a,rfl,_⟩:=DataW.trod_string Tryz.underlying9 h;exact ⟨a,rfl⟩) h
theorem BG {n:Nat} {cs:List Value} {x:DataW H×List MemPlace} (h:DataW.trod enc Tryz.prog w 0 (fun _=>true) true n 27 cs=some x):∃ (r:Ro) (s d t p:Value),cs=[.int .i64 r.lv,.int .i64 r.ma,s,d,t,p]∧RR w r s d t p:=by
 obtain ⟨a,b,s,d,t,p,rfl,⟨_,_,h1⟩,⟨_,_,h2⟩,⟨_,_,h3⟩,⟨_,_,h4⟩⟩:=Oe h
 obtain ⟨l1,r1⟩:=Io h1
 obtain ⟨l2,r2⟩:=Iq h2
 obtain ⟨l3,r3⟩:=Il h3
 obtain ⟨l4,r4⟩:=Ip h4
 exact ⟨⟨a,b,l1,l2,l3,l4⟩,s,d,t,p,rfl,r1,r2,r3,r4⟩
theorem DA {n:Nat} {v:Value} {x:DataW H×List MemPlace} (h:DataW.trod enc Tryz.prog w 0 (fun _=>true) true n 66 [v]=some x):∃ l,Rd w v 2 (iF l)∧sR w l:=by
 haveI:Inhabited fu:=⟨⟨⟨⟨#[]⟩,[]⟩,.slice none 0 0⟩⟩
 exact u7 (α:=fu) (Q:=fun x=>Rd w x.v 1 (im x.tk.so)) (cells:=fu.cells) Tryz.underlying66 c69 (by decide) (fun _=>rfl) (fun _ _ _ h=>by
  obtain ⟨a,b,rfl,⟨_,_,h1⟩⟩:=Oc h
  obtain ⟨l,hl⟩:=Im h1
  exact ⟨⟨⟨a,l⟩,b⟩,rfl,hl⟩) h
end
end Go.Proofs.A1
namespace Go.Proofs.YteonnodafmegaaaGreatDoor
open Go Go.SL Go.Proofs.A1 Go.ChangeShapes Go.WideShapes Go.ChangeAt Go.RowKit Go.Joins
section
variable {H:Type} {enc:TypeId×Value→H} {P:Program}
theorem wU {f:Func} {s:ChangeSpec} {apart fresh handsOn again:Bool} {W W':World} {args:Array Value} {v:Value} {ds gs:List (DataW H)} {before pa pv:List MemPlace}
  (hW:DataW.Whole enc P f.params.toList s.vars apart W args.toList ds gs before)
  (TX:∀ (b:Nat) (sp:Nat→Bool) (hd:Bool),DataW.TrodAll enc P W' b sp hd f.resultTypes.toList (v.resultList f.resultTypes.size) (s.fn H (ds++gs)).results [])
  (Fh:∀ sp:Nat→Bool,(∀ p∈before,sp p.block=true)→DataW.TrodAll enc P W' 0 sp true f.params.toList args.toList (s.fn H (ds++gs)).args pa)
  (OO:∀ sp:Nat→Bool,(∀ p∈before,sp p.block=true)→DataW.TrodVars enc P W' sp s.vars (s.fn H (ds++gs)).vars pv)
  (hps:before=pa++pv) (hb:Below W.heap.size W W')
  (eJ:∀ (j:Nat) (t:TypeId) (r:Value),f.resultTypes[j]? = some t→(v.resultList f.resultTypes.size)[j]? = some r→Value.okWide P W' .any 0 t r) :
  s.post enc P f apart fresh handsOn again W args v W':=by
 have aM:∀ p∈before,p.block<W.heap.size:=fun p hp=>hW.lt p hp
 have hold:∀ p∈before,(fun b=>decide (b<W.heap.size)) p.block=true:=fun p hp=>by simpa using aM p hp
 refine ⟨ds,gs,before,[],pa,pv,hW,TX _ _ _,Fh _ hold,OO _ hold,World.keptBut_mono (fun p hp=>⟨hp,?_⟩) (hb.frame (·∈before)),fun _=>?_⟩
 ·rw [hps,Zx] at hp
  exact Or.inr hp
 ·obtain ⟨_,_,_,_,_,hz,hn⟩:=hW
  refine ⟨eJ,_,_,([]++pa)++pv,⟨[]++pa,pv,trodAll_append (Fh _ (fun _ _=>rfl)) (TX _ _ _),OO _ (fun _ _=>rfl),rfl,?_,?_⟩,?_⟩
  ·intro b off hp
   have oG:MemPlace.cell b off∈before:=by rw [hps];simpa using hp
   rw [hb.frozen (aM _ oG)]
   exact hz b off oG
  ·intro ha
   have:=hn ha
   rw [hps] at this
   simpa using this
  ·intro p hp _
   rw [hps]
   simpa using hp
end
end Go.Proofs.YteonnodafmegaaaGreatDoor
namespace Go.Proofs.A1
open Go Go.SL
theorem Fw {r:Ro} {s d t p:Value} (o:ByteArray) {w:World} (h:RR w r s d t p):aj Tryz.prog 130 [RA r s d t p,.string o] w (.int .i64 (bE (cF r) o)):=by
 have h1:=Rd.one h.sr
 have h2:=Rd.one h.de
 have h3:=Rd.one h.ti
 have h4:=Rd.one h.po
 have hs:=h.sr
 obtain ⟨a,cp,b,o',rfl,dj,bV,ha,hc⟩:=hs
 rw [cO] at *
 unfold maxLen at bV
 unfold RA
 refine ah Tryz.func130 rfl rfl ?_
 refine Jr<|Jy rfl rfl fun _ _=>Ja rfl<|Jn<|Jq<|Jr<|Ja rfl<|Jn<|J0 ?_
 rename_i b1 tw
 refine aW (ι:=Nat) (fun k=>k≤r.sr.length∧∀ j (hj:j<(cF r).length),j<k→(cF r)[j]≠o) (fun k=>[(5,.int .i64 (k:Nat)),(2,.pointer (some ⟨b1,0,none⟩)),(1,.string o)]) (fun _=>[JQ b1 r (.slice a r.sr.length cp) d t p]) (fun k=>r.sr.length-k) ?_ ?_
 ·apply aI (0:Nat) ⟨Zi _,fun j _ hj=>absurd hj (ZP _)⟩
  case hs1=>exact cg
  case ht=>(try simp only [Ze,Zf,Za]);exact .cons .here .nil
 rintro k ⟨hk,hf⟩
 have qh:(cF r).length=r.sr.length:=by unfold cF;rw [Zd]
 by_cases aM:k<r.sr.length
 ·have cG:=ha (iM aM)
  have aB:=(hc k _ (fN aM)).2
  have hx:(cF r)[k]'(by omega)=(r.sr[k]).nm:=by unfold cF;rw [Z1]
  have c0:w.cell? ⟨b,o'+k*2,none⟩=some (.string (r.sr[k]).nm):=aB 0 _ rfl
  generalize (r.sr[k]).nm=x at hx c0
  (refine Jq<|Jr<|Jv rfl<|bS rfl rfl ae<|JL rfl .here rfl<|JI rfl<|JA rfl<|Jn<|Jd rfl fun az=>Jk<|Jq<|J0<|Jr<|bS rfl rfl ae<|JL rfl .here rfl<|Jv rfl<|ab (fM cG az) rfl<|bS rfl rfl ae<|ab (ag (.of rfl) (At.base c0 rfl)) rfl<|Jv rfl<|ab (dG (.of rfl) (.of rfl)) rfl<|Jn<|gm rfl (fun az=>?_) fun az=>?_;refine Jr<|Jv rfl<|Ja rfl<|Jn<|Je<|Jm<|Jh<|Jh<|Jm<|Jh<|JT ?_;rotate_left;refine Jw<|Jj<|Jt<|Jg<|Jv rfl<|JB rfl (by omega)<|Ja rfl<|Jn ?_;rotate_right)
  ·have tr:x=o:=az
   rw [qt (i:=k) (by omega) (hx.trans tr) (fun j hj=>hf j (by omega) hj)]
  ·have tr:¬ x=o:=az
   apply aK (k+1) ⟨(show k+1≤r.sr.length from aM),fun j hj LA=>by
    by_cases e:j=k
    ·subst e;rw [hx];exact tr
    ·exact hf j hj (by omega)⟩ (show r.sr.length-(k+1)<r.sr.length-k by omega)
   case hs1=>exact cg
   case ht=>(try simp only [Ze,Zf,Za]);exact .cons .here .nil
 ·obtain rfl:k=r.sr.length:=by omega
  rw [Ah fun j hj=>hf j hj (by omega)]
  (refine Jq<|Jr<|Jv rfl<|bS rfl rfl ae<|JL rfl .here rfl<|JI rfl<|JA rfl<|Jn<|Jc rfl fun az=>Jp<|Jl<|Jo<|Jt<|Jr<|Ja rfl<|Jn<|Je<|JT ?_)
  rfl
theorem ux {r:Ro} {s d t p:Value} (o:ByteArray) {w:World} (h:RR w r s d t p):aj Tryz.prog 56 [RA r s d t p,.string o] w (.int .i64 (bE (cq r) o)):=by
 have h1:=Rd.one h.sr
 have h2:=Rd.one h.de
 have h3:=Rd.one h.ti
 have h4:=Rd.one h.po
 have hs:=h.de
 obtain ⟨a,cp,b,o',rfl,dj,bV,ha,hc⟩:=hs
 rw [cn] at *
 unfold maxLen at bV
 unfold RA
 refine ah Tryz.func56 rfl rfl ?_
 refine Jr<|Jy rfl rfl fun _ _=>Ja rfl<|Jn<|Jq<|Jr<|Ja rfl<|Jn<|J0 ?_
 rename_i b1 tw
 refine aW (ι:=Nat) (fun k=>k≤r.de.length∧∀ j (hj:j<(cq r).length),j<k→(cq r)[j]≠o) (fun k=>[(5,.int .i64 (k:Nat)),(2,.pointer (some ⟨b1,0,none⟩)),(1,.string o)]) (fun _=>[JQ b1 r s (.slice a r.de.length cp) t p]) (fun k=>r.de.length-k) ?_ ?_
 ·apply aI (0:Nat) ⟨Zi _,fun j _ hj=>absurd hj (ZP _)⟩
  case hs1=>exact cg
  case ht=>(try simp only [Ze,Zf,Za]);exact .cons .here .nil
 rintro k ⟨hk,hf⟩
 have qh:(cq r).length=r.de.length:=by unfold cq;rw [Zd]
 by_cases aM:k<r.de.length
 ·have cG:=ha (fW aM)
  have aB:=(hc k _ (eR aM)).2
  have hx:(cq r)[k]'(by omega)=(r.de[k]).nm:=by unfold cq;rw [Z1]
  have c0:w.cell? ⟨b,o'+k*3,none⟩=some (.string (r.de[k]).nm):=aB 0 _ rfl
  generalize (r.de[k]).nm=x at hx c0
  (refine Jq<|Jr<|Jv rfl<|bS rfl rfl ae<|JL rfl .here rfl<|JI rfl<|JA rfl<|Jn<|Jd rfl fun az=>Jk<|Jq<|J0<|Jr<|bS rfl rfl ae<|JL rfl .here rfl<|Jv rfl<|ab (fM cG az) rfl<|bS rfl rfl ae<|ab (ag (.of rfl) (At.base c0 rfl)) rfl<|Jv rfl<|ab (dG (.of rfl) (.of rfl)) rfl<|Jn<|gm rfl (fun az=>?_) fun az=>?_;refine Jr<|Jv rfl<|Ja rfl<|Jn<|Je<|Jm<|Jh<|Jh<|Jm<|Jh<|JT ?_;rotate_left;refine Jw<|Jj<|Jt<|Jg<|Jv rfl<|JB rfl (by omega)<|Ja rfl<|Jn ?_;rotate_right)
  ·have tr:x=o:=az
   rw [qt (i:=k) (by omega) (hx.trans tr) (fun j hj=>hf j (by omega) hj)]
  ·have tr:¬ x=o:=az
   apply aK (k+1) ⟨(show k+1≤r.de.length from aM),fun j hj LA=>by
    by_cases e:j=k
    ·subst e;rw [hx];exact tr
    ·exact hf j hj (by omega)⟩ (show r.de.length-(k+1)<r.de.length-k by omega)
   case hs1=>exact cg
   case ht=>(try simp only [Ze,Zf,Za]);exact .cons .here .nil
 ·obtain rfl:k=r.de.length:=by omega
  rw [Ah fun j hj=>hf j hj (by omega)]
  (refine Jq<|Jr<|Jv rfl<|bS rfl rfl ae<|JL rfl .here rfl<|JI rfl<|JA rfl<|Jn<|Jc rfl fun az=>Jp<|Jl<|Jo<|Jt<|Jr<|Ja rfl<|Jn<|Je<|JT ?_)
  rfl
theorem uw {r:Ro} {s d t p:Value} (o:ByteArray) {w:World} (h:RR w r s d t p):aj Tryz.prog 60 [RA r s d t p,.string o] w (.int .i64 (bE (cM r) o)):=by
 have h1:=Rd.one h.sr
 have h2:=Rd.one h.de
 have h3:=Rd.one h.ti
 have h4:=Rd.one h.po
 have hs:=h.ti
 obtain ⟨a,cp,b,o',rfl,dj,bV,ha,hc⟩:=hs
 rw [cd] at *
 unfold maxLen at bV
 unfold RA
 refine ah Tryz.func60 rfl rfl ?_
 refine Jr<|Jy rfl rfl fun _ _=>Ja rfl<|Jn<|Jq<|Jr<|Ja rfl<|Jn<|J0 ?_
 rename_i b1 tw
 refine aW (ι:=Nat) (fun k=>k≤r.ti.length∧∀ j (hj:j<(cM r).length),j<k→(cM r)[j]≠o) (fun k=>[(5,.int .i64 (k:Nat)),(2,.pointer (some ⟨b1,0,none⟩)),(1,.string o)]) (fun _=>[JQ b1 r s d (.slice a r.ti.length cp) p]) (fun k=>r.ti.length-k) ?_ ?_
 ·apply aI (0:Nat) ⟨Zi _,fun j _ hj=>absurd hj (ZP _)⟩
  case hs1=>exact cg
  case ht=>(try simp only [Ze,Zf,Za]);exact .cons .here .nil
 rintro k ⟨hk,hf⟩
 have qh:(cM r).length=r.ti.length:=by unfold cM;rw [Zd]
 by_cases aM:k<r.ti.length
 ·have cG:=ha (fw aM)
  have aB:=(hc k _ (eE aM)).2
  have hx:(cM r)[k]'(by omega)=(r.ti[k]).nm:=by unfold cM;rw [Z1]
  have c0:w.cell? ⟨b,o'+k*3,none⟩=some (.string (r.ti[k]).nm):=aB 0 _ rfl
  generalize (r.ti[k]).nm=x at hx c0
  (refine Jq<|Jr<|Jv rfl<|bS rfl rfl ae<|JL rfl .here rfl<|JI rfl<|JA rfl<|Jn<|Jd rfl fun az=>Jk<|Jq<|J0<|Jr<|bS rfl rfl ae<|JL rfl .here rfl<|Jv rfl<|ab (fM cG az) rfl<|bS rfl rfl ae<|ab (ag (.of rfl) (At.base c0 rfl)) rfl<|Jv rfl<|ab (dG (.of rfl) (.of rfl)) rfl<|Jn<|gm rfl (fun az=>?_) fun az=>?_;refine Jr<|Jv rfl<|Ja rfl<|Jn<|Je<|Jm<|Jh<|Jh<|Jm<|Jh<|JT ?_;rotate_left;refine Jw<|Jj<|Jt<|Jg<|Jv rfl<|JB rfl (by omega)<|Ja rfl<|Jn ?_;rotate_right)
  ·have tr:x=o:=az
   rw [qt (i:=k) (by omega) (hx.trans tr) (fun j hj=>hf j (by omega) hj)]
  ·have tr:¬ x=o:=az
   apply aK (k+1) ⟨(show k+1≤r.ti.length from aM),fun j hj LA=>by
    by_cases e:j=k
    ·subst e;rw [hx];exact tr
    ·exact hf j hj (by omega)⟩ (show r.ti.length-(k+1)<r.ti.length-k by omega)
   case hs1=>exact cg
   case ht=>(try simp only [Ze,Zf,Za]);exact .cons .here .nil
 ·obtain rfl:k=r.ti.length:=by omega
  rw [Ah fun j hj=>hf j hj (by omega)]
  (refine Jq<|Jr<|Jv rfl<|bS rfl rfl ae<|JL rfl .here rfl<|JI rfl<|JA rfl<|Jn<|Jc rfl fun az=>Jp<|Jl<|Jo<|Jt<|Jr<|Ja rfl<|Jn<|Je<|JT ?_)
  rfl
theorem E8 {r:Ro} {s d t p:Value} (v:Int) (o:ByteArray) {w:World} (h:RR w r s d t p):aj Tryz.prog 133 [RA r s d t p,.int .i64 v,.string o] w (.string ((ek r.po v o).getD ⟨#[]⟩)):=by
 have h1:=Rd.one h.sr
 have h2:=Rd.one h.de
 have h3:=Rd.one h.ti
 have h4:=Rd.one h.po
 have hs:=h.po
 obtain ⟨a,cp,b,o',rfl,dj,bV,ha,hc⟩:=hs
 rw [c6] at *
 unfold maxLen at bV
 unfold RA
 refine ah Tryz.func133 rfl rfl ?_
 refine Jr<|Jy rfl rfl fun _ _=>Ja rfl<|Jn<|Jq<|Jr<|Ja rfl<|Jn<|J0 ?_
 rename_i b1 tw
 refine aW (ι:=Nat) (fun k=>k≤r.po.length∧ek r.po v o=((r.po.drop k).find? (Ej v o)).map Po.ip) (fun k=>[(7,.int .i64 (k:Nat)),(3,.pointer (some ⟨b1,0,none⟩)),(1,.int .i64 v),(2,.string o)]) (fun _=>[JQ b1 r s d t (.slice a r.po.length cp)]) (fun k=>r.po.length-k) ?_ ?_
 ·apply aI (0:Nat) ⟨Zi _,rfl⟩
  case hs1=>exact cg
  case ht=>(try simp only [Ze,Zf,Za]);exact .cons .here .nil
 rintro k ⟨hk,hf⟩
 by_cases aM:k<r.po.length
 ·have cG:=ha (ko aM)
  have aB:=(hc k _ (iy aM)).2
  rw [Zw aM] at hf
  have c0:w.cell? ⟨b,o'+k*3,none⟩=some (.int .i64 (r.po[k]).lv):=aB 0 _ rfl
  have c1:w.cell? ⟨b,o'+k*3+1,none⟩=some (.string (r.po[k]).ou):=aB 1 _ rfl
  have c2:w.cell? ⟨b,o'+k*3+2,none⟩=some (.string (r.po[k]).ip):=aB 2 _ rfl
  generalize r.po[k]=x at hf c0 c1 c2
  (refine Jq<|Jr<|Jv rfl<|bS rfl rfl ae<|JL rfl .here rfl<|JI rfl<|JA rfl<|Jn<|Jd rfl fun az=>Jk<|Jq<|J0<|Jr<|bS rfl rfl ae<|JL rfl .here rfl<|Jv rfl<|ab (fM cG az) rfl<|bS rfl rfl ae<|ab (ag (.of rfl) (At.base c0 rfl)) rfl<|Jv rfl<|JC rfl<|Jv rfl<|aD rfl rfl inferInstance (fun hg bA=>(au (.of rfl) ae)) rfl<|aD rfl rfl inferInstance (fun hg bA=>(ag (.bI hg rfl) (At.lit .here rfl))) rfl<|il rfl rfl rfl rfl<|aD rfl rfl inferInstance (fun hg bA=>(ar (.bI hg rfl) (.bI hg rfl) cG (by omega) az bb)) rfl<|aD rfl rfl inferInstance (fun hg bA=>(au (.bI hg rfl) ae)) rfl<|aD rfl rfl inferInstance (fun hg bA=>(ag (.bI hg rfl) (At.base c1 rfl))) rfl<|il rfl rfl rfl rfl<|aD rfl rfl inferInstance (fun hg bA=>(dG (.bI hg rfl) (.bI hg rfl))) rfl<|ab (cD (.of rfl) rfl) rfl<|Jn<|pt rfl (fun az=>?_) fun az=>?_;refine Jr<|bS rfl rfl ae<|JL rfl .here rfl<|Jv rfl<|ab (ar (.of rfl) (.of rfl) cG (by omega) (by assumption) bb) rfl<|bS rfl rfl ae<|ab (ag (.of rfl) (At.base c2 rfl)) rfl<|Ja rfl<|Jn<|Je<|Jm<|Jh<|Jh<|Jm<|Jh<|JT ?_;rotate_left;refine Jw<|Jj<|Jt<|Jg<|Jv rfl<|JB rfl (by omega)<|Ja rfl<|Jn ?_;rotate_right)
  ·rw [hf,List.find?_cons_of_pos (by unfold Ej;simp only [Zm,decide_eq_true_eq];exact az)];rfl
  ·apply aK (k+1) ⟨(show k+1≤r.po.length from aM),by rw [hf,List.find?_cons_of_neg (by unfold Ej;simp only [Zm,decide_eq_true_eq];exact fun q=>az.elim (fun z=>z q.1) (fun z=>z q.2))]⟩ (show r.po.length-(k+1)<r.po.length-k by omega)
   case hs1=>exact cg
   case ht=>(try simp only [Ze,Zf,Za]);exact .cons .here .nil
 ·obtain rfl:k=r.po.length:=by omega
  rw [Z5] at hf
  rw [hf]
  (refine Jq<|Jr<|Jv rfl<|bS rfl rfl ae<|JL rfl .here rfl<|JI rfl<|JA rfl<|Jn<|Jc rfl fun az=>Jp<|Jl<|Jo<|Jt<|Jr<|Ja rfl<|Jn<|Je<|JT ?_)
  rfl
theorem PQ {r:Ro} {s d t p:Value} (v:Int) (o:ByteArray) {w:World} (h:RR w r s d t p):aj Tryz.prog 233 [RA r s d t p,.int .i64 v,.string o] w (.bool (nH r.po v o)):=by
 have h1:=Rd.one h.sr
 have h2:=Rd.one h.de
 have h3:=Rd.one h.ti
 have h4:=Rd.one h.po
 have hs:=h.po
 obtain ⟨a,cp,b,o',rfl,dj,bV,ha,hc⟩:=hs
 rw [c6] at *
 unfold maxLen at bV
 unfold RA
 refine ah Tryz.func233 rfl rfl ?_
 refine Jr<|Jy rfl rfl fun _ _=>Ja rfl<|Jn<|Jq<|Jr<|Ja rfl<|Jn<|J0 ?_
 rename_i b1 tw
 refine aW (ι:=Nat) (fun k=>k≤r.po.length∧nH r.po v o=(r.po.drop k).any (zX v o)) (fun k=>[(7,.int .i64 (k:Nat)),(3,.pointer (some ⟨b1,0,none⟩)),(1,.int .i64 v),(2,.string o)]) (fun _=>[JQ b1 r s d t (.slice a r.po.length cp)]) (fun k=>r.po.length-k) ?_ ?_
 ·apply aI (0:Nat) ⟨Zi _,rfl⟩
  case hs1=>exact cg
  case ht=>(try simp only [Ze,Zf,Za]);exact .cons .here .nil
 rintro k ⟨hk,hf⟩
 by_cases aM:k<r.po.length
 ·have cG:=ha (ko aM)
  have aB:=(hc k _ (iy aM)).2
  rw [Zw aM] at hf
  have c0:w.cell? ⟨b,o'+k*3,none⟩=some (.int .i64 (r.po[k]).lv):=aB 0 _ rfl
  have c1:w.cell? ⟨b,o'+k*3+1,none⟩=some (.string (r.po[k]).ou):=aB 1 _ rfl
  have c2:w.cell? ⟨b,o'+k*3+2,none⟩=some (.string (r.po[k]).ip):=aB 2 _ rfl
  generalize r.po[k]=x at hf c0 c1 c2
  (refine Jq<|Jr<|Jv rfl<|bS rfl rfl ae<|JL rfl .here rfl<|JI rfl<|JA rfl<|Jn<|Jd rfl fun az=>Jk<|Jq<|J0<|Jr<|bS rfl rfl ae<|JL rfl .here rfl<|Jv rfl<|ab (fM cG az) rfl<|bS rfl rfl ae<|ab (ag (.of rfl) (At.base c0 rfl)) rfl<|Jv rfl<|JC rfl<|Jv rfl<|aD rfl rfl inferInstance (fun hg bA=>(au (.of rfl) ae)) rfl<|aD rfl rfl inferInstance (fun hg bA=>(ag (.bI hg rfl) (At.lit .here rfl))) rfl<|il rfl rfl rfl rfl<|aD rfl rfl inferInstance (fun hg bA=>(ar (.bI hg rfl) (.bI hg rfl) cG (by omega) az bb)) rfl<|aD rfl rfl inferInstance (fun hg bA=>(au (.bI hg rfl) ae)) rfl<|aD rfl rfl inferInstance (fun hg bA=>(ag (.bI hg rfl) (At.base c2 rfl))) rfl<|il rfl rfl rfl rfl<|aD rfl rfl inferInstance (fun hg bA=>(dG (.bI hg rfl) (.bI hg rfl))) rfl<|ab (cD (.of rfl) rfl) rfl<|Jn<|pt rfl (fun az=>?_) fun az=>?_;refine Jr<|Ja rfl<|Jn<|Je<|Jm<|Jh<|Jh<|Jm<|Jh<|JT ?_;rotate_left;refine Jw<|Jj<|Jt<|Jg<|Jv rfl<|JB rfl (by omega)<|Ja rfl<|Jn ?_;rotate_right)
  ·rw [hf,List.any_cons,show zX v o x=true by unfold zX;simp only [Zm,decide_eq_true_eq];exact az];rfl
  ·apply aK (k+1) ⟨(show k+1≤r.po.length from aM),by rw [hf,List.any_cons,show zX v o x=false by unfold zX;rw [← Zau];simp only [Zm,decide_eq_true_eq];exact fun q=>az.elim (fun z=>z q.1) (fun z=>z q.2),Bool.false_or]⟩ (show r.po.length-(k+1)<r.po.length-k by omega)
   case hs1=>exact cg
   case ht=>(try simp only [Ze,Zf,Za]);exact .cons .here .nil
 ·obtain rfl:k=r.po.length:=by omega
  rw [Z5] at hf
  rw [hf]
  (refine Jq<|Jr<|Jv rfl<|bS rfl rfl ae<|JL rfl .here rfl<|JI rfl<|JA rfl<|Jn<|Jc rfl fun az=>Jp<|Jl<|Jo<|Jt<|Jr<|Ja rfl<|Jn<|Je<|JT ?_)
  rfl
theorem rG {l:List ByteArray} {s:ByteArray} (h:0≤bE l s):∃ k:Nat,bE l s=k∧k<l.length:=⟨(bE l s).toNat,by omega,(fq h).1⟩
theorem Qq {r:Ro} {s:ByteArray} {k:Nat} (e:bE (cq r) s=k) (hk:k<r.de.length):kC r s=(r.de[k]).mx:=by
 unfold kC
 rw [if_pos (by omega),e,ZI,Zk,Zc hk];rfl
theorem Qo {r:Ro} {s:ByteArray} {k:Nat} (h:¬ 0≤bE (cq r) s) (e:bE (cM r) s=k) (hk:k<r.ti.length):kC r s=(r.ti[k]).fr:=by
 unfold kC
 rw [if_neg h,if_pos (by omega),e,ZI,Zk,Zc hk];rfl
theorem Qp {r:Ro} {s:ByteArray} (h:¬ 0≤bE (cq r) s) (h2:¬ 0≤bE (cM r) s):kC r s = -1:=by
 unfold kC;rw [if_neg h,if_neg h2]
theorem QC {r:Ro} {s:ByteArray} {k:Nat} (e:bE (cF r) s=k) (hk:k<r.sr.length):j7 r s=(r.sr[k]).mx:=by
 unfold j7
 rw [if_pos (by omega),e,ZI,Zk,Zc hk];rfl
theorem QB {r:Ro} {s:ByteArray} {k:Nat} (h:¬ 0≤bE (cF r) s) (e:bE (cM r) s=k) (hk:k<r.ti.length):j7 r s=(r.ti[k]).to:=by
 unfold j7
 rw [if_neg h,if_pos (by omega),e,ZI,Zk,Zc hk];rfl
theorem QD {r:Ro} {s:ByteArray} (h:¬ 0≤bE (cF r) s) (h2:¬ 0≤bE (cM r) s):j7 r s = -1:=by
 unfold j7;rw [if_neg h,if_neg h2]
theorem Ih {r:Ro} {s d t p:Value} (o:ByteArray) {w:World} (h:RR w r s d t p):aj Tryz.prog 232 [RA r s d t p,.string o] w (.int .i64 (kC r o)):=by
 have h1:=Rd.one h.sr
 have h2:=Rd.one h.de
 have h3:=Rd.one h.ti
 have h4:=Rd.one h.po
 have hA:∀ w',aJ [] w w'→aj Tryz.prog 56 [.agg #[.int .i64 r.lv,.int .i64 r.ma,s,d,t,p],.string o] w' (.int .i64 (bE (cq r) o)):=fun w' hk=>ux o (h.keeps hk)
 have hB:∀ w',aJ [] w w'→aj Tryz.prog 60 [.agg #[.int .i64 r.lv,.int .i64 r.ma,s,d,t,p],.string o] w' (.int .i64 (bE (cM r) o)):=fun w' hk=>uw o (h.keeps hk)
 have n1:(cq r).length=r.de.length:=by unfold cq;rw [Zd]
 have n2:(cM r).length=r.ti.length:=by unfold cM;rw [Zd]
 have hs:=h.de
 obtain ⟨a,cp,b,o',rfl,dj,bV,ha,hc⟩:=hs
 rw [cn] at *
 have ht:=h.ti
 obtain ⟨a2,nR,b2,o2,rfl,kE,fk,jD,jS⟩:=ht
 rw [cd] at *
 unfold maxLen at bV fk
 by_cases g1:0≤bE (cq r) o
 ·obtain ⟨k,e,hk⟩:=rG g1
  rw [n1] at hk
  rw [Qq e hk]
  rw [e] at hA
  have cG:=ha (fW hk)
  have aB:=(hc k _ (eR hk)).2
  have c0:w.cell? ⟨b,o'+k*3+1,none⟩=some (.int .i64 (r.de[k]).mx):=aB 1 _ rfl
  unfold RA
  refine ah Tryz.func232 rfl rfl ?_
  (refine Jr<|Jy rfl rfl fun _ _=>Ja rfl<|Jn<|Jq<|Jr<|ab (cR .here) rfl<|Jv rfl<|ai bj rfl (fun w' aA=>(hA w' (Mem.keeps aA)))<|Ja rfl<|Ji<|Jv rfl<|JG rfl<|Jn<|Jd rfl fun az=>Jr<|bS rfl rfl ae<|JL rfl .here rfl<|Jv rfl<|ab (ar (.of rfl) (.of rfl) cG az (by omega) bb) rfl<|bS rfl rfl ae<|ab (ag (.of rfl) (At.base c0 rfl)) rfl<|Ja rfl<|Jn<|Ju<|JT ?_)
  rfl
 by_cases g2:0≤bE (cM r) o
 ·obtain ⟨k,e,hk⟩:=rG g2
  rw [n2] at hk
  rw [Qo g1 e hk]
  rw [e] at hB
  have cG:=jD (fw hk)
  have aB:=(jS k _ (eE hk)).2
  have c0:w.cell? ⟨b2,o2+k*3+1,none⟩=some (.int .i64 (r.ti[k]).fr):=aB 1 _ rfl
  unfold RA
  refine ah Tryz.func232 rfl rfl ?_
  (refine Jr<|Jy rfl rfl fun _ _=>Ja rfl<|Jn<|Jq<|Jr<|ab (cR .here) rfl<|Jv rfl<|ai bj rfl (fun w' aA=>(hA w' (Mem.keeps aA)))<|Ja rfl<|Ji<|Jv rfl<|JG rfl<|Jn<|Jc rfl fun az=>Jk<|Jq<|Jr<|ab (cR .here) rfl<|Jv rfl<|ai bj rfl (fun w' aA=>(hB w' (Mem.keeps aA)))<|Ja rfl<|Ji<|Jv rfl<|JG rfl<|Jn<|Jd rfl fun az=>Jr<|bS rfl rfl ae<|JL rfl .here rfl<|Jv rfl<|ab (ar (.of rfl) (.of rfl) cG az (by omega) bb) rfl<|bS rfl rfl ae<|ab (ag (.of rfl) (At.base c0 rfl)) rfl<|Ja rfl<|Jn<|Ju<|JT ?_)
  rfl
 rw [Qp g1 g2]
 unfold RA
 refine ah Tryz.func232 rfl rfl ?_
 (refine Jr<|Jy rfl rfl fun _ _=>Ja rfl<|Jn<|Jq<|Jr<|ab (cR .here) rfl<|Jv rfl<|ai bj rfl (fun w' aA=>(hA w' (Mem.keeps aA)))<|Ja rfl<|Ji<|Jv rfl<|JG rfl<|Jn<|Jc rfl fun az=>Jk<|Jq<|Jr<|ab (cR .here) rfl<|Jv rfl<|ai bj rfl (fun w' aA=>(hB w' (Mem.keeps aA)))<|Ja rfl<|Ji<|Jv rfl<|JG rfl<|Jn<|Jc rfl fun az=>Jk<|Jr<|Ja rfl<|Jn<|Je<|JT ?_)
 rfl
theorem Nf {r:Ro} {s d t p:Value} (o:ByteArray) {w:World} (h:RR w r s d t p):aj Tryz.prog 231 [RA r s d t p,.string o] w (.int .i64 (j7 r o)):=by
 have h1:=Rd.one h.sr
 have h2:=Rd.one h.de
 have h3:=Rd.one h.ti
 have h4:=Rd.one h.po
 have hA:∀ w',aJ [] w w'→aj Tryz.prog 130 [.agg #[.int .i64 r.lv,.int .i64 r.ma,s,d,t,p],.string o] w' (.int .i64 (bE (cF r) o)):=fun w' hk=>Fw o (h.keeps hk)
 have hB:∀ w',aJ [] w w'→aj Tryz.prog 60 [.agg #[.int .i64 r.lv,.int .i64 r.ma,s,d,t,p],.string o] w' (.int .i64 (bE (cM r) o)):=fun w' hk=>uw o (h.keeps hk)
 have n1:(cF r).length=r.sr.length:=by unfold cF;rw [Zd]
 have n2:(cM r).length=r.ti.length:=by unfold cM;rw [Zd]
 have hs:=h.sr
 obtain ⟨a,cp,b,o',rfl,dj,bV,ha,hc⟩:=hs
 rw [cO] at *
 have ht:=h.ti
 obtain ⟨a2,nR,b2,o2,rfl,kE,fk,jD,jS⟩:=ht
 rw [cd] at *
 unfold maxLen at bV fk
 by_cases g1:0≤bE (cF r) o
 ·obtain ⟨k,e,hk⟩:=rG g1
  rw [n1] at hk
  rw [QC e hk]
  rw [e] at hA
  have cG:=ha (iM hk)
  have aB:=(hc k _ (fN hk)).2
  have c0:w.cell? ⟨b,o'+k*2+1,none⟩=some (.int .i64 (r.sr[k]).mx):=aB 1 _ rfl
  unfold RA
  refine ah Tryz.func231 rfl rfl ?_
  (refine Jr<|Jy rfl rfl fun _ _=>Ja rfl<|Jn<|Jq<|Jr<|ab (cR .here) rfl<|Jv rfl<|ai bj rfl (fun w' aA=>(hA w' (Mem.keeps aA)))<|Ja rfl<|Ji<|Jv rfl<|JG rfl<|Jn<|Jd rfl fun az=>Jr<|bS rfl rfl ae<|JL rfl .here rfl<|Jv rfl<|ab (ar (.of rfl) (.of rfl) cG az (by omega) bb) rfl<|bS rfl rfl ae<|ab (ag (.of rfl) (At.base c0 rfl)) rfl<|Ja rfl<|Jn<|Ju<|JT ?_)
  rfl
 by_cases g2:0≤bE (cM r) o
 ·obtain ⟨k,e,hk⟩:=rG g2
  rw [n2] at hk
  rw [QB g1 e hk]
  rw [e] at hB
  have cG:=jD (fw hk)
  have aB:=(jS k _ (eE hk)).2
  have c0:w.cell? ⟨b2,o2+k*3+2,none⟩=some (.int .i64 (r.ti[k]).to):=aB 2 _ rfl
  unfold RA
  refine ah Tryz.func231 rfl rfl ?_
  (refine Jr<|Jy rfl rfl fun _ _=>Ja rfl<|Jn<|Jq<|Jr<|ab (cR .here) rfl<|Jv rfl<|ai bj rfl (fun w' aA=>(hA w' (Mem.keeps aA)))<|Ja rfl<|Ji<|Jv rfl<|JG rfl<|Jn<|Jc rfl fun az=>Jk<|Jq<|Jr<|ab (cR .here) rfl<|Jv rfl<|ai bj rfl (fun w' aA=>(hB w' (Mem.keeps aA)))<|Ja rfl<|Ji<|Jv rfl<|JG rfl<|Jn<|Jd rfl fun az=>Jr<|bS rfl rfl ae<|JL rfl .here rfl<|Jv rfl<|ab (ar (.of rfl) (.of rfl) cG az (by omega) bb) rfl<|bS rfl rfl ae<|ab (ag (.of rfl) (At.base c0 rfl)) rfl<|Ja rfl<|Jn<|Ju<|JT ?_)
  rfl
 rw [QD g1 g2]
 unfold RA
 refine ah Tryz.func231 rfl rfl ?_
 (refine Jr<|Jy rfl rfl fun _ _=>Ja rfl<|Jn<|Jq<|Jr<|ab (cR .here) rfl<|Jv rfl<|ai bj rfl (fun w' aA=>(hA w' (Mem.keeps aA)))<|Ja rfl<|Ji<|Jv rfl<|JG rfl<|Jn<|Jc rfl fun az=>Jk<|Jq<|Jr<|ab (cR .here) rfl<|Jv rfl<|ai bj rfl (fun w' aA=>(hB w' (Mem.keeps aA)))<|Ja rfl<|Ji<|Jv rfl<|JG rfl<|Jn<|Jc rfl fun az=>Jk<|Jr<|Ja rfl<|Jn<|Je<|JT ?_)
 rfl
theorem MR {r:Ro} {s d t p:Value} (o:ByteArray) {w:World} (h:RR w r s d t p) (hf:mn r):aj Tryz.prog 230 [RA r s d t p,.string o] w (.int .i64 (dX r o)):=by
 have h1:=Rd.one h.sr
 have h2:=Rd.one h.de
 have h3:=Rd.one h.ti
 have h4:=Rd.one h.po
 have hA:∀ w',aJ [] w w'→aj Tryz.prog 56 [.agg #[.int .i64 r.lv,.int .i64 r.ma,s,d,t,p],.string o] w' (.int .i64 (bE (cq r) o)):=fun w' hk=>ux o (h.keeps hk)
 have hB:∀ w',aJ [] w w'→aj Tryz.prog 60 [.agg #[.int .i64 r.lv,.int .i64 r.ma,s,d,t,p],.string o] w' (.int .i64 (bE (cM r) o)):=fun w' hk=>uw o (h.keeps hk)
 have n2:(cM r).length=r.ti.length:=by unfold cM;rw [Zd]
 have hs:=h.de
 obtain ⟨a,cp,b,o',rfl,dj,bV,ha,hc⟩:=hs
 rw [cn] at *
 obtain ⟨f1,f2,f3,f4⟩:=hf
 have hq:0≤bE (cM r) o→bE (cM r) o≤1000000:=fun g=>by
  obtain ⟨k,e,hk⟩:=rG g
  omega
 unfold RA
 refine ah Tryz.func230 rfl rfl ?_
 unfold dX
 generalize bE (cq r) o=x at hA ⊢
 generalize bE (cM r) o=y at hB hq ⊢
 (refine Jr<|Jy rfl rfl fun _ _=>Ja rfl<|Jn<|Jq<|Jr<|ab (cR .here) rfl<|Jv rfl<|ai bj rfl (fun w' aA=>(hA w' (Mem.keeps aA)))<|Ja rfl<|Ji<|Jv rfl<|JG rfl<|Jn<|gm rfl (fun az=>?_) fun az=>?_;refine Jr<|Jv rfl<|Ja rfl<|Jn<|Ju<|JT ?_;rotate_left;refine Jk<|Jq<|Jr<|ab (cR .here) rfl<|Jv rfl<|ai bj rfl (fun w' aA=>(hB w' (Mem.keeps aA)))<|Ja rfl<|Ji<|Jv rfl<|JG rfl<|Jn<|gm rfl (fun az=>?_) fun az=>?_;refine Jr<|bS rfl rfl ae<|JL rfl .here rfl<|JI rfl<|Jv rfl<|JB rfl (by omega)<|Ja rfl<|Jn<|Ju<|JT ?_;rotate_left;refine Jk<|Jr<|Ja rfl<|Jn<|Je<|JT ?_;rotate_right;rotate_right)
 all_goals first | (rw [if_pos az];done) | (rw [if_neg ‹¬ 0≤x›,if_pos az];done) | (rw [if_neg ‹¬ 0≤x›,if_neg az];done)
theorem Ee {r:Ro} {s d t p:Value} (o:ByteArray) {w:World} (h:RR w r s d t p):aj Tryz.prog 26 [RA r s d t p,.string o] w (.int .i64 (ph r o)):=by
 have h1:=Rd.one h.sr
 have h2:=Rd.one h.de
 have h3:=Rd.one h.ti
 have h4:=Rd.one h.po
 have w9:∀ w',aJ [] w w'→aj Tryz.prog 56 [.agg #[.int .i64 r.lv,.int .i64 r.ma,s,d,t,p],.string o] w' (.int .i64 (bE (cq r) o)):=fun w' hk=>ux o (h.keeps hk)
 unfold RA
 refine ah Tryz.func26 rfl rfl ?_
 (refine Jr<|Jy rfl rfl fun _ _=>Ja rfl<|Ji<|ab (cR .here) rfl<|Jv rfl<|ai bj rfl (fun w' aA=>(w9 w' (Mem.keeps aA)))<|JA rfl<|ai bj rfl (fun w' aA=>(k6 _ 10 w'))<|Ja rfl<|Jn<|Je<|JT ?_)
 rfl
theorem FF (po:List Po) (v:Int):∀ (n:Nat) (o:ByteArray),(tC po v n o).length≤n
 | 0,_=>Zz _
 | n + 1, o => by
  rw [tC]
  split
  ·exact Zi _
  ·rw [ZL];exact Nat.succ_le_succ (FF po v n _)
theorem N9 {r:Ro} {s d t p:Value} (v:Int) (o:ByteArray) (n:Nat) (hn:n≤1000) {w:World} (h:RR w r s d t p):bu Tryz.prog 132 [RA r s d t p,.int .i64 v,.string o,.int .i64 (n:Nat)] w [] (fun _:Value=>True) id (fun x=>[row 9 1 x (tC r.po v n o).length (aL (tC r.po v n o))]):=by
 have h1:=Rd.one h.sr
 have h2:=Rd.one h.de
 have h3:=Rd.one h.ti
 have h4:=Rd.one h.po
 have oG:∀ (o':ByteArray) w',aJ [] w w'→aj Tryz.prog 133 [.agg #[.int .i64 r.lv,.int .i64 r.ma,s,d,t,p],.int .i64 v,.string o'] w' (.string ((ek r.po v o').getD ⟨#[]⟩)):=fun o' w' hk=>E8 v o' (h.keeps hk)
 unfold RA
 refine aS Tryz.func132 rfl rfl ?_
 refine Jr<|Jy rfl rfl fun _ _=>Ja rfl<|Ji<|Ja rfl<|Jn<|Jq<|Jr<|Ja rfl<|Jn<|J0 ?_
 rename_i b4 wA
 refine aQ 9 1 ?_
 refine aW (ι:=Nat×ByteArray×Value×List ByteArray) (fun y=>y.1≤n∧y.2.2.2.length=y.1∧tC r.po v n o=y.2.2.2++tC r.po v (n-y.1) y.2.1) (fun y=>[(10,.int .i64 (y.1:Nat)),(9,y.2.2.1),(2,.string y.2.1),(1,.int .i64 v),(3,.int .i64 (n:Nat)),(4,.pointer (some ⟨b4,0,none⟩))]) (fun y=>[row 9 1 y.2.2.1 y.1 (aL y.2.2.2),JQ b4 r s d t p]) (fun y=>n-y.1) ?_ ?_
 ·apply aI (0,o,.slice none 0 0,[]) ⟨Zi _,rfl,rfl⟩
  case hs1=>exact cg
  case ht=>
   exact .cons .here (.cons .here .nil)
 rintro ⟨k,o',v',L⟩ ⟨hk,hL,hc⟩
 dsimp only at hk hL hc ⊢
 have hlen:(aL L).length=k*1:=by rw [c7,hL];omega
 by_cases aM:k<n∧o'≠⟨#[]⟩
 ·obtain ⟨g1,g2⟩:=aM
  have jS:tC r.po v n o=(L++[o'])++tC r.po v (n-(k+1)) ((ek r.po v o').getD ⟨#[]⟩):=by
   rw [hc,show n-k=(n-(k+1))+1 by omega,tC,if_neg g2,Zh];rfl
  (refine Jq<|Jr<|Jv rfl<|Jv rfl<|JA rfl<|Jv rfl<|il rfl rfl rfl rfl<|aD rfl rfl inferInstance (fun hg bA=>(eZ (.bI hg rfl) (.of rfl))) rfl<|ab (cD (.of rfl) rfl) rfl<|Jn<|pt rfl (fun az=>?_) fun az=>?_;refine Jk<|Jq<|J0<|Jr<|Jv rfl<|Jv rfl<|br (aC (.cons (.of rfl) .nil) rfl rfl rfl rfl) rfl fun _ _=>?_;rotate_left;refine Jp<|Jl<|Jo<|Jt<|Jr<|Jv rfl<|Ja rfl<|Jn<|Je ?_;rotate_right)
  refine bF (.of rfl) (.of rfl) (.there .here) .here ak (by rfl) (en rfl) (by rfl) (by rfl) (by rfl) eC (by rfl) ?_
  intro x
  (refine Ja rfl<|Jn<|Jg<|ab (cR bL) rfl<|Jv rfl<|Jv rfl<|ai eM rfl (fun w' aA=>(oG o' w' (Mem.keeps aA)))<|Ja rfl<|Jx<|Jj<|Jt<|Jg<|Jv rfl<|JB rfl (by omega)<|Ja rfl<|Jn ?_)
  apply aK (k+1,(ek r.po v o').getD ⟨#[]⟩,x,L++[o']) ⟨by show k+1≤n;omega,by show (L++[o']).length=k+1;rw [Zg,hL];rfl,jS⟩ (by show n-(k+1)<n-k;omega)
  case hs1=>exact cg
  case ht=>
   show bD _ [row 9 1 x (k+1) (aL (L++[o'])),JQ b4 r s d t p] _
   rw [show aL (L++[o'])=aL L++[.string o'] from eU _ _]
   exact .cons .here (.cons (.there .here) .nil)
  exact az.elim (fun z=>absurd (show ((k:Nat):Int)<(n:Nat) by omega) z) (fun z=>absurd g2 z)
 ·have he:tC r.po v n o=L:=by
   rw [hc]
   by_cases g:k<n
   ·have:o'=⟨#[]⟩:=Classical.byContradiction fun q=>aM ⟨g,q⟩
    rw [this,Pr,ZU]
   ·rw [show n-k=0 by omega,tC,ZU]
  have JR:¬ ((k:Nat):Int)<(n:Nat)∨¬ o'≠⟨#[]⟩:=by
   by_cases g:k<n
   ·exact .inr fun q=>aM ⟨g,q⟩
   ·exact .inl (by omega)
  rw [he,hL]
  (refine Jq<|Jr<|Jv rfl<|Jv rfl<|JA rfl<|Jv rfl<|il rfl rfl rfl rfl<|aD rfl rfl inferInstance (fun hg bA=>(eZ (.bI hg rfl) (.of rfl))) rfl<|ab (cD (.of rfl) rfl) rfl<|Jn<|pt rfl (fun az=>?_) fun az=>?_;refine Jk<|Jq<|J0<|Jr<|Jv rfl<|Jv rfl<|br (aC (.cons (.of rfl) .nil) rfl rfl rfl rfl) rfl fun _ _=>?_;rotate_left;refine Jp<|Jl<|Jo<|Jt<|Jr<|Jv rfl<|Ja rfl<|Jn<|Je ?_;rotate_right)
  ·exact absurd az (by intro q;rcases JR with z | z;exact z q.1;exact z q.2)
  first | with_reducible apply aO | with_reducible apply aP
  case he=>exact dH rfl rfl
  case hR=>
   intro w' aA
   exact aG v' trivial (by exact .cons .here .nil) aA rfl




theorem Kg {lv:Value} {l:List ByteArray} (o:ByteArray) {w:World} (h:Rd w lv 1 (im l)):aj Tryz.prog 59 [lv,.string o] w (.bool (jg l o)):=by
 obtain ⟨a,cp,b,o',rfl,dj,bV,ha,hc⟩:=h
 rw [bW] at *
 unfold maxLen at bV
 refine ah Tryz.func59 rfl rfl ?_
 refine Jr<|Ja rfl<|Jn<|Jq<|Jr<|Ja rfl<|Jn<|J0 ?_
 refine aW (ι:=Nat) (fun k=>k≤l.length∧∀ j (hj:j<l.length),j<k→l[j]≠o) (fun k=>[(5,.int .i64 (k:Nat)),(0,.slice a l.length cp),(1,.string o)]) (fun _=>[]) (fun k=>l.length-k) ?_ ?_
 ·apply aI (0:Nat) ⟨Zi _,fun j _ hj=>absurd hj (ZP _)⟩
  case hs1=>exact cg
  case ht=>(try simp only [Ze,Zf,Za]);exact .nil
 rintro k ⟨hk,hf⟩
 by_cases aM:k<l.length
 ·have cG:=ha (lf aM)
  have c0:w.cell? ⟨b,o'+k*1,none⟩=some (.string l[k]):=(hc k _ (ji aM)).2 0 _ rfl
  have hm:=Zj aM
  have wy:l[k]≠o→∀ j (hj:j<l.length),j<k+1→l[j]≠o:=fun q j hj LA=>by
   by_cases e:j=k
   ·subst e;exact q
   ·exact hf j hj (by omega)
  generalize l[k]=x at c0 hm wy
  (refine Jq<|Jr<|Jv rfl<|Jv rfl<|JI rfl<|JA rfl<|Jn<|Jd rfl fun az=>Jk<|Jq<|J0<|Jr<|Jv rfl<|Jv rfl<|ab (fM cG az) rfl<|ab (ag (.of rfl) (At.base c0 rfl)) rfl<|Jv rfl<|ab (dG (.of rfl) (.of rfl)) rfl<|Jn<|gm rfl (fun az=>?_) fun az=>?_;refine Jr<|Ja rfl<|Jn<|Je<|Jm<|Jh<|Jh<|Jm<|Jh<|JT ?_;rotate_left;refine Jw<|Jj<|Jt<|Jg<|Jv rfl<|JB rfl (by omega)<|Ja rfl<|Jn ?_;rotate_right)
  ·have tr:x=o:=az
   rw [eV.2 (tr ▸ hm)]
  ·have tr:¬ x=o:=az
   apply aK (k+1) ⟨(show k+1≤l.length from aM),wy tr⟩ (show l.length-(k+1)<l.length-k by omega)
   case hs1=>exact cg
   case ht=>(try simp only [Ze,Zf,Za]);exact .nil
 ·have e:jg l o=false:=by
   rw [← Zau,eV]
   intro q
   obtain ⟨j,hj,e⟩:=Zu q
   exact hf j hj (by omega) e
  obtain rfl:k=l.length:=by omega
  rw [e]
  refine Jq<|Jr<|Jv rfl<|Jv rfl<|JI rfl<|JA rfl<|Jn<|Jc rfl fun az=>Jp<|Jl<|Jo<|Jt<|Jr<|Ja rfl<|Jn<|Je<|JT ?_
  rfl
theorem EZ {r:Ro} {s d t p:Value} {w:World} (h:RR w r s d t p) (hf:mn r):bu Tryz.prog 77 [RA r s d t p] w [] (fun _:Value=>True) id (fun x=>[row 9 1 x (ef r).length (aL (ef r))]):=by
 have h1:=Rd.one h.sr
 have h2:=Rd.one h.de
 have h3:=Rd.one h.ti
 have h4:=Rd.one h.po
 have Gv:=h.sr
 have GD:=h.de
 have B0:=h.ti
 obtain ⟨a1,er,Pt,OG,rfl,pM,jf,lW,kF⟩:=Gv
 obtain ⟨a2,dA,Ps,OF,rfl,kE,fk,jD,jS⟩:=GD
 obtain ⟨a3,ee,KU,Ik,rfl,nD,gG,tM,ql⟩:=B0
 rw [cO] at *
 rw [cn] at *
 rw [cd] at *
 unfold maxLen at jf fk gG
 obtain ⟨f1,f2,f3,f4⟩:=hf
 unfold RA
 refine aS Tryz.func77 rfl rfl ?_
 refine Jr<|Jy rfl rfl fun _ _=>Ja rfl<|Ji<|Ja rfl<|Jn<|Jq<|Jr<|Ja rfl<|Jn<|J0 ?_
 rename_i b1 tw
 refine aQ 9 1 ?_
 refine aW (ι:=Nat×Value×List ByteArray) (fun y=>y.1≤r.sr.length∧y.2.2=([]:List ByteArray)++(cF r).take y.1) (fun y=>[(4,.int .i64 (y.1:Nat)),(3,y.2.1),(1,.pointer (some ⟨b1,0,none⟩))]) (fun y=>[row 9 1 y.2.1 y.2.2.length (aL y.2.2),JQ b1 r (.slice a1 r.sr.length er) (.slice a2 r.de.length dA) (.slice a3 r.ti.length ee) p]) (fun y=>r.sr.length-y.1) ?_ ?_
 ·apply aI (0,.slice none 0 0,[]) ⟨Zi _,rfl⟩
  case hs1=>exact cg
  case ht=>
   exact .cons .here (.cons .here .nil)
 rintro ⟨k,v1,L1⟩ ⟨hk,SM⟩
 dsimp only at hk SM ⊢
 have YQ:(cF r).length=r.sr.length:=by unfold cF;rw [Zd]
 by_cases aM:k<r.sr.length
 ·have GI:L1.length=(([]:List ByteArray)).length+k:=by rw [SM,Zg,Zr];omega
  have hLb:L1.length≤3000000:=by rw [GI];simp only [Zai];omega
  have hlen:(aL L1).length=L1.length*1:=by rw [c7];omega
  have cG:=lW (iM aM)
  have c0:w.cell? ⟨Pt,OG+k*2,none⟩=some (.string (r.sr[k]).nm):=(kF k _ (fN aM)).2 0 _ rfl
  have hx:(cF r)[k]'(by omega)=(r.sr[k]).nm:=by unfold cF;rw [Z1]
  have ur:L1++[(r.sr[k]).nm]=([]:List ByteArray)++(cF r).take (k+1):=by rw [Zn (by omega),hx,← Zh,← SM]
  generalize (r.sr[k]).nm=x at c0 hx ur
  (refine Jq<|Jr<|Jv rfl<|bS rfl rfl ae<|JL rfl (.there .here) rfl<|JI rfl<|JA rfl<|Jn<|Jd rfl fun az=>Jk<|Jq<|J0<|Jg<|Jv rfl<|bS rfl rfl ae<|JL rfl (.there .here) rfl<|Jv rfl<|ab (fM cG az) rfl<|bS rfl rfl ae<|ab (ag (.of rfl) (At.base c0 rfl)) rfl<|br (aC (.cons (.of rfl) .nil) rfl rfl rfl rfl) rfl fun _ _=>?_)
  refine bF (.of rfl) (.of rfl) (.there .here) .here ak (by rfl) (en rfl) (by rfl) (by rfl) (by rfl) eC (by rfl) ?_
  intro z
  refine Ja rfl<|Jx<|Jj<|Jt<|Jg<|Jv rfl<|JB rfl (by omega)<|Ja rfl<|Jn ?_
  apply aK (k+1,z,L1++[x]) ⟨by show k+1≤r.sr.length;omega,ur⟩ (by show r.sr.length-(k+1)<r.sr.length-k;omega)
  case hs1=>exact cg
  case ht=>
   show bD _ [row 9 1 z (L1++[x]).length (aL (L1++[x])),JQ b1 r (.slice a1 r.sr.length er) (.slice a2 r.de.length dA) (.slice a3 r.ti.length ee) p] _
   rw [show aL (L1++[x])=aL L1++[.string x] from eU _ _,Zg,ZaE]
   exact .cons .here (.cons (.there .here) .nil)
 obtain rfl:k=r.sr.length:=by omega
 rw [Zal (by omega)] at SM
 clear hk aM
 (refine Jq<|Jr<|Jv rfl<|bS rfl rfl ae<|JL rfl (.there .here) rfl<|JI rfl<|JA rfl<|Jn<|Jc rfl fun az=>Jp<|Jl<|Jo<|Jt<|Jq<|Jr<|Ja rfl<|Jn<|J0 ?_)
 rw [Za] at SM
 refine aW (ι:=Nat×Value×List ByteArray) (fun y=>y.1≤r.de.length∧y.2.2=cF r++(cq r).take y.1) (fun y=>[(5,.int .i64 (y.1:Nat)),(3,y.2.1),(1,.pointer (some ⟨b1,0,none⟩))]) (fun y=>[row 9 1 y.2.1 y.2.2.length (aL y.2.2),JQ b1 r (.slice a1 r.sr.length er) (.slice a2 r.de.length dA) (.slice a3 r.ti.length ee) p]) (fun y=>r.de.length-y.1) ?_ ?_
 ·apply aI (0,v1,L1) ⟨Zi _,by rw [Ze,ZU];exact SM⟩
  case hs1=>exact cg
  case ht=>
   exact .cons .here (.cons .here .nil)
 rintro ⟨k,v2,L2⟩ ⟨hk,ur⟩
 dsimp only at hk ur ⊢
 have nn2:(cq r).length=r.de.length:=by unfold cq;rw [Zd]
 by_cases aM:k<r.de.length
 ·have GI:L2.length=(cF r).length+k:=by rw [ur,Zg,Zr];omega
  have hLb:L2.length≤3000000:=by rw [GI];rw [YQ];omega
  have hlen:(aL L2).length=L2.length*1:=by rw [c7];omega
  have cG:=jD (fW aM)
  have c0:w.cell? ⟨Ps,OF+k*3,none⟩=some (.string (r.de[k]).nm):=(jS k _ (eR aM)).2 0 _ rfl
  have hx:(cq r)[k]'(by omega)=(r.de[k]).nm:=by unfold cq;rw [Z1]
  have ur:L2++[(r.de[k]).nm]=cF r++(cq r).take (k+1):=by rw [Zn (by omega),hx,← Zh,← ur]
  generalize (r.de[k]).nm=x at c0 hx ur
  (refine Jq<|Jr<|Jv rfl<|bS rfl rfl ae<|JL rfl (.there .here) rfl<|JI rfl<|JA rfl<|Jn<|Jd rfl fun az=>Jk<|Jq<|J0<|Jg<|Jv rfl<|bS rfl rfl ae<|JL rfl (.there .here) rfl<|Jv rfl<|ab (fM cG az) rfl<|bS rfl rfl ae<|ab (ag (.of rfl) (At.base c0 rfl)) rfl<|br (aC (.cons (.of rfl) .nil) rfl rfl rfl rfl) rfl fun _ _=>?_)
  refine bF (.of rfl) (.of rfl) (.there .here) .here ak (by rfl) (en rfl) (by rfl) (by rfl) (by rfl) eC (by rfl) ?_
  intro z
  refine Ja rfl<|Jx<|Jj<|Jt<|Jg<|Jv rfl<|JB rfl (by omega)<|Ja rfl<|Jn ?_
  apply aK (k+1,z,L2++[x]) ⟨by show k+1≤r.de.length;omega,ur⟩ (by show r.de.length-(k+1)<r.de.length-k;omega)
  case hs1=>exact cg
  case ht=>
   show bD _ [row 9 1 z (L2++[x]).length (aL (L2++[x])),JQ b1 r (.slice a1 r.sr.length er) (.slice a2 r.de.length dA) (.slice a3 r.ti.length ee) p] _
   rw [show aL (L2++[x])=aL L2++[.string x] from eU _ _,Zg,ZaE]
   exact .cons .here (.cons (.there .here) .nil)
 obtain rfl:k=r.de.length:=by omega
 rw [Zal (by omega)] at ur
 clear hk aM
 (refine Jq<|Jr<|Jv rfl<|bS rfl rfl ae<|JL rfl (.there .here) rfl<|JI rfl<|JA rfl<|Jn<|Jc rfl fun az=>Jp<|Jl<|Jo<|Jt<|Jq<|Jr<|Ja rfl<|Jn<|J0 ?_)
 refine aW (ι:=Nat×Value×List ByteArray) (fun y=>y.1≤r.ti.length∧y.2.2=(cF r++cq r)++(cM r).take y.1) (fun y=>[(6,.int .i64 (y.1:Nat)),(3,y.2.1),(1,.pointer (some ⟨b1,0,none⟩))]) (fun y=>[row 9 1 y.2.1 y.2.2.length (aL y.2.2),JQ b1 r (.slice a1 r.sr.length er) (.slice a2 r.de.length dA) (.slice a3 r.ti.length ee) p]) (fun y=>r.ti.length-y.1) ?_ ?_
 ·apply aI (0,v2,L2) ⟨Zi _,by rw [Ze,ZU];exact ur⟩
  case hs1=>exact cg
  case ht=>
   exact .cons .here (.cons .here .nil)
 rintro ⟨k,v3,L3⟩ ⟨hk,O8⟩
 dsimp only at hk O8 ⊢
 have nn3:(cM r).length=r.ti.length:=by unfold cM;rw [Zd]
 by_cases aM:k<r.ti.length
 ·have GI:L3.length=((cF r++cq r)).length+k:=by rw [O8,Zg,Zr];omega
  have hLb:L3.length≤3000000:=by rw [GI];rw [Zg,YQ,nn2];omega
  have hlen:(aL L3).length=L3.length*1:=by rw [c7];omega
  have cG:=tM (fw aM)
  have c0:w.cell? ⟨KU,Ik+k*3,none⟩=some (.string (r.ti[k]).nm):=(ql k _ (eE aM)).2 0 _ rfl
  have hx:(cM r)[k]'(by omega)=(r.ti[k]).nm:=by unfold cM;rw [Z1]
  have ur:L3++[(r.ti[k]).nm]=(cF r++cq r)++(cM r).take (k+1):=by rw [Zn (by omega),hx,← Zh,← O8]
  generalize (r.ti[k]).nm=x at c0 hx ur
  (refine Jq<|Jr<|Jv rfl<|bS rfl rfl ae<|JL rfl (.there .here) rfl<|JI rfl<|JA rfl<|Jn<|Jd rfl fun az=>Jk<|Jq<|J0<|Jg<|Jv rfl<|bS rfl rfl ae<|JL rfl (.there .here) rfl<|Jv rfl<|ab (fM cG az) rfl<|bS rfl rfl ae<|ab (ag (.of rfl) (At.base c0 rfl)) rfl<|br (aC (.cons (.of rfl) .nil) rfl rfl rfl rfl) rfl fun _ _=>?_)
  refine bF (.of rfl) (.of rfl) (.there .here) .here ak (by rfl) (en rfl) (by rfl) (by rfl) (by rfl) eC (by rfl) ?_
  intro z
  refine Ja rfl<|Jx<|Jj<|Jt<|Jg<|Jv rfl<|JB rfl (by omega)<|Ja rfl<|Jn ?_
  apply aK (k+1,z,L3++[x]) ⟨by show k+1≤r.ti.length;omega,ur⟩ (by show r.ti.length-(k+1)<r.ti.length-k;omega)
  case hs1=>exact cg
  case ht=>
   show bD _ [row 9 1 z (L3++[x]).length (aL (L3++[x])),JQ b1 r (.slice a1 r.sr.length er) (.slice a2 r.de.length dA) (.slice a3 r.ti.length ee) p] _
   rw [show aL (L3++[x])=aL L3++[.string x] from eU _ _,Zg,ZaE]
   exact .cons .here (.cons (.there .here) .nil)
 obtain rfl:k=r.ti.length:=by omega
 rw [Zal (by omega)] at O8
 clear hk aM
 (refine Jq<|Jr<|Jv rfl<|bS rfl rfl ae<|JL rfl (.there .here) rfl<|JI rfl<|JA rfl<|Jn<|Jc rfl fun az=>Jp<|Jl<|Jo<|Jt<|Jr<|Jv rfl<|Ja rfl<|Jn<|Je ?_)
 have e:ef r=L3:=O8.symm
 rw [e]
 first | with_reducible apply aO | with_reducible apply aP
 case he=>exact dH rfl rfl
 case hR=>
  intro w' aA
  exact aG v3 trivial (by exact .cons .here .nil) aA rfl
def YF (r:Ro):Int:=if nj r≠0 then nj r else if jQ r≠0 then jQ r else zC r
theorem R5 (r:Ro):YF r=fX r:=by
 unfold YF fX
 by_cases h1:nj r=0
 ·rw [if_neg (not_not_intro h1),if_neg (not_not_intro h1)]
  by_cases h2:jQ r=0
  ·rw [if_neg (not_not_intro h2),if_neg (not_not_intro h2),MG (prt h2)]
  ·rw [if_pos h2,if_pos h2]
 ·rw [if_pos h1,if_pos h1]
def zB (r:Ro) (k:Nat):Int:=((ef r)[k]?.map fun x=>aX [ch (!j6 x) 8,ch (jg ((ef r).take k) x) 9]).getD 0
theorem MF {r:Ro} {k:Nat} (h:k<(ef r).length):zB r k=aX [ch (!j6 (ef r)[k]) 8,ch (jg ((ef r).take k) (ef r)[k]) 9]:=by
 unfold zB;rw [Zc h];rfl
theorem sE (a b:Int) (l:List Int):aX (aX [a,b]::l)=aX (a::b::l):=by
 by_cases ha:a=0
 ·subst ha
  have e:aX [0,b]=b:=by
   unfold aX;rw [if_neg (by decide)]
   unfold aX
   split
   ·rfl
   ·rename_i q;rw [Zo] at q;rw [q];rfl
  rw [e]
  conv=>rhs;unfold aX
  rw [if_neg (by decide)]
 ·have e:aX [a,b]=a:=by unfold aX;rw [if_pos ha]
  rw [e]
  unfold aX
  rw [if_pos ha,if_pos ha]
theorem D6 (a b:Int) (l:List Int):aX [a,b,aX l]=aX (a::b::l):=by
 have h1:∀ x:Int,∀ m,aX (x::m)=if x≠0 then x else aX m:=fun x m=>by rw [aX]
 have h2:∀ x:Int,aX [x]=x:=fun x=>by
  rw [h1]
  split
  ·rfl
  ·rename_i q;rw [Zo] at q;rw [q];rfl
 rw [h1,h1 b,h2,h1 a,h1 b]
theorem K7 (r:Ro):(ef r).length=r.sr.length+r.de.length+r.ti.length:=by
 unfold ef cF cq cM
 simp only [Zg,Zd]
theorem K6 {r:Ro} {k:Nat} (h:k<r.sr.length):(ef r)[k]? = some (r.sr[k]).nm∧(ef r).take k=[]++(r.sr.take k).map Sr.nm:=by
 have e1:(cF r).length=r.sr.length:=by unfold cF;rw [Zd]
 unfold ef
 rw [Zh]
 refine ⟨?_,?_⟩
 ·rw [ZD (by omega)]
  unfold cF
  rw [ZF,Zc h];rfl
 ·rw [Zae (by omega)]
  unfold cF
  rw [ZaV];rfl
theorem K8 {r:Ro} {k:Nat} (h:k<r.de.length):(ef r)[r.sr.length+k]? = some (r.de[k]).nm∧(ef r).take (r.sr.length+k)=cF r++(r.de.take k).map De.nm:=by
 have e1:(cF r).length=r.sr.length:=by unfold cF;rw [Zd]
 have e2:(cq r).length=r.de.length:=by unfold cq;rw [Zd]
 unfold ef
 rw [Zh]
 refine ⟨?_,?_⟩
 ·rw [ZK (by omega),ZD (by omega),show r.sr.length+k-(cF r).length=k by omega]
  unfold cq
  rw [ZF,Zc h];rfl
 ·rw [← e1,List.take_length_add_append,Zae (by omega)]
  unfold cq
  rw [ZaV]
theorem K5 {r:Ro} {k:Nat} (h:k<r.ti.length):(ef r)[r.sr.length+r.de.length+k]? = some (r.ti[k]).nm∧(ef r).take (r.sr.length+r.de.length+k)=(cF r++cq r)++(r.ti.take k).map Ti.nm:=by
 have e1:(cF r++cq r).length=r.sr.length+r.de.length:=by unfold cF cq;rw [Zg,Zd,Zd]
 have e2:(cM r).length=r.ti.length:=by unfold cM;rw [Zd]
 unfold ef
 refine ⟨?_,?_⟩
 ·rw [ZK (by omega),e1,show r.sr.length+r.de.length+k-(r.sr.length+r.de.length)=k by omega]
  unfold cM
  rw [ZF,Zc h];rfl
 ·rw [← e1,List.take_length_add_append]
  unfold cM
  rw [ZaV]
theorem Dv {r:Ro} {j:Nat} {x:ByteArray} {l:List ByteArray} (h:(ef r)[j]? = some x) (h2:(ef r).take j=l):zB r j=aX [ch (!j6 x) 8,ch (jg l x) 9]:=by
 unfold zB;rw [h,h2];rfl
theorem Tj {r:Ro} {k:Nat} (h:k<r.sr.length):aX [zB r k,fg r (r.sr[k]).mx]=wQ [] Sr.nm (fun x=>fg r x.mx) r.sr k:=by
 rw [oo h,Dv (K6 h).1 (K6 h).2,sE]
theorem Tl {r:Ro} {k:Nat} (h:k<r.de.length):aX [zB r (r.sr.length+k),fg r (r.de[k]).mx]=wQ (cF r) De.nm (fun x=>fg r x.mx) r.de k:=by
 rw [oo h,Dv (K8 h).1 (K8 h).2,sE]
theorem Th {r:Ro} {k:Nat} (h:k<r.ti.length):aX [zB r (r.sr.length+r.de.length+k),fg r (r.ti[k]).fr,fg r (r.ti[k]).to,ch (decide ((r.ti[k]).fr=(r.ti[k]).to)) 24]=wQ (cF r++cq r) Ti.nm (nI r) r.ti k:=by
 rw [oo h,Dv (K5 h).1 (K5 h).2,sE]
 unfold nI
 rw [D6]
theorem Dw {r:Ro} (h1:fb 8 [] Sr.nm (fun x=>fg r x.mx) r.sr=0) (h2:fb 8 (cF r) De.nm (fun x=>fg r x.mx) r.de=0):jQ r=fb 6 (cF r++cq r) Ti.nm (nI r) r.ti:=by
 rw [Vs h1 h2]
 unfold aX
 split
 ·rfl
 ·rename_i q;rw [Zo] at q;rw [q];rfl
end Go.Proofs.A1
