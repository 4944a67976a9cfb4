/- Parts of the proof: LP POpen LQ LR LS LT LU LV LW LX LY P6c P6e. -/
import Derived.Test.YteonnodafmegaaaGreatDoorNM12
import Derived.Test.YteonnodafmegaaaGreatDoorNM04
import Derived.Test.YteonnodafmegaaaGreatDoorTie
import Derived.Test.YteonnodafmegaaaGreatDoorCards
import Derived.Lib.SmallJoins
import Derived.Lib.LaidTab
import Derived.Deep.Slices
import Derived.Deep.Fields
import Derived.ChangeSame
import Derived.ChangeBook
import Derived.ChangeStays
import Derived.WalkKit
import Derived.ProofKit
import Derived.OpenShut
import Derived.Below
import Derived.LaidMore
import Derived.Lay
import Derived.SevenTiedAt
import Derived.Stop.Joined
import Derived.ChangeMaps5
import Derived.Test.YteonnodafmegaaaGreatDoorNM10
set_option linter.unusedSectionVars false
set_option linter.unusedVariables false
set_option linter.unusedSimpArgs false
namespace Go.Proofs.A1
open Go Go.SL
theorem dR {c:Cx} {D:List Nat} {sl:aG} {hs rest:List a8} {X:Act→World→Prop} (hs2:List a8) (ht:bz hs hs2 rest) (k:Tr c D sl hs2 X):Tr c D sl hs X:=fun a w bb=>k a w (bb.heap (by
 have h1:=bb.mem.iT (ht.append (mw D))
 obtain ⟨kk,fp,hn,ir,hb⟩:=h1
 obtain ⟨f1,f23,rfl,g1,g23⟩:=ch.append_iff.1 ir
 obtain ⟨f2,f3,rfl,g2,g3⟩:=ch.append_iff.1 g23
 obtain ⟨n1,n23,n12⟩:=ZF.1 hn
 obtain ⟨n2,n3,n4⟩:=ZF.1 n23
 exact ⟨kk,f1++f3,ZF.2 ⟨n1,n3,fun x hx y hy=>n12 x hx y (ZS _ hy)⟩,ch.append_iff.2 ⟨f1,f3,rfl,g1,g3⟩,fun b dA=>hb b (by
  rcases Zx.1 dA with h | h
  ·exact ZE _ h
  ·exact ZS _ (ZS _ h))⟩))
theorem rA:lz lX:=⟨by decide,by decide,by decide⟩
theorem Fq:lz fZ:=⟨by decide,by decide,by decide⟩
theorem Fp:lz gO:=⟨by decide,by decide,by decide⟩
theorem Vt:lz Dk:=⟨by decide,by decide,by decide⟩
theorem zZ:me fZ:=⟨by decide,by decide,by decide,by decide⟩
theorem zY:me gO:=⟨by decide,by decide,by decide,by decide⟩
theorem Y6:me vW:=⟨by decide,by decide,by decide,by decide⟩
theorem Vp:me Dk:=⟨by decide,by decide,by decide,by decide⟩
theorem Le {r:Ro} {s d t p:Value} {w:World} {e:Int} {Y:List ByteArray} (v:Int) (so de:ByteArray) (h:RR w r s d t p) (hf:lz r) (e1:FH r v so de=e) (e2:CU r v so de=Y):bh Tryz.prog 70 [.agg #[.int .i64 (r).lv,.int .i64 (r).ma,s,d,t,p],.int .i64 v,.string so,.string de] w [] (fun _:Value=>True) (fun x=>.tuple #[x,.int .i64 e]) (fun x=>[row 9 1 x Y.length (aM Y)]):=by
 subst e1 e2;exact VW v so de h hf
theorem SB {r:Ro} {s d t p:Value} {w:World} {e:Int} {Y:List Int} (v:Int) (so de:ByteArray) (h:RR w r s d t p) (hf:lz r) (e1:KT r v so de=e) (e2:GU r v so de=Y):bh Tryz.prog 36 [.agg #[.int .i64 (r).lv,.int .i64 (r).ma,s,d,t,p],.int .i64 v,.string so,.string de] w [] (fun _:Value=>True) (fun x=>.tuple #[x,.int .i64 e]) (fun x=>[row 3 1 x Y.length (Y.map (Value.int .i64))]):=by
 subst e1 e2;exact V4 v so de h hf
theorem PJ {r q:Ro} {k:Tk} {s d t p v:Value} {w:World} (e:jl r [k]=(q,0,0)) (h:RR w r s d t p) (hf:lz r) (hv:Rd w v 1 (iI k.so)):bh Tryz.prog 48 [.agg #[.int .i64 (r).lv,.int .i64 (r).ma,s,d,t,p],.agg #[.string k.de,v]] w [] (fun _:Value×Value×Value×Value=>True) (fun y=>.tuple #[.agg #[.int .i64 (q).lv,.int .i64 (q).ma,y.1,y.2.1,y.2.2.1,y.2.2.2],.int .i64 0]) (fun y=>pC q y):=by
 have:=OD (x:=⟨k,v⟩) h hf hv
 rw [show (eL.mk k v).tk=k from rfl,e] at this
 exact this
theorem PL {r q:Ro} {l:List eL} {i e_:Int} {s d t p v:Value} {w:World} (e:jl r (bZ l)=(q,i,e_)) (h:RR w r s d t p) (hf:lz r) (hv:Rd w v 2 (gN l)) (hM:sx w l):bh Tryz.prog 45 [.agg #[.int .i64 (r).lv,.int .i64 (r).ma,s,d,t,p],v] w [] (fun _:Value×Value×Value×Value=>True) (fun y=>.tuple #[.agg #[.int .i64 (q).lv,.int .i64 (q).ma,y.1,y.2.1,y.2.2.1,y.2.2.2],.int .i64 i,.int .i64 e_]) (fun y=>pC q y):=by
 have:=Aw h hf hv hM
 rw [e] at this
 exact this
theorem VQ {r:Ro} {l:List eL} {m:List Tk} {s d t p v:Value} {w:World} (e:(jl r (bZ l)).2.2=0) (e2:Mc r (bZ l)=m) (h:RR w r s d t p) (hf:lz r) (hv:Rd w v 2 (gN l)) (hM:sx w l):bh Tryz.prog 47 [.agg #[.int .i64 (r).lv,.int .i64 (r).ma,s,d,t,p],v] w [] (fun x:Value×List eL=>bZ x.2=m) (fun x=>.tuple #[x.1,.int .i64 0]) (fun x=>[row 78 2 x.1 x.2.length (gN x.2).flatten,CD x.2]):=by
 have:=Lp h hf hv hM
 rw [e,e2] at this
 exact this
theorem PN {r:Ro} {s d t p:Value} {w:World} {e:Int} {Y:List ByteArray} (o:ByteArray) (h:RR w r s d t p) (hf:lz r) (e1:BX r o=e) (e2:DN r o=Y):bh Tryz.prog 20 [.agg #[.int .i64 (r).lv,.int .i64 (r).ma,s,d,t,p],.string o] w [] (fun _:Value=>True) (fun x=>.tuple #[x,.int .i64 e]) (fun x=>[row 9 1 x Y.length (aM Y)]):=by
 subst e1 e2;exact SI o h hf
theorem VR {r:Ro} {s d t p:Value} {w:World} {e:Int} {Y:List ByteArray} (v:Int) (o:ByteArray) (h:RR w r s d t p) (hf:lz r) (e1:Hv r v o=e) (e2:FN r v o=Y):bh Tryz.prog 22 [.agg #[.int .i64 (r).lv,.int .i64 (r).ma,s,d,t,p],.int .i64 v,.string o] w [] (fun _:Value=>True) (fun x=>.tuple #[x,.int .i64 e]) (fun x=>[row 9 1 x Y.length (aM Y)]):=by
 subst e1 e2;exact OC v o h hf
theorem VU {r:Ro} {s d t p:Value} {w:World} {e:Int} {Y:List ByteArray} (v:Int) (h:RR w r s d t p) (hf:lz r) (e1:K7 r v=e) (e2:G2 r v=Y):bh Tryz.prog 23 [.agg #[.int .i64 (r).lv,.int .i64 (r).ma,s,d,t,p],.int .i64 v] w [] (fun _:Value=>True) (fun x=>.tuple #[x,.int .i64 e]) (fun x=>[row 9 1 x Y.length (aM Y)]):=by
 subst e1 e2;exact SK v h hf
theorem VP {r:Ro} {s d t p:Value} {w:World} {e:Int} {Y:List ByteArray} (v:Int) (o:ByteArray) (h:RR w r s d t p) (hf:lz r) (e1:Hp r v o=e) (e2:FJ r v o=Y):bh Tryz.prog 24 [.agg #[.int .i64 (r).lv,.int .i64 (r).ma,s,d,t,p],.int .i64 v,.string o] w [] (fun _:Value=>True) (fun x=>.tuple #[x,.int .i64 e]) (fun x=>[row 9 1 x Y.length (aM Y)]):=by
 subst e1 e2;exact OB v o h hf
theorem VT {r q:Ro} {s d t p:Value} {w:World} {b:Bool} (o:ByteArray) (h:RR w r s d t p) (hf:lz r) (e1:xO r o=0) (e2:xN r o b=q):bh Tryz.prog 78 [.agg #[.int .i64 (r).lv,.int .i64 (r).ma,s,d,t,p],.string o,.bool b] w [] (fun _:Value×Value×Value×Value=>True) (fun y=>.tuple #[.agg #[.int .i64 (q).lv,.int .i64 (q).ma,y.1,y.2.1,y.2.2.1,y.2.2.2],.int .i64 0]) (fun y=>pC q y):=by
 have:=Cy o b h hf
 rw [e1,e2] at this
 exact this
theorem Lg {r:Ro} {l:List gG} {m:List Od} {s d t p v:Value} {w:World} {Y:List ByteArray} (o:ByteArray) (f:Int) (em:cJ l=m) (h:RR w r s d t p) (hf:lz r) (e1:nB r m o f=0) (e2:pT r m o f=Y) (hv:Rd w v 2 (lf l)) (hM:wX w l):bh Tryz.prog 64 [.agg #[.int .i64 (r).lv,.int .i64 (r).ma,s,d,t,p],v,.string o,.int .i64 f] w [] (fun _:Value=>True) (fun x=>.tuple #[x,.int .i64 0]) (fun x=>[row 9 1 x Y.length (aM Y)]):=by
 have:=Lr o f h hf hv hM
 rw [em,e1,e2] at this
 exact this
theorem jB (w:World):bh Tryz.prog 105 [] w [] (fun _:Value×Value×Value×Value=>True) (fun x=>.agg #[.int .i64 (lX).lv,.int .i64 (lX).ma,x.1,x.2.1,x.2.2.1,x.2.2.2]) (fun x=>pC lX x):=Ob w
theorem kQ {r:Ro} {s d t p:Value} {w:World} (h:RR w r s d t p) (hf:me r):bh Tryz.prog 57 [.agg #[.int .i64 (r).lv,.int .i64 (r).ma,s,d,t,p]] w [] (fun _:Value×Value×Value×Value=>True) (fun x=>.agg #[.int .i64 (r).lv,.int .i64 (r).ma,x.1,x.2.1,x.2.2.1,x.2.2.2]) (fun x=>Lx r x):=C2 h hf
theorem jg {r:Ro} {s d t p:Value} {w:World} (h:RR w r s d t p) (hf:me r):bh Tryz.prog 21 [.agg #[.int .i64 (r).lv,.int .i64 (r).ma,s,d,t,p]] w [] (fun _:Value×Value×Value×Value=>True) (fun x=>.agg #[.int .i64 (r).lv,.int .i64 (r).ma,x.1,x.2.1,x.2.2.1,x.2.2.2]) (fun x=>pC r x):=TQ h hf
theorem PK (w:World):bh Tryz.prog 106 [] w [] (fun _:Option Addr×Nat=>True) (fun x=>.agg #[.string dI,.slice x.1 2 x.2]) (fun x=>[row 9 1 (.slice x.1 2 x.2) 2 (aM nJ.so)]):=Sd w
theorem VS (w:World):bh Tryz.prog 107 [] w [] (fun _:Option Addr×Nat=>True) (fun x=>.agg #[.string je,.slice x.1 2 x.2]) (fun x=>[row 9 1 (.slice x.1 2 x.2) 2 (aM SN.so)]):=Sc w
theorem Lf (w:World):bh Tryz.prog 108 [] w [] (fun _:Option Addr×Nat=>True) (fun x=>.agg #[.string dI,.slice x.1 2 x.2]) (fun x=>[row 9 1 (.slice x.1 2 x.2) 2 (aM nI.so)]):=Sb w
theorem gW {w:World} {x:eL} {l:List eL} (h:Rd w x.v 1 (iI x.tk.so)) (k:sx w l):sx w (x::l):=fun y hy=>by
 rcases ZR.1 hy with rfl | hy
 ·exact h
 ·exact k y hy
theorem jP (w:World):sx w []:=fun _ h=>absurd h Zq
theorem lL {v1 v2:Value} {l:List ByteArray} {w:World} (h1:Rd w v1 1 (iI l)) (h2:Rd w v2 1 (iI l)):aj Tryz.prog 58 [v1,v2] w (.bool true):=by
 have:=y8 h1 h2
 rwa [decide_eq_true rfl] at this
theorem MD {v1 v2:Value} {l:List Int} {w:World} (h1:Rd w v1 1 (ints l)) (h2:Rd w v2 1 (ints l)):aj Tryz.prog 109 [v1,v2] w (.bool true):=by
 have:=ME h1 h2
 rwa [decide_eq_true rfl] at this
theorem WQ {c:Cx} {hs hs':List a8} {w:World} {W:List eL} (hm:Mem c hs w) (ht:Take hs (CD W) hs'):sx w W:=fun x hx=>by
 obtain ⟨j,hj,rfl⟩:=Zs hx
 have:=hm.Dr (j:=j) (v:=W[j].v) (x:=aM W[j].tk.so) ht (by rw [ZD,Zc hj];rfl) (by rw [ZD,Zc hj];rfl)
 have e:(aM W[j].tk.so).map (fun u=>[u])=iI W[j].tk.so:=by unfold aM iI;rw [ZaF];rfl
 rwa [e] at this
theorem MC {v1 v2:Value} {l m:List eL} {w:World} (h1:Rd w v1 2 (gN l)) (YX:sx w l) (h2:Rd w v2 2 (gN m)) (YW:sx w m) (e:bZ l=bZ m):aj Tryz.prog 53 [v1,v2] w (.bool true):=by
 have:=Cw h1 YX h2 YW
 rwa [decide_eq_true e] at this
theorem Ii {r:Ro} {s d t p v:Value} {q:List Po} {w:World} (h:RR w r s d t p) (cI:me r) (hv:Rd w v 3 (sJ q)) (e:r.po=q):aj Tryz.prog 110 [.agg #[.int .i64 (r).lv,.int .i64 (r).ma,s,d,t,p],v] w (.bool true):=by
 have:=Ip h cI hv
 rwa [decide_eq_true e] at this
theorem dJ {P:Program} {c:Cx} {sl:aG} {hs:List a8} {dst:Option Tmp} {ty:TypeId} {pos:String} {af:Array Edge} {g:Option (Nat×Bool)} {x y z:Operand} {q:Bool} {v u V:Value} (hx:Is sl x (.bool q)) (hy:Is sl y v) (hz:Is sl z u) (e:(bif q then v else u)=V):cR P c sl hs ⟨dst,.pick x y z,ty,pos,af,g⟩ V:=e ▸ tN hx hy hz
theorem WX {c:Cx} {hs hs':List a8} {w:World} {g:Nat} {x:ByteArray} {E:TypeId} {fz:Nat×Nat} (hm:Mem c hs w) (ht:Take hs (bG g (.cells #[.string x] E fz)) hs'):Rd w (.slice (some ⟨g,0,none⟩) 1 1) 1 (iI [x]):=Mem.dh hm ht rfl rfl
theorem WW {c:Cx} {hs hs':List a8} {w:World} {g:Nat} {x y z:ByteArray} {E:TypeId} {fz:Nat×Nat} (hm:Mem c hs w) (ht:Take hs (bG g (.cells #[.string x,.string y,.string z] E fz)) hs'):Rd w (.slice (some ⟨g,0,none⟩) 3 3) 1 (iI [x,y,z]):=Mem.dh hm ht rfl rfl
theorem Ds {c:Cx} {hs hs':List a8} {w:World} {g:Nat} {x y:ByteArray} {E:TypeId} {fz:Nat×Nat} (hm:Mem c hs w) (ht:Take hs (bG g (.cells #[.string x,.string y] E fz)) hs'):Rd w (.slice (some ⟨g,0,none⟩) 2 2) 1 (iI [x,y]):=Mem.dh hm ht rfl rfl
theorem Dy {c:Cx} {hs hs':List a8} {w:World} {l:List gG} {E:TypeId} {v:Value} {n:Nat} (hm:Mem c hs w) (ht:Take hs (row E 2 v n (lf l).flatten) hs') (hn:l.length=n):Rd w v 2 (lf l):=hm.n9 ht rfl (fun r hr=>by obtain ⟨x,_,rfl⟩:=Zu.1 hr;rfl) (by rw [show (lf l).length=l.length from Zd _,hn])
theorem mu {w:World} {x:gG} {l:List gG} (h:Rd w x.v 2 (gN x.tk)) (h2:sx w x.tk) (k:wX w l):wX w (x::l):=fun y hy=>by
 rcases ZR.1 hy with rfl | hy
 ·exact ⟨h,h2⟩
 ·exact k y hy
theorem zw (w:World):wX w []:=fun _ h=>absurd h Zq
theorem SA {s d t p:Value} {w:World} (h:RR w lX s d t p):aj Tryz.prog 85 [.agg #[.int .i64 (lX).lv,.int .i64 (lX).ma,s,d,t,p]] w (.tuple #[.string (Ij lX),.int .i64 0]):=by
 have:=OE h rA
 rwa [VB] at this
theorem F8 {P:Program} {c:Cx} {sl:aG} {hs:List a8} {dst:Option Tmp} {ty:TypeId} {pos:String} {af:Array Edge} {g:Option (Nat×Bool)} {t u:TypeId} {x y:Operand} {a b:ByteArray} (hx:Is sl x (.string a)) (hy:Is sl y (.string b)) (e:a=b) :
  cR P c sl hs ⟨dst,.binOp .eql t x y u,ty,pos,af,g⟩ (.bool true):=by
 have:=dS (P:=P) (c:=c) (hs:=hs) (dst:=dst) (ty:=ty) (pos:=pos) (af:=af) (g:=g) (t:=t) (u:=u) hx hy
 rwa [decide_eq_true e] at this
set_option maxRecDepth 20000 in
set_option maxHeartbeats 4000000 in
theorem jV (w:World):aj Tryz.prog 17 [] w (.bool true):=by
 refine ah Tryz.func17 rfl rfl ?_
 refine Jr<|Ja rfl<|Ji ?_
 refine JN ka rfl (fun w1 aR=>jB w1) ?_
 rintro ⟨s1,d1,t1,p1⟩ _
 try dsimp only [id_eq,Zb,Za]
 refine dq (r:=lX) (s:=s1) (d:=d1) (t:=t1) (p:=p1) (bn _ _) fun m1a m1b m1c m1d=>?_
 skip
 refine JN vT rfl (fun w1 aR=>Le 0 cO dI ⟨cW aR (by exact .here) rfl,cX aR (by exact Take.there .here) rfl,cV aR bT rfl,cM aR c6 rfl⟩ rA Pr.1 Pr.2) ?_
 rintro x1 _
 try dsimp only [id_eq,Zb,Za]
 refine Jv rfl<|JJ rfl rfl<|JJ rfl rfl<|Ja rfl<|Ja rfl<|Ji ?_
 refine JN ka rfl (fun w1 aR=>jB w1) ?_
 rintro ⟨s2,d2,t2,p2⟩ _
 try dsimp only [id_eq,Zb,Za]
 refine dq (r:=lX) (s:=s2) (d:=d2) (t:=t2) (p:=p2) (bn _ _) fun m2a m2b m2c m2d=>?_
 skip
 refine JN ka rfl (fun w1 aR=>PK w1) ?_
 rintro ⟨ya,yc⟩ _
 try dsimp only [id_eq,Zb,Za]
 skip
 refine JN bd rfl (fun w1 aR=>PJ (k:=nJ) Vz ⟨cW aR (by exact Take.there .here) rfl,cX aR bT rfl,cV aR c6 rfl,cM aR dO rfl⟩ rA (dL aR (by exact .here) (by exact rfl))) ?_
 rintro ⟨s3,d3,t3,p3⟩ _
 try dsimp only [id_eq,Zb,Za]
 refine dq (r:=fZ) (s:=s3) (d:=d3) (t:=t3) (p:=p3) (bn _ _) fun m3a m3b m3c m3d=>?_
 (refine Jv rfl<|JJ rfl rfl<|JJ rfl rfl<|Jz rfl rfl fun _ _=>aq (.of rfl) (.of rfl) .here rfl rfl (gE rfl rfl m3a m3b m3c m3d) (bF rfl) ak<|Ja rfl<|Ji<|ab (cL .here) rfl ?_)
 rename_i b3 vo
 refine dR [JW x1 [nT],bG b3 (.cells #[.int .i64 (fZ).lv,.int .i64 (fZ).ma,s3,d3,t3,p3] 41 (0,0)),J1 (fZ) s3,J2 (fZ) d3,J3 (fZ) t3,J4 (fZ) p3] (by exact .cons mJ (.cons .here (.cons .here (.cons .here (.cons .here (.cons .here .nil)))))) ?_
 skip
 refine JN bL rfl (fun w1 aR=>kQ ⟨cW aR bT rfl,cX aR c6 rfl,cV aR dO rfl,cM aR fk rfl⟩ zZ) ?_
 rintro ⟨s4,d4,t4,p4⟩ _
 try dsimp only [id_eq,Zb,Za]
 refine kX (r:=fZ) (s:=s4) (d:=d4) (t:=t4) (p:=p4) (bn _ _) fun m4a m4b m4c m4d=>?_
 skip
 refine JN bL rfl (fun w1 aR=>jg ⟨cW aR (by exact .here) rfl,cX aR (by exact Take.there .here) rfl,cV aR bT rfl,cM aR c6 rfl⟩ zZ) ?_
 rintro ⟨s5,d5,t5,p5⟩ _
 try dsimp only [id_eq,Zb,Za]
 refine dq (r:=fZ) (s:=s5) (d:=d5) (t:=t5) (p:=p5) (bn _ _) fun m5a m5b m5c m5d=>?_
 skip
 refine JN ka rfl (fun w1 aR=>VS w1) ?_
 rintro ⟨za,zc⟩ _
 try dsimp only [id_eq,Zb,Za]
 skip
 refine JN bd rfl (fun w1 aR=>PJ (k:=SN) Vw ⟨cW aR (by exact Take.there .here) rfl,cX aR bT rfl,cV aR c6 rfl,cM aR dO rfl⟩ Fq (dL aR (by exact .here) (by exact rfl))) ?_
 rintro ⟨s6,d6,t6,p6⟩ _
 try dsimp only [id_eq,Zb,Za]
 refine dq (r:=gO) (s:=s6) (d:=d6) (t:=t6) (p:=p6) (bn _ _) fun m6a m6b m6c m6d=>?_
 (refine Jv rfl<|JJ rfl rfl<|JJ rfl rfl<|Jz rfl rfl fun _ _=>aq (.of rfl) (.of rfl) .here rfl rfl (gE rfl rfl m6a m6b m6c m6d) (bF rfl) ak<|Ja rfl<|Ji<|ab (cL .here) rfl ?_)
 rename_i b5 NQ
 refine dR [JW x1 [nT],bG b3 (.cells #[.int .i64 (fZ).lv,.int .i64 (fZ).ma,s3,d3,t3,p3] 41 (0,0)),J1 (fZ) s3,J2 (fZ) d3,J3 (fZ) t3,J4 (fZ) p3,bG b5 (.cells #[.int .i64 (gO).lv,.int .i64 (gO).ma,s6,d6,t6,p6] 41 (0,0)),J1 (gO) s6,J2 (gO) d6,J3 (gO) t6,J4 (gO) p6] (by exact .cons CA (.cons CA (.cons CA (.cons CA (.cons CA (.cons CA (.cons .here (.cons .here (.cons .here (.cons .here (.cons .here .nil))))))))))) ?_
 skip
 refine JN bL rfl (fun w1 aR=>kQ ⟨cW aR AB rfl,cX aR wY rfl,cV aR iR rfl,cM aR mJ rfl⟩ zY) ?_
 rintro ⟨s7,d7,t7,p7⟩ _
 try dsimp only [id_eq,Zb,Za]
 refine kX (r:=gO) (s:=s7) (d:=d7) (t:=t7) (p:=p7) (bn _ _) fun m7a m7b m7c m7d=>?_
 skip
 refine JN bL rfl (fun w1 aR=>jg ⟨cW aR (by exact .here) rfl,cX aR (by exact Take.there .here) rfl,cV aR bT rfl,cM aR c6 rfl⟩ zY) ?_
 rintro ⟨s8,d8,t8,p8⟩ _
 try dsimp only [id_eq,Zb,Za]
 refine dq (r:=gO) (s:=s8) (d:=d8) (t:=t8) (p:=p8) (bn _ _) fun m8a m8b m8c m8d=>?_
 skip
 refine JN ka rfl (fun w1 aR=>Lf w1) ?_
 rintro ⟨ua,uc⟩ _
 try dsimp only [id_eq,Zb,Za]
 refine bo (bu (.cons (.of rfl) .nil) rfl rfl bO bO ak) rfl (fun _ _=>?_)
 rename_i g4 hg4
 refine bX (g:=g4) (E:=78) (ys:=(gN [⟨nI,.slice ua 2 uc⟩]).flatten) 1 2 (by exact .here) (by exact rfl) rfl rfl ?_
 refine JN bd rfl (fun w1 aR=>PL (l:=[⟨nI,.slice ua 2 uc⟩]) Px ⟨cW aR bT rfl,cX aR c6 rfl,cV aR dO rfl,cM aR fk rfl⟩ Fp (lK aR (by exact .here) (by exact rfl)) (gW (dL aR (by exact Take.there .here) (by exact rfl)) (jP _))) ?_
 rintro ⟨s9,d9,t9,p9⟩ _
 try dsimp only [id_eq,Zb,Za]
 refine dq (r:=vW) (s:=s9) (d:=d9) (t:=t9) (p:=p9) (bn _ _) fun m9a m9b m9c m9d=>?_
 (refine Jv rfl<|JJ rfl rfl<|JJ rfl rfl<|JJ rfl rfl<|Jz rfl rfl fun _ _=>aq (.of rfl) (.of rfl) .here rfl rfl (gE rfl rfl m9a m9b m9c m9d) (bF rfl) ak<|Ja rfl<|Ja rfl<|Ji<|ab (cL (.there (.there (.there (.there (.there mI)))))) rfl ?_)
 rename_i b7 U5
 refine dR [JW x1 [nT],bG b3 (.cells #[.int .i64 (fZ).lv,.int .i64 (fZ).ma,s3,d3,t3,p3] 41 (0,0)),J1 (fZ) s3,J2 (fZ) d3,J3 (fZ) t3,J4 (fZ) p3,bG b5 (.cells #[.int .i64 (gO).lv,.int .i64 (gO).ma,s6,d6,t6,p6] 41 (0,0)),J1 (gO) s6,J2 (gO) d6,J3 (gO) t6,J4 (gO) p6,bG b7 (.cells #[.int .i64 (vW).lv,.int .i64 (vW).ma,s9,d9,t9,p9] 41 (0,0)),J1 (vW) s9,J2 (vW) d9,J3 (vW) t9,J4 (vW) p9] (by exact .cons ja (.cons ja (.cons ja (.cons ja (.cons ja (.cons ja (.cons ja (.cons ja (.cons ja (.cons ja (.cons ja (.cons .here (.cons .here (.cons .here (.cons .here (.cons .here .nil)))))))))))))))) ?_
 skip
 refine JN bL rfl (fun w1 aR=>kQ ⟨cW aR AB rfl,cX aR wY rfl,cV aR iR rfl,cM aR mJ rfl⟩ zY) ?_
 rintro ⟨s10,d10,t10,p10⟩ _
 try dsimp only [id_eq,Zb,Za]
 refine kX (r:=gO) (s:=s10) (d:=d10) (t:=t10) (p:=p10) (bn _ _) fun ad9 ad8 ad7 ad6=>?_
 skip
 refine JN bL rfl (fun w1 aR=>jg ⟨cW aR (by exact .here) rfl,cX aR (by exact Take.there .here) rfl,cV aR bT rfl,cM aR c6 rfl⟩ zY) ?_
 rintro ⟨s11,d11,t11,p11⟩ _
 try dsimp only [id_eq,Zb,Za]
 refine dq (r:=gO) (s:=s11) (d:=d11) (t:=t11) (p:=p11) (bn _ _) fun ad5 ad4 ad3 ad2=>?_
 skip
 refine JN ka rfl (fun w1 aR=>Lf w1) ?_
 rintro ⟨va,vc⟩ _
 try dsimp only [id_eq,Zb,Za]
 refine bo (bu (.cons (.of rfl) .nil) rfl rfl bO bO ak) rfl (fun _ _=>?_)
 rename_i g5 hg5
 refine bX (g:=g5) (E:=78) (ys:=(gN [⟨nI,.slice va 2 vc⟩]).flatten) 1 2 (by exact .here) (by exact rfl) rfl rfl ?_
 refine JN bd rfl (fun w1 aR=>VQ (l:=[⟨nI,.slice va 2 vc⟩]) (m:=[nJ]) (congrArg (fun x:Ro×Int×Int=>x.2.2) Px) Vu ⟨cW aR bT rfl,cX aR c6 rfl,cV aR dO rfl,cM aR fk rfl⟩ Fp (lK aR (by exact .here) (by exact rfl)) (gW (dL aR (by exact Take.there .here) (by exact rfl)) (jP _))) ?_
 rintro ⟨wZ,W⟩ hW
 try dsimp only at hW
 try dsimp only [id_eq,Zb,Za]
 refine Jv rfl<|JJ rfl rfl<|JJ rfl rfl<|Ja rfl<|Ja rfl<|Ji ?_
 refine dR [JW x1 [nT],bG b3 (.cells #[.int .i64 (fZ).lv,.int .i64 (fZ).ma,s3,d3,t3,p3] 41 (0,0)),J1 (fZ) s3,J2 (fZ) d3,J3 (fZ) t3,J4 (fZ) p3,bG b5 (.cells #[.int .i64 (gO).lv,.int .i64 (gO).ma,s6,d6,t6,p6] 41 (0,0)),J1 (gO) s6,J2 (gO) d6,J3 (gO) t6,J4 (gO) p6,bG b7 (.cells #[.int .i64 (vW).lv,.int .i64 (vW).ma,s9,d9,t9,p9] 41 (0,0)),J1 (vW) s9,J2 (vW) d9,J3 (vW) t9,J4 (vW) p9,row 78 2 wZ W.length (gN W).flatten,CD W] (by exact .cons lI (.cons lI (.cons lI (.cons lI (.cons lI (.cons lI (.cons lI (.cons lI (.cons lI (.cons lI (.cons lI (.cons lI (.cons lI (.cons lI (.cons lI (.cons lI (.cons .here (.cons .here .nil)))))))))))))))))) ?_
 skip
 refine JN ka rfl (fun w1 aR=>jB w1) ?_
 rintro ⟨s12,d12,t12,p12⟩ _
 try dsimp only [id_eq,Zb,Za]
 refine dq (r:=lX) (s:=s12) (d:=d12) (t:=t12) (p:=p12) (bn _ _) fun ad1 ad0 adZ adY=>?_
 skip
 refine JN vT rfl (fun w1 aR=>Le 0 kh nC ⟨cW aR (by exact .here) rfl,cX aR (by exact Take.there .here) rfl,cV aR bT rfl,cM aR c6 rfl⟩ rA Pq.1 Pq.2) ?_
 rintro G8 _
 try dsimp only [id_eq,Zb,Za]
 refine Jv rfl<|JJ rfl rfl<|JJ rfl rfl<|Ja rfl<|Ja rfl<|Ji ?_
 refine JN ka rfl (fun w1 aR=>jB w1) ?_
 rintro ⟨s13,d13,t13,p13⟩ _
 try dsimp only [id_eq,Zb,Za]
 refine dq (r:=lX) (s:=s13) (d:=d13) (t:=t13) (p:=p13) (bn _ _) fun adX adW adV adU=>?_
 skip
 refine JN vT rfl (fun w1 aR=>SB 0 kh nC ⟨cW aR (by exact .here) rfl,cX aR (by exact Take.there .here) rfl,cV aR bT rfl,cM aR c6 rfl⟩ rA Pz.1 Pz.2) ?_
 rintro PU _
 try dsimp only [id_eq,Zb,Za]
 refine Jv rfl<|JJ rfl rfl<|JJ rfl rfl<|Ja rfl<|Ja rfl<|Ji ?_
 refine JN ka rfl (fun w1 aR=>jB w1) ?_
 rintro ⟨WV,d14,t14,W7⟩ _
 try dsimp only [id_eq,Zb,Za]
 refine dq (r:=lX) (s:=WV) (d:=d14) (t:=t14) (p:=W7) (bn _ _) fun adT adS adR adQ=>?_
 refine bo (aD (.cons (.of rfl) .nil) rfl rfl rfl rfl) rfl (fun _ _=>?_)
 rename_i g8 hg8
 with_reducible apply ai
 case hr=>exact Lu
 case hd=>rfl
 case hc=>
  intro w1 aR
  have:=El (r:=lX) (s:=WV) (d:=d14) (t:=t14) (p:=W7) (cv:=.slice (some ⟨g8,0,none⟩) 1 1) 0 kh nC (L:=[0]) (⟨cW aR (by exact Take.there .here) rfl,cX aR bT rfl,cV aR c6 rfl,cM aR dO rfl⟩:RR w1 lX WV d14 t14 W7) rA (Mem.dh aR (by exact .here) rfl rfl)
  rw [VC] at this
  exact this
 refine dR [JW x1 [nT],bG b3 (.cells #[.int .i64 (fZ).lv,.int .i64 (fZ).ma,s3,d3,t3,p3] 41 (0,0)),J1 (fZ) s3,J2 (fZ) d3,J3 (fZ) t3,J4 (fZ) p3,bG b5 (.cells #[.int .i64 (gO).lv,.int .i64 (gO).ma,s6,d6,t6,p6] 41 (0,0)),J1 (gO) s6,J2 (gO) d6,J3 (gO) t6,J4 (gO) p6,bG b7 (.cells #[.int .i64 (vW).lv,.int .i64 (vW).ma,s9,d9,t9,p9] 41 (0,0)),J1 (vW) s9,J2 (vW) d9,J3 (vW) t9,J4 (vW) p9,row 78 2 wZ W.length (gN W).flatten,CD W,row 3 1 PU [(1:Int)].length ([(1:Int)].map (Value.int .i64))] (by exact .cons ja (.cons ja (.cons ja (.cons ja (.cons ja (.cons ja (.cons ja (.cons ja (.cons ja (.cons ja (.cons ja (.cons ja (.cons ja (.cons ja (.cons ja (.cons ja (.cons ja (.cons ja (.cons fk .nil))))))))))))))))))) ?_
 (refine Ja rfl<|Jn<|Jq<|Jr<|Jv rfl<|Jv rfl<|JB rfl (by omega)<|Jv rfl<|JB rfl (by omega)<|Jv rfl<|JB rfl (by omega)<|Jv rfl<|JB rfl (by omega)<|Jv rfl<|JB rfl (by omega)<|JD rfl<|Jv rfl<|JK rfl rfl<|Jv rfl<|JK rfl rfl<|JD rfl<|ab (dJ (.of rfl) (.of rfl) (.of rfl) rfl) rfl<|Jv rfl<|JK rfl rfl<|Jv rfl<|JK rfl rfl<|JD rfl<|ab (dJ (.of rfl) (.of rfl) (.of rfl) rfl) rfl<|Jv rfl<|JK rfl rfl<|Jv rfl<|JK rfl rfl<|JD rfl<|ab (dJ (.of rfl) (.of rfl) (.of rfl) rfl) rfl<|Jv rfl<|JK rfl rfl<|Jv rfl<|JK rfl rfl<|bo (aD (.cons (.of rfl) .nil) rfl rfl rfl rfl) rfl fun _ _=>JK rfl rfl ?_)
 skip
 rename_i g9a afb
 refine ai bd rfl (fun w1 aR=>lL (l:=[nT]) (dL aR (by exact Take.there .here) (by exact rfl)) (Mem.dh aR (by exact .here) rfl rfl)) ?_
 (refine JK rfl rfl<|JH rfl<|ab (dJ (.of rfl) (.of rfl) (.of rfl) rfl) rfl<|Jv rfl<|JK rfl rfl<|Jv rfl<|JK rfl rfl<|bo (aD (.cons (.of rfl) .nil) rfl rfl rfl rfl) rfl fun _ _=>JK rfl rfl ?_)
 rename_i g9b afa
 refine ai bd rfl (fun w1 aR=>MD (l:=[1]) (kK aR (.there (.there (.there (.there mI)))) (by exact rfl)) (Mem.dh aR (by exact .here) rfl rfl)) ?_
 (refine JK rfl rfl<|JH rfl<|ab (dJ (.of rfl) (.of rfl) (.of rfl) rfl) rfl<|Jv rfl<|JK rfl rfl<|Jv rfl<|JK rfl rfl ?_)
 have Pk:W.length≤1000:=by
  have h:=congrArg List.length hW
  unfold bZ at h
  rw [Zd] at h
  rw [h];decide
 have hWs:∀ x∈W,x.tk.so.length≤1000:=by
  intro x hx
  have h:x.tk∈bZ W:=Z0 hx
  rw [hW] at h
  rw [ZK.1 h];decide
 refine JN bL rfl (fun w1 aR=>Mm (lK aR (.there (.there mI)) (by exact rfl)) (WQ aR (.there (.there (.there mI)))) Pk hWs) ?_
 rintro ⟨x9,V⟩ hV
 try dsimp only at hV
 try dsimp only [id_eq,Zb,Za]
 (refine JK rfl rfl<|bo (aD (.cons (.of rfl) (.cons (.of rfl) .nil)) rfl rfl rfl rfl) rfl fun _ _=>JK rfl rfl<|ab (aS (.cons (.of rfl) (.cons (.of rfl) .nil)) ak) rfl<|JK rfl rfl<|bo (bu (.cons (.of rfl) .nil) rfl rfl bO bO ak) rfl fun _ _=>JK rfl rfl ?_)
 rename_i g9c ae9 g9d ae8
 refine bX (g:=g9d) (E:=69) (ys:=(gN [⟨nJ,.slice (some ⟨g9c,0,none⟩) 2 2⟩]).flatten) 1 2 (by exact .here) (by exact rfl) rfl rfl ?_
 refine ai bd rfl (fun w1 aR=>MC (m:=[⟨nJ,.slice (some ⟨g9c,0,none⟩) 2 2⟩]) (lK aR bT (by exact rfl)) (WQ aR c6) (lK aR (by exact .here) (by exact rfl)) (gW (Mem.dh aR (by exact Take.there .here) rfl rfl) (jP _)) (hV.trans (hW.trans rfl))) ?_
 (refine JK rfl rfl<|JH rfl<|ab (dJ (.of rfl) (.of rfl) (.of rfl) rfl) rfl<|Jn<|bN (.of rfl)<|Jk<|Jq<|Jr<|ab (cL AB) rfl<|ab (aS (.cons (.of rfl) (.cons (.of rfl) (.cons (.of rfl) .nil))) ak) rfl<|ab (aS (.cons (.of rfl) (.cons (.of rfl) (.cons (.of rfl) .nil))) ak) rfl<|ab (aS (.cons (.of rfl) (.cons (.of rfl) (.cons (.of rfl) .nil))) ak) rfl<|ab (aS (.cons (.of rfl) (.cons (.of rfl) (.cons (.of rfl) .nil))) ak) rfl<|bo (bu (.cons (.of rfl) (.cons (.of rfl) (.cons (.of rfl) (.cons (.of rfl) .nil)))) rfl rfl bO bO ak) rfl fun _ _=>?_)
 rename_i Y5 aaR
 refine bX (g:=Y5) (E:=180) (ys:=gR W5) 4 3 (by exact .here) (by exact rfl) rfl rfl ?_
 refine ai bd rfl (fun w1 aR=>Ii (r:=fZ) (q:=W5) ⟨cW aR iR rfl,cX aR mJ rfl,cV aR CB rfl,cM aR lI rfl⟩ zZ (cM aR (by exact .here) (by exact rfl)) rfl) ?_
 (refine JH rfl<|Jv rfl<|JK rfl rfl<|ab (cL SH) rfl<|JK rfl rfl<|ab (aS (.cons (.of rfl) (.cons (.of rfl) (.cons (.of rfl) .nil))) ak) rfl<|JK rfl rfl<|ab (aS (.cons (.of rfl) (.cons (.of rfl) (.cons (.of rfl) .nil))) ak) rfl<|JK rfl rfl<|ab (aS (.cons (.of rfl) (.cons (.of rfl) (.cons (.of rfl) .nil))) ak) rfl<|JK rfl rfl<|ab (aS (.cons (.of rfl) (.cons (.of rfl) (.cons (.of rfl) .nil))) ak) rfl<|JK rfl rfl<|ab (aS (.cons (.of rfl) (.cons (.of rfl) (.cons (.of rfl) .nil))) ak) rfl<|JK rfl rfl<|bo (bu (.cons (.of rfl) (.cons (.of rfl) (.cons (.of rfl) (.cons (.of rfl) (.cons (.of rfl) .nil))))) rfl rfl bO bO ak) rfl fun _ _=>JK rfl rfl ?_)
 rename_i Y4 aaQ
 refine bX (g:=Y4) (E:=180) (ys:=gR W4) 5 3 (by exact .here) (by exact rfl) rfl rfl ?_
 refine ai bd rfl (fun w1 aR=>Ii (r:=gO) (q:=W4) ⟨cW aR ja rfl,cX aR mI rfl,cV aR (.there mI) rfl,cM aR (.there (.there mI)) rfl⟩ zY (cM aR (by exact .here) (by exact rfl)) rfl) ?_
 (refine JK rfl rfl<|JH rfl<|ab (dJ (.of rfl) (.of rfl) (.of rfl) rfl) rfl<|Jv rfl<|JK rfl rfl<|ab (cL (.there (.there (.there mI)))) rfl<|JK rfl rfl<|ab (aS (.cons (.of rfl) (.cons (.of rfl) (.cons (.of rfl) .nil))) ak) rfl<|JK rfl rfl<|ab (aS (.cons (.of rfl) (.cons (.of rfl) (.cons (.of rfl) .nil))) ak) rfl<|JK rfl rfl<|ab (aS (.cons (.of rfl) (.cons (.of rfl) (.cons (.of rfl) .nil))) ak) rfl<|JK rfl rfl<|ab (aS (.cons (.of rfl) (.cons (.of rfl) (.cons (.of rfl) .nil))) ak) rfl<|JK rfl rfl<|bo (bu (.cons (.of rfl) (.cons (.of rfl) (.cons (.of rfl) (.cons (.of rfl) .nil)))) rfl rfl bO bO ak) rfl fun _ _=>JK rfl rfl ?_)
 rename_i Y3 aaP
 refine bX (g:=Y3) (E:=180) (ys:=gR W1) 4 3 (by exact .here) (by exact rfl) rfl rfl ?_
 refine ai bd rfl (fun w1 aR=>Ii (r:=vW) (q:=W1) ⟨cW aR (.there (.there (.there (.there (.there mI))))) rfl,cX aR (.there (.there (.there (.there (.there (.there mI)))))) rfl,cV aR (.there (.there (.there (.there (.there (.there (.there mI))))))) rfl,cM aR (.there (.there (.there (.there (.there (.there (.there (.there mI)))))))) rfl⟩ Y6 (cM aR (by exact .here) (by exact rfl)) rfl) ?_
 (refine JK rfl rfl<|JH rfl<|ab (dJ (.of rfl) (.of rfl) (.of rfl) rfl) rfl<|Jn<|bN (.of rfl)<|Jk<|Jr<|ab (cL ja) rfl ?_)
 refine dR [bG b3 (.cells #[.int .i64 (fZ).lv,.int .i64 (fZ).ma,s3,d3,t3,p3] 41 (0,0)),J1 (fZ) s3,J2 (fZ) d3,J3 (fZ) t3,J4 (fZ) p3,bG b5 (.cells #[.int .i64 (gO).lv,.int .i64 (gO).ma,s6,d6,t6,p6] 41 (0,0)),J1 (gO) s6,J2 (gO) d6,J3 (gO) t6,J4 (gO) p6] (by exact .cons mJ (.cons mJ (.cons mJ (.cons mJ (.cons mJ (.cons mJ (.cons mJ (.cons mJ (.cons mJ (.cons mJ .nil)))))))))) ?_
 refine JN bL rfl (fun w1 aR=>kQ ⟨cW aR jo rfl,cX aR AB rfl,cV aR wY rfl,cM aR iR rfl⟩ zY) ?_
 rintro ⟨s15,d15,t15,p15⟩ _
 try dsimp only [id_eq,Zb,Za]
 refine kX (r:=gO) (s:=s15) (d:=d15) (t:=t15) (p:=p15) (bn _ _) fun adP adO adN adM=>?_
 skip
 refine JN bL rfl (fun w1 aR=>jg ⟨cW aR (by exact .here) rfl,cX aR (by exact Take.there .here) rfl,cV aR bT rfl,cM aR c6 rfl⟩ zY) ?_
 rintro ⟨s16,d16,t16,p16⟩ _
 try dsimp only [id_eq,Zb,Za]
 refine dq (r:=gO) (s:=s16) (d:=d16) (t:=t16) (p:=p16) (bn _ _) fun adL adK adJ adI=>?_
 skip
 refine JN bd rfl (fun w1 aR=>PN je ⟨cW aR (by exact .here) rfl,cX aR (by exact Take.there .here) rfl,cV aR bT rfl,cM aR c6 rfl⟩ Fp VA.1 VA.2) ?_
 rintro Hi _
 try dsimp only [id_eq,Zb,Za]
 refine Jv rfl<|JJ rfl rfl<|JJ rfl rfl<|Ja rfl<|Ja rfl<|Ji<|ab (cL iR) rfl ?_
 refine dR [bG b3 (.cells #[.int .i64 (fZ).lv,.int .i64 (fZ).ma,s3,d3,t3,p3] 41 (0,0)),J1 (fZ) s3,J2 (fZ) d3,J3 (fZ) t3,J4 (fZ) p3,bG b5 (.cells #[.int .i64 (gO).lv,.int .i64 (gO).ma,s6,d6,t6,p6] 41 (0,0)),J1 (gO) s6,J2 (gO) d6,J3 (gO) t6,J4 (gO) p6,row 9 1 Hi ([cO,⟨#[]⟩]:List ByteArray).length (aM [cO,⟨#[]⟩])] (by exact .cons iR (.cons iR (.cons iR (.cons iR (.cons iR (.cons iR (.cons iR (.cons iR (.cons iR (.cons iR (.cons .here .nil))))))))))) ?_
 refine JN bL rfl (fun w1 aR=>kQ ⟨cW aR (by exact Take.there .here) rfl,cX aR bT rfl,cV aR c6 rfl,cM aR dO rfl⟩ zZ) ?_
 rintro ⟨s17,d17,t17,p17⟩ _
 try dsimp only [id_eq,Zb,Za]
 refine kX (r:=fZ) (s:=s17) (d:=d17) (t:=t17) (p:=p17) (bn _ _) fun adH adG adF adE=>?_
 skip
 refine JN bL rfl (fun w1 aR=>jg ⟨cW aR (by exact .here) rfl,cX aR (by exact Take.there .here) rfl,cV aR bT rfl,cM aR c6 rfl⟩ zZ) ?_
 rintro ⟨s18,d18,t18,p18⟩ _
 try dsimp only [id_eq,Zb,Za]
 refine dq (r:=fZ) (s:=s18) (d:=d18) (t:=t18) (p:=p18) (bn _ _) fun adD adC adB adA=>?_
 skip
 refine JN eK rfl (fun w1 aR=>VR 0 dI ⟨cW aR (by exact .here) rfl,cX aR (by exact Take.there .here) rfl,cV aR bT rfl,cM aR c6 rfl⟩ Fq Pt.1 Pt.2) ?_
 rintro Lw _
 try dsimp only [id_eq,Zb,Za]
 refine Jv rfl<|JJ rfl rfl<|JJ rfl rfl<|Ja rfl<|Ja rfl<|Ji<|ab (cL iR) rfl ?_
 refine dR [bG b3 (.cells #[.int .i64 (fZ).lv,.int .i64 (fZ).ma,s3,d3,t3,p3] 41 (0,0)),J1 (fZ) s3,J2 (fZ) d3,J3 (fZ) t3,J4 (fZ) p3,bG b5 (.cells #[.int .i64 (gO).lv,.int .i64 (gO).ma,s6,d6,t6,p6] 41 (0,0)),J1 (gO) s6,J2 (gO) d6,J3 (gO) t6,J4 (gO) p6,row 9 1 Hi ([cO,⟨#[]⟩]:List ByteArray).length (aM [cO,⟨#[]⟩]),row 9 1 Lw ([cO,nT,dI]:List ByteArray).length (aM [cO,nT,dI])] (by exact .cons iR (.cons iR (.cons iR (.cons iR (.cons iR (.cons iR (.cons iR (.cons iR (.cons iR (.cons iR (.cons iR (.cons .here .nil)))))))))))) ?_
 refine JN bL rfl (fun w1 aR=>kQ ⟨cW aR (by exact Take.there .here) rfl,cX aR bT rfl,cV aR c6 rfl,cM aR dO rfl⟩ zZ) ?_
 rintro ⟨s19,d19,t19,p19⟩ _
 try dsimp only [id_eq,Zb,Za]
 refine kX (r:=fZ) (s:=s19) (d:=d19) (t:=t19) (p:=p19) (bn _ _) fun adz ady adx adw=>?_
 skip
 refine JN bL rfl (fun w1 aR=>jg ⟨cW aR (by exact .here) rfl,cX aR (by exact Take.there .here) rfl,cV aR bT rfl,cM aR c6 rfl⟩ zZ) ?_
 rintro ⟨s20,d20,t20,p20⟩ _
 try dsimp only [id_eq,Zb,Za]
 refine dq (r:=fZ) (s:=s20) (d:=d20) (t:=t20) (p:=p20) (bn _ _) fun adv adu adt ads=>?_
 skip
 refine JN bd rfl (fun w1 aR=>VU 0 ⟨cW aR (by exact .here) rfl,cX aR (by exact Take.there .here) rfl,cV aR bT rfl,cM aR c6 rfl⟩ Fq PA.1 PA.2) ?_
 rintro LX _
 try dsimp only [id_eq,Zb,Za]
 refine Jv rfl<|JJ rfl rfl<|JJ rfl rfl<|Ja rfl<|Ja rfl<|Ji<|ab (cL CA) rfl ?_
 refine dR [bG b3 (.cells #[.int .i64 (fZ).lv,.int .i64 (fZ).ma,s3,d3,t3,p3] 41 (0,0)),J1 (fZ) s3,J2 (fZ) d3,J3 (fZ) t3,J4 (fZ) p3,bG b5 (.cells #[.int .i64 (gO).lv,.int .i64 (gO).ma,s6,d6,t6,p6] 41 (0,0)),J1 (gO) s6,J2 (gO) d6,J3 (gO) t6,J4 (gO) p6,row 9 1 Hi ([cO,⟨#[]⟩]:List ByteArray).length (aM [cO,⟨#[]⟩]),row 9 1 Lw ([cO,nT,dI]:List ByteArray).length (aM [cO,nT,dI]),row 9 1 LX ([nT]:List ByteArray).length (aM [nT])] (by exact .cons iR (.cons iR (.cons iR (.cons iR (.cons iR (.cons iR (.cons iR (.cons iR (.cons iR (.cons iR (.cons iR (.cons iR (.cons .here .nil))))))))))))) ?_
 refine JN bL rfl (fun w1 aR=>kQ ⟨cW aR jo rfl,cX aR AB rfl,cV aR wY rfl,cM aR iR rfl⟩ zY) ?_
 rintro ⟨s21,d21,t21,p21⟩ _
 try dsimp only [id_eq,Zb,Za]
 refine kX (r:=gO) (s:=s21) (d:=d21) (t:=t21) (p:=p21) (bn _ _) fun adr adq adp ado=>?_
 skip
 refine JN bL rfl (fun w1 aR=>jg ⟨cW aR (by exact .here) rfl,cX aR (by exact Take.there .here) rfl,cV aR bT rfl,cM aR c6 rfl⟩ zY) ?_
 rintro ⟨s22,d22,t22,p22⟩ _
 try dsimp only [id_eq,Zb,Za]
 refine dq (r:=gO) (s:=s22) (d:=d22) (t:=t22) (p:=p22) (bn _ _) fun adn adm adl adk=>?_
 skip
 refine JN eK rfl (fun w1 aR=>VP 0 cO ⟨cW aR (by exact .here) rfl,cX aR (by exact Take.there .here) rfl,cV aR bT rfl,cM aR c6 rfl⟩ Fp Ps.1 Ps.2) ?_
 rintro OH _
 try dsimp only [id_eq,Zb,Za]
 refine Jv rfl<|JJ rfl rfl<|JJ rfl rfl<|Ja rfl<|Ja rfl<|Ji<|ab (cL iR) rfl ?_
 refine dR [bG b3 (.cells #[.int .i64 (fZ).lv,.int .i64 (fZ).ma,s3,d3,t3,p3] 41 (0,0)),J1 (fZ) s3,J2 (fZ) d3,J3 (fZ) t3,J4 (fZ) p3,bG b5 (.cells #[.int .i64 (gO).lv,.int .i64 (gO).ma,s6,d6,t6,p6] 41 (0,0)),J1 (gO) s6,J2 (gO) d6,J3 (gO) t6,J4 (gO) p6,row 9 1 Hi ([cO,⟨#[]⟩]:List ByteArray).length (aM [cO,⟨#[]⟩]),row 9 1 Lw ([cO,nT,dI]:List ByteArray).length (aM [cO,nT,dI]),row 9 1 LX ([nT]:List ByteArray).length (aM [nT]),row 9 1 OH ([dI,je]:List ByteArray).length (aM [dI,je])] (by exact .cons iR (.cons iR (.cons iR (.cons iR (.cons iR (.cons iR (.cons iR (.cons iR (.cons iR (.cons iR (.cons iR (.cons iR (.cons iR (.cons .here .nil)))))))))))))) ?_
 refine JN bL rfl (fun w1 aR=>kQ ⟨cW aR (by exact Take.there .here) rfl,cX aR bT rfl,cV aR c6 rfl,cM aR dO rfl⟩ zZ) ?_
 rintro ⟨s23,d23,t23,p23⟩ _
 try dsimp only [id_eq,Zb,Za]
 refine kX (r:=fZ) (s:=s23) (d:=d23) (t:=t23) (p:=p23) (bn _ _) fun adj adi adh adg=>?_
 skip
 refine JN bL rfl (fun w1 aR=>jg ⟨cW aR (by exact .here) rfl,cX aR (by exact Take.there .here) rfl,cV aR bT rfl,cM aR c6 rfl⟩ zZ) ?_
 rintro ⟨s24,d24,t24,p24⟩ _
 try dsimp only [id_eq,Zb,Za]
 refine dq (r:=fZ) (s:=s24) (d:=d24) (t:=t24) (p:=p24) (bn _ _) fun adf ade adb ada=>?_
 skip
 refine JN eK rfl (fun w1 aR=>VT (b:=true) nC ⟨cW aR (by exact .here) rfl,cX aR (by exact Take.there .here) rfl,cV aR bT rfl,cM aR c6 rfl⟩ Fq Py.1 Py.2) ?_
 rintro ⟨WU,d25,t25,W6⟩ _
 try dsimp only [id_eq,Zb,Za]
 refine dq (r:=Dk) (s:=WU) (d:=d25) (t:=t25) (p:=W6) (bn _ _) fun Xh Xg Xf Xe=>?_
 (refine Jv rfl<|JJ rfl rfl<|JJ rfl rfl<|Jz rfl rfl fun _ _=>aq (.of rfl) (.of rfl) .here rfl rfl (gE rfl rfl Xh Xg Xf Xe) (bF rfl) ak<|Ja rfl<|Ji<|ab (cL .here) rfl ?_)
 rename_i b25 afv
 refine dR [row 9 1 Hi ([cO,⟨#[]⟩]:List ByteArray).length (aM [cO,⟨#[]⟩]),row 9 1 Lw ([cO,nT,dI]:List ByteArray).length (aM [cO,nT,dI]),row 9 1 LX ([nT]:List ByteArray).length (aM [nT]),row 9 1 OH ([dI,je]:List ByteArray).length (aM [dI,je]),bG b25 (.cells #[.int .i64 (Dk).lv,.int .i64 (Dk).ma,WU,d25,t25,W6] 41 (0,0)),J1 (Dk) WU,J2 (Dk) d25,J3 (Dk) t25,J4 (Dk) W6] (by exact .cons (.there (.there (.there (.there (.there (.there (.there mI))))))) (.cons (.there (.there (.there (.there (.there (.there (.there mI))))))) (.cons (.there (.there (.there (.there (.there (.there (.there mI))))))) (.cons (.there (.there (.there (.there (.there (.there (.there mI))))))) (.cons .here (.cons .here (.cons .here (.cons .here (.cons .here .nil))))))))) ?_
 refine JN bL rfl (fun w1 aR=>kQ ⟨cW aR fk rfl,cX aR jo rfl,cV aR AB rfl,cM aR wY rfl⟩ Vp) ?_
 rintro ⟨s26,d26,t26,p26⟩ _
 try dsimp only [id_eq,Zb,Za]
 refine kX (r:=Dk) (s:=s26) (d:=d26) (t:=t26) (p:=p26) (bn _ _) fun ac9 ac8 ac7 ac6=>?_
 skip
 refine JN bL rfl (fun w1 aR=>jg ⟨cW aR (by exact .here) rfl,cX aR (by exact Take.there .here) rfl,cV aR bT rfl,cM aR c6 rfl⟩ Vp) ?_
 rintro ⟨s27,d27,t27,p27⟩ _
 try dsimp only [id_eq,Zb,Za]
 refine dq (r:=Dk) (s:=s27) (d:=d27) (t:=t27) (p:=p27) (bn _ _) fun ac5 ac4 ac3 ac2=>?_
 (refine bo (aD (.cons (.of rfl) (.cons (.of rfl) .nil)) rfl rfl rfl rfl) rfl fun _ _=>ab (aS (.cons (.of rfl) (.cons (.of rfl) .nil)) ak) rfl<|bo (aD (.cons (.of rfl) (.cons (.of rfl) .nil)) rfl rfl rfl rfl) rfl fun _ _=>ab (aS (.cons (.of rfl) (.cons (.of rfl) .nil)) ak) rfl<|bo (bu (.cons (.of rfl) (.cons (.of rfl) .nil)) rfl rfl bO bO ak) rfl fun _ _=>?_)
 rename_i ga hga gb hgb gc hgc
 refine bX (g:=gc) (E:=78) (ys:=(gN [⟨⟨je,[⟨#[45]⟩,⟨#[]⟩]⟩,.slice (some ⟨ga,0,none⟩) 2 2⟩,⟨⟨nC,[cO,cO]⟩,.slice (some ⟨gb,0,none⟩) 2 2⟩]).flatten) 2 2 (by exact .here) (by exact rfl) rfl rfl ?_
 refine JN bd rfl (fun w1 aR=>PL (q:=(jl Dk [⟨je,[⟨#[45]⟩,⟨#[]⟩]⟩,⟨nC,[cO,cO]⟩]).1) (i:=1) (e_:=31) (l:=[⟨⟨je,[⟨#[45]⟩,⟨#[]⟩]⟩,.slice (some ⟨ga,0,none⟩) 2 2⟩,⟨⟨nC,[cO,cO]⟩,.slice (some ⟨gb,0,none⟩) 2 2⟩]) (Prod.ext rfl Vv) ⟨cW aR c6 rfl,cX aR dO rfl,cV aR fk rfl,cM aR jo rfl⟩ Vt (lK aR (by exact .here) (by exact rfl)) (gW (Ds (g:=ga) (x:=⟨#[45]⟩) (y:=⟨#[]⟩) aR bT) (gW (Ds (g:=gb) (x:=⟨#[99,97,109]⟩) (y:=⟨#[99,97,109]⟩) aR (by exact Take.there .here)) (jP _)))) ?_
 rintro ⟨s28,d28,t28,p28⟩ _
 try dsimp only [id_eq,Zb,Za]
 refine dq (r:=(jl Dk [⟨je,[⟨#[45]⟩,⟨#[]⟩]⟩,⟨nC,[cO,cO]⟩]).1) (s:=s28) (d:=d28) (t:=t28) (p:=p28) (bn _ _) fun Xd Xc Xb Xa=>?_
 (refine Jv rfl<|JJ rfl rfl<|JJ rfl rfl<|JJ rfl rfl<|Jz rfl rfl fun _ _=>aq (.of rfl) (.of rfl) .here rfl rfl (gE rfl rfl Xd Xc Xb Xa) (bF rfl) ak<|Ja rfl<|Ja rfl<|Ji ?_)
 refine dR [row 9 1 Hi ([cO,⟨#[]⟩]:List ByteArray).length (aM [cO,⟨#[]⟩]),row 9 1 Lw ([cO,nT,dI]:List ByteArray).length (aM [cO,nT,dI]),row 9 1 LX ([nT]:List ByteArray).length (aM [nT]),row 9 1 OH ([dI,je]:List ByteArray).length (aM [dI,je])] (by exact .cons mI (.cons mI (.cons mI (.cons mI .nil)))) ?_
 refine JN ka rfl (fun w1 aR=>PK w1) ?_
 rintro ⟨ya,yc⟩ _
 try dsimp only [id_eq,Zb,Za]
 (refine bo (bu (.cons (.of rfl) .nil) rfl rfl bO bO ak) rfl fun _ _=>ab (aS (.cons (.of rfl) (.cons (.of rfl) .nil)) ak) rfl ?_)
 rename_i ge Kj
 refine JN ka rfl (fun w1 aR=>Lf w1) ?_
 rintro ⟨ua,uc⟩ _
 try dsimp only [id_eq,Zb,Za]
 (refine bo (bu (.cons (.of rfl) .nil) rfl rfl bO bO ak) rfl fun _ _=>ab (aS (.cons (.of rfl) (.cons (.of rfl) .nil)) ak) rfl<|bo (bu (.cons (.of rfl) (.cons (.of rfl) .nil)) rfl rfl bO bO ak) rfl fun _ _=>Ja rfl<|Ji ?_)
 rename_i gf hgf gg hgg
 refine bX (g:=ge) (E:=78) (ys:=(gN [⟨nJ,.slice ya 2 yc⟩]).flatten) 1 2 c6 (by exact rfl) rfl rfl ?_
 refine bX (g:=gf) (E:=78) (ys:=(gN [⟨nI,.slice ua 2 uc⟩]).flatten) 1 2 bT (by exact rfl) rfl rfl ?_
 refine bX (g:=gg) (E:=182) (ys:=(lf [⟨10,[⟨nJ,.slice ya 2 yc⟩],.slice (some ⟨ge,0,none⟩) 1 1⟩,⟨12,[⟨nI,.slice ua 2 uc⟩],.slice (some ⟨gf,0,none⟩) 1 1⟩]).flatten) 2 2 bT (by exact rfl) rfl rfl ?_
 refine dR [row 9 1 Hi ([cO,⟨#[]⟩]:List ByteArray).length (aM [cO,⟨#[]⟩]),row 9 1 Lw ([cO,nT,dI]:List ByteArray).length (aM [cO,nT,dI]),row 9 1 LX ([nT]:List ByteArray).length (aM [nT]),row 9 1 OH ([dI,je]:List ByteArray).length (aM [dI,je]),row 182 2 (.slice (some ⟨gg,0,none⟩) 2 2) 2 (lf [⟨10,[⟨nJ,.slice ya 2 yc⟩],.slice (some ⟨ge,0,none⟩) 1 1⟩,⟨12,[⟨nI,.slice ua 2 uc⟩],.slice (some ⟨gf,0,none⟩) 1 1⟩]).flatten,row 78 2 (.slice (some ⟨ge,0,none⟩) 1 1) 1 (gN [⟨nJ,.slice ya 2 yc⟩]).flatten,row 78 2 (.slice (some ⟨gf,0,none⟩) 1 1) 1 (gN [⟨nI,.slice ua 2 uc⟩]).flatten,row 9 1 (.slice ya 2 yc) 2 (aM nJ.so),row 9 1 (.slice ua 2 uc) 2 (aM nI.so)] (by exact .cons fk (.cons fk (.cons fk (.cons fk (.cons .here (.cons (.there .here) (.cons .here (.cons (.there .here) (.cons .here .nil))))))))) ?_
 skip
 refine JN ka rfl (fun w1 aR=>jB w1) ?_
 rintro ⟨s29,d29,t29,p29⟩ _
 try dsimp only [id_eq,Zb,Za]
 refine dq (r:=lX) (s:=s29) (d:=d29) (t:=t29) (p:=p29) (bn _ _) fun ac1 ac0 acZ acY=>?_
 refine Nh rfl rfl ?_
 refine JN vT rfl (fun w1 aR=>Lg (l:=[⟨10,[⟨nJ,.slice ya 2 yc⟩],.slice (some ⟨ge,0,none⟩) 1 1⟩,⟨12,[⟨nI,.slice ua 2 uc⟩],.slice (some ⟨gf,0,none⟩) 1 1⟩]) (m:=[⟨10,[nJ]⟩,⟨12,[nI]⟩]) dI 9 rfl ⟨cW aR (by exact .here) rfl,cX aR (by exact Take.there .here) rfl,cV aR bT rfl,cM aR c6 rfl⟩ rA Pw.1 Pw.2 (Dy aR wY (by exact rfl)) (mu (lK aR iR (by exact rfl)) (gW (dL aR CB (by exact rfl)) (jP _)) (mu (lK aR mJ (by exact rfl)) (gW (dL aR lI (by exact rfl)) (jP _)) (zw _)))) ?_
 rintro V5 _
 try dsimp only [id_eq,Zb,Za]
 refine Jv rfl<|JJ rfl rfl<|JJ rfl rfl<|Ja rfl<|Ja rfl<|Ji ?_
 refine dR [row 9 1 Hi ([cO,⟨#[]⟩]:List ByteArray).length (aM [cO,⟨#[]⟩]),row 9 1 Lw ([cO,nT,dI]:List ByteArray).length (aM [cO,nT,dI]),row 9 1 LX ([nT]:List ByteArray).length (aM [nT]),row 9 1 OH ([dI,je]:List ByteArray).length (aM [dI,je]),row 182 2 (.slice (some ⟨gg,0,none⟩) 2 2) 2 (lf [⟨10,[⟨nJ,.slice ya 2 yc⟩],.slice (some ⟨ge,0,none⟩) 1 1⟩,⟨12,[⟨nI,.slice ua 2 uc⟩],.slice (some ⟨gf,0,none⟩) 1 1⟩]).flatten,row 78 2 (.slice (some ⟨ge,0,none⟩) 1 1) 1 (gN [⟨nJ,.slice ya 2 yc⟩]).flatten,row 78 2 (.slice (some ⟨gf,0,none⟩) 1 1) 1 (gN [⟨nI,.slice ua 2 uc⟩]).flatten,row 9 1 (.slice ya 2 yc) 2 (aM nJ.so),row 9 1 (.slice ua 2 uc) 2 (aM nI.so),row 9 1 V5 ([⟨#[]⟩,⟨#[]⟩]:List ByteArray).length (aM [⟨#[]⟩,⟨#[]⟩])] (by exact .cons fk (.cons fk (.cons fk (.cons fk (.cons fk (.cons fk (.cons fk (.cons fk (.cons fk (.cons .here .nil)))))))))) ?_
 skip
 refine JN ka rfl (fun w1 aR=>jB w1) ?_
 rintro ⟨s30,d30,t30,p30⟩ _
 try dsimp only [id_eq,Zb,Za]
 refine dq (r:=lX) (s:=s30) (d:=d30) (t:=t30) (p:=p30) (bn _ _) fun acX acW acV acU=>?_
 refine Nh rfl rfl ?_
 refine JN vT rfl (fun w1 aR=>Lg (l:=[⟨10,[⟨nJ,.slice ya 2 yc⟩],.slice (some ⟨ge,0,none⟩) 1 1⟩,⟨12,[⟨nI,.slice ua 2 uc⟩],.slice (some ⟨gf,0,none⟩) 1 1⟩]) (m:=[⟨10,[nJ]⟩,⟨12,[nI]⟩]) dI 11 rfl ⟨cW aR (by exact .here) rfl,cX aR (by exact Take.there .here) rfl,cV aR bT rfl,cM aR c6 rfl⟩ rA Pv.1 Pv.2 (Dy aR wY (by exact rfl)) (mu (lK aR iR (by exact rfl)) (gW (dL aR CB (by exact rfl)) (jP _)) (mu (lK aR mJ (by exact rfl)) (gW (dL aR lI (by exact rfl)) (jP _)) (zw _)))) ?_
 rintro WN _
 try dsimp only [id_eq,Zb,Za]
 refine Jv rfl<|JJ rfl rfl<|JJ rfl rfl<|Ja rfl<|Ja rfl<|Ji ?_
 refine dR [row 9 1 Hi ([cO,⟨#[]⟩]:List ByteArray).length (aM [cO,⟨#[]⟩]),row 9 1 Lw ([cO,nT,dI]:List ByteArray).length (aM [cO,nT,dI]),row 9 1 LX ([nT]:List ByteArray).length (aM [nT]),row 9 1 OH ([dI,je]:List ByteArray).length (aM [dI,je]),row 182 2 (.slice (some ⟨gg,0,none⟩) 2 2) 2 (lf [⟨10,[⟨nJ,.slice ya 2 yc⟩],.slice (some ⟨ge,0,none⟩) 1 1⟩,⟨12,[⟨nI,.slice ua 2 uc⟩],.slice (some ⟨gf,0,none⟩) 1 1⟩]).flatten,row 78 2 (.slice (some ⟨ge,0,none⟩) 1 1) 1 (gN [⟨nJ,.slice ya 2 yc⟩]).flatten,row 78 2 (.slice (some ⟨gf,0,none⟩) 1 1) 1 (gN [⟨nI,.slice ua 2 uc⟩]).flatten,row 9 1 (.slice ya 2 yc) 2 (aM nJ.so),row 9 1 (.slice ua 2 uc) 2 (aM nI.so),row 9 1 V5 ([⟨#[]⟩,⟨#[]⟩]:List ByteArray).length (aM [⟨#[]⟩,⟨#[]⟩]),row 9 1 WN ([cO,cO]:List ByteArray).length (aM [cO,cO])] (by exact .cons fk (.cons fk (.cons fk (.cons fk (.cons fk (.cons fk (.cons fk (.cons fk (.cons fk (.cons fk (.cons .here .nil))))))))))) ?_
 skip
 refine JN ka rfl (fun w1 aR=>jB w1) ?_
 rintro ⟨s31,d31,t31,p31⟩ _
 try dsimp only [id_eq,Zb,Za]
 refine dq (r:=lX) (s:=s31) (d:=d31) (t:=t31) (p:=p31) (bn _ _) fun acT acS acR acQ=>?_
 refine Nh rfl rfl ?_
 refine JN vT rfl (fun w1 aR=>Lg (l:=[⟨10,[⟨nJ,.slice ya 2 yc⟩],.slice (some ⟨ge,0,none⟩) 1 1⟩,⟨12,[⟨nI,.slice ua 2 uc⟩],.slice (some ⟨gf,0,none⟩) 1 1⟩]) (m:=[⟨10,[nJ]⟩,⟨12,[nI]⟩]) dI 12 rfl ⟨cW aR (by exact .here) rfl,cX aR (by exact Take.there .here) rfl,cV aR bT rfl,cM aR c6 rfl⟩ rA Pu.1 Pu.2 (Dy aR wY (by exact rfl)) (mu (lK aR iR (by exact rfl)) (gW (dL aR CB (by exact rfl)) (jP _)) (mu (lK aR mJ (by exact rfl)) (gW (dL aR lI (by exact rfl)) (jP _)) (zw _)))) ?_
 rintro x35 _
 try dsimp only [id_eq,Zb,Za]
 refine Jv rfl<|JJ rfl rfl<|JJ rfl rfl<|Ja rfl<|Ja rfl<|Ji ?_
 refine dR [row 9 1 Hi ([cO,⟨#[]⟩]:List ByteArray).length (aM [cO,⟨#[]⟩]),row 9 1 Lw ([cO,nT,dI]:List ByteArray).length (aM [cO,nT,dI]),row 9 1 LX ([nT]:List ByteArray).length (aM [nT]),row 9 1 OH ([dI,je]:List ByteArray).length (aM [dI,je]),row 182 2 (.slice (some ⟨gg,0,none⟩) 2 2) 2 (lf [⟨10,[⟨nJ,.slice ya 2 yc⟩],.slice (some ⟨ge,0,none⟩) 1 1⟩,⟨12,[⟨nI,.slice ua 2 uc⟩],.slice (some ⟨gf,0,none⟩) 1 1⟩]).flatten,row 78 2 (.slice (some ⟨ge,0,none⟩) 1 1) 1 (gN [⟨nJ,.slice ya 2 yc⟩]).flatten,row 78 2 (.slice (some ⟨gf,0,none⟩) 1 1) 1 (gN [⟨nI,.slice ua 2 uc⟩]).flatten,row 9 1 (.slice ya 2 yc) 2 (aM nJ.so),row 9 1 (.slice ua 2 uc) 2 (aM nI.so),row 9 1 V5 ([⟨#[]⟩,⟨#[]⟩]:List ByteArray).length (aM [⟨#[]⟩,⟨#[]⟩]),row 9 1 WN ([cO,cO]:List ByteArray).length (aM [cO,cO]),row 9 1 x35 ([kh,kh]:List ByteArray).length (aM [kh,kh])] (by exact .cons fk (.cons fk (.cons fk (.cons fk (.cons fk (.cons fk (.cons fk (.cons fk (.cons fk (.cons fk (.cons fk (.cons .here .nil)))))))))))) ?_
 refine JN ka rfl (fun w1 aR=>jB w1) ?_
 rintro ⟨s32,d32,t32,p32⟩ _
 try dsimp only [id_eq,Zb,Za]
 refine dq (r:=lX) (s:=s32) (d:=d32) (t:=t32) (p:=p32) (bn _ _) fun acP acO acN acM=>?_
 skip
 refine ai bL rfl (fun w1 aR=>SA ⟨cW aR (by exact .here) rfl,cX aR (by exact Take.there .here) rfl,cV aR bT rfl,cM aR c6 rfl⟩) ?_
 refine dR [row 9 1 Hi ([cO,⟨#[]⟩]:List ByteArray).length (aM [cO,⟨#[]⟩]),row 9 1 Lw ([cO,nT,dI]:List ByteArray).length (aM [cO,nT,dI]),row 9 1 LX ([nT]:List ByteArray).length (aM [nT]),row 9 1 OH ([dI,je]:List ByteArray).length (aM [dI,je]),row 9 1 V5 ([⟨#[]⟩,⟨#[]⟩]:List ByteArray).length (aM [⟨#[]⟩,⟨#[]⟩]),row 9 1 WN ([cO,cO]:List ByteArray).length (aM [cO,cO]),row 9 1 x35 ([kh,kh]:List ByteArray).length (aM [kh,kh])] (by exact .cons dO (.cons dO (.cons dO (.cons dO (.cons iR (.cons iR (.cons iR .nil))))))) ?_
 refine Jv rfl<|JJ rfl rfl<|JJ rfl rfl<|Ja rfl<|Ja rfl<|Ji ?_
 simp only [Zb,Za,List.append_eq,List.append]
 (refine Jv rfl<|Jv rfl<|JB rfl (by omega)<|Jv rfl<|JB rfl (by omega)<|Jv rfl<|JB rfl (by omega)<|Jv rfl<|JB rfl (by omega)<|Jv rfl<|JB rfl (by omega)<|Jv rfl<|JB rfl (by omega)<|Jv rfl<|JB rfl (by omega)<|Jv rfl<|JB rfl (by omega)<|JC rfl<|Jv rfl<|JK rfl rfl<|Jv rfl<|JK rfl rfl<|JC rfl<|ab (dJ (.of rfl) (.of rfl) (.of rfl) rfl) rfl<|Jv rfl<|JK rfl rfl<|Jv rfl<|JK rfl rfl<|JC rfl<|ab (dJ (.of rfl) (.of rfl) (.of rfl) rfl) rfl<|Jv rfl<|JK rfl rfl<|Jv rfl<|JK rfl rfl<|bo (aD (.cons (.of rfl) (.cons (.of rfl) .nil)) rfl rfl rfl rfl) rfl fun _ _=>JK rfl rfl ?_)
 rename_i gz0 ae4
 refine ai bd rfl (fun w1 aR=>lL (l:=[cO,⟨#[]⟩]) (dL aR (by exact Take.there .here) (by exact rfl)) (Ds (g:=gz0) (x:=⟨#[99,97,109]⟩) (y:=⟨#[]⟩) aR (by exact .here))) ?_
 (refine ab (dJ (.of rfl) (.of rfl) (.of rfl) rfl) rfl<|Jv rfl<|JK rfl rfl<|Jv rfl<|JK rfl rfl<|bo (aD (.cons (.of rfl) (.cons (.of rfl) (.cons (.of rfl) .nil))) rfl rfl rfl rfl) rfl fun _ _=>JK rfl rfl ?_)
 rename_i gz1 ae3
 refine ai bd rfl (fun w1 aR=>lL (l:=[cO,nT,dI]) (dL aR c6 (by exact rfl)) (WW (g:=gz1) (x:=⟨#[99,97,109]⟩) (y:=⟨#[116]⟩) (z:=⟨#[97,105,114]⟩) aR (by exact .here))) ?_
 (refine ab (dJ (.of rfl) (.of rfl) (.of rfl) rfl) rfl<|Jv rfl<|JK rfl rfl<|Jv rfl<|JK rfl rfl<|bo (aD (.cons (.of rfl) .nil) rfl rfl rfl rfl) rfl fun _ _=>JK rfl rfl ?_)
 rename_i gz2 ae2
 refine ai bd rfl (fun w1 aR=>lL (l:=[nT]) (dL aR fk (by exact rfl)) (WX (g:=gz2) (x:=⟨#[116]⟩) aR (by exact .here))) ?_
 (refine ab (dJ (.of rfl) (.of rfl) (.of rfl) rfl) rfl<|Jv rfl<|JK rfl rfl<|Jv rfl<|JK rfl rfl<|bo (aD (.cons (.of rfl) (.cons (.of rfl) .nil)) rfl rfl rfl rfl) rfl fun _ _=>JK rfl rfl ?_)
 rename_i gz3 ae1
 refine ai bd rfl (fun w1 aR=>lL (l:=[dI,je]) (dL aR AB (by exact rfl)) (Ds (g:=gz3) (x:=⟨#[97,105,114]⟩) (y:=⟨#[114,101,99]⟩) aR (by exact .here))) ?_
 (refine ab (dJ (.of rfl) (.of rfl) (.of rfl) rfl) rfl<|Jv rfl<|JK rfl rfl<|Jv rfl<|JK rfl rfl<|bo (aD (.cons (.of rfl) (.cons (.of rfl) .nil)) rfl rfl rfl rfl) rfl fun _ _=>JK rfl rfl ?_)
 rename_i gz4 ae0
 refine ai bd rfl (fun w1 aR=>lL (l:=[⟨#[]⟩,⟨#[]⟩]) (dL aR iR (by exact rfl)) (Ds (g:=gz4) (x:=⟨#[]⟩) (y:=⟨#[]⟩) aR (by exact .here))) ?_
 (refine ab (dJ (.of rfl) (.of rfl) (.of rfl) rfl) rfl<|Jv rfl<|JK rfl rfl<|Jv rfl<|JK rfl rfl<|bo (aD (.cons (.of rfl) (.cons (.of rfl) .nil)) rfl rfl rfl rfl) rfl fun _ _=>JK rfl rfl ?_)
 rename_i gz5 aeZ
 refine ai bd rfl (fun w1 aR=>lL (l:=[cO,cO]) (dL aR CB (by exact rfl)) (Ds (g:=gz5) (x:=⟨#[99,97,109]⟩) (y:=⟨#[99,97,109]⟩) aR (by exact .here))) ?_
 (refine ab (dJ (.of rfl) (.of rfl) (.of rfl) rfl) rfl<|Jv rfl<|JK rfl rfl<|Jv rfl<|JK rfl rfl<|bo (aD (.cons (.of rfl) (.cons (.of rfl) .nil)) rfl rfl rfl rfl) rfl fun _ _=>JK rfl rfl ?_)
 rename_i gz6 aeY
 refine ai bd rfl (fun w1 aR=>lL (l:=[kh,kh]) (dL aR SH (by exact rfl)) (Ds (g:=gz6) (x:=⟨#[118,116,114]⟩) (y:=⟨#[118,116,114]⟩) aR (by exact .here))) ?_
 (refine ab (dJ (.of rfl) (.of rfl) (.of rfl) rfl) rfl<|Jv rfl<|JK rfl rfl<|Jv rfl<|JK rfl rfl<|ab (F8 (.of rfl) (.of rfl) Sa) rfl<|ab (dJ (.of rfl) (.of rfl) (.of rfl) rfl) rfl<|Ja rfl<|Jn<|Je<|JT ?_)
 rfl
end Go.Proofs.A1
namespace Go.Proofs.A1
open Go Go.SL Go.ChangeShapes Go.WideShapes Go.Deep Go.Joins
section
variable {H:Type} {enc:TypeId×Value→H} {w:World}
theorem laidOut:laidOutB Tryz.prog=true:=by kernel_rfl
theorem TR:ownKnob Tryz.prog.godebug=none:=by kernel_rfl
theorem Lo {b o n:Nat}:Addr.add ⟨b,o,none⟩ n=⟨b,o+n,none⟩:=eI b o n
theorem yW {T:TypeId} (NC:Tryz.prog.readableRec T=true) (hrow:T<Tryz.prog.types.size) {W W':World} {sp':Nat→Bool} {n:Nat} {cs:List Value} {x:DataW H×List MemPlace} (h:DataW.trod enc Tryz.prog W 0 (fun _=>true) true n T cs=some x)
  (J5:∀ p∈x.2,W.sameAt W' p) (hs:∀ p∈x.2,sp' p.block=true):DataW.trod enc Tryz.prog W' 0 sp' true n T cs=some x:=
 DataW.trod_stays (kids_book laidOut NC) (book_sized NC) (fun h=>by cases h) ⟨hrow,book_self T⟩ h J5 hs
theorem pZ {α:Type} [Inhabited α] {Q:α→Prop} {T E:TypeId} {sz:Nat} {cells:α→List Value} (hu:Tryz.prog.underlying T=some (.slice E)) (hsz:Tryz.prog.cellsOf E=sz) (h0:0<sz) (hlen:∀ a,(cells a).length=sz)
  (hE:∀ (n:Nat) (cs:List Value) (x:DataW H×List MemPlace),DataW.trod enc Tryz.prog w 0 (fun _=>true) true n E cs=some x→∃ e:α,cs=cells e∧Q e)
  {n:Nat} {v:Value} {y:DataW H×List MemPlace} (h:DataW.trod enc Tryz.prog w 0 (fun _=>true) true n T [v]=some y):∃ l:List α,Rd w v sz (l.map cells)∧∀ x∈l,Q x:=by
 rcases open_slice hu h with ⟨e,_⟩ | ⟨a,len,cap,m,n',D,Pl,Pe,_,hl,hm,hmm,_,hi⟩
 ·simp only [List.cons.injEq,and_true] at e
  subst e
  exact ⟨[],Rd.nil w sz,fun _ h=>absurd h Zq⟩
 ·simp only [List.cons.injEq,and_true] at Pe
  subst Pe
  rw [hsz] at hi
  have SZ:m=cap:=by simpa using hmm
  have hE:∀ i,i<len→∃ e:α,(∀ j,j<sz→w.cell? (a.add (i*sz+j))=(cells e)[j]?)∧Q e:=fun i iw=>by
   obtain ⟨PE,hc,ht⟩:=hi i (by omega)
   obtain ⟨_,iP,jd⟩:=World.cells?_some hc
   obtain ⟨e,rfl,hq⟩:=hE _ _ _ ht
   exact ⟨e,fun j hj=>by rw [← Go.Deep.add_add];exact jd j hj,hq⟩
  let S:Nat→α:=fun i=>if iw:i<len then (hE i iw).choose else default
  have hS:∀ i j,i<len→j<sz→w.cell? (a.add (i*sz+j))=(cells (S i))[j]?:=fun i j iw hj=>by
   have:=(hE i iw).choose_spec.1 j hj
   simpa only [S,dif_pos iw] using this
  have hQ:∀ i,i<len→Q (S i):=fun i iw=>by
   have:=(hE i iw).choose_spec.2
   simpa only [S,dif_pos iw] using this
  have vi:(((List.range len).map S).map cells).length=len:=by simp
  refine ⟨(List.range len).map S,?_,fun x hx=>by
   obtain ⟨i,hi,rfl⟩:=Zu.1 hx
   exact hQ i (ZT.1 hi)⟩
  by_cases hz:len=0
  ·subst hz
   exact ⟨some a,cap,0,0,by rw [vi],by rw [vi];omega,hm,fun hne=>absurd (Zan.1 vi) hne,fun i r hr=>by
    have:=(Zl.1 hr).1
    rw [vi] at this;omega⟩
  ·obtain ⟨b,off,spot⟩:=a
   have Uh:spot=none:=by
    have h1:=hS 0 0 (by omega) h0
    rw [Zc (by rw [hlen];exact h0)] at h1
    simpa [Addr.add] using World.cell?_spot h1
   subst Uh
   refine ⟨some ⟨b,off,none⟩,cap,b,off,by rw [vi],by rw [vi];exact hl,hm,fun _=>rfl,fun i r hr=>?_⟩
   have iw:i<len:=by
    have:=(Zl.1 hr).1
    rwa [vi] at this
   have Uq:r=cells (S i):=by
    simp [iw] at hr;exact hr.symm
   subst Uq
   refine ⟨hlen _,fun j u hu=>?_⟩
   have hj:j<sz:=by
    have:=(Zl.1 hu).1
    rwa [hlen] at this
   have:=hS i j iw hj
   rw [Lo,hu] at this
   rw [Nat.add_assoc];exact this
theorem mr {α:Type} [Inhabited α] {T E:TypeId} {sz:Nat} {cells:α→List Value} (hu:Tryz.prog.underlying T=some (.slice E)) (hsz:Tryz.prog.cellsOf E=sz) (h0:0<sz) (hlen:∀ a,(cells a).length=sz)
  (hE:∀ (n:Nat) (cs:List Value) (x:DataW H×List MemPlace),DataW.trod enc Tryz.prog w 0 (fun _=>true) true n E cs=some x→∃ e:α,cs=cells e)
  {n:Nat} {v:Value} {y:DataW H×List MemPlace} (h:DataW.trod enc Tryz.prog w 0 (fun _=>true) true n T [v]=some y):∃ l:List α,Rd w v sz (l.map cells):=by
 obtain ⟨l,hl,_⟩:=pZ (Q:=fun _=>True) hu hsz h0 hlen (fun n cs x h=>by obtain ⟨e,he⟩:=hE n cs x h;exact ⟨e,he,trivial⟩) h
 exact ⟨l,hl⟩
theorem I0 {α:Type}:∀ {l:List α},l.length=2→∃ a0 a1,l=[a0,a1]
 | [a0,a1],_=>⟨a0,a1,rfl⟩
theorem IZ {α:Type}:∀ {l:List α},l.length=3→∃ a0 a1 a2,l=[a0,a1,a2]
 | [a0,a1,a2],_=>⟨a0,a1,a2,rfl⟩
theorem TZ {α:Type}:∀ {l:List α},l.length=6→∃ a0 a1 a2 a3 a4 a5,l=[a0,a1,a2,a3,a4,a5]
 | [a0,a1,a2,a3,a4,a5],_=>⟨a0,a1,a2,a3,a4,a5,rfl⟩
theorem VL:Tryz.prog.cellsOf 118=2:=by kernel_rfl
theorem c9:Tryz.prog.cellsOf 9=1:=by kernel_rfl
theorem c3:Tryz.prog.cellsOf 3=1:=by kernel_rfl
theorem K3 {n:Nat} {cs:List Value} {x:DataW H×List MemPlace} (h:DataW.trod enc Tryz.prog w 0 (fun _=>true) true n 118 cs=some x):∃ (a0:ByteArray) (a1:Int),cs=[.string a0,.int .i64 a1]:=by
 obtain ⟨ys,n0,_,_,hlen,Gr,hf⟩:=DataW.trod_struct Tryz.underlying118 h
 rw [VL] at hlen
 have Gq:ys.length=2:=Gr
 obtain ⟨k0,k1,rfl⟩:=I0 hlen
 have f0:DataW.trod enc Tryz.prog w 0 (fun _=>true) true n0 9 (List.take (Tryz.prog.cellsOf 9) (List.drop 0 [k0,k1]))=ys[0]?:=hf 0 _ rfl
 rw [c9,Zc (by omega)] at f0
 obtain ⟨b0,e0,_,_⟩:=DataW.trod_string Tryz.underlying9 f0
 simp at e0
 have f1:DataW.trod enc Tryz.prog w 0 (fun _=>true) true n0 3 (List.take (Tryz.prog.cellsOf 3) (List.drop 1 [k0,k1]))=ys[1]?:=hf 1 _ rfl
 rw [c3,Zc (by omega)] at f1
 obtain ⟨b1,e1,_,_⟩:=DataW.trod_int Tryz.underlying3 f1
 simp at e1
 subst e0 e1
 exact ⟨b0,b1,rfl⟩
theorem c88:Tryz.prog.cellsOf 88=3:=by kernel_rfl
theorem c4:Tryz.prog.cellsOf 4=1:=by kernel_rfl
theorem Ot {n:Nat} {cs:List Value} {x:DataW H×List MemPlace} (h:DataW.trod enc Tryz.prog w 0 (fun _=>true) true n 88 cs=some x):∃ (a0:ByteArray) (a1:Int) (a2:Bool),cs=[.string a0,.int .i64 a1,.bool a2]:=by
 obtain ⟨ys,n0,_,_,hlen,Gr,hf⟩:=DataW.trod_struct Tryz.underlying88 h
 rw [c88] at hlen
 have Gq:ys.length=3:=Gr
 obtain ⟨k0,k1,k2,rfl⟩:=IZ hlen
 have f0:DataW.trod enc Tryz.prog w 0 (fun _=>true) true n0 9 (List.take (Tryz.prog.cellsOf 9) (List.drop 0 [k0,k1,k2]))=ys[0]?:=hf 0 _ rfl
 rw [c9,Zc (by omega)] at f0
 obtain ⟨b0,e0,_,_⟩:=DataW.trod_string Tryz.underlying9 f0
 simp at e0
 have f1:DataW.trod enc Tryz.prog w 0 (fun _=>true) true n0 3 (List.take (Tryz.prog.cellsOf 3) (List.drop 1 [k0,k1,k2]))=ys[1]?:=hf 1 _ rfl
 rw [c3,Zc (by omega)] at f1
 obtain ⟨b1,e1,_,_⟩:=DataW.trod_int Tryz.underlying3 f1
 simp at e1
 have f2:DataW.trod enc Tryz.prog w 0 (fun _=>true) true n0 4 (List.take (Tryz.prog.cellsOf 4) (List.drop 2 [k0,k1,k2]))=ys[2]?:=hf 2 _ rfl
 rw [c4,Zc (by omega)] at f2
 obtain ⟨b2,e2,_⟩:=DataW.trod_bool Tryz.underlying4 f2
 simp at e2
 subst e0 e1 e2
 exact ⟨b0,b1,b2,rfl⟩
theorem VK:Tryz.prog.cellsOf 122=3:=by kernel_rfl
theorem K2 {n:Nat} {cs:List Value} {x:DataW H×List MemPlace} (h:DataW.trod enc Tryz.prog w 0 (fun _=>true) true n 122 cs=some x):∃ (a0:ByteArray) (a1:Int) (a2:Int),cs=[.string a0,.int .i64 a1,.int .i64 a2]:=by
 obtain ⟨ys,n0,_,_,hlen,Gr,hf⟩:=DataW.trod_struct Tryz.underlying122 h
 rw [VK] at hlen
 have Gq:ys.length=3:=Gr
 obtain ⟨k0,k1,k2,rfl⟩:=IZ hlen
 have f0:DataW.trod enc Tryz.prog w 0 (fun _=>true) true n0 9 (List.take (Tryz.prog.cellsOf 9) (List.drop 0 [k0,k1,k2]))=ys[0]?:=hf 0 _ rfl
 rw [c9,Zc (by omega)] at f0
 obtain ⟨b0,e0,_,_⟩:=DataW.trod_string Tryz.underlying9 f0
 simp at e0
 have f1:DataW.trod enc Tryz.prog w 0 (fun _=>true) true n0 3 (List.take (Tryz.prog.cellsOf 3) (List.drop 1 [k0,k1,k2]))=ys[1]?:=hf 1 _ rfl
 rw [c3,Zc (by omega)] at f1
 obtain ⟨b1,e1,_,_⟩:=DataW.trod_int Tryz.underlying3 f1
 simp at e1
 have f2:DataW.trod enc Tryz.prog w 0 (fun _=>true) true n0 3 (List.take (Tryz.prog.cellsOf 3) (List.drop 2 [k0,k1,k2]))=ys[2]?:=hf 2 _ rfl
 rw [c3,Zc (by omega)] at f2
 obtain ⟨b2,e2,_,_⟩:=DataW.trod_int Tryz.underlying3 f2
 simp at e2
 subst e0 e1 e2
 exact ⟨b0,b1,b2,rfl⟩
theorem VJ:Tryz.prog.cellsOf 180=3:=by kernel_rfl
theorem K1 {n:Nat} {cs:List Value} {x:DataW H×List MemPlace} (h:DataW.trod enc Tryz.prog w 0 (fun _=>true) true n 180 cs=some x):∃ (a0:Int) (a1:ByteArray) (a2:ByteArray),cs=[.int .i64 a0,.string a1,.string a2]:=by
 obtain ⟨ys,n0,_,_,hlen,Gr,hf⟩:=DataW.trod_struct Tryz.underlying180 h
 rw [VJ] at hlen
 have Gq:ys.length=3:=Gr
 obtain ⟨k0,k1,k2,rfl⟩:=IZ hlen
 have f0:DataW.trod enc Tryz.prog w 0 (fun _=>true) true n0 3 (List.take (Tryz.prog.cellsOf 3) (List.drop 0 [k0,k1,k2]))=ys[0]?:=hf 0 _ rfl
 rw [c3,Zc (by omega)] at f0
 obtain ⟨b0,e0,_,_⟩:=DataW.trod_int Tryz.underlying3 f0
 simp at e0
 have f1:DataW.trod enc Tryz.prog w 0 (fun _=>true) true n0 9 (List.take (Tryz.prog.cellsOf 9) (List.drop 1 [k0,k1,k2]))=ys[1]?:=hf 1 _ rfl
 rw [c9,Zc (by omega)] at f1
 obtain ⟨b1,e1,_,_⟩:=DataW.trod_string Tryz.underlying9 f1
 simp at e1
 have f2:DataW.trod enc Tryz.prog w 0 (fun _=>true) true n0 9 (List.take (Tryz.prog.cellsOf 9) (List.drop 2 [k0,k1,k2]))=ys[2]?:=hf 2 _ rfl
 rw [c9,Zc (by omega)] at f2
 obtain ⟨b2,e2,_,_⟩:=DataW.trod_string Tryz.underlying9 f2
 simp at e2
 subst e0 e1 e2
 exact ⟨b0,b1,b2,rfl⟩
theorem c27:Tryz.prog.cellsOf 27=6:=by kernel_rfl
theorem c22:Tryz.prog.cellsOf 22=1:=by kernel_rfl
theorem c23:Tryz.prog.cellsOf 23=1:=by kernel_rfl
theorem c24:Tryz.prog.cellsOf 24=1:=by kernel_rfl
theorem c25:Tryz.prog.cellsOf 25=1:=by kernel_rfl
theorem Ov {n:Nat} {cs:List Value} {x:DataW H×List MemPlace} (h:DataW.trod enc Tryz.prog w 0 (fun _=>true) true n 27 cs=some x):∃ (a0:Int) (a1:Int) (a2:Value) (a3:Value) (a4:Value) (a5:Value),cs=[.int .i64 a0,.int .i64 a1,a2,a3,a4,a5]∧(∃ (m:Nat) (y:DataW H×List MemPlace),DataW.trod enc Tryz.prog w 0 (fun _=>true) true m 22 [a2]=some y)∧(∃ (m:Nat) (y:DataW H×List MemPlace),DataW.trod enc Tryz.prog w 0 (fun _=>true) true m 23 [a3]=some y)∧(∃ (m:Nat) (y:DataW H×List MemPlace),DataW.trod enc Tryz.prog w 0 (fun _=>true) true m 24 [a4]=some y)∧(∃ (m:Nat) (y:DataW H×List MemPlace),DataW.trod enc Tryz.prog w 0 (fun _=>true) true m 25 [a5]=some y):=by
 obtain ⟨ys,n0,_,_,hlen,Gr,hf⟩:=DataW.trod_struct Tryz.underlying27 h
 rw [c27] at hlen
 have Gq:ys.length=6:=Gr
 obtain ⟨k0,k1,k2,k3,k4,k5,rfl⟩:=TZ hlen
 have f0:DataW.trod enc Tryz.prog w 0 (fun _=>true) true n0 3 (List.take (Tryz.prog.cellsOf 3) (List.drop 0 [k0,k1,k2,k3,k4,k5]))=ys[0]?:=hf 0 _ rfl
 rw [c3,Zc (by omega)] at f0
 obtain ⟨b0,e0,_,_⟩:=DataW.trod_int Tryz.underlying3 f0
 simp at e0
 have f1:DataW.trod enc Tryz.prog w 0 (fun _=>true) true n0 3 (List.take (Tryz.prog.cellsOf 3) (List.drop 1 [k0,k1,k2,k3,k4,k5]))=ys[1]?:=hf 1 _ rfl
 rw [c3,Zc (by omega)] at f1
 obtain ⟨b1,e1,_,_⟩:=DataW.trod_int Tryz.underlying3 f1
 simp at e1
 have f2:DataW.trod enc Tryz.prog w 0 (fun _=>true) true n0 22 (List.take (Tryz.prog.cellsOf 22) (List.drop 2 [k0,k1,k2,k3,k4,k5]))=ys[2]?:=hf 2 _ rfl
 rw [c22,Zc (by omega)] at f2
 have f3:DataW.trod enc Tryz.prog w 0 (fun _=>true) true n0 23 (List.take (Tryz.prog.cellsOf 23) (List.drop 3 [k0,k1,k2,k3,k4,k5]))=ys[3]?:=hf 3 _ rfl
 rw [c23,Zc (by omega)] at f3
 have f4:DataW.trod enc Tryz.prog w 0 (fun _=>true) true n0 24 (List.take (Tryz.prog.cellsOf 24) (List.drop 4 [k0,k1,k2,k3,k4,k5]))=ys[4]?:=hf 4 _ rfl
 rw [c24,Zc (by omega)] at f4
 have f5:DataW.trod enc Tryz.prog w 0 (fun _=>true) true n0 25 (List.take (Tryz.prog.cellsOf 25) (List.drop 5 [k0,k1,k2,k3,k4,k5]))=ys[5]?:=hf 5 _ rfl
 rw [c25,Zc (by omega)] at f5
 subst e0 e1
 exact ⟨b0,b1,k2,k3,k4,k5,rfl,⟨_,_,by simpa using f2⟩,⟨_,_,by simpa using f3⟩,⟨_,_,by simpa using f4⟩,⟨_,_,by simpa using f5⟩⟩
theorem c69:Tryz.prog.cellsOf 69=2:=by kernel_rfl
theorem c32:Tryz.prog.cellsOf 32=1:=by kernel_rfl
theorem Ou {n:Nat} {cs:List Value} {x:DataW H×List MemPlace} (h:DataW.trod enc Tryz.prog w 0 (fun _=>true) true n 69 cs=some x):∃ (a0:ByteArray) (a1:Value),cs=[.string a0,a1]∧(∃ (m:Nat) (y:DataW H×List MemPlace),DataW.trod enc Tryz.prog w 0 (fun _=>true) true m 32 [a1]=some y):=by
 obtain ⟨ys,n0,_,_,hlen,Gr,hf⟩:=DataW.trod_struct Tryz.underlying69 h
 rw [c69] at hlen
 have Gq:ys.length=2:=Gr
 obtain ⟨k0,k1,rfl⟩:=I0 hlen
 have f0:DataW.trod enc Tryz.prog w 0 (fun _=>true) true n0 9 (List.take (Tryz.prog.cellsOf 9) (List.drop 0 [k0,k1]))=ys[0]?:=hf 0 _ rfl
 rw [c9,Zc (by omega)] at f0
 obtain ⟨b0,e0,_,_⟩:=DataW.trod_string Tryz.underlying9 f0
 simp at e0
 have f1:DataW.trod enc Tryz.prog w 0 (fun _=>true) true n0 32 (List.take (Tryz.prog.cellsOf 32) (List.drop 1 [k0,k1]))=ys[1]?:=hf 1 _ rfl
 rw [c32,Zc (by omega)] at f1
 subst e0
 exact ⟨b0,k1,rfl,⟨_,_,by simpa using f1⟩⟩
theorem VM:Tryz.prog.cellsOf 105=2:=by kernel_rfl
theorem c66:Tryz.prog.cellsOf 66=1:=by kernel_rfl
theorem K4 {n:Nat} {cs:List Value} {x:DataW H×List MemPlace} (h:DataW.trod enc Tryz.prog w 0 (fun _=>true) true n 105 cs=some x):∃ (a0:Int) (a1:Value),cs=[.int .i64 a0,a1]∧(∃ (m:Nat) (y:DataW H×List MemPlace),DataW.trod enc Tryz.prog w 0 (fun _=>true) true m 66 [a1]=some y):=by
 obtain ⟨ys,n0,_,_,hlen,Gr,hf⟩:=DataW.trod_struct Tryz.underlying105 h
 rw [VM] at hlen
 have Gq:ys.length=2:=Gr
 obtain ⟨k0,k1,rfl⟩:=I0 hlen
 have f0:DataW.trod enc Tryz.prog w 0 (fun _=>true) true n0 3 (List.take (Tryz.prog.cellsOf 3) (List.drop 0 [k0,k1]))=ys[0]?:=hf 0 _ rfl
 rw [c3,Zc (by omega)] at f0
 obtain ⟨b0,e0,_,_⟩:=DataW.trod_int Tryz.underlying3 f0
 simp at e0
 have f1:DataW.trod enc Tryz.prog w 0 (fun _=>true) true n0 66 (List.take (Tryz.prog.cellsOf 66) (List.drop 1 [k0,k1]))=ys[1]?:=hf 1 _ rfl
 rw [c66,Zc (by omega)] at f1
 subst e0
 exact ⟨b0,k1,rfl,⟨_,_,by simpa using f1⟩⟩
theorem IB {n:Nat} {v:Value} {x:DataW H×List MemPlace} (h:DataW.trod enc Tryz.prog w 0 (fun _=>true) true n 22 [v]=some x):∃ l,Rd w v 2 (uC l):=by
 haveI:Inhabited Sr:=⟨⟨⟨#[]⟩,0⟩⟩
 exact mr (cells:=Sr.cells) Tryz.underlying22 VL (by decide) (fun _=>rfl) (fun _ _ _ h=>by obtain ⟨a,b,rfl⟩:=K3 h;exact ⟨⟨a,b⟩,rfl⟩) h
theorem ID {n:Nat} {v:Value} {x:DataW H×List MemPlace} (h:DataW.trod enc Tryz.prog w 0 (fun _=>true) true n 23 [v]=some x):∃ l,Rd w v 3 (ue l):=by
 haveI:Inhabited De:=⟨⟨⟨#[]⟩,0,false⟩⟩
 exact mr (cells:=De.cells) Tryz.underlying23 c88 (by decide) (fun _=>rfl) (fun _ _ _ h=>by obtain ⟨a,b,c,rfl⟩:=Ot h;exact ⟨⟨a,b,c⟩,rfl⟩) h
theorem Iz {n:Nat} {v:Value} {x:DataW H×List MemPlace} (h:DataW.trod enc Tryz.prog w 0 (fun _=>true) true n 24 [v]=some x):∃ l,Rd w v 3 (tK l):=by
 haveI:Inhabited Ti:=⟨⟨⟨#[]⟩,0,0⟩⟩
 exact mr (cells:=Ti.cells) Tryz.underlying24 VK (by decide) (fun _=>rfl) (fun _ _ _ h=>by obtain ⟨a,b,c,rfl⟩:=K2 h;exact ⟨⟨a,b,c⟩,rfl⟩) h
theorem IC {n:Nat} {v:Value} {x:DataW H×List MemPlace} (h:DataW.trod enc Tryz.prog w 0 (fun _=>true) true n 25 [v]=some x):∃ l,Rd w v 3 (sJ l):=by
 haveI:Inhabited Po:=⟨⟨0,⟨#[]⟩,⟨#[]⟩⟩⟩
 exact mr (cells:=Po.cells) Tryz.underlying25 VJ (by decide) (fun _=>rfl) (fun _ _ _ h=>by obtain ⟨a,b,c,rfl⟩:=K1 h;exact ⟨⟨a,b,c⟩,rfl⟩) h
theorem IA {n:Nat} {v:Value} {x:DataW H×List MemPlace} (h:DataW.trod enc Tryz.prog w 0 (fun _=>true) true n 32 [v]=some x):∃ l,Rd w v 1 (iI l):=by
 haveI:Inhabited ByteArray:=⟨⟨#[]⟩⟩
 exact mr (cells:=(fun s:ByteArray=>[Value.string s])) Tryz.underlying32 c9 (by decide) (fun _=>rfl) (fun _ _ _ h=>by obtain ⟨a,rfl,_⟩:=DataW.trod_string Tryz.underlying9 h;exact ⟨a,rfl⟩) h
theorem sK {n:Nat} {cs:List Value} {x:DataW H×List MemPlace} (h:DataW.trod enc Tryz.prog w 0 (fun _=>true) true n 27 cs=some x):∃ (r:Ro) (s d t p:Value),cs=[.int .i64 r.lv,.int .i64 r.ma,s,d,t,p]∧RR w r s d t p:=by
 obtain ⟨a,b,s,d,t,p,rfl,⟨_,_,h1⟩,⟨_,_,h2⟩,⟨_,_,h3⟩,⟨_,_,h4⟩⟩:=Ov h
 obtain ⟨l1,r1⟩:=IB h1
 obtain ⟨l2,r2⟩:=ID h2
 obtain ⟨l3,r3⟩:=Iz h3
 obtain ⟨l4,r4⟩:=IC h4
 exact ⟨⟨a,b,l1,l2,l3,l4⟩,s,d,t,p,rfl,r1,r2,r3,r4⟩
theorem uR {n:Nat} {v:Value} {x:DataW H×List MemPlace} (h:DataW.trod enc Tryz.prog w 0 (fun _=>true) true n 66 [v]=some x):∃ l,Rd w v 2 (gN l)∧sx w l:=by
 haveI:Inhabited eL:=⟨⟨⟨⟨#[]⟩,[]⟩,.slice none 0 0⟩⟩
 exact pZ (α:=eL) (Q:=fun x=>Rd w x.v 1 (iI x.tk.so)) (cells:=eL.cells) Tryz.underlying66 c69 (by decide) (fun _=>rfl) (fun _ _ _ h=>by
  obtain ⟨a,b,rfl,⟨_,_,h1⟩⟩:=Ou h
  obtain ⟨l,hl⟩:=IA h1
  exact ⟨⟨⟨a,l⟩,b⟩,rfl,hl⟩) h
theorem Bz {n:Nat} {v:Value} {x:DataW H×List MemPlace} (h:DataW.trod enc Tryz.prog w 0 (fun _=>true) true n 93 [v]=some x):∃ l,Rd w v 2 (lf l)∧wX w l:=by
 haveI:Inhabited gG:=⟨⟨0,[],.slice none 0 0⟩⟩
 exact pZ (α:=gG) (Q:=fun x=>Rd w x.v 2 (gN x.tk)∧sx w x.tk) (cells:=gG.cells) Tryz.underlying93 VM (by decide) (fun _=>rfl) (fun _ _ _ h=>by
  obtain ⟨a,b,rfl,⟨_,_,h1⟩⟩:=K4 h
  obtain ⟨l,hl⟩:=uR h1
  exact ⟨⟨a,l,b⟩,rfl,hl⟩) h
end
end Go.Proofs.A1
namespace Go.Proofs.YteonnodafmegaaaGreatDoor
open Go Go.SL Go.Proofs.A1 Go.ChangeShapes Go.WideShapes Go.ChangeAt Go.RowKit Go.Joins
section
variable {H:Type} {enc:TypeId×Value→H} {P:Program}
theorem pF {f:Func} {s:ChangeSpec} {apart fresh handsOn again:Bool} {W W':World} {args:Array Value} {v:Value} {ds gs:List (DataW H)} {before pa pv:List MemPlace}
  (hW:DataW.Whole enc P f.params.toList s.vars apart W args.toList ds gs before)
  (Up:∀ (b:Nat) (sp:Nat→Bool) (hd:Bool),DataW.TrodAll enc P W' b sp hd f.resultTypes.toList (v.resultList f.resultTypes.size) (s.fn H (ds++gs)).results [])
  (yj:∀ sp:Nat→Bool,(∀ p∈before,sp p.block=true)→DataW.TrodAll enc P W' 0 sp true f.params.toList args.toList (s.fn H (ds++gs)).args pa)
  (O0:∀ sp:Nat→Bool,(∀ p∈before,sp p.block=true)→DataW.TrodVars enc P W' sp s.vars (s.fn H (ds++gs)).vars pv)
  (hps:before=pa++pv) (hb:Below W.heap.size W W')
  (eG:∀ (j:Nat) (t:TypeId) (r:Value),f.resultTypes[j]? = some t→(v.resultList f.resultTypes.size)[j]? = some r→Value.okWide P W' .any 0 t r) :
  s.post enc P f apart fresh handsOn again W args v W':=by
 have aK:∀ p∈before,p.block<W.heap.size:=fun p hp=>hW.lt p hp
 have hold:∀ p∈before,(fun b=>decide (b<W.heap.size)) p.block=true:=fun p hp=>by simpa using aK p hp
 refine ⟨ds,gs,before,[],pa,pv,hW,Up _ _ _,yj _ hold,O0 _ hold,World.keptBut_mono (fun p hp=>⟨hp,?_⟩) (hb.frame (·∈before)),fun _=>?_⟩
 ·rw [hps,Zx] at hp
  exact Or.inr hp
 ·obtain ⟨_,_,_,_,_,hz,hn⟩:=hW
  refine ⟨eG,_,_,([]++pa)++pv,⟨[]++pa,pv,trodAll_append (yj _ (fun _ _=>rfl)) (Up _ _ _),O0 _ (fun _ _=>rfl),rfl,?_,?_⟩,?_⟩
  ·intro b off hp
   have oC:MemPlace.cell b off∈before:=by rw [hps];simpa using hp
   rw [hb.frozen (aK _ oC)]
   exact hz b off oC
  ·intro ha
   have:=hn ha
   rw [hps] at this
   simpa using this
  ·intro p hp _
   rw [hps]
   simpa using hp
end
end Go.Proofs.YteonnodafmegaaaGreatDoor
namespace Go.Proofs.A1
open Go Go.SL
theorem Fo {r:Ro} {s d t p:Value} (o:ByteArray) {w:World} (h:RR w r s d t p):aj Tryz.prog 130 [RA r s d t p,.string o] w (.int .i64 (bE (cC r) o)):=by
 have h1:=Rd.one h.sr
 have h2:=Rd.one h.de
 have h3:=Rd.one h.ti
 have h4:=Rd.one h.po
 have hs:=h.sr
 obtain ⟨a,cp,b,o',rfl,c7,bQ,ha,hc⟩:=hs
 rw [cE] at *
 unfold maxLen at bQ
 unfold RA
 refine ah Tryz.func130 rfl rfl ?_
 refine Jr<|Jy rfl rfl fun _ _=>Ja rfl<|Jn<|Jq<|Jr<|Ja rfl<|Jn<|J0 ?_
 rename_i b1 sX
 refine aX (ι:=Nat) (fun k=>k≤r.sr.length∧∀ j (hj:j<(cC r).length),j<k→(cC r)[j]≠o) (fun k=>[(5,.int .i64 (k:Nat)),(2,.pointer (some ⟨b1,0,none⟩)),(1,.string o)]) (fun _=>[JQ b1 r (.slice a r.sr.length cp) d t p]) (fun k=>r.sr.length-k) ?_ ?_
 ·apply aI (0:Nat) ⟨Zi _,fun j _ hj=>absurd hj (ZO _)⟩
  case hs1=>exact cd
  case ht=>(try simp only [Ze,Zf,Za]);exact .cons .here .nil
 rintro k ⟨hk,hf⟩
 have nD:(cC r).length=r.sr.length:=by unfold cC;rw [Zd]
 by_cases aK:k<r.sr.length
 ·have cB:=ha (iJ aK)
  have aC:=(hc k _ (fQ aK)).2
  have hx:(cC r)[k]'(by omega)=(r.sr[k]).nm:=by unfold cC;rw [Z1]
  have c0:w.cell? ⟨b,o'+k*2,none⟩=some (.string (r.sr[k]).nm):=aC 0 _ rfl
  generalize (r.sr[k]).nm=x at hx c0
  (refine Jq<|Jr<|Jv rfl<|bP rfl rfl ae<|JL rfl .here rfl<|JI rfl<|JA rfl<|Jn<|Jd rfl fun ar=>Jk<|Jq<|J0<|Jr<|bP rfl rfl ae<|JL rfl .here rfl<|Jv rfl<|ab (fG cB ar) rfl<|bP rfl rfl ae<|ab (ag (.of rfl) (At.base c0 rfl)) rfl<|Jv rfl<|ab (dS (.of rfl) (.of rfl)) rfl<|Jn<|fP rfl (fun ar=>?_) fun ar=>?_;refine Jr<|Jv rfl<|Ja rfl<|Jn<|Je<|Jm<|Jh<|Jh<|Jm<|Jh<|JT ?_;rotate_left;refine Jw<|Jj<|Jt<|Jg<|Jv rfl<|JB rfl (by omega)<|Ja rfl<|Jn ?_;rotate_right)
  ·have sT:x=o:=ar
   rw [qp (i:=k) (by omega) (hx.trans sT) (fun j hj=>hf j (by omega) hj)]
  ·have sT:¬ x=o:=ar
   apply aJ (k+1) ⟨(show k+1≤r.sr.length from aK),fun j hj Kg=>by
    by_cases e:j=k
    ·subst e;rw [hx];exact sT
    ·exact hf j hj (by omega)⟩ (show r.sr.length-(k+1)<r.sr.length-k by omega)
   case hs1=>exact cd
   case ht=>(try simp only [Ze,Zf,Za]);exact .cons .here .nil
 ·obtain rfl:k=r.sr.length:=by omega
  rw [z6 fun j hj=>hf j hj (by omega)]
  (refine Jq<|Jr<|Jv rfl<|bP rfl rfl ae<|JL rfl .here rfl<|JI rfl<|JA rfl<|Jn<|Jc rfl fun ar=>Jp<|Jl<|Jo<|Jt<|Jr<|Ja rfl<|Jn<|Je<|JT ?_)
  rfl
theorem Ab {r:Ro} {s d t p:Value} (o:ByteArray) {w:World} (h:RR w r s d t p):aj Tryz.prog 56 [RA r s d t p,.string o] w (.int .i64 (bE (cy r) o)):=by
 have h1:=Rd.one h.sr
 have h2:=Rd.one h.de
 have h3:=Rd.one h.ti
 have h4:=Rd.one h.po
 have hs:=h.de
 obtain ⟨a,cp,b,o',rfl,c7,bQ,ha,hc⟩:=hs
 rw [cg] at *
 unfold maxLen at bQ
 unfold RA
 refine ah Tryz.func56 rfl rfl ?_
 refine Jr<|Jy rfl rfl fun _ _=>Ja rfl<|Jn<|Jq<|Jr<|Ja rfl<|Jn<|J0 ?_
 rename_i b1 sX
 refine aX (ι:=Nat) (fun k=>k≤r.de.length∧∀ j (hj:j<(cy r).length),j<k→(cy r)[j]≠o) (fun k=>[(5,.int .i64 (k:Nat)),(2,.pointer (some ⟨b1,0,none⟩)),(1,.string o)]) (fun _=>[JQ b1 r s (.slice a r.de.length cp) t p]) (fun k=>r.de.length-k) ?_ ?_
 ·apply aI (0:Nat) ⟨Zi _,fun j _ hj=>absurd hj (ZO _)⟩
  case hs1=>exact cd
  case ht=>(try simp only [Ze,Zf,Za]);exact .cons .here .nil
 rintro k ⟨hk,hf⟩
 have nD:(cy r).length=r.de.length:=by unfold cy;rw [Zd]
 by_cases aK:k<r.de.length
 ·have cB:=ha (gJ aK)
  have aC:=(hc k _ (fj aK)).2
  have hx:(cy r)[k]'(by omega)=(r.de[k]).nm:=by unfold cy;rw [Z1]
  have c0:w.cell? ⟨b,o'+k*3,none⟩=some (.string (r.de[k]).nm):=aC 0 _ rfl
  generalize (r.de[k]).nm=x at hx c0
  (refine Jq<|Jr<|Jv rfl<|bP rfl rfl ae<|JL rfl .here rfl<|JI rfl<|JA rfl<|Jn<|Jd rfl fun ar=>Jk<|Jq<|J0<|Jr<|bP rfl rfl ae<|JL rfl .here rfl<|Jv rfl<|ab (fG cB ar) rfl<|bP rfl rfl ae<|ab (ag (.of rfl) (At.base c0 rfl)) rfl<|Jv rfl<|ab (dS (.of rfl) (.of rfl)) rfl<|Jn<|fP rfl (fun ar=>?_) fun ar=>?_;refine Jr<|Jv rfl<|Ja rfl<|Jn<|Je<|Jm<|Jh<|Jh<|Jm<|Jh<|JT ?_;rotate_left;refine Jw<|Jj<|Jt<|Jg<|Jv rfl<|JB rfl (by omega)<|Ja rfl<|Jn ?_;rotate_right)
  ·have sT:x=o:=ar
   rw [qp (i:=k) (by omega) (hx.trans sT) (fun j hj=>hf j (by omega) hj)]
  ·have sT:¬ x=o:=ar
   apply aJ (k+1) ⟨(show k+1≤r.de.length from aK),fun j hj Kg=>by
    by_cases e:j=k
    ·subst e;rw [hx];exact sT
    ·exact hf j hj (by omega)⟩ (show r.de.length-(k+1)<r.de.length-k by omega)
   case hs1=>exact cd
   case ht=>(try simp only [Ze,Zf,Za]);exact .cons .here .nil
 ·obtain rfl:k=r.de.length:=by omega
  rw [z6 fun j hj=>hf j hj (by omega)]
  (refine Jq<|Jr<|Jv rfl<|bP rfl rfl ae<|JL rfl .here rfl<|JI rfl<|JA rfl<|Jn<|Jc rfl fun ar=>Jp<|Jl<|Jo<|Jt<|Jr<|Ja rfl<|Jn<|Je<|JT ?_)
  rfl
theorem Aa {r:Ro} {s d t p:Value} (o:ByteArray) {w:World} (h:RR w r s d t p):aj Tryz.prog 60 [RA r s d t p,.string o] w (.int .i64 (bE (cU r) o)):=by
 have h1:=Rd.one h.sr
 have h2:=Rd.one h.de
 have h3:=Rd.one h.ti
 have h4:=Rd.one h.po
 have hs:=h.ti
 obtain ⟨a,cp,b,o',rfl,c7,bQ,ha,hc⟩:=hs
 rw [bY] at *
 unfold maxLen at bQ
 unfold RA
 refine ah Tryz.func60 rfl rfl ?_
 refine Jr<|Jy rfl rfl fun _ _=>Ja rfl<|Jn<|Jq<|Jr<|Ja rfl<|Jn<|J0 ?_
 rename_i b1 sX
 refine aX (ι:=Nat) (fun k=>k≤r.ti.length∧∀ j (hj:j<(cU r).length),j<k→(cU r)[j]≠o) (fun k=>[(5,.int .i64 (k:Nat)),(2,.pointer (some ⟨b1,0,none⟩)),(1,.string o)]) (fun _=>[JQ b1 r s d (.slice a r.ti.length cp) p]) (fun k=>r.ti.length-k) ?_ ?_
 ·apply aI (0:Nat) ⟨Zi _,fun j _ hj=>absurd hj (ZO _)⟩
  case hs1=>exact cd
  case ht=>(try simp only [Ze,Zf,Za]);exact .cons .here .nil
 rintro k ⟨hk,hf⟩
 have nD:(cU r).length=r.ti.length:=by unfold cU;rw [Zd]
 by_cases aK:k<r.ti.length
 ·have cB:=ha (fq aK)
  have aC:=(hc k _ (eB aK)).2
  have hx:(cU r)[k]'(by omega)=(r.ti[k]).nm:=by unfold cU;rw [Z1]
  have c0:w.cell? ⟨b,o'+k*3,none⟩=some (.string (r.ti[k]).nm):=aC 0 _ rfl
  generalize (r.ti[k]).nm=x at hx c0
  (refine Jq<|Jr<|Jv rfl<|bP rfl rfl ae<|JL rfl .here rfl<|JI rfl<|JA rfl<|Jn<|Jd rfl fun ar=>Jk<|Jq<|J0<|Jr<|bP rfl rfl ae<|JL rfl .here rfl<|Jv rfl<|ab (fG cB ar) rfl<|bP rfl rfl ae<|ab (ag (.of rfl) (At.base c0 rfl)) rfl<|Jv rfl<|ab (dS (.of rfl) (.of rfl)) rfl<|Jn<|fP rfl (fun ar=>?_) fun ar=>?_;refine Jr<|Jv rfl<|Ja rfl<|Jn<|Je<|Jm<|Jh<|Jh<|Jm<|Jh<|JT ?_;rotate_left;refine Jw<|Jj<|Jt<|Jg<|Jv rfl<|JB rfl (by omega)<|Ja rfl<|Jn ?_;rotate_right)
  ·have sT:x=o:=ar
   rw [qp (i:=k) (by omega) (hx.trans sT) (fun j hj=>hf j (by omega) hj)]
  ·have sT:¬ x=o:=ar
   apply aJ (k+1) ⟨(show k+1≤r.ti.length from aK),fun j hj Kg=>by
    by_cases e:j=k
    ·subst e;rw [hx];exact sT
    ·exact hf j hj (by omega)⟩ (show r.ti.length-(k+1)<r.ti.length-k by omega)
   case hs1=>exact cd
   case ht=>(try simp only [Ze,Zf,Za]);exact .cons .here .nil
 ·obtain rfl:k=r.ti.length:=by omega
  rw [z6 fun j hj=>hf j hj (by omega)]
  (refine Jq<|Jr<|Jv rfl<|bP rfl rfl ae<|JL rfl .here rfl<|JI rfl<|JA rfl<|Jn<|Jc rfl fun ar=>Jp<|Jl<|Jo<|Jt<|Jr<|Ja rfl<|Jn<|Je<|JT ?_)
  rfl
theorem E3 {r:Ro} {s d t p:Value} (v:Int) (o:ByteArray) {w:World} (h:RR w r s d t p):aj Tryz.prog 133 [RA r s d t p,.int .i64 v,.string o] w (.string ((ez r.po v o).getD ⟨#[]⟩)):=by
 have h1:=Rd.one h.sr
 have h2:=Rd.one h.de
 have h3:=Rd.one h.ti
 have h4:=Rd.one h.po
 have hs:=h.po
 obtain ⟨a,cp,b,o',rfl,c7,bQ,ha,hc⟩:=hs
 rw [cT] at *
 unfold maxLen at bQ
 unfold RA
 refine ah Tryz.func133 rfl rfl ?_
 refine Jr<|Jy rfl rfl fun _ _=>Ja rfl<|Jn<|Jq<|Jr<|Ja rfl<|Jn<|J0 ?_
 rename_i b1 sX
 refine aX (ι:=Nat) (fun k=>k≤r.po.length∧ez r.po v o=((r.po.drop k).find? (Ee v o)).map Po.ip) (fun k=>[(7,.int .i64 (k:Nat)),(3,.pointer (some ⟨b1,0,none⟩)),(1,.int .i64 v),(2,.string o)]) (fun _=>[JQ b1 r s d t (.slice a r.po.length cp)]) (fun k=>r.po.length-k) ?_ ?_
 ·apply aI (0:Nat) ⟨Zi _,rfl⟩
  case hs1=>exact cd
  case ht=>(try simp only [Ze,Zf,Za]);exact .cons .here .nil
 rintro k ⟨hk,hf⟩
 by_cases aK:k<r.po.length
 ·have cB:=ha (kg aK)
  have aC:=(hc k _ (iq aK)).2
  rw [Zw aK] at hf
  have c0:w.cell? ⟨b,o'+k*3,none⟩=some (.int .i64 (r.po[k]).lv):=aC 0 _ rfl
  have c1:w.cell? ⟨b,o'+k*3+1,none⟩=some (.string (r.po[k]).ou):=aC 1 _ rfl
  have c2:w.cell? ⟨b,o'+k*3+2,none⟩=some (.string (r.po[k]).ip):=aC 2 _ rfl
  generalize r.po[k]=x at hf c0 c1 c2
  (refine Jq<|Jr<|Jv rfl<|bP rfl rfl ae<|JL rfl .here rfl<|JI rfl<|JA rfl<|Jn<|Jd rfl fun ar=>Jk<|Jq<|J0<|Jr<|bP rfl rfl ae<|JL rfl .here rfl<|Jv rfl<|ab (fG cB ar) rfl<|bP rfl rfl ae<|ab (ag (.of rfl) (At.base c0 rfl)) rfl<|Jv rfl<|JC rfl<|Jv rfl<|aA rfl rfl inferInstance (fun hg bB=>(ao (.of rfl) ae)) rfl<|aA rfl rfl inferInstance (fun hg bB=>(ag (.bI hg rfl) (At.lit .here rfl))) rfl<|gr rfl rfl rfl rfl<|aA rfl rfl inferInstance (fun hg bB=>(az (.bI hg rfl) (.bI hg rfl) cB (by omega) ar bj)) rfl<|aA rfl rfl inferInstance (fun hg bB=>(ao (.bI hg rfl) ae)) rfl<|aA rfl rfl inferInstance (fun hg bB=>(ag (.bI hg rfl) (At.base c1 rfl))) rfl<|gr rfl rfl rfl rfl<|aA rfl rfl inferInstance (fun hg bB=>(dS (.bI hg rfl) (.bI hg rfl))) rfl<|ab (cz (.of rfl) rfl) rfl<|Jn<|nF rfl (fun ar=>?_) fun ar=>?_;refine Jr<|bP rfl rfl ae<|JL rfl .here rfl<|Jv rfl<|ab (az (.of rfl) (.of rfl) cB (by omega) (by assumption) bj) rfl<|bP rfl rfl ae<|ab (ag (.of rfl) (At.base c2 rfl)) rfl<|Ja rfl<|Jn<|Je<|Jm<|Jh<|Jh<|Jm<|Jh<|JT ?_;rotate_left;refine Jw<|Jj<|Jt<|Jg<|Jv rfl<|JB rfl (by omega)<|Ja rfl<|Jn ?_;rotate_right)
  ·rw [hf,List.find?_cons_of_pos (by unfold Ee;simp only [Zm,decide_eq_true_eq];exact ar)];rfl
  ·apply aJ (k+1) ⟨(show k+1≤r.po.length from aK),by rw [hf,List.find?_cons_of_neg (by unfold Ee;simp only [Zm,decide_eq_true_eq];exact fun q=>ar.elim (fun z=>z q.1) (fun z=>z q.2))]⟩ (show r.po.length-(k+1)<r.po.length-k by omega)
   case hs1=>exact cd
   case ht=>(try simp only [Ze,Zf,Za]);exact .cons .here .nil
 ·obtain rfl:k=r.po.length:=by omega
  rw [Z6] at hf
  rw [hf]
  (refine Jq<|Jr<|Jv rfl<|bP rfl rfl ae<|JL rfl .here rfl<|JI rfl<|JA rfl<|Jn<|Jc rfl fun ar=>Jp<|Jl<|Jo<|Jt<|Jr<|Ja rfl<|Jn<|Je<|JT ?_)
  rfl
theorem P1 {r:Ro} {s d t p:Value} (v:Int) (o:ByteArray) {w:World} (h:RR w r s d t p):aj Tryz.prog 233 [RA r s d t p,.int .i64 v,.string o] w (.bool (ny r.po v o)):=by
 have h1:=Rd.one h.sr
 have h2:=Rd.one h.de
 have h3:=Rd.one h.ti
 have h4:=Rd.one h.po
 have hs:=h.po
 obtain ⟨a,cp,b,o',rfl,c7,bQ,ha,hc⟩:=hs
 rw [cT] at *
 unfold maxLen at bQ
 unfold RA
 refine ah Tryz.func233 rfl rfl ?_
 refine Jr<|Jy rfl rfl fun _ _=>Ja rfl<|Jn<|Jq<|Jr<|Ja rfl<|Jn<|J0 ?_
 rename_i b1 sX
 refine aX (ι:=Nat) (fun k=>k≤r.po.length∧ny r.po v o=(r.po.drop k).any (zK v o)) (fun k=>[(7,.int .i64 (k:Nat)),(3,.pointer (some ⟨b1,0,none⟩)),(1,.int .i64 v),(2,.string o)]) (fun _=>[JQ b1 r s d t (.slice a r.po.length cp)]) (fun k=>r.po.length-k) ?_ ?_
 ·apply aI (0:Nat) ⟨Zi _,rfl⟩
  case hs1=>exact cd
  case ht=>(try simp only [Ze,Zf,Za]);exact .cons .here .nil
 rintro k ⟨hk,hf⟩
 by_cases aK:k<r.po.length
 ·have cB:=ha (kg aK)
  have aC:=(hc k _ (iq aK)).2
  rw [Zw aK] at hf
  have c0:w.cell? ⟨b,o'+k*3,none⟩=some (.int .i64 (r.po[k]).lv):=aC 0 _ rfl
  have c1:w.cell? ⟨b,o'+k*3+1,none⟩=some (.string (r.po[k]).ou):=aC 1 _ rfl
  have c2:w.cell? ⟨b,o'+k*3+2,none⟩=some (.string (r.po[k]).ip):=aC 2 _ rfl
  generalize r.po[k]=x at hf c0 c1 c2
  (refine Jq<|Jr<|Jv rfl<|bP rfl rfl ae<|JL rfl .here rfl<|JI rfl<|JA rfl<|Jn<|Jd rfl fun ar=>Jk<|Jq<|J0<|Jr<|bP rfl rfl ae<|JL rfl .here rfl<|Jv rfl<|ab (fG cB ar) rfl<|bP rfl rfl ae<|ab (ag (.of rfl) (At.base c0 rfl)) rfl<|Jv rfl<|JC rfl<|Jv rfl<|aA rfl rfl inferInstance (fun hg bB=>(ao (.of rfl) ae)) rfl<|aA rfl rfl inferInstance (fun hg bB=>(ag (.bI hg rfl) (At.lit .here rfl))) rfl<|gr rfl rfl rfl rfl<|aA rfl rfl inferInstance (fun hg bB=>(az (.bI hg rfl) (.bI hg rfl) cB (by omega) ar bj)) rfl<|aA rfl rfl inferInstance (fun hg bB=>(ao (.bI hg rfl) ae)) rfl<|aA rfl rfl inferInstance (fun hg bB=>(ag (.bI hg rfl) (At.base c2 rfl))) rfl<|gr rfl rfl rfl rfl<|aA rfl rfl inferInstance (fun hg bB=>(dS (.bI hg rfl) (.bI hg rfl))) rfl<|ab (cz (.of rfl) rfl) rfl<|Jn<|nF rfl (fun ar=>?_) fun ar=>?_;refine Jr<|Ja rfl<|Jn<|Je<|Jm<|Jh<|Jh<|Jm<|Jh<|JT ?_;rotate_left;refine Jw<|Jj<|Jt<|Jg<|Jv rfl<|JB rfl (by omega)<|Ja rfl<|Jn ?_;rotate_right)
  ·rw [hf,List.any_cons,show zK v o x=true by unfold zK;simp only [Zm,decide_eq_true_eq];exact ar];rfl
  ·apply aJ (k+1) ⟨(show k+1≤r.po.length from aK),by rw [hf,List.any_cons,show zK v o x=false by unfold zK;rw [← Zau];simp only [Zm,decide_eq_true_eq];exact fun q=>ar.elim (fun z=>z q.1) (fun z=>z q.2),Bool.false_or]⟩ (show r.po.length-(k+1)<r.po.length-k by omega)
   case hs1=>exact cd
   case ht=>(try simp only [Ze,Zf,Za]);exact .cons .here .nil
 ·obtain rfl:k=r.po.length:=by omega
  rw [Z6] at hf
  rw [hf]
  (refine Jq<|Jr<|Jv rfl<|bP rfl rfl ae<|JL rfl .here rfl<|JI rfl<|JA rfl<|Jn<|Jc rfl fun ar=>Jp<|Jl<|Jo<|Jt<|Jr<|Ja rfl<|Jn<|Je<|JT ?_)
  rfl
theorem ru {l:List ByteArray} {s:ByteArray} (h:0≤bE l s):∃ k:Nat,bE l s=k∧k<l.length:=⟨(bE l s).toNat,by omega,(fE h).1⟩
theorem QK {r:Ro} {s:ByteArray} {k:Nat} (e:bE (cy r) s=k) (hk:k<r.de.length):kq r s=(r.de[k]).mx:=by
 unfold kq
 rw [if_pos (by omega),e,ZG,Zk,Zc hk];rfl
theorem QI {r:Ro} {s:ByteArray} {k:Nat} (h:¬ 0≤bE (cy r) s) (e:bE (cU r) s=k) (hk:k<r.ti.length):kq r s=(r.ti[k]).fr:=by
 unfold kq
 rw [if_neg h,if_pos (by omega),e,ZG,Zk,Zc hk];rfl
theorem QJ {r:Ro} {s:ByteArray} (h:¬ 0≤bE (cy r) s) (h2:¬ 0≤bE (cU r) s):kq r s = -1:=by
 unfold kq;rw [if_neg h,if_neg h2]
theorem QX {r:Ro} {s:ByteArray} {k:Nat} (e:bE (cC r) s=k) (hk:k<r.sr.length):jZ r s=(r.sr[k]).mx:=by
 unfold jZ
 rw [if_pos (by omega),e,ZG,Zk,Zc hk];rfl
theorem QW {r:Ro} {s:ByteArray} {k:Nat} (h:¬ 0≤bE (cC r) s) (e:bE (cU r) s=k) (hk:k<r.ti.length):jZ r s=(r.ti[k]).to:=by
 unfold jZ
 rw [if_neg h,if_pos (by omega),e,ZG,Zk,Zc hk];rfl
theorem QY {r:Ro} {s:ByteArray} (h:¬ 0≤bE (cC r) s) (h2:¬ 0≤bE (cU r) s):jZ r s = -1:=by
 unfold jZ;rw [if_neg h,if_neg h2]
theorem It {r:Ro} {s d t p:Value} (o:ByteArray) {w:World} (h:RR w r s d t p):aj Tryz.prog 232 [RA r s d t p,.string o] w (.int .i64 (kq r o)):=by
 have h1:=Rd.one h.sr
 have h2:=Rd.one h.de
 have h3:=Rd.one h.ti
 have h4:=Rd.one h.po
 have hA:∀ w',aH [] w w'→aj Tryz.prog 56 [.agg #[.int .i64 r.lv,.int .i64 r.ma,s,d,t,p],.string o] w' (.int .i64 (bE (cy r) o)):=fun w' hk=>Ab o (h.keeps hk)
 have hB:∀ w',aH [] w w'→aj Tryz.prog 60 [.agg #[.int .i64 r.lv,.int .i64 r.ma,s,d,t,p],.string o] w' (.int .i64 (bE (cU r) o)):=fun w' hk=>Aa o (h.keeps hk)
 have n1:(cy r).length=r.de.length:=by unfold cy;rw [Zd]
 have n2:(cU r).length=r.ti.length:=by unfold cU;rw [Zd]
 have hs:=h.de
 obtain ⟨a,cp,b,o',rfl,c7,bQ,ha,hc⟩:=hs
 rw [cg] at *
 have ht:=h.ti
 obtain ⟨a2,nN,b2,o2,rfl,ku,fb,jz,j6⟩:=ht
 rw [bY] at *
 unfold maxLen at bQ fb
 by_cases g1:0≤bE (cy r) o
 ·obtain ⟨k,e,hk⟩:=ru g1
  rw [n1] at hk
  rw [QK e hk]
  rw [e] at hA
  have cB:=ha (gJ hk)
  have aC:=(hc k _ (fj hk)).2
  have c0:w.cell? ⟨b,o'+k*3+1,none⟩=some (.int .i64 (r.de[k]).mx):=aC 1 _ rfl
  unfold RA
  refine ah Tryz.func232 rfl rfl ?_
  (refine Jr<|Jy rfl rfl fun _ _=>Ja rfl<|Jn<|Jq<|Jr<|ab (cL .here) rfl<|Jv rfl<|ai bd rfl (fun w' aB=>(hA w' (Mem.keeps aB)))<|Ja rfl<|Ji<|Jv rfl<|JG rfl<|Jn<|Jd rfl fun ar=>Jr<|bP rfl rfl ae<|JL rfl .here rfl<|Jv rfl<|ab (az (.of rfl) (.of rfl) cB ar (by omega) bj) rfl<|bP rfl rfl ae<|ab (ag (.of rfl) (At.base c0 rfl)) rfl<|Ja rfl<|Jn<|Ju<|JT ?_)
  rfl
 by_cases g2:0≤bE (cU r) o
 ·obtain ⟨k,e,hk⟩:=ru g2
  rw [n2] at hk
  rw [QI g1 e hk]
  rw [e] at hB
  have cB:=jz (fq hk)
  have aC:=(j6 k _ (eB hk)).2
  have c0:w.cell? ⟨b2,o2+k*3+1,none⟩=some (.int .i64 (r.ti[k]).fr):=aC 1 _ rfl
  unfold RA
  refine ah Tryz.func232 rfl rfl ?_
  (refine Jr<|Jy rfl rfl fun _ _=>Ja rfl<|Jn<|Jq<|Jr<|ab (cL .here) rfl<|Jv rfl<|ai bd rfl (fun w' aB=>(hA w' (Mem.keeps aB)))<|Ja rfl<|Ji<|Jv rfl<|JG rfl<|Jn<|Jc rfl fun ar=>Jk<|Jq<|Jr<|ab (cL .here) rfl<|Jv rfl<|ai bd rfl (fun w' aB=>(hB w' (Mem.keeps aB)))<|Ja rfl<|Ji<|Jv rfl<|JG rfl<|Jn<|Jd rfl fun ar=>Jr<|bP rfl rfl ae<|JL rfl .here rfl<|Jv rfl<|ab (az (.of rfl) (.of rfl) cB ar (by omega) bj) rfl<|bP rfl rfl ae<|ab (ag (.of rfl) (At.base c0 rfl)) rfl<|Ja rfl<|Jn<|Ju<|JT ?_)
  rfl
 rw [QJ g1 g2]
 unfold RA
 refine ah Tryz.func232 rfl rfl ?_
 (refine Jr<|Jy rfl rfl fun _ _=>Ja rfl<|Jn<|Jq<|Jr<|ab (cL .here) rfl<|Jv rfl<|ai bd rfl (fun w' aB=>(hA w' (Mem.keeps aB)))<|Ja rfl<|Ji<|Jv rfl<|JG rfl<|Jn<|Jc rfl fun ar=>Jk<|Jq<|Jr<|ab (cL .here) rfl<|Jv rfl<|ai bd rfl (fun w' aB=>(hB w' (Mem.keeps aB)))<|Ja rfl<|Ji<|Jv rfl<|JG rfl<|Jn<|Jc rfl fun ar=>Jk<|Jr<|Ja rfl<|Jn<|Je<|JT ?_)
 rfl
theorem Nr {r:Ro} {s d t p:Value} (o:ByteArray) {w:World} (h:RR w r s d t p):aj Tryz.prog 231 [RA r s d t p,.string o] w (.int .i64 (jZ r o)):=by
 have h1:=Rd.one h.sr
 have h2:=Rd.one h.de
 have h3:=Rd.one h.ti
 have h4:=Rd.one h.po
 have hA:∀ w',aH [] w w'→aj Tryz.prog 130 [.agg #[.int .i64 r.lv,.int .i64 r.ma,s,d,t,p],.string o] w' (.int .i64 (bE (cC r) o)):=fun w' hk=>Fo o (h.keeps hk)
 have hB:∀ w',aH [] w w'→aj Tryz.prog 60 [.agg #[.int .i64 r.lv,.int .i64 r.ma,s,d,t,p],.string o] w' (.int .i64 (bE (cU r) o)):=fun w' hk=>Aa o (h.keeps hk)
 have n1:(cC r).length=r.sr.length:=by unfold cC;rw [Zd]
 have n2:(cU r).length=r.ti.length:=by unfold cU;rw [Zd]
 have hs:=h.sr
 obtain ⟨a,cp,b,o',rfl,c7,bQ,ha,hc⟩:=hs
 rw [cE] at *
 have ht:=h.ti
 obtain ⟨a2,nN,b2,o2,rfl,ku,fb,jz,j6⟩:=ht
 rw [bY] at *
 unfold maxLen at bQ fb
 by_cases g1:0≤bE (cC r) o
 ·obtain ⟨k,e,hk⟩:=ru g1
  rw [n1] at hk
  rw [QX e hk]
  rw [e] at hA
  have cB:=ha (iJ hk)
  have aC:=(hc k _ (fQ hk)).2
  have c0:w.cell? ⟨b,o'+k*2+1,none⟩=some (.int .i64 (r.sr[k]).mx):=aC 1 _ rfl
  unfold RA
  refine ah Tryz.func231 rfl rfl ?_
  (refine Jr<|Jy rfl rfl fun _ _=>Ja rfl<|Jn<|Jq<|Jr<|ab (cL .here) rfl<|Jv rfl<|ai bd rfl (fun w' aB=>(hA w' (Mem.keeps aB)))<|Ja rfl<|Ji<|Jv rfl<|JG rfl<|Jn<|Jd rfl fun ar=>Jr<|bP rfl rfl ae<|JL rfl .here rfl<|Jv rfl<|ab (az (.of rfl) (.of rfl) cB ar (by omega) bj) rfl<|bP rfl rfl ae<|ab (ag (.of rfl) (At.base c0 rfl)) rfl<|Ja rfl<|Jn<|Ju<|JT ?_)
  rfl
 by_cases g2:0≤bE (cU r) o
 ·obtain ⟨k,e,hk⟩:=ru g2
  rw [n2] at hk
  rw [QW g1 e hk]
  rw [e] at hB
  have cB:=jz (fq hk)
  have aC:=(j6 k _ (eB hk)).2
  have c0:w.cell? ⟨b2,o2+k*3+2,none⟩=some (.int .i64 (r.ti[k]).to):=aC 2 _ rfl
  unfold RA
  refine ah Tryz.func231 rfl rfl ?_
  (refine Jr<|Jy rfl rfl fun _ _=>Ja rfl<|Jn<|Jq<|Jr<|ab (cL .here) rfl<|Jv rfl<|ai bd rfl (fun w' aB=>(hA w' (Mem.keeps aB)))<|Ja rfl<|Ji<|Jv rfl<|JG rfl<|Jn<|Jc rfl fun ar=>Jk<|Jq<|Jr<|ab (cL .here) rfl<|Jv rfl<|ai bd rfl (fun w' aB=>(hB w' (Mem.keeps aB)))<|Ja rfl<|Ji<|Jv rfl<|JG rfl<|Jn<|Jd rfl fun ar=>Jr<|bP rfl rfl ae<|JL rfl .here rfl<|Jv rfl<|ab (az (.of rfl) (.of rfl) cB ar (by omega) bj) rfl<|bP rfl rfl ae<|ab (ag (.of rfl) (At.base c0 rfl)) rfl<|Ja rfl<|Jn<|Ju<|JT ?_)
  rfl
 rw [QY g1 g2]
 unfold RA
 refine ah Tryz.func231 rfl rfl ?_
 (refine Jr<|Jy rfl rfl fun _ _=>Ja rfl<|Jn<|Jq<|Jr<|ab (cL .here) rfl<|Jv rfl<|ai bd rfl (fun w' aB=>(hA w' (Mem.keeps aB)))<|Ja rfl<|Ji<|Jv rfl<|JG rfl<|Jn<|Jc rfl fun ar=>Jk<|Jq<|Jr<|ab (cL .here) rfl<|Jv rfl<|ai bd rfl (fun w' aB=>(hB w' (Mem.keeps aB)))<|Ja rfl<|Ji<|Jv rfl<|JG rfl<|Jn<|Jc rfl fun ar=>Jk<|Jr<|Ja rfl<|Jn<|Je<|JT ?_)
 rfl
theorem M4 {r:Ro} {s d t p:Value} (o:ByteArray) {w:World} (h:RR w r s d t p) (hf:me r):aj Tryz.prog 230 [RA r s d t p,.string o] w (.int .i64 (dW r o)):=by
 have h1:=Rd.one h.sr
 have h2:=Rd.one h.de
 have h3:=Rd.one h.ti
 have h4:=Rd.one h.po
 have hA:∀ w',aH [] w w'→aj Tryz.prog 56 [.agg #[.int .i64 r.lv,.int .i64 r.ma,s,d,t,p],.string o] w' (.int .i64 (bE (cy r) o)):=fun w' hk=>Ab o (h.keeps hk)
 have hB:∀ w',aH [] w w'→aj Tryz.prog 60 [.agg #[.int .i64 r.lv,.int .i64 r.ma,s,d,t,p],.string o] w' (.int .i64 (bE (cU r) o)):=fun w' hk=>Aa o (h.keeps hk)
 have n2:(cU r).length=r.ti.length:=by unfold cU;rw [Zd]
 have hs:=h.de
 obtain ⟨a,cp,b,o',rfl,c7,bQ,ha,hc⟩:=hs
 rw [cg] at *
 obtain ⟨f1,f2,f3,f4⟩:=hf
 have hq:0≤bE (cU r) o→bE (cU r) o≤1000000:=fun g=>by
  obtain ⟨k,e,hk⟩:=ru g
  omega
 unfold RA
 refine ah Tryz.func230 rfl rfl ?_
 unfold dW
 generalize bE (cy r) o=x at hA ⊢
 generalize bE (cU r) o=y at hB hq ⊢
 (refine Jr<|Jy rfl rfl fun _ _=>Ja rfl<|Jn<|Jq<|Jr<|ab (cL .here) rfl<|Jv rfl<|ai bd rfl (fun w' aB=>(hA w' (Mem.keeps aB)))<|Ja rfl<|Ji<|Jv rfl<|JG rfl<|Jn<|fP rfl (fun ar=>?_) fun ar=>?_;refine Jr<|Jv rfl<|Ja rfl<|Jn<|Ju<|JT ?_;rotate_left;refine Jk<|Jq<|Jr<|ab (cL .here) rfl<|Jv rfl<|ai bd rfl (fun w' aB=>(hB w' (Mem.keeps aB)))<|Ja rfl<|Ji<|Jv rfl<|JG rfl<|Jn<|fP rfl (fun ar=>?_) fun ar=>?_;refine Jr<|bP rfl rfl ae<|JL rfl .here rfl<|JI rfl<|Jv rfl<|JB rfl (by omega)<|Ja rfl<|Jn<|Ju<|JT ?_;rotate_left;refine Jk<|Jr<|Ja rfl<|Jn<|Je<|JT ?_;rotate_right;rotate_right)
 all_goals first | (rw [if_pos ar];done) | (rw [if_neg ‹¬ 0≤x›,if_pos ar];done) | (rw [if_neg ‹¬ 0≤x›,if_neg ar];done)
theorem Ea {r:Ro} {s d t p:Value} (o:ByteArray) {w:World} (h:RR w r s d t p):aj Tryz.prog 26 [RA r s d t p,.string o] w (.int .i64 (pb r o)):=by
 have h1:=Rd.one h.sr
 have h2:=Rd.one h.de
 have h3:=Rd.one h.ti
 have h4:=Rd.one h.po
 have wI:∀ w',aH [] w w'→aj Tryz.prog 56 [.agg #[.int .i64 r.lv,.int .i64 r.ma,s,d,t,p],.string o] w' (.int .i64 (bE (cy r) o)):=fun w' hk=>Ab o (h.keeps hk)
 unfold RA
 refine ah Tryz.func26 rfl rfl ?_
 (refine Jr<|Jy rfl rfl fun _ _=>Ja rfl<|Ji<|ab (cL .here) rfl<|Jv rfl<|ai bd rfl (fun w' aB=>(wI w' (Mem.keeps aB)))<|JA rfl<|ai bd rfl (fun w' aB=>(kb _ 10 w'))<|Ja rfl<|Jn<|Je<|JT ?_)
 rfl
theorem Fx (po:List Po) (v:Int):∀ (n:Nat) (o:ByteArray),(tg po v n o).length≤n
 | 0,_=>Zz _
 | n + 1, o => by
  rw [tg]
  split
  ·exact Zi _
  ·rw [ZJ];exact Nat.succ_le_succ (Fx po v n _)
theorem Oq {r:Ro} {s d t p:Value} (v:Int) (o:ByteArray) (n:Nat) (hn:n≤1000) {w:World} (h:RR w r s d t p):bh Tryz.prog 132 [RA r s d t p,.int .i64 v,.string o,.int .i64 (n:Nat)] w [] (fun _:Value=>True) id (fun x=>[row 9 1 x (tg r.po v n o).length (aM (tg r.po v n o))]):=by
 have h1:=Rd.one h.sr
 have h2:=Rd.one h.de
 have h3:=Rd.one h.ti
 have h4:=Rd.one h.po
 have oC:∀ (o':ByteArray) w',aH [] w w'→aj Tryz.prog 133 [.agg #[.int .i64 r.lv,.int .i64 r.ma,s,d,t,p],.int .i64 v,.string o'] w' (.string ((ez r.po v o').getD ⟨#[]⟩)):=fun o' w' hk=>E3 v o' (h.keeps hk)
 unfold RA
 refine aQ Tryz.func132 rfl rfl ?_
 refine Jr<|Jy rfl rfl fun _ _=>Ja rfl<|Ji<|Ja rfl<|Jn<|Jq<|Jr<|Ja rfl<|Jn<|J0 ?_
 rename_i b4 wb
 refine aP 9 1 ?_
 refine aX (ι:=Nat×ByteArray×Value×List ByteArray) (fun y=>y.1≤n∧y.2.2.2.length=y.1∧tg r.po v n o=y.2.2.2++tg r.po v (n-y.1) y.2.1) (fun y=>[(10,.int .i64 (y.1:Nat)),(9,y.2.2.1),(2,.string y.2.1),(1,.int .i64 v),(3,.int .i64 (n:Nat)),(4,.pointer (some ⟨b4,0,none⟩))]) (fun y=>[row 9 1 y.2.2.1 y.1 (aM y.2.2.2),JQ b4 r s d t p]) (fun y=>n-y.1) ?_ ?_
 ·apply aI (0,o,.slice none 0 0,[]) ⟨Zi _,rfl,rfl⟩
  case hs1=>exact cd
  case ht=>
   exact .cons .here (.cons .here .nil)
 rintro ⟨k,o',v',L⟩ ⟨hk,hL,hc⟩
 dsimp only at hk hL hc ⊢
 have hlen:(aM L).length=k*1:=by rw [df,hL];omega
 by_cases aK:k<n∧o'≠⟨#[]⟩
 ·obtain ⟨g1,g2⟩:=aK
  have j6:tg r.po v n o=(L++[o'])++tg r.po v (n-(k+1)) ((ez r.po v o').getD ⟨#[]⟩):=by
   rw [hc,show n-k=(n-(k+1))+1 by omega,tg,if_neg g2,Zh];rfl
  (refine Jq<|Jr<|Jv rfl<|Jv rfl<|JA rfl<|Jv rfl<|gr rfl rfl rfl rfl<|aA rfl rfl inferInstance (fun hg bB=>(fR (.bI hg rfl) (.of rfl))) rfl<|ab (cz (.of rfl) rfl) rfl<|Jn<|nF rfl (fun ar=>?_) fun ar=>?_;refine Jk<|Jq<|J0<|Jr<|Jv rfl<|Jv rfl<|bo (aD (.cons (.of rfl) .nil) rfl rfl rfl rfl) rfl fun _ _=>?_;rotate_left;refine Jp<|Jl<|Jo<|Jt<|Jr<|Jv rfl<|Ja rfl<|Jn<|Je ?_;rotate_right)
  refine bH (.of rfl) (.of rfl) (.there .here) .here ak (by rfl) (eE rfl) (by rfl) (by rfl) (by rfl) eN (by rfl) ?_
  intro x
  (refine Ja rfl<|Jn<|Jg<|ab (cL bT) rfl<|Jv rfl<|Jv rfl<|ai eK rfl (fun w' aB=>(oC o' w' (Mem.keeps aB)))<|Ja rfl<|Jx<|Jj<|Jt<|Jg<|Jv rfl<|JB rfl (by omega)<|Ja rfl<|Jn ?_)
  apply aJ (k+1,(ez r.po v o').getD ⟨#[]⟩,x,L++[o']) ⟨by show k+1≤n;omega,by show (L++[o']).length=k+1;rw [Zg,hL];rfl,j6⟩ (by show n-(k+1)<n-k;omega)
  case hs1=>exact cd
  case ht=>
   show bz _ [row 9 1 x (k+1) (aM (L++[o'])),JQ b4 r s d t p] _
   rw [show aM (L++[o'])=aM L++[.string o'] from eX _ _]
   exact .cons .here (.cons (.there .here) .nil)
  exact ar.elim (fun z=>absurd (show ((k:Nat):Int)<(n:Nat) by omega) z) (fun z=>absurd g2 z)
 ·have he:tg r.po v n o=L:=by
   rw [hc]
   by_cases g:k<n
   ·have:o'=⟨#[]⟩:=Classical.byContradiction fun q=>aK ⟨g,q⟩
    rw [this,PF,ZU]
   ·rw [show n-k=0 by omega,tg,ZU]
  have Gy:¬ ((k:Nat):Int)<(n:Nat)∨¬ o'≠⟨#[]⟩:=by
   by_cases g:k<n
   ·exact .inr fun q=>aK ⟨g,q⟩
   ·exact .inl (by omega)
  rw [he,hL]
  (refine Jq<|Jr<|Jv rfl<|Jv rfl<|JA rfl<|Jv rfl<|gr rfl rfl rfl rfl<|aA rfl rfl inferInstance (fun hg bB=>(fR (.bI hg rfl) (.of rfl))) rfl<|ab (cz (.of rfl) rfl) rfl<|Jn<|nF rfl (fun ar=>?_) fun ar=>?_;refine Jk<|Jq<|J0<|Jr<|Jv rfl<|Jv rfl<|bo (aD (.cons (.of rfl) .nil) rfl rfl rfl rfl) rfl fun _ _=>?_;rotate_left;refine Jp<|Jl<|Jo<|Jt<|Jr<|Jv rfl<|Ja rfl<|Jn<|Je ?_;rotate_right)
  ·exact absurd ar (by intro q;rcases Gy with z | z;exact z q.1;exact z q.2)
  first | with_reducible apply aN | with_reducible apply aO
  case he=>exact dD rfl rfl
  case hR=>
   intro w' aB
   exact aF v' trivial (by exact .cons .here .nil) aB rfl




theorem RY {lv:Value} {l:List ByteArray} (o:ByteArray) {w:World} (h:Rd w lv 1 (iI l)):aj Tryz.prog 59 [lv,.string o] w (.bool (iX l o)):=by
 obtain ⟨a,cp,b,o',rfl,c7,bQ,ha,hc⟩:=h
 rw [bV] at *
 unfold maxLen at bQ
 refine ah Tryz.func59 rfl rfl ?_
 refine Jr<|Ja rfl<|Jn<|Jq<|Jr<|Ja rfl<|Jn<|J0 ?_
 refine aX (ι:=Nat) (fun k=>k≤l.length∧∀ j (hj:j<l.length),j<k→l[j]≠o) (fun k=>[(5,.int .i64 (k:Nat)),(0,.slice a l.length cp),(1,.string o)]) (fun _=>[]) (fun k=>l.length-k) ?_ ?_
 ·apply aI (0:Nat) ⟨Zi _,fun j _ hj=>absurd hj (ZO _)⟩
  case hs1=>exact cd
  case ht=>(try simp only [Ze,Zf,Za]);exact .nil
 rintro k ⟨hk,hf⟩
 by_cases aK:k<l.length
 ·have cB:=ha (k6 aK)
  have c0:w.cell? ⟨b,o'+k*1,none⟩=some (.string l[k]):=(hc k _ (jb aK)).2 0 _ rfl
  have hm:=Zj aK
  have sV:l[k]≠o→∀ j (hj:j<l.length),j<k+1→l[j]≠o:=fun q j hj Kg=>by
   by_cases e:j=k
   ·subst e;exact q
   ·exact hf j hj (by omega)
  generalize l[k]=x at c0 hm sV
  (refine Jq<|Jr<|Jv rfl<|Jv rfl<|JI rfl<|JA rfl<|Jn<|Jd rfl fun ar=>Jk<|Jq<|J0<|Jr<|Jv rfl<|Jv rfl<|ab (fG cB ar) rfl<|ab (ag (.of rfl) (At.base c0 rfl)) rfl<|Jv rfl<|ab (dS (.of rfl) (.of rfl)) rfl<|Jn<|fP rfl (fun ar=>?_) fun ar=>?_;refine Jr<|Ja rfl<|Jn<|Je<|Jm<|Jh<|Jh<|Jm<|Jh<|JT ?_;rotate_left;refine Jw<|Jj<|Jt<|Jg<|Jv rfl<|JB rfl (by omega)<|Ja rfl<|Jn ?_;rotate_right)
  ·have sT:x=o:=ar
   rw [fc.2 (sT ▸ hm)]
  ·have sT:¬ x=o:=ar
   apply aJ (k+1) ⟨(show k+1≤l.length from aK),sV sT⟩ (show l.length-(k+1)<l.length-k by omega)
   case hs1=>exact cd
   case ht=>(try simp only [Ze,Zf,Za]);exact .nil
 ·have e:iX l o=false:=by
   rw [← Zau,fc]
   intro q
   obtain ⟨j,hj,e⟩:=Zs q
   exact hf j hj (by omega) e
  obtain rfl:k=l.length:=by omega
  rw [e]
  refine Jq<|Jr<|Jv rfl<|Jv rfl<|JI rfl<|JA rfl<|Jn<|Jc rfl fun ar=>Jp<|Jl<|Jo<|Jt<|Jr<|Ja rfl<|Jn<|Je<|JT ?_
  rfl
theorem EU {r:Ro} {s d t p:Value} {w:World} (h:RR w r s d t p) (hf:me r):bh Tryz.prog 77 [RA r s d t p] w [] (fun _:Value=>True) id (fun x=>[row 9 1 x (ef r).length (aM (ef r))]):=by
 have h1:=Rd.one h.sr
 have h2:=Rd.one h.de
 have h3:=Rd.one h.ti
 have h4:=Rd.one h.po
 have Gu:=h.sr
 have GG:=h.de
 have BO:=h.ti
 obtain ⟨a1,er,PH,OS,rfl,pJ,iW,lR,kz⟩:=Gu
 obtain ⟨a2,dB,PG,OR,rfl,ku,fb,jz,j6⟩:=GG
 obtain ⟨a3,ee,K9,Iw,rfl,nr,gB,tw,qk⟩:=BO
 rw [cE] at *
 rw [cg] at *
 rw [bY] at *
 unfold maxLen at iW fb gB
 obtain ⟨f1,f2,f3,f4⟩:=hf
 unfold RA
 refine aQ Tryz.func77 rfl rfl ?_
 refine Jr<|Jy rfl rfl fun _ _=>Ja rfl<|Ji<|Ja rfl<|Jn<|Jq<|Jr<|Ja rfl<|Jn<|J0 ?_
 rename_i b1 sX
 refine aP 9 1 ?_
 refine aX (ι:=Nat×Value×List ByteArray) (fun y=>y.1≤r.sr.length∧y.2.2=([]:List ByteArray)++(cC r).take y.1) (fun y=>[(4,.int .i64 (y.1:Nat)),(3,y.2.1),(1,.pointer (some ⟨b1,0,none⟩))]) (fun y=>[row 9 1 y.2.1 y.2.2.length (aM y.2.2),JQ b1 r (.slice a1 r.sr.length er) (.slice a2 r.de.length dB) (.slice a3 r.ti.length ee) p]) (fun y=>r.sr.length-y.1) ?_ ?_
 ·apply aI (0,.slice none 0 0,[]) ⟨Zi _,rfl⟩
  case hs1=>exact cd
  case ht=>
   exact .cons .here (.cons .here .nil)
 rintro ⟨k,v1,L1⟩ ⟨hk,S6⟩
 dsimp only at hk S6 ⊢
 have nn1:(cC r).length=r.sr.length:=by unfold cC;rw [Zd]
 by_cases aK:k<r.sr.length
 ·have GK:L1.length=(([]:List ByteArray)).length+k:=by rw [S6,Zg,Zp];omega
  have hLb:L1.length≤3000000:=by rw [GK];simp only [Zaa];omega
  have hlen:(aM L1).length=L1.length*1:=by rw [df];omega
  have cB:=lR (iJ aK)
  have c0:w.cell? ⟨PH,OS+k*2,none⟩=some (.string (r.sr[k]).nm):=(kz k _ (fQ aK)).2 0 _ rfl
  have hx:(cC r)[k]'(by omega)=(r.sr[k]).nm:=by unfold cC;rw [Z1]
  have tY:L1++[(r.sr[k]).nm]=([]:List ByteArray)++(cC r).take (k+1):=by rw [Zn (by omega),hx,← Zh,← S6]
  generalize (r.sr[k]).nm=x at c0 hx tY
  (refine Jq<|Jr<|Jv rfl<|bP rfl rfl ae<|JL rfl (.there .here) rfl<|JI rfl<|JA rfl<|Jn<|Jd rfl fun ar=>Jk<|Jq<|J0<|Jg<|Jv rfl<|bP rfl rfl ae<|JL rfl (.there .here) rfl<|Jv rfl<|ab (fG cB ar) rfl<|bP rfl rfl ae<|ab (ag (.of rfl) (At.base c0 rfl)) rfl<|bo (aD (.cons (.of rfl) .nil) rfl rfl rfl rfl) rfl fun _ _=>?_)
  refine bH (.of rfl) (.of rfl) (.there .here) .here ak (by rfl) (eE rfl) (by rfl) (by rfl) (by rfl) eN (by rfl) ?_
  intro z
  refine Ja rfl<|Jx<|Jj<|Jt<|Jg<|Jv rfl<|JB rfl (by omega)<|Ja rfl<|Jn ?_
  apply aJ (k+1,z,L1++[x]) ⟨by show k+1≤r.sr.length;omega,tY⟩ (by show r.sr.length-(k+1)<r.sr.length-k;omega)
  case hs1=>exact cd
  case ht=>
   show bz _ [row 9 1 z (L1++[x]).length (aM (L1++[x])),JQ b1 r (.slice a1 r.sr.length er) (.slice a2 r.de.length dB) (.slice a3 r.ti.length ee) p] _
   rw [show aM (L1++[x])=aM L1++[.string x] from eX _ _,Zg,Zbg]
   exact .cons .here (.cons (.there .here) .nil)
 obtain rfl:k=r.sr.length:=by omega
 rw [Zai (by omega)] at S6
 clear hk aK
 (refine Jq<|Jr<|Jv rfl<|bP rfl rfl ae<|JL rfl (.there .here) rfl<|JI rfl<|JA rfl<|Jn<|Jc rfl fun ar=>Jp<|Jl<|Jo<|Jt<|Jq<|Jr<|Ja rfl<|Jn<|J0 ?_)
 rw [Za] at S6
 refine aX (ι:=Nat×Value×List ByteArray) (fun y=>y.1≤r.de.length∧y.2.2=cC r++(cy r).take y.1) (fun y=>[(5,.int .i64 (y.1:Nat)),(3,y.2.1),(1,.pointer (some ⟨b1,0,none⟩))]) (fun y=>[row 9 1 y.2.1 y.2.2.length (aM y.2.2),JQ b1 r (.slice a1 r.sr.length er) (.slice a2 r.de.length dB) (.slice a3 r.ti.length ee) p]) (fun y=>r.de.length-y.1) ?_ ?_
 ·apply aI (0,v1,L1) ⟨Zi _,by rw [Ze,ZU];exact S6⟩
  case hs1=>exact cd
  case ht=>
   exact .cons .here (.cons .here .nil)
 rintro ⟨k,v2,L2⟩ ⟨hk,tY⟩
 dsimp only at hk tY ⊢
 have nn2:(cy r).length=r.de.length:=by unfold cy;rw [Zd]
 by_cases aK:k<r.de.length
 ·have GK:L2.length=(cC r).length+k:=by rw [tY,Zg,Zp];omega
  have hLb:L2.length≤3000000:=by rw [GK];rw [nn1];omega
  have hlen:(aM L2).length=L2.length*1:=by rw [df];omega
  have cB:=jz (gJ aK)
  have c0:w.cell? ⟨PG,OR+k*3,none⟩=some (.string (r.de[k]).nm):=(j6 k _ (fj aK)).2 0 _ rfl
  have hx:(cy r)[k]'(by omega)=(r.de[k]).nm:=by unfold cy;rw [Z1]
  have tY:L2++[(r.de[k]).nm]=cC r++(cy r).take (k+1):=by rw [Zn (by omega),hx,← Zh,← tY]
  generalize (r.de[k]).nm=x at c0 hx tY
  (refine Jq<|Jr<|Jv rfl<|bP rfl rfl ae<|JL rfl (.there .here) rfl<|JI rfl<|JA rfl<|Jn<|Jd rfl fun ar=>Jk<|Jq<|J0<|Jg<|Jv rfl<|bP rfl rfl ae<|JL rfl (.there .here) rfl<|Jv rfl<|ab (fG cB ar) rfl<|bP rfl rfl ae<|ab (ag (.of rfl) (At.base c0 rfl)) rfl<|bo (aD (.cons (.of rfl) .nil) rfl rfl rfl rfl) rfl fun _ _=>?_)
  refine bH (.of rfl) (.of rfl) (.there .here) .here ak (by rfl) (eE rfl) (by rfl) (by rfl) (by rfl) eN (by rfl) ?_
  intro z
  refine Ja rfl<|Jx<|Jj<|Jt<|Jg<|Jv rfl<|JB rfl (by omega)<|Ja rfl<|Jn ?_
  apply aJ (k+1,z,L2++[x]) ⟨by show k+1≤r.de.length;omega,tY⟩ (by show r.de.length-(k+1)<r.de.length-k;omega)
  case hs1=>exact cd
  case ht=>
   show bz _ [row 9 1 z (L2++[x]).length (aM (L2++[x])),JQ b1 r (.slice a1 r.sr.length er) (.slice a2 r.de.length dB) (.slice a3 r.ti.length ee) p] _
   rw [show aM (L2++[x])=aM L2++[.string x] from eX _ _,Zg,Zbg]
   exact .cons .here (.cons (.there .here) .nil)
 obtain rfl:k=r.de.length:=by omega
 rw [Zai (by omega)] at tY
 clear hk aK
 (refine Jq<|Jr<|Jv rfl<|bP rfl rfl ae<|JL rfl (.there .here) rfl<|JI rfl<|JA rfl<|Jn<|Jc rfl fun ar=>Jp<|Jl<|Jo<|Jt<|Jq<|Jr<|Ja rfl<|Jn<|J0 ?_)
 refine aX (ι:=Nat×Value×List ByteArray) (fun y=>y.1≤r.ti.length∧y.2.2=(cC r++cy r)++(cU r).take y.1) (fun y=>[(6,.int .i64 (y.1:Nat)),(3,y.2.1),(1,.pointer (some ⟨b1,0,none⟩))]) (fun y=>[row 9 1 y.2.1 y.2.2.length (aM y.2.2),JQ b1 r (.slice a1 r.sr.length er) (.slice a2 r.de.length dB) (.slice a3 r.ti.length ee) p]) (fun y=>r.ti.length-y.1) ?_ ?_
 ·apply aI (0,v2,L2) ⟨Zi _,by rw [Ze,ZU];exact tY⟩
  case hs1=>exact cd
  case ht=>
   exact .cons .here (.cons .here .nil)
 rintro ⟨k,v3,L3⟩ ⟨hk,Pn⟩
 dsimp only at hk Pn ⊢
 have nn3:(cU r).length=r.ti.length:=by unfold cU;rw [Zd]
 by_cases aK:k<r.ti.length
 ·have GK:L3.length=((cC r++cy r)).length+k:=by rw [Pn,Zg,Zp];omega
  have hLb:L3.length≤3000000:=by rw [GK];rw [Zg,nn1,nn2];omega
  have hlen:(aM L3).length=L3.length*1:=by rw [df];omega
  have cB:=tw (fq aK)
  have c0:w.cell? ⟨K9,Iw+k*3,none⟩=some (.string (r.ti[k]).nm):=(qk k _ (eB aK)).2 0 _ rfl
  have hx:(cU r)[k]'(by omega)=(r.ti[k]).nm:=by unfold cU;rw [Z1]
  have tY:L3++[(r.ti[k]).nm]=(cC r++cy r)++(cU r).take (k+1):=by rw [Zn (by omega),hx,← Zh,← Pn]
  generalize (r.ti[k]).nm=x at c0 hx tY
  (refine Jq<|Jr<|Jv rfl<|bP rfl rfl ae<|JL rfl (.there .here) rfl<|JI rfl<|JA rfl<|Jn<|Jd rfl fun ar=>Jk<|Jq<|J0<|Jg<|Jv rfl<|bP rfl rfl ae<|JL rfl (.there .here) rfl<|Jv rfl<|ab (fG cB ar) rfl<|bP rfl rfl ae<|ab (ag (.of rfl) (At.base c0 rfl)) rfl<|bo (aD (.cons (.of rfl) .nil) rfl rfl rfl rfl) rfl fun _ _=>?_)
  refine bH (.of rfl) (.of rfl) (.there .here) .here ak (by rfl) (eE rfl) (by rfl) (by rfl) (by rfl) eN (by rfl) ?_
  intro z
  refine Ja rfl<|Jx<|Jj<|Jt<|Jg<|Jv rfl<|JB rfl (by omega)<|Ja rfl<|Jn ?_
  apply aJ (k+1,z,L3++[x]) ⟨by show k+1≤r.ti.length;omega,tY⟩ (by show r.ti.length-(k+1)<r.ti.length-k;omega)
  case hs1=>exact cd
  case ht=>
   show bz _ [row 9 1 z (L3++[x]).length (aM (L3++[x])),JQ b1 r (.slice a1 r.sr.length er) (.slice a2 r.de.length dB) (.slice a3 r.ti.length ee) p] _
   rw [show aM (L3++[x])=aM L3++[.string x] from eX _ _,Zg,Zbg]
   exact .cons .here (.cons (.there .here) .nil)
 obtain rfl:k=r.ti.length:=by omega
 rw [Zai (by omega)] at Pn
 clear hk aK
 (refine Jq<|Jr<|Jv rfl<|bP rfl rfl ae<|JL rfl (.there .here) rfl<|JI rfl<|JA rfl<|Jn<|Jc rfl fun ar=>Jp<|Jl<|Jo<|Jt<|Jr<|Jv rfl<|Ja rfl<|Jn<|Je ?_)
 have e:ef r=L3:=Pn.symm
 rw [e]
 first | with_reducible apply aN | with_reducible apply aO
 case he=>exact dD rfl rfl
 case hR=>
  intro w' aB
  exact aF v3 trivial (by exact .cons .here .nil) aB rfl
def ckQ (r:Ro):Int:=if mY r≠0 then mY r else if jK r≠0 then jK r else zm r
theorem Sq (r:Ro):ckQ r=gC r:=by
 unfold ckQ gC
 by_cases h1:mY r=0
 ·rw [if_neg (not_not_intro h1),if_neg (not_not_intro h1)]
  by_cases h2:jK r=0
  ·rw [if_neg (not_not_intro h2),if_neg (not_not_intro h2),MT (prt h2)]
  ·rw [if_pos h2,if_pos h2]
 ·rw [if_pos h1,if_pos h1]
def zl (r:Ro) (k:Nat):Int:=((ef r)[k]?.map fun x=>aV [bW (!jY x) 8,bW (iX ((ef r).take k) x) 9]).getD 0
theorem MS {r:Ro} {k:Nat} (h:k<(ef r).length):zl r k=aV [bW (!jY (ef r)[k]) 8,bW (iX ((ef r).take k) (ef r)[k]) 9]:=by
 unfold zl;rw [Zc h];rfl
theorem sf (a b:Int) (l:List Int):aV (aV [a,b]::l)=aV (a::b::l):=by
 by_cases ha:a=0
 ·subst ha
  have e:aV [0,b]=b:=by
   unfold aV;rw [if_neg (by decide)]
   unfold aV
   split
   ·rfl
   ·rename_i q;rw [Zo] at q;rw [q];rfl
  rw [e]
  conv=>rhs;unfold aV
  rw [if_neg (by decide)]
 ·have e:aV [a,b]=a:=by unfold aV;rw [if_pos ha]
  rw [e]
  unfold aV
  rw [if_pos ha,if_pos ha]
theorem DY (a b:Int) (l:List Int):aV [a,b,aV l]=aV (a::b::l):=by
 have h1:∀ x:Int,∀ m,aV (x::m)=if x≠0 then x else aV m:=fun x m=>by rw [aV]
 have h2:∀ x:Int,aV [x]=x:=fun x=>by
  rw [h1]
  split
  ·rfl
  ·rename_i q;rw [Zo] at q;rw [q];rfl
 rw [h1,h1 b,h2,h1 a,h1 b]
theorem Ll (r:Ro):(ef r).length=r.sr.length+r.de.length+r.ti.length:=by
 unfold ef cC cy cU
 simp only [Zg,Zd]
theorem Lk {r:Ro} {k:Nat} (h:k<r.sr.length):(ef r)[k]? = some (r.sr[k]).nm∧(ef r).take k=[]++(r.sr.take k).map Sr.nm:=by
 have e1:(cC r).length=r.sr.length:=by unfold cC;rw [Zd]
 unfold ef
 rw [Zh]
 refine ⟨?_,?_⟩
 ·rw [ZI (by omega)]
  unfold cC
  rw [ZD,Zc h];rfl
 ·rw [Zad (by omega)]
  unfold cC
  rw [ZaT];rfl
theorem Lm {r:Ro} {k:Nat} (h:k<r.de.length):(ef r)[r.sr.length+k]? = some (r.de[k]).nm∧(ef r).take (r.sr.length+k)=cC r++(r.de.take k).map De.nm:=by
 have e1:(cC r).length=r.sr.length:=by unfold cC;rw [Zd]
 have e2:(cy r).length=r.de.length:=by unfold cy;rw [Zd]
 unfold ef
 rw [Zh]
 refine ⟨?_,?_⟩
 ·rw [ZN (by omega),ZI (by omega),show r.sr.length+k-(cC r).length=k by omega]
  unfold cy
  rw [ZD,Zc h];rfl
 ·rw [← e1,List.take_length_add_append,Zad (by omega)]
  unfold cy
  rw [ZaT]
theorem Lj {r:Ro} {k:Nat} (h:k<r.ti.length):(ef r)[r.sr.length+r.de.length+k]? = some (r.ti[k]).nm∧(ef r).take (r.sr.length+r.de.length+k)=(cC r++cy r)++(r.ti.take k).map Ti.nm:=by
 have e1:(cC r++cy r).length=r.sr.length+r.de.length:=by unfold cC cy;rw [Zg,Zd,Zd]
 have e2:(cU r).length=r.ti.length:=by unfold cU;rw [Zd]
 unfold ef
 refine ⟨?_,?_⟩
 ·rw [ZN (by omega),e1,show r.sr.length+r.de.length+k-(r.sr.length+r.de.length)=k by omega]
  unfold cU
  rw [ZD,Zc h];rfl
 ·rw [← e1,List.take_length_add_append]
  unfold cU
  rw [ZaT]
theorem Dt {r:Ro} {j:Nat} {x:ByteArray} {l:List ByteArray} (h:(ef r)[j]? = some x) (h2:(ef r).take j=l):zl r j=aV [bW (!jY x) 8,bW (iX l x) 9]:=by
 unfold zl;rw [h,h2];rfl
theorem TL {r:Ro} {k:Nat} (h:k<r.sr.length):aV [zl r k,eV r (r.sr[k]).mx]=wB [] Sr.nm (fun x=>eV r x.mx) r.sr k:=by
 rw [od h,Dt (Lk h).1 (Lk h).2,sf]
theorem TM {r:Ro} {k:Nat} (h:k<r.de.length):aV [zl r (r.sr.length+k),eV r (r.de[k]).mx]=wB (cC r) De.nm (fun x=>eV r x.mx) r.de k:=by
 rw [od h,Dt (Lm h).1 (Lm h).2,sf]
theorem TK {r:Ro} {k:Nat} (h:k<r.ti.length):aV [zl r (r.sr.length+r.de.length+k),eV r (r.ti[k]).fr,eV r (r.ti[k]).to,bW (decide ((r.ti[k]).fr=(r.ti[k]).to)) 24]=wB (cC r++cy r) Ti.nm (nA r) r.ti k:=by
 rw [od h,Dt (Lj h).1 (Lj h).2,sf]
 unfold nA
 rw [DY]
theorem Du {r:Ro} (h1:eS 8 [] Sr.nm (fun x=>eV r x.mx) r.sr=0) (h2:eS 8 (cC r) De.nm (fun x=>eV r x.mx) r.de=0):jK r=eS 6 (cC r++cy r) Ti.nm (nA r) r.ti:=by
 rw [V6 h1 h2]
 unfold aV
 split
 ·rfl
 ·rename_i q;rw [Zo] at q;rw [q];rfl
end Go.Proofs.A1
