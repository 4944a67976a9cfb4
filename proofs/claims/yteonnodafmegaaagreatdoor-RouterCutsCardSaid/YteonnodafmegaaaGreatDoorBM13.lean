/- Parts of the proof: LP POpen LQ LR LS LT LU LV LW LX. -/
import Derived.Test.YteonnodafmegaaaGreatDoorBM12
import Derived.Test.YteonnodafmegaaaGreatDoorBM04
import Derived.Test.YteonnodafmegaaaGreatDoorTie
import Derived.Test.YteonnodafmegaaaGreatDoorCards
import Derived.Lib.SmallJoins
import Derived.Lib.LaidTab
import Derived.Deep.Slices
import Derived.Deep.Fields
import Derived.ChangeSame
import Derived.ChangeBook
import Derived.ChangeStays
import Derived.WalkKit
import Derived.ProofKit
import Derived.OpenShut
import Derived.Below
import Derived.LaidMore
import Derived.Lay
import Derived.SevenTiedAt
import Derived.Stop.Joined
import Derived.ChangeMaps5
set_option linter.unusedSectionVars false
set_option linter.unusedVariables false
set_option linter.unusedSimpArgs false
namespace Go.Proofs.A1
open Go Go.SL
theorem eS {c:Cx} {D:List Nat} {sl:aI} {hs rest:List a8} {X:Act→World→Prop} (hs2:List a8) (ht:bo hs hs2 rest) (k:Tr c D sl hs2 X):Tr c D sl hs X:=fun a w a7=>k a w (a7.heap (by
 have h1:=a7.mem.iZ (ht.append (l8 D))
 obtain ⟨kk,fp,hn,ie,hb⟩:=h1
 obtain ⟨f1,f23,rfl,g1,g23⟩:=bY.append_iff.1 ie
 obtain ⟨f2,f3,rfl,g2,g3⟩:=bY.append_iff.1 g23
 obtain ⟨n1,n23,n12⟩:=List.nodup_append.1 hn
 obtain ⟨n2,n3,n4⟩:=List.nodup_append.1 n23
 exact ⟨kk,f1++f3,List.nodup_append.2 ⟨n1,n3,fun x hx y hy=>n12 x hx y (List.mem_append_right _ hy)⟩,bY.append_iff.2 ⟨f1,f3,rfl,g1,g3⟩,fun b dy=>hb b (by
  rcases List.mem_append.1 dy with h | h
  ·exact List.mem_append_left _ h
  ·exact List.mem_append_right _ (List.mem_append_right _ h))⟩))
theorem re:mY lL:=⟨by decide,by decide,by decide⟩
theorem Ew:mY fR:=⟨by decide,by decide,by decide⟩
theorem Ev:mY gJ:=⟨by decide,by decide,by decide⟩
theorem TW:mY Co:=⟨by decide,by decide,by decide⟩
theorem zk:mX fR:=⟨by decide,by decide,by decide,by decide⟩
theorem zj:mX gJ:=⟨by decide,by decide,by decide,by decide⟩
theorem Xt:mX vG:=⟨by decide,by decide,by decide,by decide⟩
theorem TU:mX Co:=⟨by decide,by decide,by decide,by decide⟩
theorem JZ {r:Ro} {s d t p:Value} {w:World} {e:Int} {Y:List ByteArray} (v:Int) (so de:ByteArray) (h:RR w r s d t p) (hf:mY r) (e1:EN r v so de=e) (e2:B9 r v so de=Y):bd Tryz.prog 70 [.agg #[.int .i64 (r).lv,.int .i64 (r).ma,s,d,t,p],.int .i64 v,.string so,.string de] w [] (fun _:Value=>True) (fun x=>.tuple #[x,.int .i64 e]) (fun x=>[row 9 1 x Y.length (aO Y)]):=by
 subst e1 e2;exact Up v so de h hf
theorem J7 {r:Ro} {s d t p:Value} {w:World} {e:Int} {Y:List Int} (v:Int) (so de:ByteArray) (h:RR w r s d t p) (hf:mY r) (e1:rZ r v so de=e) (e2:mT r v so de=Y):bd Tryz.prog 36 [.agg #[.int .i64 (r).lv,.int .i64 (r).ma,s,d,t,p],.int .i64 v,.string so,.string de] w [] (fun _:Value=>True) (fun x=>.tuple #[x,.int .i64 e]) (fun x=>[row 3 1 x Y.length (Y.map (Value.int .i64))]):=by
 subst e1 e2;exact Uu v so de h hf
theorem OI {r q:Ro} {k:Tk} {s d t p v:Value} {w:World} (e:jd r [k]=(q,0,0)) (h:RR w r s d t p) (hf:mY r) (hv:Rd w v 1 (iT k.so)):bd Tryz.prog 48 [.agg #[.int .i64 (r).lv,.int .i64 (r).ma,s,d,t,p],.agg #[.string k.de,v]] w [] (fun _:Value×Value×Value×Value=>True) (fun y=>.tuple #[.agg #[.int .i64 (q).lv,.int .i64 (q).ma,y.1,y.2.1,y.2.2.1,y.2.2.2],.int .i64 0]) (fun y=>tt q y):=by
 have:=Ns (x:=⟨k,v⟩) h hf hv
 rw [show (gy.mk k v).tk=k from rfl,e] at this
 exact this
theorem OK {r q:Ro} {l:List gy} {i e_:Int} {s d t p v:Value} {w:World} (e:jd r (c8 l)=(q,i,e_)) (h:RR w r s d t p) (hf:mY r) (hv:Rd w v 2 (jm l)) (hM:vN w l):bd Tryz.prog 45 [.agg #[.int .i64 (r).lv,.int .i64 (r).ma,s,d,t,p],v] w [] (fun _:Value×Value×Value×Value=>True) (fun y=>.tuple #[.agg #[.int .i64 (q).lv,.int .i64 (q).ma,y.1,y.2.1,y.2.2.1,y.2.2.2],.int .i64 i,.int .i64 e_]) (fun y=>tt q y):=by
 have:=zG h hf hv hM
 rw [e] at this
 exact this
theorem Uh {r:Ro} {l:List gy} {m:List Tk} {s d t p v:Value} {w:World} (e:(jd r (c8 l)).2.2=0) (e2:KV r (c8 l)=m) (h:RR w r s d t p) (hf:mY r) (hv:Rd w v 2 (jm l)) (hM:vN w l):bd Tryz.prog 47 [.agg #[.int .i64 (r).lv,.int .i64 (r).ma,s,d,t,p],v] w [] (fun x:Value×List gy=>c8 x.2=m) (fun x=>.tuple #[x.1,.int .i64 0]) (fun x=>[row 78 2 x.1 x.2.length (jm x.2).flatten,KX x.2]):=by
 have:=Kh h hf hv hM
 rw [e,e2] at this
 exact this
theorem Ul {r:Ro} {s d t p:Value} {w:World} {e:Int} {Y:List ByteArray} (o:ByteArray) (h:RR w r s d t p) (hf:mY r) (e1:Il r o=e) (e2:FA r o=Y):bd Tryz.prog 20 [.agg #[.int .i64 (r).lv,.int .i64 (r).ma,s,d,t,p],.string o] w [] (fun _:Value=>True) (fun x=>.tuple #[x,.int .i64 e]) (fun x=>[row 9 1 x Y.length (aO Y)]):=by
 subst e1 e2;exact Rk o h hf
theorem Ui {r:Ro} {s d t p:Value} {w:World} {e:Int} {Y:List ByteArray} (v:Int) (o:ByteArray) (h:RR w r s d t p) (hf:mY r) (e1:Gv r v o=e) (e2:ET r v o=Y):bd Tryz.prog 22 [.agg #[.int .i64 (r).lv,.int .i64 (r).ma,s,d,t,p],.int .i64 v,.string o] w [] (fun _:Value=>True) (fun x=>.tuple #[x,.int .i64 e]) (fun x=>[row 9 1 x Y.length (aO Y)]):=by
 subst e1 e2;exact Nr v o h hf
theorem Um {r:Ro} {s d t p:Value} {w:World} {e:Int} {Y:List ByteArray} (v:Int) (h:RR w r s d t p) (hf:mY r) (e1:JM r v=e) (e2:FX r v=Y):bd Tryz.prog 23 [.agg #[.int .i64 (r).lv,.int .i64 (r).ma,s,d,t,p],.int .i64 v] w [] (fun _:Value=>True) (fun x=>.tuple #[x,.int .i64 e]) (fun x=>[row 9 1 x Y.length (aO Y)]):=by
 subst e1 e2;exact Rm v h hf
theorem Ug {r:Ro} {s d t p:Value} {w:World} {e:Int} {Y:List ByteArray} (v:Int) (o:ByteArray) (h:RR w r s d t p) (hf:mY r) (e1:Gq r v o=e) (e2:EO r v o=Y):bd Tryz.prog 24 [.agg #[.int .i64 (r).lv,.int .i64 (r).ma,s,d,t,p],.int .i64 v,.string o] w [] (fun _:Value=>True) (fun x=>.tuple #[x,.int .i64 e]) (fun x=>[row 9 1 x Y.length (aO Y)]):=by
 subst e1 e2;exact Nq v o h hf
theorem Uk {r q:Ro} {s d t p:Value} {w:World} {b:Bool} (o:ByteArray) (h:RR w r s d t p) (hf:mY r) (e1:xk r o=0) (e2:xj r o b=q):bd Tryz.prog 78 [.agg #[.int .i64 (r).lv,.int .i64 (r).ma,s,d,t,p],.string o,.bool b] w [] (fun _:Value×Value×Value×Value=>True) (fun y=>.tuple #[.agg #[.int .i64 (q).lv,.int .i64 (q).ma,y.1,y.2.1,y.2.2.1,y.2.2.2],.int .i64 0]) (fun y=>tt q y):=by
 have:=BN o b h hf
 rw [e1,e2] at this
 exact this
theorem J6 {r:Ro} {l:List o9} {m:List Od} {s d t p v:Value} {w:World} {Y:List ByteArray} (o:ByteArray) (f:Int) (em:ef l=m) (h:RR w r s d t p) (hf:mY r) (e1:qx r m o f=0) (e2:sT r m o f=Y) (hv:Rd w v 2 (su l)) (hM:Gg w l):bd Tryz.prog 64 [.agg #[.int .i64 (r).lv,.int .i64 (r).ma,s,d,t,p],v,.string o,.int .i64 f] w [] (fun _:Value=>True) (fun x=>.tuple #[x,.int .i64 0]) (fun x=>[row 9 1 x Y.length (aO Y)]):=by
 have:=Rf o f h hf hv hM
 rw [em,e1,e2] at this
 exact this
theorem jk (w:World):bd Tryz.prog 105 [] w [] (fun _:Value×Value×Value×Value=>True) (fun x=>.agg #[.int .i64 (lL).lv,.int .i64 (lL).ma,x.1,x.2.1,x.2.2.1,x.2.2.2]) (fun x=>tt lL x):=MT w
theorem kA {r:Ro} {s d t p:Value} {w:World} (h:RR w r s d t p) (hf:mX r):bd Tryz.prog 57 [.agg #[.int .i64 (r).lv,.int .i64 (r).ma,s,d,t,p]] w [] (fun _:Value×Value×Value×Value=>True) (fun x=>.agg #[.int .i64 (r).lv,.int .i64 (r).ma,x.1,x.2.1,x.2.2.1,x.2.2.2]) (fun x=>O3 r x):=GG h hf
theorem kZ {r:Ro} {s d t p:Value} {w:World} (h:RR w r s d t p) (hf:mX r):bd Tryz.prog 21 [.agg #[.int .i64 (r).lv,.int .i64 (r).ma,s,d,t,p]] w [] (fun _:Value×Value×Value×Value=>True) (fun x=>.agg #[.int .i64 (r).lv,.int .i64 (r).ma,x.1,x.2.1,x.2.2.1,x.2.2.2]) (fun x=>tt r x):=Sn h hf
theorem OJ (w:World):bd Tryz.prog 106 [] w [] (fun _:Option Addr×Nat=>True) (fun x=>.agg #[.string dE,.slice x.1 2 x.2]) (fun x=>[row 9 1 (.slice x.1 2 x.2) 2 (aO nw.so)]):=QQ w
theorem Uj (w:World):bd Tryz.prog 107 [] w [] (fun _:Option Addr×Nat=>True) (fun x=>.agg #[.string iU,.slice x.1 2 x.2]) (fun x=>[row 9 1 (.slice x.1 2 x.2) 2 (aO Rn.so)]):=QP w
theorem J5 (w:World):bd Tryz.prog 108 [] w [] (fun _:Option Addr×Nat=>True) (fun x=>.agg #[.string dE,.slice x.1 2 x.2]) (fun x=>[row 9 1 (.slice x.1 2 x.2) 2 (aO nu.so)]):=QO w
theorem gN {w:World} {x:gy} {l:List gy} (h:Rd w x.v 1 (iT x.tk.so)) (k:vN w l):vN w (x::l):=fun y hy=>by
 rcases List.mem_cons.1 hy with rfl | hy
 ·exact h
 ·exact k y hy
theorem jF (w:World):vN w []:=fun _ h=>absurd h List.not_mem_nil
theorem lr {v1 v2:Value} {l:List ByteArray} {w:World} (h1:Rd w v1 1 (iT l)) (h2:Rd w v2 1 (iT l)):aj Tryz.prog 58 [v1,v2] w (.bool true):=by
 have:=DK h1 h2
 rwa [decide_eq_true rfl] at this
theorem Ln {v1 v2:Value} {l:List Int} {w:World} (h1:Rd w v1 1 (ints l)) (h2:Rd w v2 1 (ints l)):aj Tryz.prog 109 [v1,v2] w (.bool true):=by
 have:=DL h1 h2
 rwa [decide_eq_true rfl] at this
theorem XI {c:Cx} {hs hs':List a8} {w:World} {W:List gy} (hm:Mem c hs w) (ht:Take hs (KX W) hs'):vN w W:=fun x hx=>by
 obtain ⟨j,hj,rfl⟩:=List.getElem_of_mem hx
 have:=hm.Cu (j:=j) (v:=W[j].v) (x:=aO W[j].tk.so) ht (by rw [List.getElem?_map,Zc hj];rfl) (by rw [List.getElem?_map,Zc hj];rfl)
 have e:(aO W[j].tk.so).map (fun u=>[u])=iT W[j].tk.so:=by unfold aO iT;rw [List.map_map];rfl
 rwa [e] at this
theorem Lm {v1 v2:Value} {l m:List gy} {w:World} (h1:Rd w v1 2 (jm l)) (Xk:vN w l) (h2:Rd w v2 2 (jm m)) (Xj:vN w m) (e:c8 l=c8 m):aj Tryz.prog 53 [v1,v2] w (.bool true):=by
 have:=BM h1 Xk h2 Xj
 rwa [decide_eq_true e] at this
theorem Hg {r:Ro} {s d t p v:Value} {q:List Po} {w:World} (h:RR w r s d t p) (cG:mX r) (hv:Rd w v 3 (sU q)) (e:r.po=q):aj Tryz.prog 110 [.agg #[.int .i64 (r).lv,.int .i64 (r).ma,s,d,t,p],v] w (.bool true):=by
 have:=Hm h cG hv
 rwa [decide_eq_true e] at this
theorem dF {P:Program} {c:Cx} {sl:aI} {hs:List a8} {dst:Option Tmp} {ty:TypeId} {pos:String} {af:Array Edge} {g:Option (Nat×Bool)} {x y z:Operand} {q:Bool} {v u V:Value} (hx:Is sl x (.bool q)) (hy:Is sl y v) (hz:Is sl z u) (e:(bif q then v else u)=V):cL P c sl hs ⟨dst,.pick x y z,ty,pos,af,g⟩ V:=e ▸ tz hx hy hz
theorem Vk {c:Cx} {hs hs':List a8} {w:World} {g:Nat} {x:ByteArray} {E:TypeId} {fz:Nat×Nat} (hm:Mem c hs w) (ht:Take hs (bA g (.cells #[.string x] E fz)) hs'):Rd w (.slice (some ⟨g,0,none⟩) 1 1) 1 (iT [x]):=Mem.dh hm ht rfl rfl
theorem Vj {c:Cx} {hs hs':List a8} {w:World} {g:Nat} {x y z:ByteArray} {E:TypeId} {fz:Nat×Nat} (hm:Mem c hs w) (ht:Take hs (bA g (.cells #[.string x,.string y,.string z] E fz)) hs'):Rd w (.slice (some ⟨g,0,none⟩) 3 3) 1 (iT [x,y,z]):=Mem.dh hm ht rfl rfl
theorem Cv {c:Cx} {hs hs':List a8} {w:World} {g:Nat} {x y:ByteArray} {E:TypeId} {fz:Nat×Nat} (hm:Mem c hs w) (ht:Take hs (bA g (.cells #[.string x,.string y] E fz)) hs'):Rd w (.slice (some ⟨g,0,none⟩) 2 2) 1 (iT [x,y]):=Mem.dh hm ht rfl rfl
theorem CF {c:Cx} {hs hs':List a8} {w:World} {l:List o9} {E:TypeId} {v:Value} {n:Nat} (hm:Mem c hs w) (ht:Take hs (row E 2 v n (su l).flatten) hs') (hn:l.length=n):Rd w v 2 (su l):=hm.ph ht rfl (fun r hr=>by obtain ⟨x,_,rfl⟩:=List.mem_map.1 hr;rfl) (by rw [show (su l).length=l.length from Zd _,hn])
theorem l7 {w:World} {x:o9} {l:List o9} (h:Rd w x.v 2 (jm x.tk)) (h2:vN w x.tk) (k:Gg w l):Gg w (x::l):=fun y hy=>by
 rcases List.mem_cons.1 hy with rfl | hy
 ·exact ⟨h,h2⟩
 ·exact k y hy
theorem yQ (w:World):Gg w []:=fun _ h=>absurd h List.not_mem_nil
theorem Q8 {s d t p:Value} {w:World} (h:RR w lL s d t p):aj Tryz.prog 85 [.agg #[.int .i64 (lL).lv,.int .i64 (lL).ma,s,d,t,p]] w (.tuple #[.string (Hh lL),.int .i64 0]):=by
 have:=Nt h re
 rwa [T2] at this
theorem E9 {P:Program} {c:Cx} {sl:aI} {hs:List a8} {dst:Option Tmp} {ty:TypeId} {pos:String} {af:Array Edge} {g:Option (Nat×Bool)} {t u:TypeId} {x y:Operand} {a b:ByteArray} (hx:Is sl x (.string a)) (hy:Is sl y (.string b)) (e:a=b) :
  cL P c sl hs ⟨dst,.binOp .eql t x y u,ty,pos,af,g⟩ (.bool true):=by
 have:=dR (P:=P) (c:=c) (hs:=hs) (dst:=dst) (ty:=ty) (pos:=pos) (af:=af) (g:=g) (t:=t) (u:=u) hx hy
 rwa [decide_eq_true e] at this
set_option maxRecDepth 20000 in
set_option maxHeartbeats 4000000 in
theorem EH (w:World):aj Tryz.prog 17 [] w (.bool true):=by
 refine ah Tryz.func17 rfl rfl ?_
 refine Jr<|Ja rfl<|Ji ?_
 refine JN ns rfl (fun w1 aS=>jk w1) ?_
 rintro ⟨s1,d1,t1,p1⟩ _
 try dsimp only [id_eq,Zb,Za]
 refine dG (r:=lL) (s:=s1) (d:=d1) (t:=t1) (p:=p1) (bz _ _) fun m1a m1b m1c m1d=>?_
 skip
 refine JN pb rfl (fun w1 aS=>JZ 0 cH dE ⟨cZ aS (by exact .here) rfl,c5 aS (by exact Take.there .here) rfl,cY aS bN rfl,cR aS cX rfl⟩ re Oq.1 Oq.2) ?_
 rintro x1 _
 try dsimp only [id_eq,Zb,Za]
 refine Jv rfl<|JJ rfl rfl<|JJ rfl rfl<|Ja rfl<|Ja rfl<|Ji ?_
 refine JN ns rfl (fun w1 aS=>jk w1) ?_
 rintro ⟨s2,d2,t2,p2⟩ _
 try dsimp only [id_eq,Zb,Za]
 refine dG (r:=lL) (s:=s2) (d:=d2) (t:=t2) (p:=p2) (bz _ _) fun m2a m2b m2c m2d=>?_
 skip
 refine JN ns rfl (fun w1 aS=>OJ w1) ?_
 rintro ⟨ya,yc⟩ _
 try dsimp only [id_eq,Zb,Za]
 skip
 refine JN aZ rfl (fun w1 aS=>OI (k:=nw) T0 ⟨cZ aS (by exact Take.there .here) rfl,c5 aS bN rfl,cY aS cX rfl,cR aS eR rfl⟩ re (ez aS (by exact .here) (by exact rfl))) ?_
 rintro ⟨s3,d3,t3,p3⟩ _
 try dsimp only [id_eq,Zb,Za]
 refine dG (r:=fR) (s:=s3) (d:=d3) (t:=t3) (p:=p3) (bz _ _) fun Z8 Z7 Z6 Z5=>?_
 (refine Jv rfl<|JJ rfl rfl<|JJ rfl rfl<|Jz rfl rfl fun _ _=>aq (.of rfl) (.of rfl) .here rfl rfl (iu rfl rfl Z8 Z7 Z6 Z5) (bC rfl) an ?_;refine Ja rfl<|Ji<|ab (cz .here) rfl ?_)
 rename_i b3 sZ
 refine eS [JW x1 [nT],bA b3 (.cells #[.int .i64 (fR).lv,.int .i64 (fR).ma,s3,d3,t3,p3] 41 (0,0)),J1 (fR) s3,J2 (fR) d3,J3 (fR) t3,J4 (fR) p3] (by exact .cons mq (.cons .here (.cons .here (.cons .here (.cons .here (.cons .here .nil)))))) ?_
 skip
 refine JN bI rfl (fun w1 aS=>kA ⟨cZ aS bN rfl,c5 aS cX rfl,cY aS eR rfl,cR aS fg rfl⟩ zk) ?_
 rintro ⟨s4,d4,t4,p4⟩ _
 try dsimp only [id_eq,Zb,Za]
 refine lI (r:=fR) (s:=s4) (d:=d4) (t:=t4) (p:=p4) (bz _ _) fun m4a m4b m4c m4d=>?_
 skip
 refine JN bI rfl (fun w1 aS=>kZ ⟨cZ aS (by exact .here) rfl,c5 aS (by exact Take.there .here) rfl,cY aS bN rfl,cR aS cX rfl⟩ zk) ?_
 rintro ⟨s5,d5,t5,p5⟩ _
 try dsimp only [id_eq,Zb,Za]
 refine dG (r:=fR) (s:=s5) (d:=d5) (t:=t5) (p:=p5) (bz _ _) fun m5a m5b m5c m5d=>?_
 skip
 refine JN ns rfl (fun w1 aS=>Uj w1) ?_
 rintro ⟨za,zc⟩ _
 try dsimp only [id_eq,Zb,Za]
 skip
 refine JN aZ rfl (fun w1 aS=>OI (k:=Rn) TZ ⟨cZ aS (by exact Take.there .here) rfl,c5 aS bN rfl,cY aS cX rfl,cR aS eR rfl⟩ Ew (ez aS (by exact .here) (by exact rfl))) ?_
 rintro ⟨s6,d6,t6,p6⟩ _
 try dsimp only [id_eq,Zb,Za]
 refine dG (r:=gJ) (s:=s6) (d:=d6) (t:=t6) (p:=p6) (bz _ _) fun Z4 Z3 Z2 Z1=>?_
 (refine Jv rfl<|JJ rfl rfl<|JJ rfl rfl<|Jz rfl rfl fun _ _=>aq (.of rfl) (.of rfl) .here rfl rfl (iu rfl rfl Z4 Z3 Z2 Z1) (bC rfl) an ?_;refine Ja rfl<|Ji<|ab (cz .here) rfl ?_)
 rename_i b5 KF
 refine eS [JW x1 [nT],bA b3 (.cells #[.int .i64 (fR).lv,.int .i64 (fR).ma,s3,d3,t3,p3] 41 (0,0)),J1 (fR) s3,J2 (fR) d3,J3 (fR) t3,J4 (fR) p3,bA b5 (.cells #[.int .i64 (gJ).lv,.int .i64 (gJ).ma,s6,d6,t6,p6] 41 (0,0)),J1 (gJ) s6,J2 (gJ) d6,J3 (gJ) t6,J4 (gJ) p6] (by exact .cons BS (.cons BS (.cons BS (.cons BS (.cons BS (.cons BS (.cons .here (.cons .here (.cons .here (.cons .here (.cons .here .nil))))))))))) ?_
 skip
 refine JN bI rfl (fun w1 aS=>kA ⟨cZ aS BQ rfl,c5 aS Nw rfl,cY aS iS rfl,cR aS mq rfl⟩ zj) ?_
 rintro ⟨s7,d7,t7,p7⟩ _
 try dsimp only [id_eq,Zb,Za]
 refine lI (r:=gJ) (s:=s7) (d:=d7) (t:=t7) (p:=p7) (bz _ _) fun m7a m7b m7c m7d=>?_
 skip
 refine JN bI rfl (fun w1 aS=>kZ ⟨cZ aS (by exact .here) rfl,c5 aS (by exact Take.there .here) rfl,cY aS bN rfl,cR aS cX rfl⟩ zj) ?_
 rintro ⟨s8,d8,t8,p8⟩ _
 try dsimp only [id_eq,Zb,Za]
 refine dG (r:=gJ) (s:=s8) (d:=d8) (t:=t8) (p:=p8) (bz _ _) fun m8a m8b m8c m8d=>?_
 skip
 refine JN ns rfl (fun w1 aS=>J5 w1) ?_
 rintro ⟨ua,uc⟩ _
 try dsimp only [id_eq,Zb,Za]
 refine bb (br (.cons (.of rfl) .nil) rfl rfl bM bM an) rfl (fun _ _=>?_)
 rename_i g4 hg4
 refine bQ (g:=g4) (E:=78) (ys:=(jm [⟨nu,.slice ua 2 uc⟩]).flatten) 1 2 (by exact .here) (by exact rfl) rfl rfl ?_
 refine JN aZ rfl (fun w1 aS=>OK (l:=[⟨nu,.slice ua 2 uc⟩]) Oy ⟨cZ aS bN rfl,c5 aS cX rfl,cY aS eR rfl,cR aS fg rfl⟩ Ev (lY aS (by exact .here) (by exact rfl)) (gN (ez aS (by exact Take.there .here) (by exact rfl)) (jF _))) ?_
 rintro ⟨s9,d9,t9,p9⟩ _
 try dsimp only [id_eq,Zb,Za]
 refine dG (r:=vG) (s:=s9) (d:=d9) (t:=t9) (p:=p9) (bz _ _) fun Z0 ZZ ZY ZX=>?_
 (refine Jv rfl<|JJ rfl rfl<|JJ rfl rfl<|JJ rfl rfl<|Jz rfl rfl fun _ _=>aq (.of rfl) (.of rfl) .here rfl rfl (iu rfl rfl Z0 ZZ ZY ZX) (bC rfl) an ?_;refine Ja rfl<|Ja rfl<|Ji<|ab (cz (.there (.there (.there (.there (.there mo)))))) rfl ?_)
 rename_i b7 TC
 refine eS [JW x1 [nT],bA b3 (.cells #[.int .i64 (fR).lv,.int .i64 (fR).ma,s3,d3,t3,p3] 41 (0,0)),J1 (fR) s3,J2 (fR) d3,J3 (fR) t3,J4 (fR) p3,bA b5 (.cells #[.int .i64 (gJ).lv,.int .i64 (gJ).ma,s6,d6,t6,p6] 41 (0,0)),J1 (gJ) s6,J2 (gJ) d6,J3 (gJ) t6,J4 (gJ) p6,bA b7 (.cells #[.int .i64 (vG).lv,.int .i64 (vG).ma,s9,d9,t9,p9] 41 (0,0)),J1 (vG) s9,J2 (vG) d9,J3 (vG) t9,J4 (vG) p9] (by exact .cons iN (.cons iN (.cons iN (.cons iN (.cons iN (.cons iN (.cons iN (.cons iN (.cons iN (.cons iN (.cons iN (.cons .here (.cons .here (.cons .here (.cons .here (.cons .here .nil)))))))))))))))) ?_
 skip
 refine JN bI rfl (fun w1 aS=>kA ⟨cZ aS BQ rfl,c5 aS Nw rfl,cY aS iS rfl,cR aS mq rfl⟩ zj) ?_
 rintro ⟨Zp,d10,t10,ZO⟩ _
 try dsimp only [id_eq,Zb,Za]
 refine lI (r:=gJ) (s:=Zp) (d:=d10) (t:=t10) (p:=ZO) (bz _ _) fun abv abu abt abr=>?_
 skip
 refine JN bI rfl (fun w1 aS=>kZ ⟨cZ aS (by exact .here) rfl,c5 aS (by exact Take.there .here) rfl,cY aS bN rfl,cR aS cX rfl⟩ zj) ?_
 rintro ⟨Zo,d11,t11,ZN⟩ _
 try dsimp only [id_eq,Zb,Za]
 refine dG (r:=gJ) (s:=Zo) (d:=d11) (t:=t11) (p:=ZN) (bz _ _) fun abq abp abo abn=>?_
 skip
 refine JN ns rfl (fun w1 aS=>J5 w1) ?_
 rintro ⟨va,vc⟩ _
 try dsimp only [id_eq,Zb,Za]
 refine bb (br (.cons (.of rfl) .nil) rfl rfl bM bM an) rfl (fun _ _=>?_)
 rename_i g5 hg5
 refine bQ (g:=g5) (E:=78) (ys:=(jm [⟨nu,.slice va 2 vc⟩]).flatten) 1 2 (by exact .here) (by exact rfl) rfl rfl ?_
 refine JN aZ rfl (fun w1 aS=>Uh (l:=[⟨nu,.slice va 2 vc⟩]) (m:=[nw]) (congrArg (fun x:Ro×Int×Int=>x.2.2) Oy) TX ⟨cZ aS bN rfl,c5 aS cX rfl,cY aS eR rfl,cR aS fg rfl⟩ Ev (lY aS (by exact .here) (by exact rfl)) (gN (ez aS (by exact Take.there .here) (by exact rfl)) (jF _))) ?_
 rintro ⟨wy,W⟩ hW
 try dsimp only at hW
 try dsimp only [id_eq,Zb,Za]
 refine Jv rfl<|JJ rfl rfl<|JJ rfl rfl<|Ja rfl<|Ja rfl<|Ji ?_
 refine eS [JW x1 [nT],bA b3 (.cells #[.int .i64 (fR).lv,.int .i64 (fR).ma,s3,d3,t3,p3] 41 (0,0)),J1 (fR) s3,J2 (fR) d3,J3 (fR) t3,J4 (fR) p3,bA b5 (.cells #[.int .i64 (gJ).lv,.int .i64 (gJ).ma,s6,d6,t6,p6] 41 (0,0)),J1 (gJ) s6,J2 (gJ) d6,J3 (gJ) t6,J4 (gJ) p6,bA b7 (.cells #[.int .i64 (vG).lv,.int .i64 (vG).ma,s9,d9,t9,p9] 41 (0,0)),J1 (vG) s9,J2 (vG) d9,J3 (vG) t9,J4 (vG) p9,row 78 2 wy W.length (jm W).flatten,KX W] (by exact .cons lp (.cons lp (.cons lp (.cons lp (.cons lp (.cons lp (.cons lp (.cons lp (.cons lp (.cons lp (.cons lp (.cons lp (.cons lp (.cons lp (.cons lp (.cons lp (.cons .here (.cons .here .nil)))))))))))))))))) ?_
 skip
 refine JN ns rfl (fun w1 aS=>jk w1) ?_
 rintro ⟨Zn,d12,t12,ZM⟩ _
 try dsimp only [id_eq,Zb,Za]
 refine dG (r:=lL) (s:=Zn) (d:=d12) (t:=t12) (p:=ZM) (bz _ _) fun abm abl abk abj=>?_
 skip
 refine JN pb rfl (fun w1 aS=>JZ 0 j4 nn ⟨cZ aS (by exact .here) rfl,c5 aS (by exact Take.there .here) rfl,cY aS bN rfl,cR aS cX rfl⟩ re Oo.1 Oo.2) ?_
 rintro F3 _
 try dsimp only [id_eq,Zb,Za]
 refine Jv rfl<|JJ rfl rfl<|JJ rfl rfl<|Ja rfl<|Ja rfl<|Ji ?_
 refine JN ns rfl (fun w1 aS=>jk w1) ?_
 rintro ⟨Zm,d13,t13,ZL⟩ _
 try dsimp only [id_eq,Zb,Za]
 refine dG (r:=lL) (s:=Zm) (d:=d13) (t:=t13) (p:=ZL) (bz _ _) fun abi abh abg abf=>?_
 skip
 refine JN pb rfl (fun w1 aS=>J7 0 j4 nn ⟨cZ aS (by exact .here) rfl,c5 aS (by exact Take.there .here) rfl,cY aS bN rfl,cR aS cX rfl⟩ re OA.1 OA.2) ?_
 rintro OP _
 try dsimp only [id_eq,Zb,Za]
 refine Jv rfl<|JJ rfl rfl<|JJ rfl rfl<|Ja rfl<|Ja rfl<|Ji ?_
 refine JN ns rfl (fun w1 aS=>jk w1) ?_
 rintro ⟨Vf,d14,t14,Vt⟩ _
 try dsimp only [id_eq,Zb,Za]
 refine dG (r:=lL) (s:=Vf) (d:=d14) (t:=t14) (p:=Vt) (bz _ _) fun abe abd abc abb=>?_
 refine bb (aA (.cons (.of rfl) .nil) rfl rfl rfl rfl) rfl (fun _ _=>?_)
 rename_i g8 hg8
 with_reducible apply ai
 case hr=>exact Km
 case hd=>rfl
 case hc=>
  intro w1 aS
  have:=vE (r:=lL) (s:=Vf) (d:=d14) (t:=t14) (p:=Vt) (cv:=.slice (some ⟨g8,0,none⟩) 1 1) 0 j4 nn (L:=[0]) (⟨cZ aS (by exact Take.there .here) rfl,c5 aS bN rfl,cY aS cX rfl,cR aS eR rfl⟩:RR w1 lL Vf d14 t14 Vt) re (Mem.dh aS (by exact .here) rfl rfl)
  rw [T3] at this
  exact this
 refine eS [JW x1 [nT],bA b3 (.cells #[.int .i64 (fR).lv,.int .i64 (fR).ma,s3,d3,t3,p3] 41 (0,0)),J1 (fR) s3,J2 (fR) d3,J3 (fR) t3,J4 (fR) p3,bA b5 (.cells #[.int .i64 (gJ).lv,.int .i64 (gJ).ma,s6,d6,t6,p6] 41 (0,0)),J1 (gJ) s6,J2 (gJ) d6,J3 (gJ) t6,J4 (gJ) p6,bA b7 (.cells #[.int .i64 (vG).lv,.int .i64 (vG).ma,s9,d9,t9,p9] 41 (0,0)),J1 (vG) s9,J2 (vG) d9,J3 (vG) t9,J4 (vG) p9,row 78 2 wy W.length (jm W).flatten,KX W,row 3 1 OP [(1:Int)].length ([(1:Int)].map (Value.int .i64))] (by exact .cons iN (.cons iN (.cons iN (.cons iN (.cons iN (.cons iN (.cons iN (.cons iN (.cons iN (.cons iN (.cons iN (.cons iN (.cons iN (.cons iN (.cons iN (.cons iN (.cons iN (.cons iN (.cons fg .nil))))))))))))))))))) ?_
 (refine Ja rfl<|Jn<|Jq<|Jr<|Jv rfl<|Jv rfl<|JB rfl (by omega)<|Jv rfl<|JB rfl (by omega)<|Jv rfl<|JB rfl (by omega)<|Jv rfl<|JB rfl (by omega)<|Jv rfl<|JB rfl (by omega)<|JD rfl<|Jv rfl<|JK rfl rfl<|Jv rfl<|JK rfl rfl<|JD rfl<|ab (dF (.of rfl) (.of rfl) (.of rfl) rfl) rfl ?_;refine Jv rfl<|JK rfl rfl<|Jv rfl<|JK rfl rfl<|JD rfl<|ab (dF (.of rfl) (.of rfl) (.of rfl) rfl) rfl ?_;refine Jv rfl<|JK rfl rfl<|Jv rfl<|JK rfl rfl<|JD rfl<|ab (dF (.of rfl) (.of rfl) (.of rfl) rfl) rfl ?_;refine Jv rfl<|JK rfl rfl<|Jv rfl<|JK rfl rfl<|bb (aA (.cons (.of rfl) .nil) rfl rfl rfl rfl) rfl fun _ _=>?_;refine JK rfl rfl ?_)
 skip
 rename_i g9a acF
 refine ai aZ rfl (fun w1 aS=>lr (l:=[nT]) (ez aS (by exact Take.there .here) (by exact rfl)) (Mem.dh aS (by exact .here) rfl rfl)) ?_
 (refine JK rfl rfl<|JH rfl<|ab (dF (.of rfl) (.of rfl) (.of rfl) rfl) rfl ?_;refine Jv rfl<|JK rfl rfl<|Jv rfl<|JK rfl rfl<|bb (aA (.cons (.of rfl) .nil) rfl rfl rfl rfl) rfl fun _ _=>?_;refine JK rfl rfl ?_)
 rename_i g9b acE
 refine ai aZ rfl (fun w1 aS=>Ln (l:=[1]) (gi aS (.there (.there (.there (.there mo)))) (by exact rfl)) (Mem.dh aS (by exact .here) rfl rfl)) ?_
 (refine JK rfl rfl<|JH rfl<|ab (dF (.of rfl) (.of rfl) (.of rfl) rfl) rfl ?_;refine Jv rfl<|JK rfl rfl<|Jv rfl<|JK rfl rfl ?_)
 have RJ:W.length≤1000:=by
  have h:=congrArg List.length hW
  unfold c8 at h
  rw [Zd] at h
  rw [h];decide
 have hWs:∀ x∈W,x.tk.so.length≤1000:=by
  intro x hx
  have h:x.tk∈c8 W:=List.mem_map_of_mem hx
  rw [hW] at h
  rw [List.mem_singleton.1 h];decide
 refine JN bI rfl (fun w1 aS=>K8 (lY aS (.there (.there mo)) (by exact rfl)) (XI aS (.there (.there (.there mo)))) RJ hWs) ?_
 rintro ⟨x9,V⟩ hV
 try dsimp only at hV
 try dsimp only [id_eq,Zb,Za]
 (refine JK rfl rfl<|bb (aA (.cons (.of rfl) (.cons (.of rfl) .nil)) rfl rfl rfl rfl) rfl fun _ _=>?_;refine JK rfl rfl<|ab (aU (.cons (.of rfl) (.cons (.of rfl) .nil)) an) rfl ?_;refine JK rfl rfl<|bb (br (.cons (.of rfl) .nil) rfl rfl bM bM an) rfl fun _ _=>?_;refine JK rfl rfl ?_)
 rename_i YE acD g9d acC
 refine bQ (g:=g9d) (E:=69) (ys:=(jm [⟨nw,.slice (some ⟨YE,0,none⟩) 2 2⟩]).flatten) 1 2 (by exact .here) (by exact rfl) rfl rfl ?_
 refine ai aZ rfl (fun w1 aS=>Lm (m:=[⟨nw,.slice (some ⟨YE,0,none⟩) 2 2⟩]) (lY aS bN (by exact rfl)) (XI aS cX) (lY aS (by exact .here) (by exact rfl)) (gN (Mem.dh aS (by exact Take.there .here) rfl rfl) (jF _)) (hV.trans (hW.trans rfl))) ?_
 (refine JK rfl rfl<|JH rfl<|ab (dF (.of rfl) (.of rfl) (.of rfl) rfl) rfl ?_;refine Jn<|bL (.of rfl) ?_;refine Jk<|Jq<|Jr<|ab (cz BQ) rfl ?_;refine ab (aU (.cons (.of rfl) (.cons (.of rfl) (.cons (.of rfl) .nil))) an) rfl ?_;refine ab (aU (.cons (.of rfl) (.cons (.of rfl) (.cons (.of rfl) .nil))) an) rfl ?_;refine ab (aU (.cons (.of rfl) (.cons (.of rfl) (.cons (.of rfl) .nil))) an) rfl ?_;refine ab (aU (.cons (.of rfl) (.cons (.of rfl) (.cons (.of rfl) .nil))) an) rfl ?_;refine bb (br (.cons (.of rfl) (.cons (.of rfl) (.cons (.of rfl) (.cons (.of rfl) .nil)))) rfl rfl bM bM an) rfl fun _ _=>?_)
 rename_i Xs Ye
 refine bQ (g:=Xs) (E:=180) (ys:=jf Vr) 4 3 (by exact .here) (by exact rfl) rfl rfl ?_
 refine ai aZ rfl (fun w1 aS=>Hg (r:=fR) (q:=Vr) ⟨cZ aS iS rfl,c5 aS mq rfl,cY aS BU rfl,cR aS lp rfl⟩ zk (cR aS (by exact .here) (by exact rfl)) rfl) ?_
 (refine JH rfl<|Jv rfl<|JK rfl rfl<|ab (cz Ri) rfl ?_;refine JK rfl rfl<|ab (aU (.cons (.of rfl) (.cons (.of rfl) (.cons (.of rfl) .nil))) an) rfl ?_;refine JK rfl rfl<|ab (aU (.cons (.of rfl) (.cons (.of rfl) (.cons (.of rfl) .nil))) an) rfl ?_;refine JK rfl rfl<|ab (aU (.cons (.of rfl) (.cons (.of rfl) (.cons (.of rfl) .nil))) an) rfl ?_;refine JK rfl rfl<|ab (aU (.cons (.of rfl) (.cons (.of rfl) (.cons (.of rfl) .nil))) an) rfl ?_;refine JK rfl rfl<|ab (aU (.cons (.of rfl) (.cons (.of rfl) (.cons (.of rfl) .nil))) an) rfl ?_;refine JK rfl rfl<|bb (br (.cons (.of rfl) (.cons (.of rfl) (.cons (.of rfl) (.cons (.of rfl) (.cons (.of rfl) .nil))))) rfl rfl bM bM an) rfl fun _ _=>?_;refine JK rfl rfl ?_)
 rename_i Xr Yd
 refine bQ (g:=Xr) (E:=180) (ys:=jf Vq) 5 3 (by exact .here) (by exact rfl) rfl rfl ?_
 refine ai aZ rfl (fun w1 aS=>Hg (r:=gJ) (q:=Vq) ⟨cZ aS iN rfl,c5 aS mo rfl,cY aS (.there mo) rfl,cR aS (.there (.there mo)) rfl⟩ zj (cR aS (by exact .here) (by exact rfl)) rfl) ?_
 (refine JK rfl rfl<|JH rfl<|ab (dF (.of rfl) (.of rfl) (.of rfl) rfl) rfl ?_;refine Jv rfl<|JK rfl rfl<|ab (cz (.there (.there (.there mo)))) rfl ?_;refine JK rfl rfl<|ab (aU (.cons (.of rfl) (.cons (.of rfl) (.cons (.of rfl) .nil))) an) rfl ?_;refine JK rfl rfl<|ab (aU (.cons (.of rfl) (.cons (.of rfl) (.cons (.of rfl) .nil))) an) rfl ?_;refine JK rfl rfl<|ab (aU (.cons (.of rfl) (.cons (.of rfl) (.cons (.of rfl) .nil))) an) rfl ?_;refine JK rfl rfl<|ab (aU (.cons (.of rfl) (.cons (.of rfl) (.cons (.of rfl) .nil))) an) rfl ?_;refine JK rfl rfl<|bb (br (.cons (.of rfl) (.cons (.of rfl) (.cons (.of rfl) (.cons (.of rfl) .nil)))) rfl rfl bM bM an) rfl fun _ _=>?_;refine JK rfl rfl ?_)
 rename_i Xq Yc
 refine bQ (g:=Xq) (E:=180) (ys:=jf Vp) 4 3 (by exact .here) (by exact rfl) rfl rfl ?_
 refine ai aZ rfl (fun w1 aS=>Hg (r:=vG) (q:=Vp) ⟨cZ aS (.there (.there (.there (.there (.there mo))))) rfl,c5 aS (.there (.there (.there (.there (.there (.there mo)))))) rfl,cY aS (.there (.there (.there (.there (.there (.there (.there mo))))))) rfl,cR aS (.there (.there (.there (.there (.there (.there (.there (.there mo)))))))) rfl⟩ Xt (cR aS (by exact .here) (by exact rfl)) rfl) ?_
 (refine JK rfl rfl<|JH rfl<|ab (dF (.of rfl) (.of rfl) (.of rfl) rfl) rfl ?_;refine Jn<|bL (.of rfl) ?_;refine Jk<|Jr<|ab (cz iN) rfl ?_)
 refine eS [bA b3 (.cells #[.int .i64 (fR).lv,.int .i64 (fR).ma,s3,d3,t3,p3] 41 (0,0)),J1 (fR) s3,J2 (fR) d3,J3 (fR) t3,J4 (fR) p3,bA b5 (.cells #[.int .i64 (gJ).lv,.int .i64 (gJ).ma,s6,d6,t6,p6] 41 (0,0)),J1 (gJ) s6,J2 (gJ) d6,J3 (gJ) t6,J4 (gJ) p6] (by exact .cons mq (.cons mq (.cons mq (.cons mq (.cons mq (.cons mq (.cons mq (.cons mq (.cons mq (.cons mq .nil)))))))))) ?_
 refine JN bI rfl (fun w1 aS=>kA ⟨cZ aS qm rfl,c5 aS BQ rfl,cY aS Nw rfl,cR aS iS rfl⟩ zj) ?_
 rintro ⟨Zl,d15,t15,ZK⟩ _
 try dsimp only [id_eq,Zb,Za]
 refine lI (r:=gJ) (s:=Zl) (d:=d15) (t:=t15) (p:=ZK) (bz _ _) fun aba aa9 aa8 aa7=>?_
 skip
 refine JN bI rfl (fun w1 aS=>kZ ⟨cZ aS (by exact .here) rfl,c5 aS (by exact Take.there .here) rfl,cY aS bN rfl,cR aS cX rfl⟩ zj) ?_
 rintro ⟨Zk,d16,t16,ZJ⟩ _
 try dsimp only [id_eq,Zb,Za]
 refine dG (r:=gJ) (s:=Zk) (d:=d16) (t:=t16) (p:=ZJ) (bz _ _) fun aa6 aa5 aa4 aa3=>?_
 skip
 refine JN aZ rfl (fun w1 aS=>Ul iU ⟨cZ aS (by exact .here) rfl,c5 aS (by exact Take.there .here) rfl,cY aS bN rfl,cR aS cX rfl⟩ Ev T1.1 T1.2) ?_
 rintro Gh _
 try dsimp only [id_eq,Zb,Za]
 refine Jv rfl<|JJ rfl rfl<|JJ rfl rfl<|Ja rfl<|Ja rfl<|Ji<|ab (cz iS) rfl ?_
 refine eS [bA b3 (.cells #[.int .i64 (fR).lv,.int .i64 (fR).ma,s3,d3,t3,p3] 41 (0,0)),J1 (fR) s3,J2 (fR) d3,J3 (fR) t3,J4 (fR) p3,bA b5 (.cells #[.int .i64 (gJ).lv,.int .i64 (gJ).ma,s6,d6,t6,p6] 41 (0,0)),J1 (gJ) s6,J2 (gJ) d6,J3 (gJ) t6,J4 (gJ) p6,row 9 1 Gh ([cH,⟨#[]⟩]:List ByteArray).length (aO [cH,⟨#[]⟩])] (by exact .cons iS (.cons iS (.cons iS (.cons iS (.cons iS (.cons iS (.cons iS (.cons iS (.cons iS (.cons iS (.cons .here .nil))))))))))) ?_
 refine JN bI rfl (fun w1 aS=>kA ⟨cZ aS (by exact Take.there .here) rfl,c5 aS bN rfl,cY aS cX rfl,cR aS eR rfl⟩ zk) ?_
 rintro ⟨Y9,d17,t17,ZI⟩ _
 try dsimp only [id_eq,Zb,Za]
 refine lI (r:=fR) (s:=Y9) (d:=d17) (t:=t17) (p:=ZI) (bz _ _) fun aa2 aa1 aa0 aaZ=>?_
 skip
 refine JN bI rfl (fun w1 aS=>kZ ⟨cZ aS (by exact .here) rfl,c5 aS (by exact Take.there .here) rfl,cY aS bN rfl,cR aS cX rfl⟩ zk) ?_
 rintro ⟨Y8,d18,t18,ZH⟩ _
 try dsimp only [id_eq,Zb,Za]
 refine dG (r:=fR) (s:=Y8) (d:=d18) (t:=t18) (p:=ZH) (bz _ _) fun aaY aaX aaW aaV=>?_
 skip
 refine JN eh rfl (fun w1 aS=>Ui 0 dE ⟨cZ aS (by exact .here) rfl,c5 aS (by exact Take.there .here) rfl,cY aS bN rfl,cR aS cX rfl⟩ Ew Ou.1 Ou.2) ?_
 rintro Ko _
 try dsimp only [id_eq,Zb,Za]
 refine Jv rfl<|JJ rfl rfl<|JJ rfl rfl<|Ja rfl<|Ja rfl<|Ji<|ab (cz iS) rfl ?_
 refine eS [bA b3 (.cells #[.int .i64 (fR).lv,.int .i64 (fR).ma,s3,d3,t3,p3] 41 (0,0)),J1 (fR) s3,J2 (fR) d3,J3 (fR) t3,J4 (fR) p3,bA b5 (.cells #[.int .i64 (gJ).lv,.int .i64 (gJ).ma,s6,d6,t6,p6] 41 (0,0)),J1 (gJ) s6,J2 (gJ) d6,J3 (gJ) t6,J4 (gJ) p6,row 9 1 Gh ([cH,⟨#[]⟩]:List ByteArray).length (aO [cH,⟨#[]⟩]),row 9 1 Ko ([cH,nT,dE]:List ByteArray).length (aO [cH,nT,dE])] (by exact .cons iS (.cons iS (.cons iS (.cons iS (.cons iS (.cons iS (.cons iS (.cons iS (.cons iS (.cons iS (.cons iS (.cons .here .nil)))))))))))) ?_
 refine JN bI rfl (fun w1 aS=>kA ⟨cZ aS (by exact Take.there .here) rfl,c5 aS bN rfl,cY aS cX rfl,cR aS eR rfl⟩ zk) ?_
 rintro ⟨Y7,d19,t19,ZG⟩ _
 try dsimp only [id_eq,Zb,Za]
 refine lI (r:=fR) (s:=Y7) (d:=d19) (t:=t19) (p:=ZG) (bz _ _) fun aaU aaT aaS aaR=>?_
 skip
 refine JN bI rfl (fun w1 aS=>kZ ⟨cZ aS (by exact .here) rfl,c5 aS (by exact Take.there .here) rfl,cY aS bN rfl,cR aS cX rfl⟩ zk) ?_
 rintro ⟨Y6,d20,t20,ZF⟩ _
 try dsimp only [id_eq,Zb,Za]
 refine dG (r:=fR) (s:=Y6) (d:=d20) (t:=t20) (p:=ZF) (bz _ _) fun aaQ aaP aaO aaN=>?_
 skip
 refine JN aZ rfl (fun w1 aS=>Um 0 ⟨cZ aS (by exact .here) rfl,c5 aS (by exact Take.there .here) rfl,cY aS bN rfl,cR aS cX rfl⟩ Ew OB.1 OB.2) ?_
 rintro KN _
 try dsimp only [id_eq,Zb,Za]
 refine Jv rfl<|JJ rfl rfl<|JJ rfl rfl<|Ja rfl<|Ja rfl<|Ji<|ab (cz BS) rfl ?_
 refine eS [bA b3 (.cells #[.int .i64 (fR).lv,.int .i64 (fR).ma,s3,d3,t3,p3] 41 (0,0)),J1 (fR) s3,J2 (fR) d3,J3 (fR) t3,J4 (fR) p3,bA b5 (.cells #[.int .i64 (gJ).lv,.int .i64 (gJ).ma,s6,d6,t6,p6] 41 (0,0)),J1 (gJ) s6,J2 (gJ) d6,J3 (gJ) t6,J4 (gJ) p6,row 9 1 Gh ([cH,⟨#[]⟩]:List ByteArray).length (aO [cH,⟨#[]⟩]),row 9 1 Ko ([cH,nT,dE]:List ByteArray).length (aO [cH,nT,dE]),row 9 1 KN ([nT]:List ByteArray).length (aO [nT])] (by exact .cons iS (.cons iS (.cons iS (.cons iS (.cons iS (.cons iS (.cons iS (.cons iS (.cons iS (.cons iS (.cons iS (.cons iS (.cons .here .nil))))))))))))) ?_
 refine JN bI rfl (fun w1 aS=>kA ⟨cZ aS qm rfl,c5 aS BQ rfl,cY aS Nw rfl,cR aS iS rfl⟩ zj) ?_
 rintro ⟨Y5,d21,t21,ZE⟩ _
 try dsimp only [id_eq,Zb,Za]
 refine lI (r:=gJ) (s:=Y5) (d:=d21) (t:=t21) (p:=ZE) (bz _ _) fun aaM aaL aaK aaJ=>?_
 skip
 refine JN bI rfl (fun w1 aS=>kZ ⟨cZ aS (by exact .here) rfl,c5 aS (by exact Take.there .here) rfl,cY aS bN rfl,cR aS cX rfl⟩ zj) ?_
 rintro ⟨Y4,d22,t22,ZD⟩ _
 try dsimp only [id_eq,Zb,Za]
 refine dG (r:=gJ) (s:=Y4) (d:=d22) (t:=t22) (p:=ZD) (bz _ _) fun aaI aaH aaG aaF=>?_
 skip
 refine JN eh rfl (fun w1 aS=>Ug 0 cH ⟨cZ aS (by exact .here) rfl,c5 aS (by exact Take.there .here) rfl,cY aS bN rfl,cR aS cX rfl⟩ Ev Ot.1 Ot.2) ?_
 rintro Nz _
 try dsimp only [id_eq,Zb,Za]
 refine Jv rfl<|JJ rfl rfl<|JJ rfl rfl<|Ja rfl<|Ja rfl<|Ji<|ab (cz iS) rfl ?_
 refine eS [bA b3 (.cells #[.int .i64 (fR).lv,.int .i64 (fR).ma,s3,d3,t3,p3] 41 (0,0)),J1 (fR) s3,J2 (fR) d3,J3 (fR) t3,J4 (fR) p3,bA b5 (.cells #[.int .i64 (gJ).lv,.int .i64 (gJ).ma,s6,d6,t6,p6] 41 (0,0)),J1 (gJ) s6,J2 (gJ) d6,J3 (gJ) t6,J4 (gJ) p6,row 9 1 Gh ([cH,⟨#[]⟩]:List ByteArray).length (aO [cH,⟨#[]⟩]),row 9 1 Ko ([cH,nT,dE]:List ByteArray).length (aO [cH,nT,dE]),row 9 1 KN ([nT]:List ByteArray).length (aO [nT]),row 9 1 Nz ([dE,iU]:List ByteArray).length (aO [dE,iU])] (by exact .cons iS (.cons iS (.cons iS (.cons iS (.cons iS (.cons iS (.cons iS (.cons iS (.cons iS (.cons iS (.cons iS (.cons iS (.cons iS (.cons .here .nil)))))))))))))) ?_
 refine JN bI rfl (fun w1 aS=>kA ⟨cZ aS (by exact Take.there .here) rfl,c5 aS bN rfl,cY aS cX rfl,cR aS eR rfl⟩ zk) ?_
 rintro ⟨Y3,d23,t23,ZC⟩ _
 try dsimp only [id_eq,Zb,Za]
 refine lI (r:=fR) (s:=Y3) (d:=d23) (t:=t23) (p:=ZC) (bz _ _) fun aaE aaD aaC aaB=>?_
 skip
 refine JN bI rfl (fun w1 aS=>kZ ⟨cZ aS (by exact .here) rfl,c5 aS (by exact Take.there .here) rfl,cY aS bN rfl,cR aS cX rfl⟩ zk) ?_
 rintro ⟨Y2,d24,t24,ZB⟩ _
 try dsimp only [id_eq,Zb,Za]
 refine dG (r:=fR) (s:=Y2) (d:=d24) (t:=t24) (p:=ZB) (bz _ _) fun aaA aaz aay aax=>?_
 skip
 refine JN eh rfl (fun w1 aS=>Uk (b:=true) nn ⟨cZ aS (by exact .here) rfl,c5 aS (by exact Take.there .here) rfl,cY aS bN rfl,cR aS cX rfl⟩ Ew Oz.1 Oz.2) ?_
 rintro ⟨Ve,d25,t25,Vs⟩ _
 try dsimp only [id_eq,Zb,Za]
 refine dG (r:=Co) (s:=Ve) (d:=d25) (t:=t25) (p:=Vs) (bz _ _) fun VF VE VD VC=>?_
 (refine Jv rfl<|JJ rfl rfl<|JJ rfl rfl<|Jz rfl rfl fun _ _=>aq (.of rfl) (.of rfl) .here rfl rfl (iu rfl rfl VF VE VD VC) (bC rfl) an ?_;refine Ja rfl<|Ji<|ab (cz .here) rfl ?_)
 rename_i b25 acX
 refine eS [row 9 1 Gh ([cH,⟨#[]⟩]:List ByteArray).length (aO [cH,⟨#[]⟩]),row 9 1 Ko ([cH,nT,dE]:List ByteArray).length (aO [cH,nT,dE]),row 9 1 KN ([nT]:List ByteArray).length (aO [nT]),row 9 1 Nz ([dE,iU]:List ByteArray).length (aO [dE,iU]),bA b25 (.cells #[.int .i64 (Co).lv,.int .i64 (Co).ma,Ve,d25,t25,Vs] 41 (0,0)),J1 (Co) Ve,J2 (Co) d25,J3 (Co) t25,J4 (Co) Vs] (by exact .cons (.there (.there (.there (.there (.there (.there (.there mo))))))) (.cons (.there (.there (.there (.there (.there (.there (.there mo))))))) (.cons (.there (.there (.there (.there (.there (.there (.there mo))))))) (.cons (.there (.there (.there (.there (.there (.there (.there mo))))))) (.cons .here (.cons .here (.cons .here (.cons .here (.cons .here .nil))))))))) ?_
 refine JN bI rfl (fun w1 aS=>kA ⟨cZ aS fg rfl,c5 aS qm rfl,cY aS BQ rfl,cR aS Nw rfl⟩ TU) ?_
 rintro ⟨Y1,d26,t26,ZA⟩ _
 try dsimp only [id_eq,Zb,Za]
 refine lI (r:=Co) (s:=Y1) (d:=d26) (t:=t26) (p:=ZA) (bz _ _) fun aaw aav aau aat=>?_
 skip
 refine JN bI rfl (fun w1 aS=>kZ ⟨cZ aS (by exact .here) rfl,c5 aS (by exact Take.there .here) rfl,cY aS bN rfl,cR aS cX rfl⟩ TU) ?_
 rintro ⟨Y0,d27,t27,Zz⟩ _
 try dsimp only [id_eq,Zb,Za]
 refine dG (r:=Co) (s:=Y0) (d:=d27) (t:=t27) (p:=Zz) (bz _ _) fun aas aar aaq aap=>?_
 (refine bb (aA (.cons (.of rfl) (.cons (.of rfl) .nil)) rfl rfl rfl rfl) rfl fun _ _=>?_;refine ab (aU (.cons (.of rfl) (.cons (.of rfl) .nil)) an) rfl ?_;refine bb (aA (.cons (.of rfl) (.cons (.of rfl) .nil)) rfl rfl rfl rfl) rfl fun _ _=>?_;refine ab (aU (.cons (.of rfl) (.cons (.of rfl) .nil)) an) rfl ?_;refine bb (br (.cons (.of rfl) (.cons (.of rfl) .nil)) rfl rfl bM bM an) rfl fun _ _=>?_)
 rename_i ga hga gb hgb gc hgc
 refine bQ (g:=gc) (E:=78) (ys:=(jm [⟨⟨iU,[⟨#[45]⟩,⟨#[]⟩]⟩,.slice (some ⟨ga,0,none⟩) 2 2⟩,⟨⟨nn,[cH,cH]⟩,.slice (some ⟨gb,0,none⟩) 2 2⟩]).flatten) 2 2 (by exact .here) (by exact rfl) rfl rfl ?_
 refine JN aZ rfl (fun w1 aS=>OK (q:=(jd Co [⟨iU,[⟨#[45]⟩,⟨#[]⟩]⟩,⟨nn,[cH,cH]⟩]).1) (i:=1) (e_:=31) (l:=[⟨⟨iU,[⟨#[45]⟩,⟨#[]⟩]⟩,.slice (some ⟨ga,0,none⟩) 2 2⟩,⟨⟨nn,[cH,cH]⟩,.slice (some ⟨gb,0,none⟩) 2 2⟩]) (Prod.ext rfl TY) ⟨cZ aS cX rfl,c5 aS eR rfl,cY aS fg rfl,cR aS qm rfl⟩ TW (lY aS (by exact .here) (by exact rfl)) (gN (Cv (g:=ga) (x:=⟨#[45]⟩) (y:=⟨#[]⟩) aS bN) (gN (Cv (g:=gb) (x:=⟨#[99,97,109]⟩) (y:=⟨#[99,97,109]⟩) aS (by exact Take.there .here)) (jF _)))) ?_
 rintro ⟨YZ,d28,t28,Zy⟩ _
 try dsimp only [id_eq,Zb,Za]
 refine dG (r:=(jd Co [⟨iU,[⟨#[45]⟩,⟨#[]⟩]⟩,⟨nn,[cH,cH]⟩]).1) (s:=YZ) (d:=d28) (t:=t28) (p:=Zy) (bz _ _) fun VB VA Vz Vw=>?_
 (refine Jv rfl<|JJ rfl rfl<|JJ rfl rfl<|JJ rfl rfl<|Jz rfl rfl fun _ _=>aq (.of rfl) (.of rfl) .here rfl rfl (iu rfl rfl VB VA Vz Vw) (bC rfl) an ?_;refine Ja rfl<|Ja rfl<|Ji ?_)
 refine eS [row 9 1 Gh ([cH,⟨#[]⟩]:List ByteArray).length (aO [cH,⟨#[]⟩]),row 9 1 Ko ([cH,nT,dE]:List ByteArray).length (aO [cH,nT,dE]),row 9 1 KN ([nT]:List ByteArray).length (aO [nT]),row 9 1 Nz ([dE,iU]:List ByteArray).length (aO [dE,iU])] (by exact .cons mo (.cons mo (.cons mo (.cons mo .nil)))) ?_
 refine JN ns rfl (fun w1 aS=>OJ w1) ?_
 rintro ⟨ya,yc⟩ _
 try dsimp only [id_eq,Zb,Za]
 (refine bb (br (.cons (.of rfl) .nil) rfl rfl bM bM an) rfl fun _ _=>?_;refine ab (aU (.cons (.of rfl) (.cons (.of rfl) .nil)) an) rfl ?_)
 rename_i ge Iq
 refine JN ns rfl (fun w1 aS=>J5 w1) ?_
 rintro ⟨ua,uc⟩ _
 try dsimp only [id_eq,Zb,Za]
 (refine bb (br (.cons (.of rfl) .nil) rfl rfl bM bM an) rfl fun _ _=>?_;refine ab (aU (.cons (.of rfl) (.cons (.of rfl) .nil)) an) rfl ?_;refine bb (br (.cons (.of rfl) (.cons (.of rfl) .nil)) rfl rfl bM bM an) rfl fun _ _=>?_;refine Ja rfl<|Ji ?_)
 rename_i gf hgf gg hgg
 refine bQ (g:=ge) (E:=78) (ys:=(jm [⟨nw,.slice ya 2 yc⟩]).flatten) 1 2 cX (by exact rfl) rfl rfl ?_
 refine bQ (g:=gf) (E:=78) (ys:=(jm [⟨nu,.slice ua 2 uc⟩]).flatten) 1 2 bN (by exact rfl) rfl rfl ?_
 refine bQ (g:=gg) (E:=182) (ys:=(su [⟨10,[⟨nw,.slice ya 2 yc⟩],.slice (some ⟨ge,0,none⟩) 1 1⟩,⟨12,[⟨nu,.slice ua 2 uc⟩],.slice (some ⟨gf,0,none⟩) 1 1⟩]).flatten) 2 2 bN (by exact rfl) rfl rfl ?_
 refine eS [row 9 1 Gh ([cH,⟨#[]⟩]:List ByteArray).length (aO [cH,⟨#[]⟩]),row 9 1 Ko ([cH,nT,dE]:List ByteArray).length (aO [cH,nT,dE]),row 9 1 KN ([nT]:List ByteArray).length (aO [nT]),row 9 1 Nz ([dE,iU]:List ByteArray).length (aO [dE,iU]),row 182 2 (.slice (some ⟨gg,0,none⟩) 2 2) 2 (su [⟨10,[⟨nw,.slice ya 2 yc⟩],.slice (some ⟨ge,0,none⟩) 1 1⟩,⟨12,[⟨nu,.slice ua 2 uc⟩],.slice (some ⟨gf,0,none⟩) 1 1⟩]).flatten,row 78 2 (.slice (some ⟨ge,0,none⟩) 1 1) 1 (jm [⟨nw,.slice ya 2 yc⟩]).flatten,row 78 2 (.slice (some ⟨gf,0,none⟩) 1 1) 1 (jm [⟨nu,.slice ua 2 uc⟩]).flatten,row 9 1 (.slice ya 2 yc) 2 (aO nw.so),row 9 1 (.slice ua 2 uc) 2 (aO nu.so)] (by exact .cons fg (.cons fg (.cons fg (.cons fg (.cons .here (.cons (.there .here) (.cons .here (.cons (.there .here) (.cons .here .nil))))))))) ?_
 skip
 refine JN ns rfl (fun w1 aS=>jk w1) ?_
 rintro ⟨YY,d29,t29,Zx⟩ _
 try dsimp only [id_eq,Zb,Za]
 refine dG (r:=lL) (s:=YY) (d:=d29) (t:=t29) (p:=Zx) (bz _ _) fun aao aan aam aal=>?_
 refine NR rfl rfl ?_
 refine JN pb rfl (fun w1 aS=>J6 (l:=[⟨10,[⟨nw,.slice ya 2 yc⟩],.slice (some ⟨ge,0,none⟩) 1 1⟩,⟨12,[⟨nu,.slice ua 2 uc⟩],.slice (some ⟨gf,0,none⟩) 1 1⟩]) (m:=[⟨10,[nw]⟩,⟨12,[nu]⟩]) dE 9 rfl ⟨cZ aS (by exact .here) rfl,c5 aS (by exact Take.there .here) rfl,cY aS bN rfl,cR aS cX rfl⟩ re Ox.1 Ox.2 (CF aS Nw (by exact rfl)) (l7 (lY aS iS (by exact rfl)) (gN (ez aS BU (by exact rfl)) (jF _)) (l7 (lY aS mq (by exact rfl)) (gN (ez aS lp (by exact rfl)) (jF _)) (yQ _)))) ?_
 rintro Uy _
 try dsimp only [id_eq,Zb,Za]
 refine Jv rfl<|JJ rfl rfl<|JJ rfl rfl<|Ja rfl<|Ja rfl<|Ji ?_
 refine eS [row 9 1 Gh ([cH,⟨#[]⟩]:List ByteArray).length (aO [cH,⟨#[]⟩]),row 9 1 Ko ([cH,nT,dE]:List ByteArray).length (aO [cH,nT,dE]),row 9 1 KN ([nT]:List ByteArray).length (aO [nT]),row 9 1 Nz ([dE,iU]:List ByteArray).length (aO [dE,iU]),row 182 2 (.slice (some ⟨gg,0,none⟩) 2 2) 2 (su [⟨10,[⟨nw,.slice ya 2 yc⟩],.slice (some ⟨ge,0,none⟩) 1 1⟩,⟨12,[⟨nu,.slice ua 2 uc⟩],.slice (some ⟨gf,0,none⟩) 1 1⟩]).flatten,row 78 2 (.slice (some ⟨ge,0,none⟩) 1 1) 1 (jm [⟨nw,.slice ya 2 yc⟩]).flatten,row 78 2 (.slice (some ⟨gf,0,none⟩) 1 1) 1 (jm [⟨nu,.slice ua 2 uc⟩]).flatten,row 9 1 (.slice ya 2 yc) 2 (aO nw.so),row 9 1 (.slice ua 2 uc) 2 (aO nu.so),row 9 1 Uy ([⟨#[]⟩,⟨#[]⟩]:List ByteArray).length (aO [⟨#[]⟩,⟨#[]⟩])] (by exact .cons fg (.cons fg (.cons fg (.cons fg (.cons fg (.cons fg (.cons fg (.cons fg (.cons fg (.cons .here .nil)))))))))) ?_
 skip
 refine JN ns rfl (fun w1 aS=>jk w1) ?_
 rintro ⟨YX,d30,t30,Zw⟩ _
 try dsimp only [id_eq,Zb,Za]
 refine dG (r:=lL) (s:=YX) (d:=d30) (t:=t30) (p:=Zw) (bz _ _) fun aak aaj aai aah=>?_
 refine NR rfl rfl ?_
 refine JN pb rfl (fun w1 aS=>J6 (l:=[⟨10,[⟨nw,.slice ya 2 yc⟩],.slice (some ⟨ge,0,none⟩) 1 1⟩,⟨12,[⟨nu,.slice ua 2 uc⟩],.slice (some ⟨gf,0,none⟩) 1 1⟩]) (m:=[⟨10,[nw]⟩,⟨12,[nu]⟩]) dE 11 rfl ⟨cZ aS (by exact .here) rfl,c5 aS (by exact Take.there .here) rfl,cY aS bN rfl,cR aS cX rfl⟩ re Ow.1 Ow.2 (CF aS Nw (by exact rfl)) (l7 (lY aS iS (by exact rfl)) (gN (ez aS BU (by exact rfl)) (jF _)) (l7 (lY aS mq (by exact rfl)) (gN (ez aS lp (by exact rfl)) (jF _)) (yQ _)))) ?_
 rintro U7 _
 try dsimp only [id_eq,Zb,Za]
 refine Jv rfl<|JJ rfl rfl<|JJ rfl rfl<|Ja rfl<|Ja rfl<|Ji ?_
 refine eS [row 9 1 Gh ([cH,⟨#[]⟩]:List ByteArray).length (aO [cH,⟨#[]⟩]),row 9 1 Ko ([cH,nT,dE]:List ByteArray).length (aO [cH,nT,dE]),row 9 1 KN ([nT]:List ByteArray).length (aO [nT]),row 9 1 Nz ([dE,iU]:List ByteArray).length (aO [dE,iU]),row 182 2 (.slice (some ⟨gg,0,none⟩) 2 2) 2 (su [⟨10,[⟨nw,.slice ya 2 yc⟩],.slice (some ⟨ge,0,none⟩) 1 1⟩,⟨12,[⟨nu,.slice ua 2 uc⟩],.slice (some ⟨gf,0,none⟩) 1 1⟩]).flatten,row 78 2 (.slice (some ⟨ge,0,none⟩) 1 1) 1 (jm [⟨nw,.slice ya 2 yc⟩]).flatten,row 78 2 (.slice (some ⟨gf,0,none⟩) 1 1) 1 (jm [⟨nu,.slice ua 2 uc⟩]).flatten,row 9 1 (.slice ya 2 yc) 2 (aO nw.so),row 9 1 (.slice ua 2 uc) 2 (aO nu.so),row 9 1 Uy ([⟨#[]⟩,⟨#[]⟩]:List ByteArray).length (aO [⟨#[]⟩,⟨#[]⟩]),row 9 1 U7 ([cH,cH]:List ByteArray).length (aO [cH,cH])] (by exact .cons fg (.cons fg (.cons fg (.cons fg (.cons fg (.cons fg (.cons fg (.cons fg (.cons fg (.cons fg (.cons .here .nil))))))))))) ?_
 skip
 refine JN ns rfl (fun w1 aS=>jk w1) ?_
 rintro ⟨YW,d31,t31,Zv⟩ _
 try dsimp only [id_eq,Zb,Za]
 refine dG (r:=lL) (s:=YW) (d:=d31) (t:=t31) (p:=Zv) (bz _ _) fun aag aaf aae aad=>?_
 refine NR rfl rfl ?_
 refine JN pb rfl (fun w1 aS=>J6 (l:=[⟨10,[⟨nw,.slice ya 2 yc⟩],.slice (some ⟨ge,0,none⟩) 1 1⟩,⟨12,[⟨nu,.slice ua 2 uc⟩],.slice (some ⟨gf,0,none⟩) 1 1⟩]) (m:=[⟨10,[nw]⟩,⟨12,[nu]⟩]) dE 12 rfl ⟨cZ aS (by exact .here) rfl,c5 aS (by exact Take.there .here) rfl,cY aS bN rfl,cR aS cX rfl⟩ re Ov.1 Ov.2 (CF aS Nw (by exact rfl)) (l7 (lY aS iS (by exact rfl)) (gN (ez aS BU (by exact rfl)) (jF _)) (l7 (lY aS mq (by exact rfl)) (gN (ez aS lp (by exact rfl)) (jF _)) (yQ _)))) ?_
 rintro XG _
 try dsimp only [id_eq,Zb,Za]
 refine Jv rfl<|JJ rfl rfl<|JJ rfl rfl<|Ja rfl<|Ja rfl<|Ji ?_
 refine eS [row 9 1 Gh ([cH,⟨#[]⟩]:List ByteArray).length (aO [cH,⟨#[]⟩]),row 9 1 Ko ([cH,nT,dE]:List ByteArray).length (aO [cH,nT,dE]),row 9 1 KN ([nT]:List ByteArray).length (aO [nT]),row 9 1 Nz ([dE,iU]:List ByteArray).length (aO [dE,iU]),row 182 2 (.slice (some ⟨gg,0,none⟩) 2 2) 2 (su [⟨10,[⟨nw,.slice ya 2 yc⟩],.slice (some ⟨ge,0,none⟩) 1 1⟩,⟨12,[⟨nu,.slice ua 2 uc⟩],.slice (some ⟨gf,0,none⟩) 1 1⟩]).flatten,row 78 2 (.slice (some ⟨ge,0,none⟩) 1 1) 1 (jm [⟨nw,.slice ya 2 yc⟩]).flatten,row 78 2 (.slice (some ⟨gf,0,none⟩) 1 1) 1 (jm [⟨nu,.slice ua 2 uc⟩]).flatten,row 9 1 (.slice ya 2 yc) 2 (aO nw.so),row 9 1 (.slice ua 2 uc) 2 (aO nu.so),row 9 1 Uy ([⟨#[]⟩,⟨#[]⟩]:List ByteArray).length (aO [⟨#[]⟩,⟨#[]⟩]),row 9 1 U7 ([cH,cH]:List ByteArray).length (aO [cH,cH]),row 9 1 XG ([j4,j4]:List ByteArray).length (aO [j4,j4])] (by exact .cons fg (.cons fg (.cons fg (.cons fg (.cons fg (.cons fg (.cons fg (.cons fg (.cons fg (.cons fg (.cons fg (.cons .here .nil)))))))))))) ?_
 refine JN ns rfl (fun w1 aS=>jk w1) ?_
 rintro ⟨YV,d32,t32,Zu⟩ _
 try dsimp only [id_eq,Zb,Za]
 refine dG (r:=lL) (s:=YV) (d:=d32) (t:=t32) (p:=Zu) (bz _ _) fun aac aab aaa Z9=>?_
 skip
 refine ai bI rfl (fun w1 aS=>Q8 ⟨cZ aS (by exact .here) rfl,c5 aS (by exact Take.there .here) rfl,cY aS bN rfl,cR aS cX rfl⟩) ?_
 refine eS [row 9 1 Gh ([cH,⟨#[]⟩]:List ByteArray).length (aO [cH,⟨#[]⟩]),row 9 1 Ko ([cH,nT,dE]:List ByteArray).length (aO [cH,nT,dE]),row 9 1 KN ([nT]:List ByteArray).length (aO [nT]),row 9 1 Nz ([dE,iU]:List ByteArray).length (aO [dE,iU]),row 9 1 Uy ([⟨#[]⟩,⟨#[]⟩]:List ByteArray).length (aO [⟨#[]⟩,⟨#[]⟩]),row 9 1 U7 ([cH,cH]:List ByteArray).length (aO [cH,cH]),row 9 1 XG ([j4,j4]:List ByteArray).length (aO [j4,j4])] (by exact .cons eR (.cons eR (.cons eR (.cons eR (.cons iS (.cons iS (.cons iS .nil))))))) ?_
 refine Jv rfl<|JJ rfl rfl<|JJ rfl rfl<|Ja rfl<|Ja rfl<|Ji ?_
 simp only [Zb,Za,List.append_eq,List.append]
 (refine Jv rfl<|Jv rfl<|JB rfl (by omega)<|Jv rfl<|JB rfl (by omega)<|Jv rfl<|JB rfl (by omega)<|Jv rfl<|JB rfl (by omega)<|Jv rfl<|JB rfl (by omega)<|Jv rfl<|JB rfl (by omega)<|Jv rfl<|JB rfl (by omega)<|Jv rfl<|JB rfl (by omega)<|JC rfl<|Jv rfl<|JK rfl rfl<|Jv rfl<|JK rfl rfl<|JC rfl<|ab (dF (.of rfl) (.of rfl) (.of rfl) rfl) rfl ?_;refine Jv rfl<|JK rfl rfl<|Jv rfl<|JK rfl rfl<|JC rfl<|ab (dF (.of rfl) (.of rfl) (.of rfl) rfl) rfl ?_;refine Jv rfl<|JK rfl rfl<|Jv rfl<|JK rfl rfl<|bb (aA (.cons (.of rfl) (.cons (.of rfl) .nil)) rfl rfl rfl rfl) rfl fun _ _=>?_;refine JK rfl rfl ?_)
 rename_i gz0 acx
 refine ai aZ rfl (fun w1 aS=>lr (l:=[cH,⟨#[]⟩]) (ez aS (by exact Take.there .here) (by exact rfl)) (Cv (g:=gz0) (x:=⟨#[99,97,109]⟩) (y:=⟨#[]⟩) aS (by exact .here))) ?_
 (refine ab (dF (.of rfl) (.of rfl) (.of rfl) rfl) rfl ?_;refine Jv rfl<|JK rfl rfl<|Jv rfl<|JK rfl rfl<|bb (aA (.cons (.of rfl) (.cons (.of rfl) (.cons (.of rfl) .nil))) rfl rfl rfl rfl) rfl fun _ _=>?_;refine JK rfl rfl ?_)
 rename_i gz1 acw
 refine ai aZ rfl (fun w1 aS=>lr (l:=[cH,nT,dE]) (ez aS cX (by exact rfl)) (Vj (g:=gz1) (x:=⟨#[99,97,109]⟩) (y:=⟨#[116]⟩) (z:=⟨#[97,105,114]⟩) aS (by exact .here))) ?_
 (refine ab (dF (.of rfl) (.of rfl) (.of rfl) rfl) rfl ?_;refine Jv rfl<|JK rfl rfl<|Jv rfl<|JK rfl rfl<|bb (aA (.cons (.of rfl) .nil) rfl rfl rfl rfl) rfl fun _ _=>?_;refine JK rfl rfl ?_)
 rename_i gz2 acv
 refine ai aZ rfl (fun w1 aS=>lr (l:=[nT]) (ez aS fg (by exact rfl)) (Vk (g:=gz2) (x:=⟨#[116]⟩) aS (by exact .here))) ?_
 (refine ab (dF (.of rfl) (.of rfl) (.of rfl) rfl) rfl ?_;refine Jv rfl<|JK rfl rfl<|Jv rfl<|JK rfl rfl<|bb (aA (.cons (.of rfl) (.cons (.of rfl) .nil)) rfl rfl rfl rfl) rfl fun _ _=>?_;refine JK rfl rfl ?_)
 rename_i gz3 acu
 refine ai aZ rfl (fun w1 aS=>lr (l:=[dE,iU]) (ez aS BQ (by exact rfl)) (Cv (g:=gz3) (x:=⟨#[97,105,114]⟩) (y:=⟨#[114,101,99]⟩) aS (by exact .here))) ?_
 (refine ab (dF (.of rfl) (.of rfl) (.of rfl) rfl) rfl ?_;refine Jv rfl<|JK rfl rfl<|Jv rfl<|JK rfl rfl<|bb (aA (.cons (.of rfl) (.cons (.of rfl) .nil)) rfl rfl rfl rfl) rfl fun _ _=>?_;refine JK rfl rfl ?_)
 rename_i gz4 acs
 refine ai aZ rfl (fun w1 aS=>lr (l:=[⟨#[]⟩,⟨#[]⟩]) (ez aS iS (by exact rfl)) (Cv (g:=gz4) (x:=⟨#[]⟩) (y:=⟨#[]⟩) aS (by exact .here))) ?_
 (refine ab (dF (.of rfl) (.of rfl) (.of rfl) rfl) rfl ?_;refine Jv rfl<|JK rfl rfl<|Jv rfl<|JK rfl rfl<|bb (aA (.cons (.of rfl) (.cons (.of rfl) .nil)) rfl rfl rfl rfl) rfl fun _ _=>?_;refine JK rfl rfl ?_)
 rename_i gz5 acr
 refine ai aZ rfl (fun w1 aS=>lr (l:=[cH,cH]) (ez aS BU (by exact rfl)) (Cv (g:=gz5) (x:=⟨#[99,97,109]⟩) (y:=⟨#[99,97,109]⟩) aS (by exact .here))) ?_
 (refine ab (dF (.of rfl) (.of rfl) (.of rfl) rfl) rfl ?_;refine Jv rfl<|JK rfl rfl<|Jv rfl<|JK rfl rfl<|bb (aA (.cons (.of rfl) (.cons (.of rfl) .nil)) rfl rfl rfl rfl) rfl fun _ _=>?_;refine JK rfl rfl ?_)
 rename_i gz6 acq
 refine ai aZ rfl (fun w1 aS=>lr (l:=[j4,j4]) (ez aS Ri (by exact rfl)) (Cv (g:=gz6) (x:=⟨#[118,116,114]⟩) (y:=⟨#[118,116,114]⟩) aS (by exact .here))) ?_
 (refine ab (dF (.of rfl) (.of rfl) (.of rfl) rfl) rfl ?_;refine Jv rfl<|JK rfl rfl<|Jv rfl<|JK rfl rfl<|ab (E9 (.of rfl) (.of rfl) QN) rfl ?_;refine ab (dF (.of rfl) (.of rfl) (.of rfl) rfl) rfl ?_;refine Ja rfl<|Jn<|Je<|JT ?_)
 rfl
end Go.Proofs.A1
namespace Go.Proofs.A1
open Go Go.SL Go.ChangeShapes Go.WideShapes Go.Deep Go.Joins
section
variable {H:Type} {enc:TypeId×Value→H} {w:World}
theorem laidOut:laidOutB Tryz.prog=true:=by kernel_rfl
theorem Vu:ownKnob Tryz.prog.godebug=none:=by kernel_rfl
theorem Kg {b o n:Nat}:Addr.add ⟨b,o,none⟩ n=⟨b,o+n,none⟩:=eD b o n
theorem Ci {T:TypeId} (Mq:Tryz.prog.readableRec T=true) (hrow:T<Tryz.prog.types.size) {W W':World} {XL:Nat→Bool} {n:Nat} {cs:List Value} {x:DataW H×List MemPlace} (h:DataW.trod enc Tryz.prog W 0 (fun _=>true) true n T cs=some x)
  (H8:∀ p∈x.2,W.sameAt W' p) (hs:∀ p∈x.2,XL p.block=true):DataW.trod enc Tryz.prog W' 0 XL true n T cs=some x:=
 DataW.trod_stays (kids_book laidOut Mq) (book_sized Mq) (fun h=>by cases h) ⟨hrow,book_self T⟩ h H8 hs
theorem CE {α:Type} [Inhabited α] {Q:α→Prop} {T E:TypeId} {sz:Nat} {cells:α→List Value} (hu:Tryz.prog.underlying T=some (.slice E)) (hsz:Tryz.prog.cellsOf E=sz) (h0:0<sz) (hlen:∀ a,(cells a).length=sz)
  (hE:∀ (n:Nat) (cs:List Value) (x:DataW H×List MemPlace),DataW.trod enc Tryz.prog w 0 (fun _=>true) true n E cs=some x→∃ e:α,cs=cells e∧Q e)
  {n:Nat} {v:Value} {y:DataW H×List MemPlace} (h:DataW.trod enc Tryz.prog w 0 (fun _=>true) true n T [v]=some y):∃ l:List α,Rd w v sz (l.map cells)∧∀ x∈l,Q x:=by
 rcases open_slice hu h with ⟨e,_⟩ | ⟨a,len,cap,m,n',D,Pl,Oe,_,hl,hm,hmm,_,hi⟩
 ·simp only [List.cons.injEq,and_true] at e
  subst e
  exact ⟨[],Rd.nil w sz,fun _ h=>absurd h List.not_mem_nil⟩
 ·simp only [List.cons.injEq,and_true] at Oe
  subst Oe
  rw [hsz] at hi
  have Rz:m=cap:=by simpa using hmm
  have hE:∀ i,i<len→∃ e:α,(∀ j,j<sz→w.cell? (a.add (i*sz+j))=(cells e)[j]?)∧Q e:=fun i iP=>by
   obtain ⟨OF,hc,ht⟩:=hi i (by omega)
   obtain ⟨_,iF,jb⟩:=World.cells?_some hc
   obtain ⟨e,rfl,hq⟩:=hE _ _ _ ht
   exact ⟨e,fun j hj=>by rw [← Go.Deep.add_add];exact jb j hj,hq⟩
  let S:Nat→α:=fun i=>if iP:i<len then (hE i iP).choose else default
  have hS:∀ i j,i<len→j<sz→w.cell? (a.add (i*sz+j))=(cells (S i))[j]?:=fun i j iP hj=>by
   have:=(hE i iP).choose_spec.1 j hj
   simpa only [S,dif_pos iP] using this
  have hQ:∀ i,i<len→Q (S i):=fun i iP=>by
   have:=(hE i iP).choose_spec.2
   simpa only [S,dif_pos iP] using this
  have uZ:(((List.range len).map S).map cells).length=len:=by simp
  refine ⟨(List.range len).map S,?_,fun x hx=>by
   obtain ⟨i,hi,rfl⟩:=List.mem_map.1 hx
   exact hQ i (List.mem_range.1 hi)⟩
  by_cases hz:len=0
  ·subst hz
   exact ⟨some a,cap,0,0,by rw [uZ],by rw [uZ];omega,hm,fun hne=>absurd (List.length_eq_zero_iff.1 uZ) hne,fun i r hr=>by
    have:=(List.getElem?_eq_some_iff.1 hr).1
    rw [uZ] at this;omega⟩
  ·obtain ⟨b,off,spot⟩:=a
   have SO:spot=none:=by
    have h1:=hS 0 0 (by omega) h0
    rw [Zc (by rw [hlen];exact h0)] at h1
    simpa [Addr.add] using World.cell?_spot h1
   subst SO
   refine ⟨some ⟨b,off,none⟩,cap,b,off,by rw [uZ],by rw [uZ];exact hl,hm,fun _=>rfl,fun i r hr=>?_⟩
   have iP:i<len:=by
    have:=(List.getElem?_eq_some_iff.1 hr).1
    rwa [uZ] at this
   have S2:r=cells (S i):=by
    simp [iP] at hr;exact hr.symm
   subst S2
   refine ⟨hlen _,fun j u hu=>?_⟩
   have hj:j<sz:=by
    have:=(List.getElem?_eq_some_iff.1 hu).1
    rwa [hlen] at this
   have:=hS i j iP hj
   rw [Kg,hu] at this
   rw [Nat.add_assoc];exact this
theorem l6 {α:Type} [Inhabited α] {T E:TypeId} {sz:Nat} {cells:α→List Value} (hu:Tryz.prog.underlying T=some (.slice E)) (hsz:Tryz.prog.cellsOf E=sz) (h0:0<sz) (hlen:∀ a,(cells a).length=sz)
  (hE:∀ (n:Nat) (cs:List Value) (x:DataW H×List MemPlace),DataW.trod enc Tryz.prog w 0 (fun _=>true) true n E cs=some x→∃ e:α,cs=cells e)
  {n:Nat} {v:Value} {y:DataW H×List MemPlace} (h:DataW.trod enc Tryz.prog w 0 (fun _=>true) true n T [v]=some y):∃ l:List α,Rd w v sz (l.map cells):=by
 obtain ⟨l,hl,_⟩:=CE (Q:=fun _=>True) hu hsz h0 hlen (fun n cs x h=>by obtain ⟨e,he⟩:=hE n cs x h;exact ⟨e,he,trivial⟩) h
 exact ⟨l,hl⟩
theorem Sz {α:Type}:∀ {l:List α},l.length=2→∃ a0 a1,l=[a0,a1]
 | [a0,a1],_=>⟨a0,a1,rfl⟩
theorem D6 {α:Type}:∀ {l:List α},l.length=3→∃ a0 a1 a2,l=[a0,a1,a2]
 | [a0,a1,a2],_=>⟨a0,a1,a2,rfl⟩
theorem Sy {α:Type}:∀ {l:List α},l.length=6→∃ a0 a1 a2 a3 a4 a5,l=[a0,a1,a2,a3,a4,a5]
 | [a0,a1,a2,a3,a4,a5],_=>⟨a0,a1,a2,a3,a4,a5,rfl⟩
theorem Ud:Tryz.prog.cellsOf 118=2:=by kernel_rfl
theorem c9:Tryz.prog.cellsOf 9=1:=by kernel_rfl
theorem c3:Tryz.prog.cellsOf 3=1:=by kernel_rfl
theorem I9 {n:Nat} {cs:List Value} {x:DataW H×List MemPlace} (h:DataW.trod enc Tryz.prog w 0 (fun _=>true) true n 118 cs=some x):∃ (a0:ByteArray) (a1:Int),cs=[.string a0,.int .i64 a1]:=by
 obtain ⟨ys,n0,_,_,hlen,H2,hf⟩:=DataW.trod_struct Tryz.underlying118 h
 rw [Ud] at hlen
 have H0:ys.length=2:=H2
 obtain ⟨k0,k1,rfl⟩:=Sz hlen
 have f0:DataW.trod enc Tryz.prog w 0 (fun _=>true) true n0 9 (List.take (Tryz.prog.cellsOf 9) (List.drop 0 [k0,k1]))=ys[0]?:=hf 0 _ rfl
 rw [c9,Zc (by omega)] at f0
 obtain ⟨b0,e0,_,_⟩:=DataW.trod_string Tryz.underlying9 f0
 simp at e0
 have f1:DataW.trod enc Tryz.prog w 0 (fun _=>true) true n0 3 (List.take (Tryz.prog.cellsOf 3) (List.drop 1 [k0,k1]))=ys[1]?:=hf 1 _ rfl
 rw [c3,Zc (by omega)] at f1
 obtain ⟨b1,e1,_,_⟩:=DataW.trod_int Tryz.underlying3 f1
 simp at e1
 subst e0 e1
 exact ⟨b0,b1,rfl⟩
theorem YK:Tryz.prog.cellsOf 88=3:=by kernel_rfl
theorem c4:Tryz.prog.cellsOf 4=1:=by kernel_rfl
theorem Nb {n:Nat} {cs:List Value} {x:DataW H×List MemPlace} (h:DataW.trod enc Tryz.prog w 0 (fun _=>true) true n 88 cs=some x):∃ (a0:ByteArray) (a1:Int) (a2:Bool),cs=[.string a0,.int .i64 a1,.bool a2]:=by
 obtain ⟨ys,n0,_,_,hlen,H2,hf⟩:=DataW.trod_struct Tryz.underlying88 h
 rw [YK] at hlen
 have H0:ys.length=3:=H2
 obtain ⟨k0,k1,k2,rfl⟩:=D6 hlen
 have f0:DataW.trod enc Tryz.prog w 0 (fun _=>true) true n0 9 (List.take (Tryz.prog.cellsOf 9) (List.drop 0 [k0,k1,k2]))=ys[0]?:=hf 0 _ rfl
 rw [c9,Zc (by omega)] at f0
 obtain ⟨b0,e0,_,_⟩:=DataW.trod_string Tryz.underlying9 f0
 simp at e0
 have f1:DataW.trod enc Tryz.prog w 0 (fun _=>true) true n0 3 (List.take (Tryz.prog.cellsOf 3) (List.drop 1 [k0,k1,k2]))=ys[1]?:=hf 1 _ rfl
 rw [c3,Zc (by omega)] at f1
 obtain ⟨b1,e1,_,_⟩:=DataW.trod_int Tryz.underlying3 f1
 simp at e1
 have f2:DataW.trod enc Tryz.prog w 0 (fun _=>true) true n0 4 (List.take (Tryz.prog.cellsOf 4) (List.drop 2 [k0,k1,k2]))=ys[2]?:=hf 2 _ rfl
 rw [c4,Zc (by omega)] at f2
 obtain ⟨b2,e2,_⟩:=DataW.trod_bool Tryz.underlying4 f2
 simp at e2
 subst e0 e1 e2
 exact ⟨b0,b1,b2,rfl⟩
theorem Uc:Tryz.prog.cellsOf 122=3:=by kernel_rfl
theorem I8 {n:Nat} {cs:List Value} {x:DataW H×List MemPlace} (h:DataW.trod enc Tryz.prog w 0 (fun _=>true) true n 122 cs=some x):∃ (a0:ByteArray) (a1:Int) (a2:Int),cs=[.string a0,.int .i64 a1,.int .i64 a2]:=by
 obtain ⟨ys,n0,_,_,hlen,H2,hf⟩:=DataW.trod_struct Tryz.underlying122 h
 rw [Uc] at hlen
 have H0:ys.length=3:=H2
 obtain ⟨k0,k1,k2,rfl⟩:=D6 hlen
 have f0:DataW.trod enc Tryz.prog w 0 (fun _=>true) true n0 9 (List.take (Tryz.prog.cellsOf 9) (List.drop 0 [k0,k1,k2]))=ys[0]?:=hf 0 _ rfl
 rw [c9,Zc (by omega)] at f0
 obtain ⟨b0,e0,_,_⟩:=DataW.trod_string Tryz.underlying9 f0
 simp at e0
 have f1:DataW.trod enc Tryz.prog w 0 (fun _=>true) true n0 3 (List.take (Tryz.prog.cellsOf 3) (List.drop 1 [k0,k1,k2]))=ys[1]?:=hf 1 _ rfl
 rw [c3,Zc (by omega)] at f1
 obtain ⟨b1,e1,_,_⟩:=DataW.trod_int Tryz.underlying3 f1
 simp at e1
 have f2:DataW.trod enc Tryz.prog w 0 (fun _=>true) true n0 3 (List.take (Tryz.prog.cellsOf 3) (List.drop 2 [k0,k1,k2]))=ys[2]?:=hf 2 _ rfl
 rw [c3,Zc (by omega)] at f2
 obtain ⟨b2,e2,_,_⟩:=DataW.trod_int Tryz.underlying3 f2
 simp at e2
 subst e0 e1 e2
 exact ⟨b0,b1,b2,rfl⟩
theorem Ub:Tryz.prog.cellsOf 180=3:=by kernel_rfl
theorem I7 {n:Nat} {cs:List Value} {x:DataW H×List MemPlace} (h:DataW.trod enc Tryz.prog w 0 (fun _=>true) true n 180 cs=some x):∃ (a0:Int) (a1:ByteArray) (a2:ByteArray),cs=[.int .i64 a0,.string a1,.string a2]:=by
 obtain ⟨ys,n0,_,_,hlen,H2,hf⟩:=DataW.trod_struct Tryz.underlying180 h
 rw [Ub] at hlen
 have H0:ys.length=3:=H2
 obtain ⟨k0,k1,k2,rfl⟩:=D6 hlen
 have f0:DataW.trod enc Tryz.prog w 0 (fun _=>true) true n0 3 (List.take (Tryz.prog.cellsOf 3) (List.drop 0 [k0,k1,k2]))=ys[0]?:=hf 0 _ rfl
 rw [c3,Zc (by omega)] at f0
 obtain ⟨b0,e0,_,_⟩:=DataW.trod_int Tryz.underlying3 f0
 simp at e0
 have f1:DataW.trod enc Tryz.prog w 0 (fun _=>true) true n0 9 (List.take (Tryz.prog.cellsOf 9) (List.drop 1 [k0,k1,k2]))=ys[1]?:=hf 1 _ rfl
 rw [c9,Zc (by omega)] at f1
 obtain ⟨b1,e1,_,_⟩:=DataW.trod_string Tryz.underlying9 f1
 simp at e1
 have f2:DataW.trod enc Tryz.prog w 0 (fun _=>true) true n0 9 (List.take (Tryz.prog.cellsOf 9) (List.drop 2 [k0,k1,k2]))=ys[2]?:=hf 2 _ rfl
 rw [c9,Zc (by omega)] at f2
 obtain ⟨b2,e2,_,_⟩:=DataW.trod_string Tryz.underlying9 f2
 simp at e2
 subst e0 e1 e2
 exact ⟨b0,b1,b2,rfl⟩
theorem c27:Tryz.prog.cellsOf 27=6:=by kernel_rfl
theorem c22:Tryz.prog.cellsOf 22=1:=by kernel_rfl
theorem c23:Tryz.prog.cellsOf 23=1:=by kernel_rfl
theorem c24:Tryz.prog.cellsOf 24=1:=by kernel_rfl
theorem c25:Tryz.prog.cellsOf 25=1:=by kernel_rfl
theorem Nf {n:Nat} {cs:List Value} {x:DataW H×List MemPlace} (h:DataW.trod enc Tryz.prog w 0 (fun _=>true) true n 27 cs=some x):∃ (a0:Int) (a1:Int) (a2:Value) (a3:Value) (a4:Value) (a5:Value),cs=[.int .i64 a0,.int .i64 a1,a2,a3,a4,a5]∧(∃ (m:Nat) (y:DataW H×List MemPlace),DataW.trod enc Tryz.prog w 0 (fun _=>true) true m 22 [a2]=some y)∧(∃ (m:Nat) (y:DataW H×List MemPlace),DataW.trod enc Tryz.prog w 0 (fun _=>true) true m 23 [a3]=some y)∧(∃ (m:Nat) (y:DataW H×List MemPlace),DataW.trod enc Tryz.prog w 0 (fun _=>true) true m 24 [a4]=some y)∧(∃ (m:Nat) (y:DataW H×List MemPlace),DataW.trod enc Tryz.prog w 0 (fun _=>true) true m 25 [a5]=some y):=by
 obtain ⟨ys,n0,_,_,hlen,H2,hf⟩:=DataW.trod_struct Tryz.underlying27 h
 rw [c27] at hlen
 have H0:ys.length=6:=H2
 obtain ⟨k0,k1,k2,k3,k4,k5,rfl⟩:=Sy hlen
 have f0:DataW.trod enc Tryz.prog w 0 (fun _=>true) true n0 3 (List.take (Tryz.prog.cellsOf 3) (List.drop 0 [k0,k1,k2,k3,k4,k5]))=ys[0]?:=hf 0 _ rfl
 rw [c3,Zc (by omega)] at f0
 obtain ⟨b0,e0,_,_⟩:=DataW.trod_int Tryz.underlying3 f0
 simp at e0
 have f1:DataW.trod enc Tryz.prog w 0 (fun _=>true) true n0 3 (List.take (Tryz.prog.cellsOf 3) (List.drop 1 [k0,k1,k2,k3,k4,k5]))=ys[1]?:=hf 1 _ rfl
 rw [c3,Zc (by omega)] at f1
 obtain ⟨b1,e1,_,_⟩:=DataW.trod_int Tryz.underlying3 f1
 simp at e1
 have f2:DataW.trod enc Tryz.prog w 0 (fun _=>true) true n0 22 (List.take (Tryz.prog.cellsOf 22) (List.drop 2 [k0,k1,k2,k3,k4,k5]))=ys[2]?:=hf 2 _ rfl
 rw [c22,Zc (by omega)] at f2
 have f3:DataW.trod enc Tryz.prog w 0 (fun _=>true) true n0 23 (List.take (Tryz.prog.cellsOf 23) (List.drop 3 [k0,k1,k2,k3,k4,k5]))=ys[3]?:=hf 3 _ rfl
 rw [c23,Zc (by omega)] at f3
 have f4:DataW.trod enc Tryz.prog w 0 (fun _=>true) true n0 24 (List.take (Tryz.prog.cellsOf 24) (List.drop 4 [k0,k1,k2,k3,k4,k5]))=ys[4]?:=hf 4 _ rfl
 rw [c24,Zc (by omega)] at f4
 have f5:DataW.trod enc Tryz.prog w 0 (fun _=>true) true n0 25 (List.take (Tryz.prog.cellsOf 25) (List.drop 5 [k0,k1,k2,k3,k4,k5]))=ys[5]?:=hf 5 _ rfl
 rw [c25,Zc (by omega)] at f5
 subst e0 e1
 exact ⟨b0,b1,k2,k3,k4,k5,rfl,⟨_,_,by simpa using f2⟩,⟨_,_,by simpa using f3⟩,⟨_,_,by simpa using f4⟩,⟨_,_,by simpa using f5⟩⟩
theorem c29:Tryz.prog.cellsOf 29=3:=by kernel_rfl
theorem Nc {n:Nat} {cs:List Value} {x:DataW H×List MemPlace} (h:DataW.trod enc Tryz.prog w 0 (fun _=>true) true n 29 cs=some x):∃ (a0:Int) (a1:ByteArray) (a2:ByteArray),cs=[.int .i64 a0,.string a1,.string a2]:=by
 obtain ⟨ys,n0,_,_,hlen,H2,hf⟩:=DataW.trod_struct Tryz.underlying29 h
 rw [c29] at hlen
 have H0:ys.length=3:=H2
 obtain ⟨k0,k1,k2,rfl⟩:=D6 hlen
 have f0:DataW.trod enc Tryz.prog w 0 (fun _=>true) true n0 3 (List.take (Tryz.prog.cellsOf 3) (List.drop 0 [k0,k1,k2]))=ys[0]?:=hf 0 _ rfl
 rw [c3,Zc (by omega)] at f0
 obtain ⟨b0,e0,_,_⟩:=DataW.trod_int Tryz.underlying3 f0
 simp at e0
 have f1:DataW.trod enc Tryz.prog w 0 (fun _=>true) true n0 9 (List.take (Tryz.prog.cellsOf 9) (List.drop 1 [k0,k1,k2]))=ys[1]?:=hf 1 _ rfl
 rw [c9,Zc (by omega)] at f1
 obtain ⟨b1,e1,_,_⟩:=DataW.trod_string Tryz.underlying9 f1
 simp at e1
 have f2:DataW.trod enc Tryz.prog w 0 (fun _=>true) true n0 9 (List.take (Tryz.prog.cellsOf 9) (List.drop 2 [k0,k1,k2]))=ys[2]?:=hf 2 _ rfl
 rw [c9,Zc (by omega)] at f2
 obtain ⟨b2,e2,_,_⟩:=DataW.trod_string Tryz.underlying9 f2
 simp at e2
 subst e0 e1 e2
 exact ⟨b0,b1,b2,rfl⟩
theorem Ht {n:Nat} {v:Value} {x:DataW H×List MemPlace} (h:DataW.trod enc Tryz.prog w 0 (fun _=>true) true n 22 [v]=some x):∃ l,Rd w v 2 (vF l):=by
 haveI:Inhabited Sr:=⟨⟨⟨#[]⟩,0⟩⟩
 exact l6 (cells:=Sr.cells) Tryz.underlying22 Ud (by decide) (fun _=>rfl) (fun _ _ _ h=>by obtain ⟨a,b,rfl⟩:=I9 h;exact ⟨⟨a,b⟩,rfl⟩) h
theorem Hv {n:Nat} {v:Value} {x:DataW H×List MemPlace} (h:DataW.trod enc Tryz.prog w 0 (fun _=>true) true n 23 [v]=some x):∃ l,Rd w v 3 (vi l):=by
 haveI:Inhabited De:=⟨⟨⟨#[]⟩,0,false⟩⟩
 exact l6 (cells:=De.cells) Tryz.underlying23 YK (by decide) (fun _=>rfl) (fun _ _ _ h=>by obtain ⟨a,b,c,rfl⟩:=Nb h;exact ⟨⟨a,b,c⟩,rfl⟩) h
theorem Hs {n:Nat} {v:Value} {x:DataW H×List MemPlace} (h:DataW.trod enc Tryz.prog w 0 (fun _=>true) true n 24 [v]=some x):∃ l,Rd w v 3 (ui l):=by
 haveI:Inhabited Ti:=⟨⟨⟨#[]⟩,0,0⟩⟩
 exact l6 (cells:=Ti.cells) Tryz.underlying24 Uc (by decide) (fun _=>rfl) (fun _ _ _ h=>by obtain ⟨a,b,c,rfl⟩:=I8 h;exact ⟨⟨a,b,c⟩,rfl⟩) h
theorem Hu {n:Nat} {v:Value} {x:DataW H×List MemPlace} (h:DataW.trod enc Tryz.prog w 0 (fun _=>true) true n 25 [v]=some x):∃ l,Rd w v 3 (sU l):=by
 haveI:Inhabited Po:=⟨⟨0,⟨#[]⟩,⟨#[]⟩⟩⟩
 exact l6 (cells:=Po.cells) Tryz.underlying25 Ub (by decide) (fun _=>rfl) (fun _ _ _ h=>by obtain ⟨a,b,c,rfl⟩:=I7 h;exact ⟨⟨a,b,c⟩,rfl⟩) h
theorem open_ints {n:Nat} {v:Value} {x:DataW H×List MemPlace} (h:DataW.trod enc Tryz.prog w 0 (fun _=>true) true n 49 [v]=some x):∃ l,Rd w v 1 (ints l):=by
 haveI:Inhabited Int:=⟨0⟩
 exact l6 (cells:=(fun e:Int=>[Value.int .i64 e])) Tryz.underlying49 c3 (by decide) (fun _=>rfl) (fun _ _ _ h=>by obtain ⟨a,rfl,_⟩:=DataW.trod_int Tryz.underlying3 h;exact ⟨a,rfl⟩) h
theorem AO {n:Nat} {cs:List Value} {x:DataW H×List MemPlace} (h:DataW.trod enc Tryz.prog w 0 (fun _=>true) true n 27 cs=some x):∃ (r:Ro) (s d t p:Value),cs=[.int .i64 r.lv,.int .i64 r.ma,s,d,t,p]∧RR w r s d t p:=by
 obtain ⟨a,b,s,d,t,p,rfl,⟨_,_,h1⟩,⟨_,_,h2⟩,⟨_,_,h3⟩,⟨_,_,h4⟩⟩:=Nf h
 obtain ⟨l1,r1⟩:=Ht h1
 obtain ⟨l2,r2⟩:=Hv h2
 obtain ⟨l3,r3⟩:=Hs h3
 obtain ⟨l4,r4⟩:=Hu h4
 exact ⟨⟨a,b,l1,l2,l3,l4⟩,s,d,t,p,rfl,r1,r2,r3,r4⟩
end
end Go.Proofs.A1
namespace Go.Proofs.YteonnodafmegaaaGreatDoor
open Go Go.SL Go.Proofs.A1 Go.ChangeShapes Go.WideShapes Go.ChangeAt Go.RowKit Go.Joins
section
variable {H:Type} {enc:TypeId×Value→H} {P:Program}
theorem vY {f:Func} {s:ChangeSpec} {apart fresh handsOn again:Bool} {W W':World} {args:Array Value} {v:Value} {ds gs:List (DataW H)} {before pa pv:List MemPlace}
  (hW:DataW.Whole enc P f.params.toList s.vars apart W args.toList ds gs before)
  (S1:∀ (b:Nat) (sp:Nat→Bool) (hd:Bool),DataW.TrodAll enc P W' b sp hd f.resultTypes.toList (v.resultList f.resultTypes.size) (s.fn H (ds++gs)).results [])
  (Ej:∀ sp:Nat→Bool,(∀ p∈before,sp p.block=true)→DataW.TrodAll enc P W' 0 sp true f.params.toList args.toList (s.fn H (ds++gs)).args pa)
  (NY:∀ sp:Nat→Bool,(∀ p∈before,sp p.block=true)→DataW.TrodVars enc P W' sp s.vars (s.fn H (ds++gs)).vars pv)
  (hps:before=pa++pv) (hb:Below W.heap.size W W')
  (dB:∀ (j:Nat) (t:TypeId) (r:Value),f.resultTypes[j]? = some t→(v.resultList f.resultTypes.size)[j]? = some r→Value.okWide P W' .any 0 t r) :
  s.post enc P f apart fresh handsOn again W args v W':=by
 have aL:∀ p∈before,p.block<W.heap.size:=fun p hp=>hW.lt p hp
 have hold:∀ p∈before,(fun b=>decide (b<W.heap.size)) p.block=true:=fun p hp=>by simpa using aL p hp
 refine ⟨ds,gs,before,[],pa,pv,hW,S1 _ _ _,Ej _ hold,NY _ hold,World.keptBut_mono (fun p hp=>⟨hp,?_⟩) (hb.frame (·∈before)),fun _=>?_⟩
 ·rw [hps,List.mem_append] at hp
  exact Or.inr hp
 ·obtain ⟨_,_,_,_,_,hz,hn⟩:=hW
  refine ⟨dB,_,_,([]++pa)++pv,⟨[]++pa,pv,trodAll_append (Ej _ (fun _ _=>rfl)) (S1 _ _ _),NY _ (fun _ _=>rfl),rfl,?_,?_⟩,?_⟩
  ·intro b off hp
   have mw:MemPlace.cell b off∈before:=by rw [hps];simpa using hp
   rw [hb.frozen (aL _ mw)]
   exact hz b off mw
  ·intro ha
   have:=hn ha
   rw [hps] at this
   simpa using this
  ·intro p hp _
   rw [hps]
   simpa using hp
end
end Go.Proofs.YteonnodafmegaaaGreatDoor
namespace Go.Proofs.A1
open Go Go.SL
theorem q9 {r:Ro} {s d t p:Value} (o:ByteArray) {w:World} (h:RR w r s d t p):aj Tryz.prog 130 [RA r s d t p,.string o] w (.int .i64 (bu (cm r) o)):=by
 have h1:=Rd.one h.sr
 have h2:=Rd.one h.de
 have h3:=Rd.one h.ti
 have h4:=Rd.one h.po
 have hs:=h.sr
 obtain ⟨a,cp,b,o',rfl,db,bT,ha,hc⟩:=hs
 rw [cu] at *
 unfold maxLen at bT
 unfold RA
 refine ah Tryz.func130 rfl rfl ?_
 refine Jr<|Jy rfl rfl fun _ _=>Ja rfl<|Jn<|Jq<|Jr<|Ja rfl<|Jn<|J0 ?_
 rename_i b1 sH
 refine aX (ι:=Nat) (fun k=>k≤r.sr.length∧∀ j (hj:j<(cm r).length),j<k→(cm r)[j]≠o) (fun k=>[(5,.int .i64 (k:Nat)),(2,.pointer (some ⟨b1,0,none⟩)),(1,.string o)]) (fun _=>[JQ b1 r (.slice a r.sr.length cp) d t p]) (fun k=>r.sr.length-k) ?_ ?_
 ·apply aJ (0:Nat) ⟨Zi _,fun j _ hj=>absurd hj (Nat.not_lt_zero _)⟩
  case hs1=>exact cd
  case ht=>(try simp only [Ze,Zf,Za]);exact .cons .here .nil
 rintro k ⟨hk,hf⟩
 have tL:(cm r).length=r.sr.length:=by unfold cm;rw [Zd]
 by_cases aL:k<r.sr.length
 ·have cE:=ha (gB aL)
  have aC:=(hc k _ (fm aL)).2
  have hx:(cm r)[k]'(by omega)=(r.sr[k]).nm:=by unfold cm;rw [List.getElem_map]
  have c0:w.cell? ⟨b,o'+k*2,none⟩=some (.string (r.sr[k]).nm):=aC 0 _ rfl
  generalize (r.sr[k]).nm=x at hx c0
  (refine Jq<|Jr<|Jv rfl<|bF rfl rfl ae ?_;refine JL rfl .here rfl<|JI rfl<|JA rfl<|Jn<|Jd rfl fun ar=>Jk<|Jq<|J0<|Jr<|bF rfl rfl ae ?_;refine JL rfl .here rfl<|Jv rfl<|ab (fH cE ar) rfl ?_;refine bF rfl rfl ae ?_;refine ab (ag (.of rfl) (At.base c0 rfl)) rfl ?_;refine Jv rfl<|ab (dR (.of rfl) (.of rfl)) rfl ?_;refine Jn<|gm rfl (fun ar=>?_) fun ar=>?_;refine Jr<|Jv rfl<|Ja rfl<|Jn<|Je<|Jm<|Jh<|Jh<|Jm<|Jh<|JT ?_;rotate_left;refine Jw<|Jj<|Jt<|Jg<|Jv rfl<|JB rfl (by omega)<|Ja rfl<|Jn ?_;rotate_right)
  ·have qi:x=o:=ar
   rw [pQ (i:=k) (by omega) (hx.trans qi) (fun j hj=>hf j (by omega) hj)]
  ·have qi:¬ x=o:=ar
   apply aK (k+1) ⟨(show k+1≤r.sr.length from aL),fun j hj Tm=>by
    by_cases e:j=k
    ·subst e;rw [hx];exact qi
    ·exact hf j hj (by omega)⟩ (show r.sr.length-(k+1)<r.sr.length-k by omega)
   case hs1=>exact cd
   case ht=>(try simp only [Ze,Zf,Za]);exact .cons .here .nil
 ·obtain rfl:k=r.sr.length:=by omega
  rw [zl fun j hj=>hf j hj (by omega)]
  (refine Jq<|Jr<|Jv rfl<|bF rfl rfl ae ?_;refine JL rfl .here rfl<|JI rfl<|JA rfl<|Jn<|Jc rfl fun ar=>Jp<|Jl<|Jo<|Jt<|Jr<|Ja rfl<|Jn<|Je<|JT ?_)
  rfl
theorem rb {r:Ro} {s d t p:Value} (o:ByteArray) {w:World} (h:RR w r s d t p):aj Tryz.prog 56 [RA r s d t p,.string o] w (.int .i64 (bu (ct r) o)):=by
 have h1:=Rd.one h.sr
 have h2:=Rd.one h.de
 have h3:=Rd.one h.ti
 have h4:=Rd.one h.po
 have hs:=h.de
 obtain ⟨a,cp,b,o',rfl,db,bT,ha,hc⟩:=hs
 rw [bU] at *
 unfold maxLen at bT
 unfold RA
 refine ah Tryz.func56 rfl rfl ?_
 refine Jr<|Jy rfl rfl fun _ _=>Ja rfl<|Jn<|Jq<|Jr<|Ja rfl<|Jn<|J0 ?_
 rename_i b1 sH
 refine aX (ι:=Nat) (fun k=>k≤r.de.length∧∀ j (hj:j<(ct r).length),j<k→(ct r)[j]≠o) (fun k=>[(5,.int .i64 (k:Nat)),(2,.pointer (some ⟨b1,0,none⟩)),(1,.string o)]) (fun _=>[JQ b1 r s (.slice a r.de.length cp) t p]) (fun k=>r.de.length-k) ?_ ?_
 ·apply aJ (0:Nat) ⟨Zi _,fun j _ hj=>absurd hj (Nat.not_lt_zero _)⟩
  case hs1=>exact cd
  case ht=>(try simp only [Ze,Zf,Za]);exact .cons .here .nil
 rintro k ⟨hk,hf⟩
 have tL:(ct r).length=r.de.length:=by unfold ct;rw [Zd]
 by_cases aL:k<r.de.length
 ·have cE:=ha (gl aL)
  have aC:=(hc k _ (eX aL)).2
  have hx:(ct r)[k]'(by omega)=(r.de[k]).nm:=by unfold ct;rw [List.getElem_map]
  have c0:w.cell? ⟨b,o'+k*3,none⟩=some (.string (r.de[k]).nm):=aC 0 _ rfl
  generalize (r.de[k]).nm=x at hx c0
  (refine Jq<|Jr<|Jv rfl<|bF rfl rfl ae ?_;refine JL rfl .here rfl<|JI rfl<|JA rfl<|Jn<|Jd rfl fun ar=>Jk<|Jq<|J0<|Jr<|bF rfl rfl ae ?_;refine JL rfl .here rfl<|Jv rfl<|ab (fH cE ar) rfl ?_;refine bF rfl rfl ae ?_;refine ab (ag (.of rfl) (At.base c0 rfl)) rfl ?_;refine Jv rfl<|ab (dR (.of rfl) (.of rfl)) rfl ?_;refine Jn<|gm rfl (fun ar=>?_) fun ar=>?_;refine Jr<|Jv rfl<|Ja rfl<|Jn<|Je<|Jm<|Jh<|Jh<|Jm<|Jh<|JT ?_;rotate_left;refine Jw<|Jj<|Jt<|Jg<|Jv rfl<|JB rfl (by omega)<|Ja rfl<|Jn ?_;rotate_right)
  ·have qi:x=o:=ar
   rw [pQ (i:=k) (by omega) (hx.trans qi) (fun j hj=>hf j (by omega) hj)]
  ·have qi:¬ x=o:=ar
   apply aK (k+1) ⟨(show k+1≤r.de.length from aL),fun j hj Tm=>by
    by_cases e:j=k
    ·subst e;rw [hx];exact qi
    ·exact hf j hj (by omega)⟩ (show r.de.length-(k+1)<r.de.length-k by omega)
   case hs1=>exact cd
   case ht=>(try simp only [Ze,Zf,Za]);exact .cons .here .nil
 ·obtain rfl:k=r.de.length:=by omega
  rw [zl fun j hj=>hf j hj (by omega)]
  (refine Jq<|Jr<|Jv rfl<|bF rfl rfl ae ?_;refine JL rfl .here rfl<|JI rfl<|JA rfl<|Jn<|Jc rfl fun ar=>Jp<|Jl<|Jo<|Jt<|Jr<|Ja rfl<|Jn<|Je<|JT ?_)
  rfl
theorem zn {r:Ro} {s d t p:Value} (o:ByteArray) {w:World} (h:RR w r s d t p):aj Tryz.prog 60 [RA r s d t p,.string o] w (.int .i64 (bu (cQ r) o)):=by
 have h1:=Rd.one h.sr
 have h2:=Rd.one h.de
 have h3:=Rd.one h.ti
 have h4:=Rd.one h.po
 have hs:=h.ti
 obtain ⟨a,cp,b,o',rfl,db,bT,ha,hc⟩:=hs
 rw [bJ] at *
 unfold maxLen at bT
 unfold RA
 refine ah Tryz.func60 rfl rfl ?_
 refine Jr<|Jy rfl rfl fun _ _=>Ja rfl<|Jn<|Jq<|Jr<|Ja rfl<|Jn<|J0 ?_
 rename_i b1 sH
 refine aX (ι:=Nat) (fun k=>k≤r.ti.length∧∀ j (hj:j<(cQ r).length),j<k→(cQ r)[j]≠o) (fun k=>[(5,.int .i64 (k:Nat)),(2,.pointer (some ⟨b1,0,none⟩)),(1,.string o)]) (fun _=>[JQ b1 r s d (.slice a r.ti.length cp) p]) (fun k=>r.ti.length-k) ?_ ?_
 ·apply aJ (0:Nat) ⟨Zi _,fun j _ hj=>absurd hj (Nat.not_lt_zero _)⟩
  case hs1=>exact cd
  case ht=>(try simp only [Ze,Zf,Za]);exact .cons .here .nil
 rintro k ⟨hk,hf⟩
 have tL:(cQ r).length=r.ti.length:=by unfold cQ;rw [Zd]
 by_cases aL:k<r.ti.length
 ·have cE:=ha (eT aL)
  have aC:=(hc k _ (dQ aL)).2
  have hx:(cQ r)[k]'(by omega)=(r.ti[k]).nm:=by unfold cQ;rw [List.getElem_map]
  have c0:w.cell? ⟨b,o'+k*3,none⟩=some (.string (r.ti[k]).nm):=aC 0 _ rfl
  generalize (r.ti[k]).nm=x at hx c0
  (refine Jq<|Jr<|Jv rfl<|bF rfl rfl ae ?_;refine JL rfl .here rfl<|JI rfl<|JA rfl<|Jn<|Jd rfl fun ar=>Jk<|Jq<|J0<|Jr<|bF rfl rfl ae ?_;refine JL rfl .here rfl<|Jv rfl<|ab (fH cE ar) rfl ?_;refine bF rfl rfl ae ?_;refine ab (ag (.of rfl) (At.base c0 rfl)) rfl ?_;refine Jv rfl<|ab (dR (.of rfl) (.of rfl)) rfl ?_;refine Jn<|gm rfl (fun ar=>?_) fun ar=>?_;refine Jr<|Jv rfl<|Ja rfl<|Jn<|Je<|Jm<|Jh<|Jh<|Jm<|Jh<|JT ?_;rotate_left;refine Jw<|Jj<|Jt<|Jg<|Jv rfl<|JB rfl (by omega)<|Ja rfl<|Jn ?_;rotate_right)
  ·have qi:x=o:=ar
   rw [pQ (i:=k) (by omega) (hx.trans qi) (fun j hj=>hf j (by omega) hj)]
  ·have qi:¬ x=o:=ar
   apply aK (k+1) ⟨(show k+1≤r.ti.length from aL),fun j hj Tm=>by
    by_cases e:j=k
    ·subst e;rw [hx];exact qi
    ·exact hf j hj (by omega)⟩ (show r.ti.length-(k+1)<r.ti.length-k by omega)
   case hs1=>exact cd
   case ht=>(try simp only [Ze,Zf,Za]);exact .cons .here .nil
 ·obtain rfl:k=r.ti.length:=by omega
  rw [zl fun j hj=>hf j hj (by omega)]
  (refine Jq<|Jr<|Jv rfl<|bF rfl rfl ae ?_;refine JL rfl .here rfl<|JI rfl<|JA rfl<|Jn<|Jc rfl fun ar=>Jp<|Jl<|Jo<|Jt<|Jr<|Ja rfl<|Jn<|Je<|JT ?_)
  rfl
theorem tK {r:Ro} {s d t p:Value} (v:Int) (o:ByteArray) {w:World} (h:RR w r s d t p):aj Tryz.prog 133 [RA r s d t p,.int .i64 v,.string o] w (.string ((ee r.po v o).getD ⟨#[]⟩)):=by
 have h1:=Rd.one h.sr
 have h2:=Rd.one h.de
 have h3:=Rd.one h.ti
 have h4:=Rd.one h.po
 have hs:=h.po
 obtain ⟨a,cp,b,o',rfl,db,bT,ha,hc⟩:=hs
 rw [cN] at *
 unfold maxLen at bT
 unfold RA
 refine ah Tryz.func133 rfl rfl ?_
 refine Jr<|Jy rfl rfl fun _ _=>Ja rfl<|Jn<|Jq<|Jr<|Ja rfl<|Jn<|J0 ?_
 rename_i b1 sH
 refine aX (ι:=Nat) (fun k=>k≤r.po.length∧ee r.po v o=((r.po.drop k).find? (Dj v o)).map Po.ip) (fun k=>[(7,.int .i64 (k:Nat)),(3,.pointer (some ⟨b1,0,none⟩)),(1,.int .i64 v),(2,.string o)]) (fun _=>[JQ b1 r s d t (.slice a r.po.length cp)]) (fun k=>r.po.length-k) ?_ ?_
 ·apply aJ (0:Nat) ⟨Zi _,rfl⟩
  case hs1=>exact cd
  case ht=>(try simp only [Ze,Zf,Za]);exact .cons .here .nil
 rintro k ⟨hk,hf⟩
 by_cases aL:k<r.po.length
 ·have cE:=ha (jZ aL)
  have aC:=(hc k _ (ib aL)).2
  rw [List.drop_eq_getElem_cons aL] at hf
  have c0:w.cell? ⟨b,o'+k*3,none⟩=some (.int .i64 (r.po[k]).lv):=aC 0 _ rfl
  have c1:w.cell? ⟨b,o'+k*3+1,none⟩=some (.string (r.po[k]).ou):=aC 1 _ rfl
  have c2:w.cell? ⟨b,o'+k*3+2,none⟩=some (.string (r.po[k]).ip):=aC 2 _ rfl
  generalize r.po[k]=x at hf c0 c1 c2
  (refine Jq<|Jr<|Jv rfl<|bF rfl rfl ae ?_;refine JL rfl .here rfl<|JI rfl<|JA rfl<|Jn<|Jd rfl fun ar=>Jk<|Jq<|J0<|Jr<|bF rfl rfl ae ?_;refine JL rfl .here rfl<|Jv rfl<|ab (fH cE ar) rfl ?_;refine bF rfl rfl ae ?_;refine ab (ag (.of rfl) (At.base c0 rfl)) rfl ?_;refine Jv rfl<|JC rfl<|Jv rfl<|aF rfl rfl inferInstance (fun hg bj=>(ao (.of rfl) ae)) rfl ?_;refine aF rfl rfl inferInstance (fun hg bj=>(ag (.bE hg rfl) (At.lit .here rfl))) rfl ?_;refine je rfl rfl rfl rfl ?_;refine aF rfl rfl inferInstance (fun hg bj=>(az (.bE hg rfl) (.bE hg rfl) cE (by omega) ar ba)) rfl ?_;refine aF rfl rfl inferInstance (fun hg bj=>(ao (.bE hg rfl) ae)) rfl ?_;refine aF rfl rfl inferInstance (fun hg bj=>(ag (.bE hg rfl) (At.base c1 rfl))) rfl ?_;refine je rfl rfl rfl rfl ?_;refine aF rfl rfl inferInstance (fun hg bj=>(dR (.bE hg rfl) (.bE hg rfl))) rfl ?_;refine ab (bV (.of rfl) rfl) rfl ?_;refine Jn<|nB rfl (fun ar=>?_) fun ar=>?_;refine Jr<|bF rfl rfl ae ?_;refine JL rfl .here rfl<|Jv rfl<|ab (az (.of rfl) (.of rfl) cE (by omega) (by assumption) ba) rfl ?_;refine bF rfl rfl ae ?_;refine ab (ag (.of rfl) (At.base c2 rfl)) rfl ?_;refine Ja rfl<|Jn<|Je<|Jm<|Jh<|Jh<|Jm<|Jh<|JT ?_;rotate_left;refine Jw<|Jj<|Jt<|Jg<|Jv rfl<|JB rfl (by omega)<|Ja rfl<|Jn ?_;rotate_right)
  ·rw [hf,List.find?_cons_of_pos (by unfold Dj;simp only [Bool.and_eq_true,decide_eq_true_eq];exact ar)];rfl
  ·apply aK (k+1) ⟨(show k+1≤r.po.length from aL),by rw [hf,List.find?_cons_of_neg (by unfold Dj;simp only [Bool.and_eq_true,decide_eq_true_eq];exact fun q=>ar.elim (fun z=>z q.1) (fun z=>z q.2))]⟩ (show r.po.length-(k+1)<r.po.length-k by omega)
   case hs1=>exact cd
   case ht=>(try simp only [Ze,Zf,Za]);exact .cons .here .nil
 ·obtain rfl:k=r.po.length:=by omega
  rw [List.drop_length] at hf
  rw [hf]
  (refine Jq<|Jr<|Jv rfl<|bF rfl rfl ae ?_;refine JL rfl .here rfl<|JI rfl<|JA rfl<|Jn<|Jc rfl fun ar=>Jp<|Jl<|Jo<|Jt<|Jr<|Ja rfl<|Jn<|Je<|JT ?_)
  rfl
theorem OX {r:Ro} {s d t p:Value} (v:Int) (o:ByteArray) {w:World} (h:RR w r s d t p):aj Tryz.prog 233 [RA r s d t p,.int .i64 v,.string o] w (.bool (nj r.po v o)):=by
 have h1:=Rd.one h.sr
 have h2:=Rd.one h.de
 have h3:=Rd.one h.ti
 have h4:=Rd.one h.po
 have hs:=h.po
 obtain ⟨a,cp,b,o',rfl,db,bT,ha,hc⟩:=hs
 rw [cN] at *
 unfold maxLen at bT
 unfold RA
 refine ah Tryz.func233 rfl rfl ?_
 refine Jr<|Jy rfl rfl fun _ _=>Ja rfl<|Jn<|Jq<|Jr<|Ja rfl<|Jn<|J0 ?_
 rename_i b1 sH
 refine aX (ι:=Nat) (fun k=>k≤r.po.length∧nj r.po v o=(r.po.drop k).any (y6 v o)) (fun k=>[(7,.int .i64 (k:Nat)),(3,.pointer (some ⟨b1,0,none⟩)),(1,.int .i64 v),(2,.string o)]) (fun _=>[JQ b1 r s d t (.slice a r.po.length cp)]) (fun k=>r.po.length-k) ?_ ?_
 ·apply aJ (0:Nat) ⟨Zi _,rfl⟩
  case hs1=>exact cd
  case ht=>(try simp only [Ze,Zf,Za]);exact .cons .here .nil
 rintro k ⟨hk,hf⟩
 by_cases aL:k<r.po.length
 ·have cE:=ha (jZ aL)
  have aC:=(hc k _ (ib aL)).2
  rw [List.drop_eq_getElem_cons aL] at hf
  have c0:w.cell? ⟨b,o'+k*3,none⟩=some (.int .i64 (r.po[k]).lv):=aC 0 _ rfl
  have c1:w.cell? ⟨b,o'+k*3+1,none⟩=some (.string (r.po[k]).ou):=aC 1 _ rfl
  have c2:w.cell? ⟨b,o'+k*3+2,none⟩=some (.string (r.po[k]).ip):=aC 2 _ rfl
  generalize r.po[k]=x at hf c0 c1 c2
  (refine Jq<|Jr<|Jv rfl<|bF rfl rfl ae ?_;refine JL rfl .here rfl<|JI rfl<|JA rfl<|Jn<|Jd rfl fun ar=>Jk<|Jq<|J0<|Jr<|bF rfl rfl ae ?_;refine JL rfl .here rfl<|Jv rfl<|ab (fH cE ar) rfl ?_;refine bF rfl rfl ae ?_;refine ab (ag (.of rfl) (At.base c0 rfl)) rfl ?_;refine Jv rfl<|JC rfl<|Jv rfl<|aF rfl rfl inferInstance (fun hg bj=>(ao (.of rfl) ae)) rfl ?_;refine aF rfl rfl inferInstance (fun hg bj=>(ag (.bE hg rfl) (At.lit .here rfl))) rfl ?_;refine je rfl rfl rfl rfl ?_;refine aF rfl rfl inferInstance (fun hg bj=>(az (.bE hg rfl) (.bE hg rfl) cE (by omega) ar ba)) rfl ?_;refine aF rfl rfl inferInstance (fun hg bj=>(ao (.bE hg rfl) ae)) rfl ?_;refine aF rfl rfl inferInstance (fun hg bj=>(ag (.bE hg rfl) (At.base c2 rfl))) rfl ?_;refine je rfl rfl rfl rfl ?_;refine aF rfl rfl inferInstance (fun hg bj=>(dR (.bE hg rfl) (.bE hg rfl))) rfl ?_;refine ab (bV (.of rfl) rfl) rfl ?_;refine Jn<|nB rfl (fun ar=>?_) fun ar=>?_;refine Jr<|Ja rfl<|Jn<|Je<|Jm<|Jh<|Jh<|Jm<|Jh<|JT ?_;rotate_left;refine Jw<|Jj<|Jt<|Jg<|Jv rfl<|JB rfl (by omega)<|Ja rfl<|Jn ?_;rotate_right)
  ·rw [hf,List.any_cons,show y6 v o x=true by unfold y6;simp only [Bool.and_eq_true,decide_eq_true_eq];exact ar];rfl
  ·apply aK (k+1) ⟨(show k+1≤r.po.length from aL),by rw [hf,List.any_cons,show y6 v o x=false by unfold y6;rw [← Bool.not_eq_true];simp only [Bool.and_eq_true,decide_eq_true_eq];exact fun q=>ar.elim (fun z=>z q.1) (fun z=>z q.2),Bool.false_or]⟩ (show r.po.length-(k+1)<r.po.length-k by omega)
   case hs1=>exact cd
   case ht=>(try simp only [Ze,Zf,Za]);exact .cons .here .nil
 ·obtain rfl:k=r.po.length:=by omega
  rw [List.drop_length] at hf
  rw [hf]
  (refine Jq<|Jr<|Jv rfl<|bF rfl rfl ae ?_;refine JL rfl .here rfl<|JI rfl<|JA rfl<|Jn<|Jc rfl fun ar=>Jp<|Jl<|Jo<|Jt<|Jr<|Ja rfl<|Jn<|Je<|JT ?_)
  rfl
theorem q7 {l:List ByteArray} {s:ByteArray} (h:0≤bu l s):∃ k:Nat,bu l s=k∧k<l.length:=⟨(bu l s).toNat,by omega,(er h).1⟩
theorem PD {r:Ro} {s:ByteArray} {k:Nat} (e:bu (ct r) s=k) (hk:k<r.de.length):ka r s=(r.de[k]).mx:=by
 unfold ka
 rw [if_pos (by omega),e,Int.toNat_natCast,List.getD_eq_getElem?_getD,Zc hk];rfl
theorem PA {r:Ro} {s:ByteArray} {k:Nat} (h:¬ 0≤bu (ct r) s) (e:bu (cQ r) s=k) (hk:k<r.ti.length):ka r s=(r.ti[k]).fr:=by
 unfold ka
 rw [if_neg h,if_pos (by omega),e,Int.toNat_natCast,List.getD_eq_getElem?_getD,Zc hk];rfl
theorem PC {r:Ro} {s:ByteArray} (h:¬ 0≤bu (ct r) s) (h2:¬ 0≤bu (cQ r) s):ka r s = -1:=by
 unfold ka;rw [if_neg h,if_neg h2]
theorem PU {r:Ro} {s:ByteArray} {k:Nat} (e:bu (cm r) s=k) (hk:k<r.sr.length):jz r s=(r.sr[k]).mx:=by
 unfold jz
 rw [if_pos (by omega),e,Int.toNat_natCast,List.getD_eq_getElem?_getD,Zc hk];rfl
theorem PT {r:Ro} {s:ByteArray} {k:Nat} (h:¬ 0≤bu (cm r) s) (e:bu (cQ r) s=k) (hk:k<r.ti.length):jz r s=(r.ti[k]).to:=by
 unfold jz
 rw [if_neg h,if_pos (by omega),e,Int.toNat_natCast,List.getD_eq_getElem?_getD,Zc hk];rfl
theorem PV {r:Ro} {s:ByteArray} (h:¬ 0≤bu (cm r) s) (h2:¬ 0≤bu (cQ r) s):jz r s = -1:=by
 unfold jz;rw [if_neg h,if_neg h2]
theorem Hp {r:Ro} {s d t p:Value} (o:ByteArray) {w:World} (h:RR w r s d t p):aj Tryz.prog 232 [RA r s d t p,.string o] w (.int .i64 (ka r o)):=by
 have h1:=Rd.one h.sr
 have h2:=Rd.one h.de
 have h3:=Rd.one h.ti
 have h4:=Rd.one h.po
 have hA:∀ w',aG [] w w'→aj Tryz.prog 56 [.agg #[.int .i64 r.lv,.int .i64 r.ma,s,d,t,p],.string o] w' (.int .i64 (bu (ct r) o)):=fun w' hk=>rb o (h.keeps hk)
 have hB:∀ w',aG [] w w'→aj Tryz.prog 60 [.agg #[.int .i64 r.lv,.int .i64 r.ma,s,d,t,p],.string o] w' (.int .i64 (bu (cQ r) o)):=fun w' hk=>zn o (h.keeps hk)
 have n1:(ct r).length=r.de.length:=by unfold ct;rw [Zd]
 have n2:(cQ r).length=r.ti.length:=by unfold cQ;rw [Zd]
 have hs:=h.de
 obtain ⟨a,cp,b,o',rfl,db,bT,ha,hc⟩:=hs
 rw [bU] at *
 have ht:=h.ti
 obtain ⟨a2,nA,b2,o2,rfl,jt,eA,iW,jq⟩:=ht
 rw [bJ] at *
 unfold maxLen at bT eA
 by_cases g1:0≤bu (ct r) o
 ·obtain ⟨k,e,hk⟩:=q7 g1
  rw [n1] at hk
  rw [PD e hk]
  rw [e] at hA
  have cE:=ha (gl hk)
  have aC:=(hc k _ (eX hk)).2
  have c0:w.cell? ⟨b,o'+k*3+1,none⟩=some (.int .i64 (r.de[k]).mx):=aC 1 _ rfl
  unfold RA
  refine ah Tryz.func232 rfl rfl ?_
  (refine Jr<|Jy rfl rfl fun _ _=>Ja rfl<|Jn<|Jq<|Jr<|ab (cz .here) rfl ?_;refine Jv rfl<|ai aZ rfl (fun w' au=>(hA w' (Mem.keeps au))) ?_;refine Ja rfl<|Ji<|Jv rfl<|JG rfl<|Jn<|Jd rfl fun ar=>Jr<|bF rfl rfl ae ?_;refine JL rfl .here rfl<|Jv rfl<|ab (az (.of rfl) (.of rfl) cE ar (by omega) ba) rfl ?_;refine bF rfl rfl ae ?_;refine ab (ag (.of rfl) (At.base c0 rfl)) rfl ?_;refine Ja rfl<|Jn<|Ju<|JT ?_)
  rfl
 by_cases g2:0≤bu (cQ r) o
 ·obtain ⟨k,e,hk⟩:=q7 g2
  rw [n2] at hk
  rw [PA g1 e hk]
  rw [e] at hB
  have cE:=iW (eT hk)
  have aC:=(jq k _ (dQ hk)).2
  have c0:w.cell? ⟨b2,o2+k*3+1,none⟩=some (.int .i64 (r.ti[k]).fr):=aC 1 _ rfl
  unfold RA
  refine ah Tryz.func232 rfl rfl ?_
  (refine Jr<|Jy rfl rfl fun _ _=>Ja rfl<|Jn<|Jq<|Jr<|ab (cz .here) rfl ?_;refine Jv rfl<|ai aZ rfl (fun w' au=>(hA w' (Mem.keeps au))) ?_;refine Ja rfl<|Ji<|Jv rfl<|JG rfl<|Jn<|Jc rfl fun ar=>Jk<|Jq<|Jr<|ab (cz .here) rfl ?_;refine Jv rfl<|ai aZ rfl (fun w' au=>(hB w' (Mem.keeps au))) ?_;refine Ja rfl<|Ji<|Jv rfl<|JG rfl<|Jn<|Jd rfl fun ar=>Jr<|bF rfl rfl ae ?_;refine JL rfl .here rfl<|Jv rfl<|ab (az (.of rfl) (.of rfl) cE ar (by omega) ba) rfl ?_;refine bF rfl rfl ae ?_;refine ab (ag (.of rfl) (At.base c0 rfl)) rfl ?_;refine Ja rfl<|Jn<|Ju<|JT ?_)
  rfl
 rw [PC g1 g2]
 unfold RA
 refine ah Tryz.func232 rfl rfl ?_
 (refine Jr<|Jy rfl rfl fun _ _=>Ja rfl<|Jn<|Jq<|Jr<|ab (cz .here) rfl ?_;refine Jv rfl<|ai aZ rfl (fun w' au=>(hA w' (Mem.keeps au))) ?_;refine Ja rfl<|Ji<|Jv rfl<|JG rfl<|Jn<|Jc rfl fun ar=>Jk<|Jq<|Jr<|ab (cz .here) rfl ?_;refine Jv rfl<|ai aZ rfl (fun w' au=>(hB w' (Mem.keeps au))) ?_;refine Ja rfl<|Ji<|Jv rfl<|JG rfl<|Jn<|Jc rfl fun ar=>Jk<|Jr<|Ja rfl<|Jn<|Je<|JT ?_)
 rfl
theorem Mg {r:Ro} {s d t p:Value} (o:ByteArray) {w:World} (h:RR w r s d t p):aj Tryz.prog 231 [RA r s d t p,.string o] w (.int .i64 (jz r o)):=by
 have h1:=Rd.one h.sr
 have h2:=Rd.one h.de
 have h3:=Rd.one h.ti
 have h4:=Rd.one h.po
 have hA:∀ w',aG [] w w'→aj Tryz.prog 130 [.agg #[.int .i64 r.lv,.int .i64 r.ma,s,d,t,p],.string o] w' (.int .i64 (bu (cm r) o)):=fun w' hk=>q9 o (h.keeps hk)
 have hB:∀ w',aG [] w w'→aj Tryz.prog 60 [.agg #[.int .i64 r.lv,.int .i64 r.ma,s,d,t,p],.string o] w' (.int .i64 (bu (cQ r) o)):=fun w' hk=>zn o (h.keeps hk)
 have n1:(cm r).length=r.sr.length:=by unfold cm;rw [Zd]
 have n2:(cQ r).length=r.ti.length:=by unfold cQ;rw [Zd]
 have hs:=h.sr
 obtain ⟨a,cp,b,o',rfl,db,bT,ha,hc⟩:=hs
 rw [cu] at *
 have ht:=h.ti
 obtain ⟨a2,nA,b2,o2,rfl,jt,eA,iW,jq⟩:=ht
 rw [bJ] at *
 unfold maxLen at bT eA
 by_cases g1:0≤bu (cm r) o
 ·obtain ⟨k,e,hk⟩:=q7 g1
  rw [n1] at hk
  rw [PU e hk]
  rw [e] at hA
  have cE:=ha (gB hk)
  have aC:=(hc k _ (fm hk)).2
  have c0:w.cell? ⟨b,o'+k*2+1,none⟩=some (.int .i64 (r.sr[k]).mx):=aC 1 _ rfl
  unfold RA
  refine ah Tryz.func231 rfl rfl ?_
  (refine Jr<|Jy rfl rfl fun _ _=>Ja rfl<|Jn<|Jq<|Jr<|ab (cz .here) rfl ?_;refine Jv rfl<|ai aZ rfl (fun w' au=>(hA w' (Mem.keeps au))) ?_;refine Ja rfl<|Ji<|Jv rfl<|JG rfl<|Jn<|Jd rfl fun ar=>Jr<|bF rfl rfl ae ?_;refine JL rfl .here rfl<|Jv rfl<|ab (az (.of rfl) (.of rfl) cE ar (by omega) ba) rfl ?_;refine bF rfl rfl ae ?_;refine ab (ag (.of rfl) (At.base c0 rfl)) rfl ?_;refine Ja rfl<|Jn<|Ju<|JT ?_)
  rfl
 by_cases g2:0≤bu (cQ r) o
 ·obtain ⟨k,e,hk⟩:=q7 g2
  rw [n2] at hk
  rw [PT g1 e hk]
  rw [e] at hB
  have cE:=iW (eT hk)
  have aC:=(jq k _ (dQ hk)).2
  have c0:w.cell? ⟨b2,o2+k*3+2,none⟩=some (.int .i64 (r.ti[k]).to):=aC 2 _ rfl
  unfold RA
  refine ah Tryz.func231 rfl rfl ?_
  (refine Jr<|Jy rfl rfl fun _ _=>Ja rfl<|Jn<|Jq<|Jr<|ab (cz .here) rfl ?_;refine Jv rfl<|ai aZ rfl (fun w' au=>(hA w' (Mem.keeps au))) ?_;refine Ja rfl<|Ji<|Jv rfl<|JG rfl<|Jn<|Jc rfl fun ar=>Jk<|Jq<|Jr<|ab (cz .here) rfl ?_;refine Jv rfl<|ai aZ rfl (fun w' au=>(hB w' (Mem.keeps au))) ?_;refine Ja rfl<|Ji<|Jv rfl<|JG rfl<|Jn<|Jd rfl fun ar=>Jr<|bF rfl rfl ae ?_;refine JL rfl .here rfl<|Jv rfl<|ab (az (.of rfl) (.of rfl) cE ar (by omega) ba) rfl ?_;refine bF rfl rfl ae ?_;refine ab (ag (.of rfl) (At.base c0 rfl)) rfl ?_;refine Ja rfl<|Jn<|Ju<|JT ?_)
  rfl
 rw [PV g1 g2]
 unfold RA
 refine ah Tryz.func231 rfl rfl ?_
 (refine Jr<|Jy rfl rfl fun _ _=>Ja rfl<|Jn<|Jq<|Jr<|ab (cz .here) rfl ?_;refine Jv rfl<|ai aZ rfl (fun w' au=>(hA w' (Mem.keeps au))) ?_;refine Ja rfl<|Ji<|Jv rfl<|JG rfl<|Jn<|Jc rfl fun ar=>Jk<|Jq<|Jr<|ab (cz .here) rfl ?_;refine Jv rfl<|ai aZ rfl (fun w' au=>(hB w' (Mem.keeps au))) ?_;refine Ja rfl<|Ji<|Jv rfl<|JG rfl<|Jn<|Jc rfl fun ar=>Jk<|Jr<|Ja rfl<|Jn<|Je<|JT ?_)
 rfl
theorem LL {r:Ro} {s d t p:Value} (o:ByteArray) {w:World} (h:RR w r s d t p) (hf:mX r):aj Tryz.prog 230 [RA r s d t p,.string o] w (.int .i64 (dS r o)):=by
 have h1:=Rd.one h.sr
 have h2:=Rd.one h.de
 have h3:=Rd.one h.ti
 have h4:=Rd.one h.po
 have hA:∀ w',aG [] w w'→aj Tryz.prog 56 [.agg #[.int .i64 r.lv,.int .i64 r.ma,s,d,t,p],.string o] w' (.int .i64 (bu (ct r) o)):=fun w' hk=>rb o (h.keeps hk)
 have hB:∀ w',aG [] w w'→aj Tryz.prog 60 [.agg #[.int .i64 r.lv,.int .i64 r.ma,s,d,t,p],.string o] w' (.int .i64 (bu (cQ r) o)):=fun w' hk=>zn o (h.keeps hk)
 have n2:(cQ r).length=r.ti.length:=by unfold cQ;rw [Zd]
 have hs:=h.de
 obtain ⟨a,cp,b,o',rfl,db,bT,ha,hc⟩:=hs
 rw [bU] at *
 obtain ⟨f1,f2,f3,f4⟩:=hf
 have hq:0≤bu (cQ r) o→bu (cQ r) o≤1000000:=fun g=>by
  obtain ⟨k,e,hk⟩:=q7 g
  omega
 unfold RA
 refine ah Tryz.func230 rfl rfl ?_
 unfold dS
 generalize bu (ct r) o=x at hA ⊢
 generalize bu (cQ r) o=y at hB hq ⊢
 (refine Jr<|Jy rfl rfl fun _ _=>Ja rfl<|Jn<|Jq<|Jr<|ab (cz .here) rfl ?_;refine Jv rfl<|ai aZ rfl (fun w' au=>(hA w' (Mem.keeps au))) ?_;refine Ja rfl<|Ji<|Jv rfl<|JG rfl<|Jn<|gm rfl (fun ar=>?_) fun ar=>?_;refine Jr<|Jv rfl<|Ja rfl<|Jn<|Ju<|JT ?_;rotate_left;refine Jk<|Jq<|Jr<|ab (cz .here) rfl ?_;refine Jv rfl<|ai aZ rfl (fun w' au=>(hB w' (Mem.keeps au))) ?_;refine Ja rfl<|Ji<|Jv rfl<|JG rfl<|Jn<|gm rfl (fun ar=>?_) fun ar=>?_;refine Jr<|bF rfl rfl ae ?_;refine JL rfl .here rfl<|JI rfl<|Jv rfl<|JB rfl (by omega)<|Ja rfl<|Jn<|Ju<|JT ?_;rotate_left;refine Jk<|Jr<|Ja rfl<|Jn<|Je<|JT ?_;rotate_right;rotate_right)
 all_goals first | (rw [if_pos ar];done) | (rw [if_neg ‹¬ 0≤x›,if_pos ar];done) | (rw [if_neg ‹¬ 0≤x›,if_neg ar];done)
theorem zu {r:Ro} {s d t p:Value} (v:Int) {w:World} (h:RR w r s d t p):aj Tryz.prog 27 [RA r s d t p,.int .i64 v] w (.int .i64 (AZ r v)):=by
 have h1:=Rd.one h.sr
 have h2:=Rd.one h.de
 have h3:=Rd.one h.ti
 have h4:=Rd.one h.po
 unfold RA
 refine ah Tryz.func27 rfl rfl ?_
 (refine Jr<|Jy rfl rfl fun _ _=>Ja rfl<|Ji<|Jv rfl<|bF rfl rfl ae ?_;refine JL rfl .here rfl ?_)
 refine ab (DQ (.of rfl) (.of rfl)) rfl ?_
 (refine ai eh rfl (fun w' au=>(tC v 0 _ w')) ?_;refine Ja rfl<|Jn<|Je<|JT ?_)
 rfl
theorem Dc {r:Ro} {s d t p:Value} (o:ByteArray) {w:World} (h:RR w r s d t p):aj Tryz.prog 26 [RA r s d t p,.string o] w (.int .i64 (sM r o)):=by
 have h1:=Rd.one h.sr
 have h2:=Rd.one h.de
 have h3:=Rd.one h.ti
 have h4:=Rd.one h.po
 have qX:∀ w',aG [] w w'→aj Tryz.prog 56 [.agg #[.int .i64 r.lv,.int .i64 r.ma,s,d,t,p],.string o] w' (.int .i64 (bu (ct r) o)):=fun w' hk=>rb o (h.keeps hk)
 unfold RA
 refine ah Tryz.func26 rfl rfl ?_
 (refine Jr<|Jy rfl rfl fun _ _=>Ja rfl<|Ji<|ab (cz .here) rfl ?_;refine Jv rfl<|ai aZ rfl (fun w' au=>(qX w' (Mem.keeps au))) ?_;refine JA rfl<|ai aZ rfl (fun w' au=>(kH _ 10 w')) ?_;refine Ja rfl<|Jn<|Je<|JT ?_)
 rfl
theorem Da {r:Ro} {s d t p:Value} (o:ByteArray) {w:World} (h:RR w r s d t p):aj Tryz.prog 29 [RA r s d t p,.string o] w (.int .i64 (Ks r o)):=by
 have h1:=Rd.one h.sr
 have h2:=Rd.one h.de
 have h3:=Rd.one h.ti
 have h4:=Rd.one h.po
 have qX:∀ w',aG [] w w'→aj Tryz.prog 130 [.agg #[.int .i64 r.lv,.int .i64 r.ma,s,d,t,p],.string o] w' (.int .i64 (bu (cm r) o)):=fun w' hk=>q9 o (h.keeps hk)
 unfold RA
 refine ah Tryz.func29 rfl rfl ?_
 (refine Jr<|Jy rfl rfl fun _ _=>Ja rfl<|Ji<|ab (cz .here) rfl ?_;refine Jv rfl<|ai aZ rfl (fun w' au=>(qX w' (Mem.keeps au))) ?_;refine JA rfl<|ai aZ rfl (fun w' au=>(kH _ 10 w')) ?_;refine Ja rfl<|Jn<|Je<|JT ?_)
 rfl
theorem zv (po:List Po) (v:Int):∀ (n:Nat) (o:ByteArray),(oA po v n o).length≤n
 | 0,_=>Nat.le_refl _
 | n + 1, o => by
  rw [oA]
  split
  ·exact Zi _
  ·rw [List.length_cons];exact Nat.succ_le_succ (zv po v n _)
theorem EC {r:Ro} {s d t p:Value} (v:Int) (o:ByteArray) (n:Nat) (hn:n≤1000) {w:World} (h:RR w r s d t p):bd Tryz.prog 132 [RA r s d t p,.int .i64 v,.string o,.int .i64 (n:Nat)] w [] (fun _:Value=>True) id (fun x=>[row 9 1 x (oA r.po v n o).length (aO (oA r.po v n o))]):=by
 have h1:=Rd.one h.sr
 have h2:=Rd.one h.de
 have h3:=Rd.one h.ti
 have h4:=Rd.one h.po
 have mw:∀ (o':ByteArray) w',aG [] w w'→aj Tryz.prog 133 [.agg #[.int .i64 r.lv,.int .i64 r.ma,s,d,t,p],.int .i64 v,.string o'] w' (.string ((ee r.po v o').getD ⟨#[]⟩)):=fun o' w' hk=>tK v o' (h.keeps hk)
 unfold RA
 refine aQ Tryz.func132 rfl rfl ?_
 refine Jr<|Jy rfl rfl fun _ _=>Ja rfl<|Ji<|Ja rfl<|Jn<|Jq<|Jr<|Ja rfl<|Jn<|J0 ?_
 rename_i b4 u9
 refine aP 9 1 ?_
 refine aX (ι:=Nat×ByteArray×Value×List ByteArray) (fun y=>y.1≤n∧y.2.2.2.length=y.1∧oA r.po v n o=y.2.2.2++oA r.po v (n-y.1) y.2.1) (fun y=>[(10,.int .i64 (y.1:Nat)),(9,y.2.2.1),(2,.string y.2.1),(1,.int .i64 v),(3,.int .i64 (n:Nat)),(4,.pointer (some ⟨b4,0,none⟩))]) (fun y=>[row 9 1 y.2.2.1 y.1 (aO y.2.2.2),JQ b4 r s d t p]) (fun y=>n-y.1) ?_ ?_
 ·apply aJ (0,o,.slice none 0 0,[]) ⟨Zi _,rfl,rfl⟩
  case hs1=>exact cd
  case ht=>
   exact .cons .here (.cons .here .nil)
 rintro ⟨k,o',v',L⟩ ⟨hk,hL,hc⟩
 dsimp only at hk hL hc ⊢
 have hlen:(aO L).length=k*1:=by rw [dd,hL];omega
 by_cases aL:k<n∧o'≠⟨#[]⟩
 ·obtain ⟨g1,g2⟩:=aL
  have jq:oA r.po v n o=(L++[o'])++oA r.po v (n-(k+1)) ((ee r.po v o').getD ⟨#[]⟩):=by
   rw [hc,show n-k=(n-(k+1))+1 by omega,oA,if_neg g2,Zh];rfl
  (refine Jq<|Jr<|Jv rfl<|Jv rfl<|JA rfl<|Jv rfl<|je rfl rfl rfl rfl ?_;refine aF rfl rfl inferInstance (fun hg bj=>(hY (.bE hg rfl) (.of rfl))) rfl ?_;refine ab (bV (.of rfl) rfl) rfl ?_;refine Jn<|nB rfl (fun ar=>?_) fun ar=>?_;refine Jk<|Jq<|J0<|Jr<|Jv rfl<|Jv rfl<|bb (aA (.cons (.of rfl) .nil) rfl rfl rfl rfl) rfl fun _ _=>?_;rotate_left;refine Jp<|Jl<|Jo<|Jt<|Jr<|Jv rfl<|Ja rfl<|Jn<|Je ?_;rotate_right)
  refine bB (.of rfl) (.of rfl) (.there .here) .here an (by rfl) (ed rfl) (by rfl) (by rfl) (by rfl) eH (by rfl) ?_
  intro x
  (refine Ja rfl<|Jn<|Jg<|ab (cz bN) rfl ?_;refine Jv rfl<|Jv rfl<|ai eh rfl (fun w' au=>(mw o' w' (Mem.keeps au))) ?_;refine Ja rfl<|Jx<|Jj<|Jt<|Jg<|Jv rfl<|JB rfl (by omega)<|Ja rfl<|Jn ?_)
  apply aK (k+1,(ee r.po v o').getD ⟨#[]⟩,x,L++[o']) ⟨by show k+1≤n;omega,by show (L++[o']).length=k+1;rw [Zg,hL];rfl,jq⟩ (by show n-(k+1)<n-k;omega)
  case hs1=>exact cd
  case ht=>
   show bo _ [row 9 1 x (k+1) (aO (L++[o'])),JQ b4 r s d t p] _
   rw [show aO (L++[o'])=aO L++[.string o'] from eO _ _]
   exact .cons .here (.cons (.there .here) .nil)
  exact ar.elim (fun z=>absurd (show ((k:Nat):Int)<(n:Nat) by omega) z) (fun z=>absurd g2 z)
 ·have he:oA r.po v n o=L:=by
   rw [hc]
   by_cases g:k<n
   ·have:o'=⟨#[]⟩:=Classical.byContradiction fun q=>aL ⟨g,q⟩
    rw [this,OG,List.append_nil]
   ·rw [show n-k=0 by omega,oA,List.append_nil]
  have Fx:¬ ((k:Nat):Int)<(n:Nat)∨¬ o'≠⟨#[]⟩:=by
   by_cases g:k<n
   ·exact .inr fun q=>aL ⟨g,q⟩
   ·exact .inl (by omega)
  rw [he,hL]
  (refine Jq<|Jr<|Jv rfl<|Jv rfl<|JA rfl<|Jv rfl<|je rfl rfl rfl rfl ?_;refine aF rfl rfl inferInstance (fun hg bj=>(hY (.bE hg rfl) (.of rfl))) rfl ?_;refine ab (bV (.of rfl) rfl) rfl ?_;refine Jn<|nB rfl (fun ar=>?_) fun ar=>?_;refine Jk<|Jq<|J0<|Jr<|Jv rfl<|Jv rfl<|bb (aA (.cons (.of rfl) .nil) rfl rfl rfl rfl) rfl fun _ _=>?_;rotate_left;refine Jp<|Jl<|Jo<|Jt<|Jr<|Jv rfl<|Ja rfl<|Jn<|Je ?_;rotate_right)
  ·exact absurd ar (by intro q;rcases Fx with z | z;exact z q.1;exact z q.2)
  first | with_reducible apply aM | with_reducible apply aN
  case he=>exact dp rfl rfl
  case hR=>
   intro w' au
   exact aB v' trivial (by exact .cons .here .nil) au rfl

def zW (r:Ro) (v:Int) (o:ByteArray):List ByteArray:=if bu (cm r) ((oA r.po v 8 o).getLastD ⟨#[]⟩)<0 then [] else (oA r.po v 8 o).reverse
theorem KY {r:Ro} {s d t p:Value} (v:Int) (o:ByteArray) (ho:o≠⟨#[]⟩) {w:World} (h:RR w r s d t p):bd Tryz.prog 31 [RA r s d t p,.int .i64 v,.string o] w [] (fun _:Value=>True) id (fun x=>[row 9 1 x (zW r v o).length (aO (zW r v o))]):=by
 have h1:=Rd.one h.sr
 have h2:=Rd.one h.de
 have h3:=Rd.one h.ti
 have h4:=Rd.one h.po
 have Mx:∀ (o':ByteArray) w',aG [] w w'→aj Tryz.prog 130 [.agg #[.int .i64 r.lv,.int .i64 r.ma,s,d,t,p],.string o'] w' (.int .i64 (bu (cm r) o')):=fun o' w' hk=>q9 o' (h.keeps hk)
 have Qx:∀ w',aG [] w w'→bd Tryz.prog 132 [.agg #[.int .i64 r.lv,.int .i64 r.ma,s,d,t,p],.int .i64 v,.string o,.int .i64 8] w' [] (fun _:Value=>True) id (fun x=>[row 9 1 x (oA r.po v 8 o).length (aO (oA r.po v 8 o))]):=fun w' hk=>EC v o 8 (by decide) (h.keeps hk)
 have hle:=zv r.po v 8 o
 obtain ⟨m,hm⟩:∃ m,(oA r.po v 8 o).length=m+1:=by
  rw [oA,if_neg ho];exact ⟨_,rfl⟩
 unfold zW
 generalize oA r.po v 8 o=L at Qx hle hm ⊢
 rw [hm] at Qx
 unfold RA
 refine aQ Tryz.func31 rfl rfl ?_
 (refine Jr<|Jy rfl rfl fun _ _=>Ja rfl<|Ji<|ab (cz .here) rfl ?_;refine Jv rfl<|Jv rfl ?_)
 refine JN pb rfl (fun w1 aS=>Qx w1 aS.keeps) ?_
 intro x _
 dsimp only [id_eq,Zb,Za]
 refine Ja rfl<|Jn<|Jq<|Jq ?_
 rename_i b3 sZ
 refine c7 (E:=9) (sz:=1) (v:=x) (by exact .here) (Nat.succ_pos m) ?_
 rintro g gc cur e db _ _ _
 subst e
 have N7:(aO L++cur)[m*1]? = some (.string (L.getLastD ⟨#[]⟩)):=by
  rw [qq L cur (by omega)]
  congr 2
  rw [List.getLastD_eq_getLast?,List.getLast?_eq_getElem?,show L.length-1=m by omega,Zc (by omega)];rfl
 have Im:(aO L++cur)[(((Nat.succ m:Nat):Int)-1).toNat*1]? = some (.string (L.getLastD ⟨#[]⟩)):=by
  rw [show (((Nat.succ m:Nat):Int)-1).toNat=m by omega];exact N7
 with_reducible refine dP 7 (by kernel_rfl) ?_
 (refine aH (cz (.there .here)) rfl ?_;refine k7 rfl rfl ?_;refine k7 rfl rfl ?_;refine aH (bZ (.of rfl)) rfl ?_;refine aH (rD (.of rfl) (.of rfl) (PS (by omega))) rfl ?_;refine aH (az (.of rfl) (.of rfl) rfl (by omega) (by omega) ba) rfl ?_;refine aH (ag (.of rfl) (At.kz .here Im)) rfl ?_)
 with_reducible refine dY ?_
 (refine ai aZ rfl (fun w' au=>(Mx _ w' (Mem.keeps au))) ?_;refine JA rfl<|Jn<|gm rfl (fun ar=>?_) fun ar=>?_;refine Jr<|Ja rfl<|Jn<|Ju ?_;rotate_left;refine Jk<|Jr<|Ja rfl<|Jn<|Jq<|Jr<|Jv rfl<|JI rfl<|JS rfl (by omega)<|Ja rfl<|Jn<|J0 ?_;rotate_right)
 ·rw [if_pos ar]
  refine aP 9 1 ?_
  first | with_reducible apply aM | with_reducible apply aN
  case he=>exact dp rfl rfl
  case hR=>
   intro w' au
   exact aB (.slice none 0 0) trivial (by exact .cons .here .nil) au rfl
 rw [if_neg ar]
 refine aP 9 1 ?_
 refine aX (ι:=Nat×Int×Value) (fun y=>y.1≤m+1∧y.2.1=(m:Int)-y.1) (fun y=>[(9,.int .i64 y.2.1),(8,y.2.2),(7,.slice (some ⟨g,0,none⟩) m.succ gc)]) (fun y=>[row 9 1 y.2.2 y.1 (aO (L.reverse.take y.1)),bA g (.cells (aO L++cur).toArray 9 (0,0))]) (fun y=>m+1-y.1) ?_ ?_
 ·apply aJ (0,((Nat.succ m:Nat):Int)-1,.slice none 0 0) ⟨Zi _,by show ((Nat.succ m:Nat):Int)-1=(m:Int)-((0:Nat):Int);omega⟩
  case hs1=>exact cd
  case ht=>
   exact .cons .here (.cons .here .nil)
 rintro ⟨k,i,v'⟩ ⟨hk,hi⟩
 dsimp only at hk hi ⊢
 clear N7 Im ar
 have SY:L.reverse.length=m+1:=by rw [List.length_reverse,hm]
 by_cases aL:k<m+1
 ·have hj:(aO L++cur)[i.toNat*1]? = some (.string (L.reverse[k]'(by omega))):=by
   rw [show i.toNat=m-k by omega,qq L cur (by omega),List.getElem_reverse]
   congr 3
   omega
  have htk:aO (L.reverse.take (k+1))=aO (L.reverse.take k)++[.string (L.reverse[k]'(by omega))]:=by
   rw [List.take_succ_eq_append_getElem (by omega)];exact eO _ _
  have hlen:(aO (L.reverse.take k)).length=k*1:=by rw [dd,List.length_take];omega
  generalize L.reverse[k]'(by omega)=z at hj htk
  (refine Jq<|Jr<|Jv rfl<|JG rfl<|Jn<|Jd rfl fun ar=>Jk<|Jq<|J0<|Jg<|Jv rfl<|Jv rfl<|Jv rfl<|ab (az (.of rfl) (.of rfl) rfl ar (by omega) ba) rfl ?_;refine ab (ag (.of rfl) (At.kz (.there .here) hj)) rfl ?_;refine bb (aA (.cons (.of rfl) .nil) rfl rfl rfl rfl) rfl fun _ _=>?_)
  refine bB (.of rfl) (.of rfl) (.there .here) .here an (by rfl) (ed rfl) (by rfl) (by rfl) (by rfl) eH (by rfl) ?_
  intro q
  refine Ja rfl<|Jx<|Jj<|Jt<|Jg<|Jv rfl<|JS rfl (by omega)<|Ja rfl<|Jn ?_
  apply aK (k+1,i-1,q) ⟨by show k+1≤m+1;omega,by show i-1=(m:Int)-((k+1:Nat):Int);omega⟩ (by show m+1-(k+1)<m+1-k;omega)
  case hs1=>exact cd
  case ht=>
   show bo _ [row 9 1 q (k+1) (aO (L.reverse.take (k+1))),bA g (.cells (aO L++cur).toArray 9 (0,0))] _
   rw [htk]
   exact .cons .here (.cons (.there .here) .nil)
 obtain rfl:k=m+1:=by omega
 rw [List.take_of_length_le (by omega)]
 refine Jq<|Jr<|Jv rfl<|JG rfl<|Jn<|Jc rfl fun ar=>Jp<|Jl<|Jo<|Jt<|Jr<|Jv rfl<|Ja rfl<|Jn<|Je ?_
 first | with_reducible apply aM | with_reducible apply aN
 case he=>exact dp rfl rfl
 case hR=>
  intro w' au
  rw [SY]
  exact aB v' trivial (by exact .cons .here .nil) au rfl
def Nh (r:Ro) (v:Int) (o:ByteArray):ByteArray:=(zW r v o).headD ⟨#[]⟩
theorem xP {r:Ro} {s d t p:Value} (v:Int) (o:ByteArray) (ho:o≠⟨#[]⟩) {w:World} (h:RR w r s d t p):aj Tryz.prog 131 [RA r s d t p,.int .i64 v,.string o] w (.string (Nh r v o)):=by
 have h1:=Rd.one h.sr
 have h2:=Rd.one h.de
 have h3:=Rd.one h.ti
 have h4:=Rd.one h.po
 have P5:∀ w',aG [] w w'→bd Tryz.prog 31 [.agg #[.int .i64 r.lv,.int .i64 r.ma,s,d,t,p],.int .i64 v,.string o] w' [] (fun _:Value=>True) id (fun x=>[row 9 1 x (zW r v o).length (aO (zW r v o))]):=fun w' hk=>KY v o ho (h.keeps hk)
 unfold Nh
 generalize zW r v o=L at P5 ⊢
 unfold RA
 refine ah Tryz.func131 rfl rfl ?_
 (refine Jr<|Jy rfl rfl fun _ _=>Ja rfl<|Ji<|ab (cz .here) rfl ?_;refine Jv rfl<|Jv rfl ?_)
 refine JN eh rfl (fun w1 aS=>P5 w1 aS.keeps) ?_
 intro x _
 dsimp only [id_eq,Zb,Za]
 cases L with
 | nil =>
  refine aY (E:=9) (sz:=1) (v:=x) (by exact .here) fun xa xc e=>?_
  subst e
  (refine Ja rfl<|Jn<|Jq<|Jr<|Jv rfl<|JI rfl<|JC rfl<|Jn<|gm rfl (fun ar=>?_) fun ar=>?_;refine Jr<|Ja rfl<|Jn<|Ju<|JT ?_;rotate_left;refine Jk<|Jr<|Jv rfl ?_;rotate_right)
  all_goals first | rfl | exact absurd rfl ar
 | cons y L =>
  refine c7 (E:=9) (sz:=1) (v:=x) (by exact .here) (by exact Nat.succ_pos _) ?_
  rintro g gc cur e db _ _ _
  subst e
  have jb:(aO (y::L)++cur)[0*1]? = some (.string y):=rfl
  have sW:(y::L).length=L.length+1:=rfl
  rw [sW]
  (refine Ja rfl<|Jn<|Jq<|Jr<|Jv rfl<|JI rfl<|JC rfl<|Jn<|Jc rfl fun ar=>Jk<|Jr<|Jv rfl<|ab (az (.of rfl) (.of rfl) rfl (by omega) (by omega) ba) rfl ?_;refine JL rfl .here rfl<|Ja rfl<|Jn<|Je<|JT ?_)
  all_goals first | rfl | omega

theorem QC {lv:Value} {l:List ByteArray} (o:ByteArray) {w:World} (h:Rd w lv 1 (iT l)):aj Tryz.prog 59 [lv,.string o] w (.bool (iK l o)):=by
 obtain ⟨a,cp,b,o',rfl,db,bT,ha,hc⟩:=h
 rw [cg] at *
 unfold maxLen at bT
 refine ah Tryz.func59 rfl rfl ?_
 refine Jr<|Ja rfl<|Jn<|Jq<|Jr<|Ja rfl<|Jn<|J0 ?_
 refine aX (ι:=Nat) (fun k=>k≤l.length∧∀ j (hj:j<l.length),j<k→l[j]≠o) (fun k=>[(5,.int .i64 (k:Nat)),(0,.slice a l.length cp),(1,.string o)]) (fun _=>[]) (fun k=>l.length-k) ?_ ?_
 ·apply aJ (0:Nat) ⟨Zi _,fun j _ hj=>absurd hj (Nat.not_lt_zero _)⟩
  case hs1=>exact cd
  case ht=>(try simp only [Ze,Zf,Za]);exact .nil
 rintro k ⟨hk,hf⟩
 by_cases aL:k<l.length
 ·have cE:=ha (mC aL)
  have c0:w.cell? ⟨b,o'+k*1,none⟩=some (.string l[k]):=(hc k _ (jG aL)).2 0 _ rfl
  have hm:=Zj aL
  have we:l[k]≠o→∀ j (hj:j<l.length),j<k+1→l[j]≠o:=fun q j hj Tm=>by
   by_cases e:j=k
   ·subst e;exact q
   ·exact hf j hj (by omega)
  generalize l[k]=x at c0 hm we
  (refine Jq<|Jr<|Jv rfl<|Jv rfl<|JI rfl<|JA rfl<|Jn<|Jd rfl fun ar=>Jk<|Jq<|J0<|Jr<|Jv rfl<|Jv rfl<|ab (fH cE ar) rfl ?_;refine ab (ag (.of rfl) (At.base c0 rfl)) rfl ?_;refine Jv rfl<|ab (dR (.of rfl) (.of rfl)) rfl ?_;refine Jn<|gm rfl (fun ar=>?_) fun ar=>?_;refine Jr<|Ja rfl<|Jn<|Je<|Jm<|Jh<|Jh<|Jm<|Jh<|JT ?_;rotate_left;refine Jw<|Jj<|Jt<|Jg<|Jv rfl<|JB rfl (by omega)<|Ja rfl<|Jn ?_;rotate_right)
  ·have qi:x=o:=ar
   rw [fb.2 (qi ▸ hm)]
  ·have qi:¬ x=o:=ar
   apply aK (k+1) ⟨(show k+1≤l.length from aL),we qi⟩ (show l.length-(k+1)<l.length-k by omega)
   case hs1=>exact cd
   case ht=>(try simp only [Ze,Zf,Za]);exact .nil
 ·have e:iK l o=false:=by
   rw [← Bool.not_eq_true,fb]
   intro q
   obtain ⟨j,hj,e⟩:=List.getElem_of_mem q
   exact hf j hj (by omega) e
  obtain rfl:k=l.length:=by omega
  rw [e]
  refine Jq<|Jr<|Jv rfl<|Jv rfl<|JI rfl<|JA rfl<|Jn<|Jc rfl fun ar=>Jp<|Jl<|Jo<|Jt<|Jr<|Ja rfl<|Jn<|Je<|JT ?_
  rfl
end Go.Proofs.A1
