/- Parts of the proof: LP POpen LQ LR LS LT LU. -/
import Derived.Test.YteonnodafmegaaaGreatDoorAM12
import Derived.Test.YteonnodafmegaaaGreatDoorAM04
import Derived.Test.YteonnodafmegaaaGreatDoorTie
import Derived.Test.YteonnodafmegaaaGreatDoorCards
import Derived.Lib.SmallJoins
import Derived.Lib.LaidTab
import Derived.Deep.Slices
import Derived.Deep.Fields
import Derived.ChangeSame
import Derived.ChangeBook
import Derived.ChangeStays
import Derived.WalkKit
import Derived.ProofKit
import Derived.OpenShut
import Derived.Below
import Derived.LaidMore
import Derived.Lay
import Derived.SevenTiedAt
import Derived.Stop.Joined
import Derived.ChangeMaps5
set_option linter.unusedSectionVars false
set_option linter.unusedVariables false
set_option linter.unusedSimpArgs false
namespace Go.Proofs.A1
open Go Go.SL
theorem eb {c:Cx} {D:List Nat} {sl:aG} {hs rest:List ba} {X:Act→World→Prop} (hs2:List ba) (ht:bj hs hs2 rest) (k:Tr c D sl hs2 X):Tr c D sl hs X:=fun a w a7=>k a w (a7.heap (by
 have h1:=a7.mem.iQ (ht.append (lX D))
 obtain ⟨kk,fp,hn,gZ,hb⟩:=h1
 obtain ⟨f1,f23,rfl,g1,g23⟩:=bY.append_iff.1 gZ
 obtain ⟨f2,f3,rfl,g2,g3⟩:=bY.append_iff.1 g23
 obtain ⟨n1,n23,n12⟩:=List.nodup_append.1 hn
 obtain ⟨n2,n3,n4⟩:=List.nodup_append.1 n23
 exact ⟨kk,f1++f3,List.nodup_append.2 ⟨n1,n3,fun x hx y hy=>n12 x hx y (List.mem_append_right _ hy)⟩,bY.append_iff.2 ⟨f1,f3,rfl,g1,g3⟩,fun b dw=>hb b (by
  rcases List.mem_append.1 dw with h | h
  ·exact List.mem_append_left _ h
  ·exact List.mem_append_right _ (List.mem_append_right _ h))⟩))
theorem qY:mP lD:=⟨by decide,by decide,by decide⟩
theorem Ey:mP fO:=⟨by decide,by decide,by decide⟩
theorem Ex:mP gz:=⟨by decide,by decide,by decide⟩
theorem S8:mP Ct:=⟨by decide,by decide,by decide⟩
theorem zt:mi fO:=⟨by decide,by decide,by decide,by decide⟩
theorem zr:mi gz:=⟨by decide,by decide,by decide,by decide⟩
theorem Wu:mi vu:=⟨by decide,by decide,by decide,by decide⟩
theorem S6:mi Ct:=⟨by decide,by decide,by decide,by decide⟩
theorem I2 {r:Ro} {s d t p:Value} {w:World} {e:Int} {Y:List ByteArray} (v:Int) (so de:ByteArray) (h:RR w r s d t p) (hf:mP r) (e1:EO r v so de=e) (e2:Cd r v so de=Y):bd Tryz.prog 70 [.agg #[.int .i64 (r).lv,.int .i64 (r).ma,s,d,t,p],.int .i64 v,.string so,.string de] w [] (fun _:Value=>True) (fun x=>.tuple #[x,.int .i64 e]) (fun x=>[row 9 1 x Y.length (aM Y)]):=by
 subst e1 e2;exact Tz v so de h hf
theorem Qp {r:Ro} {s d t p:Value} {w:World} {e:Int} {Y:List Int} (v:Int) (so de:ByteArray) (h:RR w r s d t p) (hf:mP r) (e1:IF r v so de=e) (e2:FL r v so de=Y):bd Tryz.prog 36 [.agg #[.int .i64 (r).lv,.int .i64 (r).ma,s,d,t,p],.int .i64 v,.string so,.string de] w [] (fun _:Value=>True) (fun x=>.tuple #[x,.int .i64 e]) (fun x=>[row 3 1 x Y.length (Y.map (Value.int .i64))]):=by
 subst e1 e2;exact TF v so de h hf
theorem NZ {r q:Ro} {k:Tk} {s d t p v:Value} {w:World} (e:iV r [k]=(q,0,0)) (h:RR w r s d t p) (hf:mP r) (hv:Rd w v 1 (fg k.so)):bd Tryz.prog 48 [.agg #[.int .i64 (r).lv,.int .i64 (r).ma,s,d,t,p],.agg #[.string k.de,v]] w [] (fun _:Value×Value×Value×Value=>True) (fun y=>.tuple #[.agg #[.int .i64 (q).lv,.int .i64 (q).ma,y.1,y.2.1,y.2.2.1,y.2.2.2],.int .i64 0]) (fun y=>rb q y):=by
 have:=MP (x:=⟨k,v⟩) h hf hv
 rw [show (fZ.mk k v).tk=k from rfl,e] at this
 exact this
theorem N2 {r q:Ro} {l:List fZ} {i e_:Int} {s d t p v:Value} {w:World} (e:iV r (dd l)=(q,i,e_)) (h:RR w r s d t p) (hf:mP r) (hv:Rd w v 2 (ji l)) (hM:vF w l):bd Tryz.prog 45 [.agg #[.int .i64 (r).lv,.int .i64 (r).ma,s,d,t,p],v] w [] (fun _:Value×Value×Value×Value=>True) (fun y=>.tuple #[.agg #[.int .i64 (q).lv,.int .i64 (q).ma,y.1,y.2.1,y.2.2.1,y.2.2.2],.int .i64 i,.int .i64 e_]) (fun y=>rb q y):=by
 have:=zT h hf hv hM
 rw [e] at this
 exact this
theorem Tt {r:Ro} {l:List fZ} {m:List Tk} {s d t p v:Value} {w:World} (e:(iV r (dd l)).2.2=0) (e2:KA r (dd l)=m) (h:RR w r s d t p) (hf:mP r) (hv:Rd w v 2 (ji l)) (hM:vF w l):bd Tryz.prog 47 [.agg #[.int .i64 (r).lv,.int .i64 (r).ma,s,d,t,p],v] w [] (fun x:Value×List fZ=>dd x.2=m) (fun x=>.tuple #[x.1,.int .i64 0]) (fun x=>[row 78 2 x.1 x.2.length (ji x.2).flatten,KC x.2]):=by
 have:=JO h hf hv hM
 rw [e,e2] at this
 exact this
theorem N3 {r:Ro} {s d t p:Value} {w:World} {e:Int} {Y:List ByteArray} (o:ByteArray) (h:RR w r s d t p) (hf:mP r) (e1:sP r o=e) (e2:kE r o=Y):bd Tryz.prog 20 [.agg #[.int .i64 (r).lv,.int .i64 (r).ma,s,d,t,p],.string o] w [] (fun _:Value=>True) (fun x=>.tuple #[x,.int .i64 e]) (fun x=>[row 9 1 x Y.length (aM Y)]):=by
 subst e1 e2;exact Qw o h hf
theorem N0 {r:Ro} {s d t p:Value} {w:World} {e:Int} {Y:List ByteArray} (v:Int) (o:ByteArray) (h:RR w r s d t p) (hf:mP r) (e1:nq r v o=e) (e2:kS r v o=Y):bd Tryz.prog 22 [.agg #[.int .i64 (r).lv,.int .i64 (r).ma,s,d,t,p],.int .i64 v,.string o] w [] (fun _:Value=>True) (fun x=>.tuple #[x,.int .i64 e]) (fun x=>[row 9 1 x Y.length (aM Y)]):=by
 subst e1 e2;exact MO v o h hf
theorem N4 {r:Ro} {s d t p:Value} {w:World} {e:Int} {Y:List ByteArray} (v:Int) (h:RR w r s d t p) (hf:mP r) (e1:sX r v=e) (e2:lL r v=Y):bd Tryz.prog 23 [.agg #[.int .i64 (r).lv,.int .i64 (r).ma,s,d,t,p],.int .i64 v] w [] (fun _:Value=>True) (fun x=>.tuple #[x,.int .i64 e]) (fun x=>[row 9 1 x Y.length (aM Y)]):=by
 subst e1 e2;exact Qy v h hf
theorem NY {r:Ro} {s d t p:Value} {w:World} {e:Int} {Y:List ByteArray} (v:Int) (o:ByteArray) (h:RR w r s d t p) (hf:mP r) (e1:lA r v o=e) (e2:lR r v o=Y):bd Tryz.prog 24 [.agg #[.int .i64 (r).lv,.int .i64 (r).ma,s,d,t,p],.int .i64 v,.string o] w [] (fun _:Value=>True) (fun x=>.tuple #[x,.int .i64 e]) (fun x=>[row 9 1 x Y.length (aM Y)]):=by
 subst e1 e2;exact MN v o h hf
theorem Tv {r q:Ro} {s d t p:Value} {w:World} {b:Bool} (o:ByteArray) (h:RR w r s d t p) (hf:mP r) (e1:w9 r o=0) (e2:w8 r o b=q):bd Tryz.prog 78 [.agg #[.int .i64 (r).lv,.int .i64 (r).ma,s,d,t,p],.string o,.bool b] w [] (fun _:Value×Value×Value×Value=>True) (fun y=>.tuple #[.agg #[.int .i64 (q).lv,.int .i64 (q).ma,y.1,y.2.1,y.2.2.1,y.2.2.2],.int .i64 0]) (fun y=>rb q y):=by
 have:=BW o b h hf
 rw [e1,e2] at this
 exact this
theorem I4 {r:Ro} {l:List oZ} {m:List Od} {s d t p v:Value} {w:World} {Y:List ByteArray} (o:ByteArray) (f:Int) (em:ef l=m) (h:RR w r s d t p) (hf:mP r) (e1:qu r m o f=0) (e2:sM r m o f=Y) (hv:Rd w v 2 (r8 l)) (hM:F5 w l):bd Tryz.prog 64 [.agg #[.int .i64 (r).lv,.int .i64 (r).ma,s,d,t,p],v,.string o,.int .i64 f] w [] (fun _:Value=>True) (fun x=>.tuple #[x,.int .i64 0]) (fun x=>[row 9 1 x Y.length (aM Y)]):=by
 have:=Qt o f h hf hv hM
 rw [em,e1,e2] at this
 exact this
theorem jg (w:World):bd Tryz.prog 105 [] w [] (fun _:Value×Value×Value×Value=>True) (fun x=>.agg #[.int .i64 (lD).lv,.int .i64 (lD).ma,x.1,x.2.1,x.2.2.1,x.2.2.2]) (fun x=>rb lD x):=Mr w
theorem ki {r:Ro} {s d t p:Value} {w:World} (h:RR w r s d t p) (hf:mi r):bd Tryz.prog 57 [.agg #[.int .i64 (r).lv,.int .i64 (r).ma,s,d,t,p]] w [] (fun _:Value×Value×Value×Value=>True) (fun x=>.agg #[.int .i64 (r).lv,.int .i64 (r).ma,x.1,x.2.1,x.2.2.1,x.2.2.2]) (fun x=>Oo r x):=Gs h hf
theorem fj {r:Ro} {s d t p:Value} {w:World} (h:RR w r s d t p) (hf:mi r):bd Tryz.prog 21 [.agg #[.int .i64 (r).lv,.int .i64 (r).ma,s,d,t,p]] w [] (fun _:Value×Value×Value×Value=>True) (fun x=>.agg #[.int .i64 (r).lv,.int .i64 (r).ma,x.1,x.2.1,x.2.2.1,x.2.2.2]) (fun x=>rb r x):=Ru h hf
theorem N1 (w:World):bd Tryz.prog 106 [] w [] (fun _:Option Addr×Nat=>True) (fun x=>.agg #[.string dC,.slice x.1 2 x.2]) (fun x=>[row 9 1 (.slice x.1 2 x.2) 2 (aM ni.so)]):=P8 w
theorem Tu (w:World):bd Tryz.prog 107 [] w [] (fun _:Option Addr×Nat=>True) (fun x=>.agg #[.string iM,.slice x.1 2 x.2]) (fun x=>[row 9 1 (.slice x.1 2 x.2) 2 (aM Qz.so)]):=P7 w
theorem I3 (w:World):bd Tryz.prog 108 [] w [] (fun _:Option Addr×Nat=>True) (fun x=>.agg #[.string dC,.slice x.1 2 x.2]) (fun x=>[row 9 1 (.slice x.1 2 x.2) 2 (aM nh.so)]):=P6 w
theorem gG {w:World} {x:fZ} {l:List fZ} (h:Rd w x.v 1 (fg x.tk.so)) (k:vF w l):vF w (x::l):=fun y hy=>by
 rcases List.mem_cons.1 hy with rfl | hy
 ·exact h
 ·exact k y hy
theorem jy (w:World):vF w []:=fun _ h=>absurd h List.not_mem_nil
theorem lb {v1 v2:Value} {l:List ByteArray} {w:World} (h1:Rd w v1 1 (fg l)) (h2:Rd w v2 1 (fg l)):aj Tryz.prog 58 [v1,v2] w (.bool true):=by
 have:=yB h1 h2
 rwa [decide_eq_true rfl] at this
theorem K2 {v1 v2:Value} {l:List Int} {w:World} (h1:Rd w v1 1 (ints l)) (h2:Rd w v2 1 (ints l)):aj Tryz.prog 109 [v1,v2] w (.bool true):=by
 have:=K3 h1 h2
 rwa [decide_eq_true rfl] at this
theorem WH {c:Cx} {hs hs':List ba} {w:World} {W:List fZ} (hm:Mem c hs w) (ht:Take hs (KC W) hs'):vF w W:=fun x hx=>by
 obtain ⟨j,hj,rfl⟩:=List.getElem_of_mem hx
 have:=hm.CA (j:=j) (v:=W[j].v) (x:=aM W[j].tk.so) ht (by rw [List.getElem?_map,List.getElem?_eq_getElem hj];rfl) (by rw [List.getElem?_map,List.getElem?_eq_getElem hj];rfl)
 have e:(aM W[j].tk.so).map (fun u=>[u])=fg W[j].tk.so:=by unfold aM fg;rw [List.map_map];rfl
 rwa [e] at this
theorem K1 {v1 v2:Value} {l m:List fZ} {w:World} (h1:Rd w v1 2 (ji l)) (Wl:vF w l) (h2:Rd w v2 2 (ji m)) (Wk:vF w m) (e:dd l=dd m):aj Tryz.prog 53 [v1,v2] w (.bool true):=by
 have:=BV h1 Wl h2 Wk
 rwa [decide_eq_true e] at this
theorem G4 {r:Ro} {s d t p v:Value} {q:List Po} {w:World} (h:RR w r s d t p) (cJ:mi r) (hv:Rd w v 3 (sN q)) (e:r.po=q):aj Tryz.prog 110 [.agg #[.int .i64 (r).lv,.int .i64 (r).ma,s,d,t,p],v] w (.bool true):=by
 have:=Ha h cJ hv
 rwa [decide_eq_true e] at this
theorem dD {P:Program} {c:Cx} {sl:aG} {hs:List ba} {dst:Option Tmp} {ty:TypeId} {pos:String} {af:Array Edge} {g:Option (Nat×Bool)} {x y z:Operand} {q:Bool} {v u V:Value} (hx:Is sl x (.bool q)) (hy:Is sl y v) (hz:Is sl z u) (e:(bif q then v else u)=V):cX P c sl hs ⟨dst,.pick x y z,ty,pos,af,g⟩ V:=e ▸ th hx hy hz
theorem Uy {c:Cx} {hs hs':List ba} {w:World} {g:Nat} {x:ByteArray} {E:TypeId} {fz:Nat×Nat} (hm:Mem c hs w) (ht:Take hs (bD g (.cells #[.string x] E fz)) hs'):Rd w (.slice (some ⟨g,0,none⟩) 1 1) 1 (fg [x]):=Mem.dh hm ht rfl rfl
theorem Ux {c:Cx} {hs hs':List ba} {w:World} {g:Nat} {x y z:ByteArray} {E:TypeId} {fz:Nat×Nat} (hm:Mem c hs w) (ht:Take hs (bD g (.cells #[.string x,.string y,.string z] E fz)) hs'):Rd w (.slice (some ⟨g,0,none⟩) 3 3) 1 (fg [x,y,z]):=Mem.dh hm ht rfl rfl
theorem CB {c:Cx} {hs hs':List ba} {w:World} {g:Nat} {x y:ByteArray} {E:TypeId} {fz:Nat×Nat} (hm:Mem c hs w) (ht:Take hs (bD g (.cells #[.string x,.string y] E fz)) hs'):Rd w (.slice (some ⟨g,0,none⟩) 2 2) 1 (fg [x,y]):=Mem.dh hm ht rfl rfl
theorem CI {c:Cx} {hs hs':List ba} {w:World} {l:List oZ} {E:TypeId} {v:Value} {n:Nat} (hm:Mem c hs w) (ht:Take hs (row E 2 v n (r8 l).flatten) hs') (hn:l.length=n):Rd w v 2 (r8 l):=hm.o9 ht rfl (fun r hr=>by obtain ⟨x,_,rfl⟩:=List.mem_map.1 hr;rfl) (by rw [show (r8 l).length=l.length from List.length_map _,hn])
theorem lW {w:World} {x:oZ} {l:List oZ} (h:Rd w x.v 2 (ji x.tk)) (h2:vF w x.tk) (k:F5 w l):F5 w (x::l):=fun y hy=>by
 rcases List.mem_cons.1 hy with rfl | hy
 ·exact ⟨h,h2⟩
 ·exact k y hy
theorem yV (w:World):F5 w []:=fun _ h=>absurd h List.not_mem_nil
theorem Qo {s d t p:Value} {w:World} (h:RR w lD s d t p):aj Tryz.prog 85 [.agg #[.int .i64 (lD).lv,.int .i64 (lD).ma,s,d,t,p]] w (.tuple #[.string (G5 lD),.int .i64 0]):=by
 have:=MQ h qY
 rwa [Te] at this
theorem E8 {P:Program} {c:Cx} {sl:aG} {hs:List ba} {dst:Option Tmp} {ty:TypeId} {pos:String} {af:Array Edge} {g:Option (Nat×Bool)} {t u:TypeId} {x y:Operand} {a b:ByteArray} (hx:Is sl x (.string a)) (hy:Is sl y (.string b)) (e:a=b) :
  cX P c sl hs ⟨dst,.binOp .eql t x y u,ty,pos,af,g⟩ (.bool true):=by
 have:=ee (P:=P) (c:=c) (hs:=hs) (dst:=dst) (ty:=ty) (pos:=pos) (af:=af) (g:=g) (t:=t) (u:=u) hx hy
 rwa [decide_eq_true e] at this
set_option maxRecDepth 20000 in
set_option maxHeartbeats 4000000 in
theorem EI (w:World):aj Tryz.prog 17 [] w (.bool true):=by
 refine ah Tryz.func17 rfl rfl ?_
 refine Jr<|Ja rfl<|Ji ?_
 refine JN ng rfl (fun w1 aJ=>jg w1) ?_
 rintro ⟨s1,d1,t1,p1⟩ _
 try dsimp only [id_eq,List.cons_append,List.nil_append]
 refine cP (r:=lD) (s:=s1) (d:=d1) (t:=t1) (p:=p1) (a8 _ _) fun m1a m1b m1c m1d=>?_
 skip
 refine JN eS rfl (fun w1 aJ=>I2 0 cL dC ⟨cE aJ (by exact .here) rfl,cG aJ (by exact Take.there .here) rfl,cD aJ bI rfl,cy aJ cY rfl⟩ qY NG.1 NG.2) ?_
 rintro x1 _
 try dsimp only [id_eq,List.cons_append,List.nil_append]
 refine Jv rfl<|JJ rfl rfl<|JJ rfl rfl<|Ja rfl<|Ja rfl<|Ji ?_
 refine JN ng rfl (fun w1 aJ=>jg w1) ?_
 rintro ⟨s2,d2,t2,p2⟩ _
 try dsimp only [id_eq,List.cons_append,List.nil_append]
 refine cP (r:=lD) (s:=s2) (d:=d2) (t:=t2) (p:=p2) (a8 _ _) fun m2a m2b m2c m2d=>?_
 skip
 refine JN ng rfl (fun w1 aJ=>N1 w1) ?_
 rintro ⟨ya,yc⟩ _
 try dsimp only [id_eq,List.cons_append,List.nil_append]
 skip
 refine JN aZ rfl (fun w1 aJ=>NZ (k:=ni) Tc ⟨cE aJ (by exact Take.there .here) rfl,cG aJ bI rfl,cD aJ cY rfl,cy aJ ei rfl⟩ qY (br aJ (by exact .here) (by exact rfl))) ?_
 rintro ⟨s3,d3,t3,p3⟩ _
 try dsimp only [id_eq,List.cons_append,List.nil_append]
 refine cP (r:=fO) (s:=s3) (d:=d3) (t:=t3) (p:=p3) (a8 _ _) fun Y1 Y0 YZ YY=>?_
 (refine Jv rfl<|JJ rfl rfl<|JJ rfl rfl<|Jz rfl rfl fun _ _=>ao (.of rfl) (.of rfl) .here rfl rfl (ib rfl rfl Y1 Y0 YZ YY) (bE rfl) ak ?_;refine Ja rfl<|Ji<|ab (cr .here) rfl ?_)
 rename_i b3 rG
 refine eb [JW x1 [nT],bD b3 (.cells #[.int .i64 (fO).lv,.int .i64 (fO).ma,s3,d3,t3,p3] 41 (0,0)),J1 (fO) s3,J2 (fO) d3,J3 (fO) t3,J4 (fO) p3] (by exact .cons jL (.cons .here (.cons .here (.cons .here (.cons .here (.cons .here .nil)))))) ?_
 skip
 refine JN bC rfl (fun w1 aJ=>ki ⟨cE aJ bI rfl,cG aJ cY rfl,cD aJ ei rfl,cy aJ eC rfl⟩ zt) ?_
 rintro ⟨s4,d4,t4,p4⟩ _
 try dsimp only [id_eq,List.cons_append,List.nil_append]
 refine lB (r:=fO) (s:=s4) (d:=d4) (t:=t4) (p:=p4) (a8 _ _) fun m4a m4b m4c m4d=>?_
 skip
 refine JN bC rfl (fun w1 aJ=>fj ⟨cE aJ (by exact .here) rfl,cG aJ (by exact Take.there .here) rfl,cD aJ bI rfl,cy aJ cY rfl⟩ zt) ?_
 rintro ⟨s5,d5,t5,p5⟩ _
 try dsimp only [id_eq,List.cons_append,List.nil_append]
 refine cP (r:=fO) (s:=s5) (d:=d5) (t:=t5) (p:=p5) (a8 _ _) fun m5a m5b m5c m5d=>?_
 skip
 refine JN ng rfl (fun w1 aJ=>Tu w1) ?_
 rintro ⟨za,zc⟩ _
 try dsimp only [id_eq,List.cons_append,List.nil_append]
 skip
 refine JN aZ rfl (fun w1 aJ=>NZ (k:=Qz) Tb ⟨cE aJ (by exact Take.there .here) rfl,cG aJ bI rfl,cD aJ cY rfl,cy aJ ei rfl⟩ Ey (br aJ (by exact .here) (by exact rfl))) ?_
 rintro ⟨s6,d6,t6,p6⟩ _
 try dsimp only [id_eq,List.cons_append,List.nil_append]
 refine cP (r:=gz) (s:=s6) (d:=d6) (t:=t6) (p:=p6) (a8 _ _) fun YX YW YV YU=>?_
 (refine Jv rfl<|JJ rfl rfl<|JJ rfl rfl<|Jz rfl rfl fun _ _=>ao (.of rfl) (.of rfl) .here rfl rfl (ib rfl rfl YX YW YV YU) (bE rfl) ak ?_;refine Ja rfl<|Ji<|ab (cr .here) rfl ?_)
 rename_i b5 Mb
 refine eb [JW x1 [nT],bD b3 (.cells #[.int .i64 (fO).lv,.int .i64 (fO).ma,s3,d3,t3,p3] 41 (0,0)),J1 (fO) s3,J2 (fO) d3,J3 (fO) t3,J4 (fO) p3,bD b5 (.cells #[.int .i64 (gz).lv,.int .i64 (gz).ma,s6,d6,t6,p6] 41 (0,0)),J1 (gz) s6,J2 (gz) d6,J3 (gz) t6,J4 (gz) p6] (by exact .cons BY (.cons BY (.cons BY (.cons BY (.cons BY (.cons BY (.cons .here (.cons .here (.cons .here (.cons .here (.cons .here .nil))))))))))) ?_
 skip
 refine JN bC rfl (fun w1 aJ=>ki ⟨cE aJ tL rfl,cG aJ B6 rfl,cD aJ gC rfl,cy aJ jL rfl⟩ zr) ?_
 rintro ⟨s7,d7,t7,p7⟩ _
 try dsimp only [id_eq,List.cons_append,List.nil_append]
 refine lB (r:=gz) (s:=s7) (d:=d7) (t:=t7) (p:=p7) (a8 _ _) fun m7a m7b m7c m7d=>?_
 skip
 refine JN bC rfl (fun w1 aJ=>fj ⟨cE aJ (by exact .here) rfl,cG aJ (by exact Take.there .here) rfl,cD aJ bI rfl,cy aJ cY rfl⟩ zr) ?_
 rintro ⟨s8,d8,t8,p8⟩ _
 try dsimp only [id_eq,List.cons_append,List.nil_append]
 refine cP (r:=gz) (s:=s8) (d:=d8) (t:=t8) (p:=p8) (a8 _ _) fun m8a m8b m8c m8d=>?_
 skip
 refine JN ng rfl (fun w1 aJ=>I3 w1) ?_
 rintro ⟨ua,uc⟩ _
 try dsimp only [id_eq,List.cons_append,List.nil_append]
 refine bb (bu (.cons (.of rfl) .nil) rfl rfl bM bM ak) rfl (fun _ _=>?_)
 rename_i g4 hg4
 refine bQ (g:=g4) (E:=78) (ys:=(ji [⟨nh,.slice ua 2 uc⟩]).flatten) 1 2 (by exact .here) (by exact rfl) rfl rfl ?_
 refine JN aZ rfl (fun w1 aJ=>N2 (l:=[⟨nh,.slice ua 2 uc⟩]) NM ⟨cE aJ bI rfl,cG aJ cY rfl,cD aJ ei rfl,cy aJ eC rfl⟩ Ex (lT aJ (by exact .here) (by exact rfl)) (gG (br aJ (by exact Take.there .here) (by exact rfl)) (jy _))) ?_
 rintro ⟨s9,d9,t9,p9⟩ _
 try dsimp only [id_eq,List.cons_append,List.nil_append]
 refine cP (r:=vu) (s:=s9) (d:=d9) (t:=t9) (p:=p9) (a8 _ _) fun YT YS YR YQ=>?_
 (refine Jv rfl<|JJ rfl rfl<|JJ rfl rfl<|JJ rfl rfl<|Jz rfl rfl fun _ _=>ao (.of rfl) (.of rfl) .here rfl rfl (ib rfl rfl YT YS YR YQ) (bE rfl) ak ?_;refine Ja rfl<|Ja rfl<|Ji<|ab (cr (.there (.there (.there (.there (.there mh)))))) rfl ?_)
 rename_i b7 SM
 refine eb [JW x1 [nT],bD b3 (.cells #[.int .i64 (fO).lv,.int .i64 (fO).ma,s3,d3,t3,p3] 41 (0,0)),J1 (fO) s3,J2 (fO) d3,J3 (fO) t3,J4 (fO) p3,bD b5 (.cells #[.int .i64 (gz).lv,.int .i64 (gz).ma,s6,d6,t6,p6] 41 (0,0)),J1 (gz) s6,J2 (gz) d6,J3 (gz) t6,J4 (gz) p6,bD b7 (.cells #[.int .i64 (vu).lv,.int .i64 (vu).ma,s9,d9,t9,p9] 41 (0,0)),J1 (vu) s9,J2 (vu) d9,J3 (vu) t9,J4 (vu) p9] (by exact .cons iH (.cons iH (.cons iH (.cons iH (.cons iH (.cons iH (.cons iH (.cons iH (.cons iH (.cons iH (.cons iH (.cons .here (.cons .here (.cons .here (.cons .here (.cons .here .nil)))))))))))))))) ?_
 skip
 refine JN bC rfl (fun w1 aJ=>ki ⟨cE aJ tL rfl,cG aJ B6 rfl,cD aJ gC rfl,cy aJ jL rfl⟩ zr) ?_
 rintro ⟨Yi,d10,t10,YH⟩ _
 try dsimp only [id_eq,List.cons_append,List.nil_append]
 refine lB (r:=gz) (s:=Yi) (d:=d10) (t:=t10) (p:=YH) (a8 _ _) fun aan aam aal aak=>?_
 skip
 refine JN bC rfl (fun w1 aJ=>fj ⟨cE aJ (by exact .here) rfl,cG aJ (by exact Take.there .here) rfl,cD aJ bI rfl,cy aJ cY rfl⟩ zr) ?_
 rintro ⟨Yh,d11,t11,YG⟩ _
 try dsimp only [id_eq,List.cons_append,List.nil_append]
 refine cP (r:=gz) (s:=Yh) (d:=d11) (t:=t11) (p:=YG) (a8 _ _) fun aaj aai aah aag=>?_
 skip
 refine JN ng rfl (fun w1 aJ=>I3 w1) ?_
 rintro ⟨va,vc⟩ _
 try dsimp only [id_eq,List.cons_append,List.nil_append]
 refine bb (bu (.cons (.of rfl) .nil) rfl rfl bM bM ak) rfl (fun _ _=>?_)
 rename_i g5 hg5
 refine bQ (g:=g5) (E:=78) (ys:=(ji [⟨nh,.slice va 2 vc⟩]).flatten) 1 2 (by exact .here) (by exact rfl) rfl rfl ?_
 refine JN aZ rfl (fun w1 aJ=>Tt (l:=[⟨nh,.slice va 2 vc⟩]) (m:=[ni]) (congrArg (fun x:Ro×Int×Int=>x.2.2) NM) S9 ⟨cE aJ bI rfl,cG aJ cY rfl,cD aJ ei rfl,cy aJ eC rfl⟩ Ex (lT aJ (by exact .here) (by exact rfl)) (gG (br aJ (by exact Take.there .here) (by exact rfl)) (jy _))) ?_
 rintro ⟨wh,W⟩ hW
 try dsimp only at hW
 try dsimp only [id_eq,List.cons_append,List.nil_append]
 refine Jv rfl<|JJ rfl rfl<|JJ rfl rfl<|Ja rfl<|Ja rfl<|Ji ?_
 refine eb [JW x1 [nT],bD b3 (.cells #[.int .i64 (fO).lv,.int .i64 (fO).ma,s3,d3,t3,p3] 41 (0,0)),J1 (fO) s3,J2 (fO) d3,J3 (fO) t3,J4 (fO) p3,bD b5 (.cells #[.int .i64 (gz).lv,.int .i64 (gz).ma,s6,d6,t6,p6] 41 (0,0)),J1 (gz) s6,J2 (gz) d6,J3 (gz) t6,J4 (gz) p6,bD b7 (.cells #[.int .i64 (vu).lv,.int .i64 (vu).ma,s9,d9,t9,p9] 41 (0,0)),J1 (vu) s9,J2 (vu) d9,J3 (vu) t9,J4 (vu) p9,row 78 2 wh W.length (ji W).flatten,KC W] (by exact .cons kl (.cons kl (.cons kl (.cons kl (.cons kl (.cons kl (.cons kl (.cons kl (.cons kl (.cons kl (.cons kl (.cons kl (.cons kl (.cons kl (.cons kl (.cons kl (.cons .here (.cons .here .nil)))))))))))))))))) ?_
 skip
 refine JN ng rfl (fun w1 aJ=>jg w1) ?_
 rintro ⟨Yg,d12,t12,YF⟩ _
 try dsimp only [id_eq,List.cons_append,List.nil_append]
 refine cP (r:=lD) (s:=Yg) (d:=d12) (t:=t12) (p:=YF) (a8 _ _) fun aaf aae aad aac=>?_
 skip
 refine JN eS rfl (fun w1 aJ=>I2 0 jP mY ⟨cE aJ (by exact .here) rfl,cG aJ (by exact Take.there .here) rfl,cD aJ bI rfl,cy aJ cY rfl⟩ qY NF.1 NF.2) ?_
 rintro FZ _
 try dsimp only [id_eq,List.cons_append,List.nil_append]
 refine Jv rfl<|JJ rfl rfl<|JJ rfl rfl<|Ja rfl<|Ja rfl<|Ji ?_
 refine JN ng rfl (fun w1 aJ=>jg w1) ?_
 rintro ⟨Yf,d13,t13,YE⟩ _
 try dsimp only [id_eq,List.cons_append,List.nil_append]
 refine cP (r:=lD) (s:=Yf) (d:=d13) (t:=t13) (p:=YE) (a8 _ _) fun aab aaa Z9 Z8=>?_
 skip
 refine JN eS rfl (fun w1 aJ=>Qp 0 jP mY ⟨cE aJ (by exact .here) rfl,cG aJ (by exact Take.there .here) rfl,cD aJ bI rfl,cy aJ cY rfl⟩ qY NO.1 NO.2) ?_
 rintro N9 _
 try dsimp only [id_eq,List.cons_append,List.nil_append]
 refine Jv rfl<|JJ rfl rfl<|JJ rfl rfl<|Ja rfl<|Ja rfl<|Ji ?_
 refine JN ng rfl (fun w1 aJ=>jg w1) ?_
 rintro ⟨Ut,d14,t14,UH⟩ _
 try dsimp only [id_eq,List.cons_append,List.nil_append]
 refine cP (r:=lD) (s:=Ut) (d:=d14) (t:=t14) (p:=UH) (a8 _ _) fun Z7 Z6 Z5 Z4=>?_
 refine bb (aA (.cons (.of rfl) .nil) rfl rfl rfl rfl) rfl (fun _ _=>?_)
 rename_i g8 hg8
 with_reducible apply ag
 case hr=>exact JY
 case hd=>rfl
 case hc=>
  intro w1 aJ
  have:=Dv (r:=lD) (s:=Ut) (d:=d14) (t:=t14) (p:=UH) (cv:=.slice (some ⟨g8,0,none⟩) 1 1) 0 jP mY (L:=[0]) (⟨cE aJ (by exact Take.there .here) rfl,cG aJ bI rfl,cD aJ cY rfl,cy aJ ei rfl⟩:RR w1 lD Ut d14 t14 UH) qY (Mem.dh aJ (by exact .here) rfl rfl)
  rw [Tf] at this
  exact this
 refine eb [JW x1 [nT],bD b3 (.cells #[.int .i64 (fO).lv,.int .i64 (fO).ma,s3,d3,t3,p3] 41 (0,0)),J1 (fO) s3,J2 (fO) d3,J3 (fO) t3,J4 (fO) p3,bD b5 (.cells #[.int .i64 (gz).lv,.int .i64 (gz).ma,s6,d6,t6,p6] 41 (0,0)),J1 (gz) s6,J2 (gz) d6,J3 (gz) t6,J4 (gz) p6,bD b7 (.cells #[.int .i64 (vu).lv,.int .i64 (vu).ma,s9,d9,t9,p9] 41 (0,0)),J1 (vu) s9,J2 (vu) d9,J3 (vu) t9,J4 (vu) p9,row 78 2 wh W.length (ji W).flatten,KC W,row 3 1 N9 [(1:Int)].length ([(1:Int)].map (Value.int .i64))] (by exact .cons iH (.cons iH (.cons iH (.cons iH (.cons iH (.cons iH (.cons iH (.cons iH (.cons iH (.cons iH (.cons iH (.cons iH (.cons iH (.cons iH (.cons iH (.cons iH (.cons iH (.cons iH (.cons eC .nil))))))))))))))))))) ?_
 (refine Ja rfl<|Jn<|Jq<|Jr<|Jv rfl<|Jv rfl<|JB rfl (by omega)<|Jv rfl<|JB rfl (by omega)<|Jv rfl<|JB rfl (by omega)<|Jv rfl<|JB rfl (by omega)<|Jv rfl<|JB rfl (by omega)<|JD rfl<|Jv rfl<|JK rfl rfl<|Jv rfl<|JK rfl rfl<|JD rfl<|ab (dD (.of rfl) (.of rfl) (.of rfl) rfl) rfl ?_;refine Jv rfl<|JK rfl rfl<|Jv rfl<|JK rfl rfl<|JD rfl<|ab (dD (.of rfl) (.of rfl) (.of rfl) rfl) rfl ?_;refine Jv rfl<|JK rfl rfl<|Jv rfl<|JK rfl rfl<|JD rfl<|ab (dD (.of rfl) (.of rfl) (.of rfl) rfl) rfl ?_;refine Jv rfl<|JK rfl rfl<|Jv rfl<|JK rfl rfl<|bb (aA (.cons (.of rfl) .nil) rfl rfl rfl rfl) rfl fun _ _=>?_;refine JK rfl rfl ?_)
 skip
 rename_i g9a abr
 refine ag aZ rfl (fun w1 aJ=>lb (l:=[nT]) (br aJ (by exact Take.there .here) (by exact rfl)) (Mem.dh aJ (by exact .here) rfl rfl)) ?_
 (refine JK rfl rfl<|JH rfl<|ab (dD (.of rfl) (.of rfl) (.of rfl) rfl) rfl ?_;refine Jv rfl<|JK rfl rfl<|Jv rfl<|JK rfl rfl<|bb (aA (.cons (.of rfl) .nil) rfl rfl rfl rfl) rfl fun _ _=>?_;refine JK rfl rfl ?_)
 rename_i g9b abq
 refine ag aZ rfl (fun w1 aJ=>K2 (l:=[1]) (kb aJ (.there (.there (.there (.there mh)))) (by exact rfl)) (Mem.dh aJ (by exact .here) rfl rfl)) ?_
 (refine JK rfl rfl<|JH rfl<|ab (dD (.of rfl) (.of rfl) (.of rfl) rfl) rfl ?_;refine Jv rfl<|JK rfl rfl<|Jv rfl<|JK rfl rfl ?_)
 have QP:W.length≤1000:=by
  have h:=congrArg List.length hW
  unfold dd at h
  rw [List.length_map] at h
  rw [h];decide
 have hWs:∀ x∈W,x.tk.so.length≤1000:=by
  intro x hx
  have h:x.tk∈dd W:=List.mem_map_of_mem hx
  rw [hW] at h
  rw [List.mem_singleton.1 h];decide
 refine JN bC rfl (fun w1 aJ=>KM (lT aJ (.there (.there mh)) (by exact rfl)) (WH aJ (.there (.there (.there mh)))) QP hWs) ?_
 rintro ⟨x9,V⟩ hV
 try dsimp only at hV
 try dsimp only [id_eq,List.cons_append,List.nil_append]
 (refine JK rfl rfl<|bb (aA (.cons (.of rfl) (.cons (.of rfl) .nil)) rfl rfl rfl rfl) rfl fun _ _=>?_;refine JK rfl rfl<|ab (aS (.cons (.of rfl) (.cons (.of rfl) .nil)) ak) rfl ?_;refine JK rfl rfl<|bb (bu (.cons (.of rfl) .nil) rfl rfl bM bM ak) rfl fun _ _=>?_;refine JK rfl rfl ?_)
 rename_i XH abp g9d abo
 refine bQ (g:=g9d) (E:=69) (ys:=(ji [⟨ni,.slice (some ⟨XH,0,none⟩) 2 2⟩]).flatten) 1 2 (by exact .here) (by exact rfl) rfl rfl ?_
 refine ag aZ rfl (fun w1 aJ=>K1 (m:=[⟨ni,.slice (some ⟨XH,0,none⟩) 2 2⟩]) (lT aJ bI (by exact rfl)) (WH aJ cY) (lT aJ (by exact .here) (by exact rfl)) (gG (Mem.dh aJ (by exact Take.there .here) rfl rfl) (jy _)) (hV.trans (hW.trans rfl))) ?_
 (refine JK rfl rfl<|JH rfl<|ab (dD (.of rfl) (.of rfl) (.of rfl) rfl) rfl ?_;refine Jn<|bR (.of rfl) ?_;refine Jk<|Jq<|Jr<|ab (cr tL) rfl ?_;refine ab (aS (.cons (.of rfl) (.cons (.of rfl) (.cons (.of rfl) .nil))) ak) rfl ?_;refine ab (aS (.cons (.of rfl) (.cons (.of rfl) (.cons (.of rfl) .nil))) ak) rfl ?_;refine ab (aS (.cons (.of rfl) (.cons (.of rfl) (.cons (.of rfl) .nil))) ak) rfl ?_;refine ab (aS (.cons (.of rfl) (.cons (.of rfl) (.cons (.of rfl) .nil))) ak) rfl ?_;refine bb (bu (.cons (.of rfl) (.cons (.of rfl) (.cons (.of rfl) (.cons (.of rfl) .nil)))) rfl rfl bM bM ak) rfl fun _ _=>?_)
 rename_i Wt Xh
 refine bQ (g:=Wt) (E:=180) (ys:=iW UF) 4 3 (by exact .here) (by exact rfl) rfl rfl ?_
 refine ag aZ rfl (fun w1 aJ=>G4 (r:=fO) (q:=UF) ⟨cE aJ gC rfl,cG aJ jL rfl,cD aJ vp rfl,cy aJ kl rfl⟩ zt (cy aJ (by exact .here) (by exact rfl)) rfl) ?_
 (refine JH rfl<|Jv rfl<|JK rfl rfl<|ab (cr MT) rfl ?_;refine JK rfl rfl<|ab (aS (.cons (.of rfl) (.cons (.of rfl) (.cons (.of rfl) .nil))) ak) rfl ?_;refine JK rfl rfl<|ab (aS (.cons (.of rfl) (.cons (.of rfl) (.cons (.of rfl) .nil))) ak) rfl ?_;refine JK rfl rfl<|ab (aS (.cons (.of rfl) (.cons (.of rfl) (.cons (.of rfl) .nil))) ak) rfl ?_;refine JK rfl rfl<|ab (aS (.cons (.of rfl) (.cons (.of rfl) (.cons (.of rfl) .nil))) ak) rfl ?_;refine JK rfl rfl<|ab (aS (.cons (.of rfl) (.cons (.of rfl) (.cons (.of rfl) .nil))) ak) rfl ?_;refine JK rfl rfl<|bb (bu (.cons (.of rfl) (.cons (.of rfl) (.cons (.of rfl) (.cons (.of rfl) (.cons (.of rfl) .nil))))) rfl rfl bM bM ak) rfl fun _ _=>?_;refine JK rfl rfl ?_)
 rename_i Ws Xg
 refine bQ (g:=Ws) (E:=180) (ys:=iW UE) 5 3 (by exact .here) (by exact rfl) rfl rfl ?_
 refine ag aZ rfl (fun w1 aJ=>G4 (r:=gz) (q:=UE) ⟨cE aJ iH rfl,cG aJ mh rfl,cD aJ (.there mh) rfl,cy aJ (.there (.there mh)) rfl⟩ zr (cy aJ (by exact .here) (by exact rfl)) rfl) ?_
 (refine JK rfl rfl<|JH rfl<|ab (dD (.of rfl) (.of rfl) (.of rfl) rfl) rfl ?_;refine Jv rfl<|JK rfl rfl<|ab (cr (.there (.there (.there mh)))) rfl ?_;refine JK rfl rfl<|ab (aS (.cons (.of rfl) (.cons (.of rfl) (.cons (.of rfl) .nil))) ak) rfl ?_;refine JK rfl rfl<|ab (aS (.cons (.of rfl) (.cons (.of rfl) (.cons (.of rfl) .nil))) ak) rfl ?_;refine JK rfl rfl<|ab (aS (.cons (.of rfl) (.cons (.of rfl) (.cons (.of rfl) .nil))) ak) rfl ?_;refine JK rfl rfl<|ab (aS (.cons (.of rfl) (.cons (.of rfl) (.cons (.of rfl) .nil))) ak) rfl ?_;refine JK rfl rfl<|bb (bu (.cons (.of rfl) (.cons (.of rfl) (.cons (.of rfl) (.cons (.of rfl) .nil)))) rfl rfl bM bM ak) rfl fun _ _=>?_;refine JK rfl rfl ?_)
 rename_i Wr Xf
 refine bQ (g:=Wr) (E:=180) (ys:=iW UD) 4 3 (by exact .here) (by exact rfl) rfl rfl ?_
 refine ag aZ rfl (fun w1 aJ=>G4 (r:=vu) (q:=UD) ⟨cE aJ (.there (.there (.there (.there (.there mh))))) rfl,cG aJ (.there (.there (.there (.there (.there (.there mh)))))) rfl,cD aJ (.there (.there (.there (.there (.there (.there (.there mh))))))) rfl,cy aJ (.there (.there (.there (.there (.there (.there (.there (.there mh)))))))) rfl⟩ Wu (cy aJ (by exact .here) (by exact rfl)) rfl) ?_
 (refine JK rfl rfl<|JH rfl<|ab (dD (.of rfl) (.of rfl) (.of rfl) rfl) rfl ?_;refine Jn<|bR (.of rfl) ?_;refine Jk<|Jr<|ab (cr iH) rfl ?_)
 refine eb [bD b3 (.cells #[.int .i64 (fO).lv,.int .i64 (fO).ma,s3,d3,t3,p3] 41 (0,0)),J1 (fO) s3,J2 (fO) d3,J3 (fO) t3,J4 (fO) p3,bD b5 (.cells #[.int .i64 (gz).lv,.int .i64 (gz).ma,s6,d6,t6,p6] 41 (0,0)),J1 (gz) s6,J2 (gz) d6,J3 (gz) t6,J4 (gz) p6] (by exact .cons jL (.cons jL (.cons jL (.cons jL (.cons jL (.cons jL (.cons jL (.cons jL (.cons jL (.cons jL .nil)))))))))) ?_
 refine JN bC rfl (fun w1 aJ=>ki ⟨cE aJ oq rfl,cG aJ tL rfl,cD aJ B6 rfl,cy aJ gC rfl⟩ zr) ?_
 rintro ⟨Ye,d15,t15,YD⟩ _
 try dsimp only [id_eq,List.cons_append,List.nil_append]
 refine lB (r:=gz) (s:=Ye) (d:=d15) (t:=t15) (p:=YD) (a8 _ _) fun Z3 Z2 Z1 Z0=>?_
 skip
 refine JN bC rfl (fun w1 aJ=>fj ⟨cE aJ (by exact .here) rfl,cG aJ (by exact Take.there .here) rfl,cD aJ bI rfl,cy aJ cY rfl⟩ zr) ?_
 rintro ⟨Yd,d16,t16,YC⟩ _
 try dsimp only [id_eq,List.cons_append,List.nil_append]
 refine cP (r:=gz) (s:=Yd) (d:=d16) (t:=t16) (p:=YC) (a8 _ _) fun ZZ ZY ZX ZW=>?_
 skip
 refine JN aZ rfl (fun w1 aJ=>N3 iM ⟨cE aJ (by exact .here) rfl,cG aJ (by exact Take.there .here) rfl,cD aJ bI rfl,cy aJ cY rfl⟩ Ex Td.1 Td.2) ?_
 rintro F6 _
 try dsimp only [id_eq,List.cons_append,List.nil_append]
 refine Jv rfl<|JJ rfl rfl<|JJ rfl rfl<|Ja rfl<|Ja rfl<|Ji<|ab (cr gC) rfl ?_
 refine eb [bD b3 (.cells #[.int .i64 (fO).lv,.int .i64 (fO).ma,s3,d3,t3,p3] 41 (0,0)),J1 (fO) s3,J2 (fO) d3,J3 (fO) t3,J4 (fO) p3,bD b5 (.cells #[.int .i64 (gz).lv,.int .i64 (gz).ma,s6,d6,t6,p6] 41 (0,0)),J1 (gz) s6,J2 (gz) d6,J3 (gz) t6,J4 (gz) p6,row 9 1 F6 ([cL,⟨#[]⟩]:List ByteArray).length (aM [cL,⟨#[]⟩])] (by exact .cons gC (.cons gC (.cons gC (.cons gC (.cons gC (.cons gC (.cons gC (.cons gC (.cons gC (.cons gC (.cons .here .nil))))))))))) ?_
 refine JN bC rfl (fun w1 aJ=>ki ⟨cE aJ (by exact Take.there .here) rfl,cG aJ bI rfl,cD aJ cY rfl,cy aJ ei rfl⟩ zt) ?_
 rintro ⟨Yc,d17,t17,YB⟩ _
 try dsimp only [id_eq,List.cons_append,List.nil_append]
 refine lB (r:=fO) (s:=Yc) (d:=d17) (t:=t17) (p:=YB) (a8 _ _) fun ZV ZU ZT ZS=>?_
 skip
 refine JN bC rfl (fun w1 aJ=>fj ⟨cE aJ (by exact .here) rfl,cG aJ (by exact Take.there .here) rfl,cD aJ bI rfl,cy aJ cY rfl⟩ zt) ?_
 rintro ⟨Yb,d18,t18,YA⟩ _
 try dsimp only [id_eq,List.cons_append,List.nil_append]
 refine cP (r:=fO) (s:=Yb) (d:=d18) (t:=t18) (p:=YA) (a8 _ _) fun ZR ZQ ZP ZO=>?_
 skip
 refine JN dK rfl (fun w1 aJ=>N0 0 dC ⟨cE aJ (by exact .here) rfl,cG aJ (by exact Take.there .here) rfl,cD aJ bI rfl,cy aJ cY rfl⟩ Ey NI.1 NI.2) ?_
 rintro J5 _
 try dsimp only [id_eq,List.cons_append,List.nil_append]
 refine Jv rfl<|JJ rfl rfl<|JJ rfl rfl<|Ja rfl<|Ja rfl<|Ji<|ab (cr gC) rfl ?_
 refine eb [bD b3 (.cells #[.int .i64 (fO).lv,.int .i64 (fO).ma,s3,d3,t3,p3] 41 (0,0)),J1 (fO) s3,J2 (fO) d3,J3 (fO) t3,J4 (fO) p3,bD b5 (.cells #[.int .i64 (gz).lv,.int .i64 (gz).ma,s6,d6,t6,p6] 41 (0,0)),J1 (gz) s6,J2 (gz) d6,J3 (gz) t6,J4 (gz) p6,row 9 1 F6 ([cL,⟨#[]⟩]:List ByteArray).length (aM [cL,⟨#[]⟩]),row 9 1 J5 ([cL,nT,dC]:List ByteArray).length (aM [cL,nT,dC])] (by exact .cons gC (.cons gC (.cons gC (.cons gC (.cons gC (.cons gC (.cons gC (.cons gC (.cons gC (.cons gC (.cons gC (.cons .here .nil)))))))))))) ?_
 refine JN bC rfl (fun w1 aJ=>ki ⟨cE aJ (by exact Take.there .here) rfl,cG aJ bI rfl,cD aJ cY rfl,cy aJ ei rfl⟩ zt) ?_
 rintro ⟨Ya,d19,t19,Yz⟩ _
 try dsimp only [id_eq,List.cons_append,List.nil_append]
 refine lB (r:=fO) (s:=Ya) (d:=d19) (t:=t19) (p:=Yz) (a8 _ _) fun ZN ZM ZL ZK=>?_
 skip
 refine JN bC rfl (fun w1 aJ=>fj ⟨cE aJ (by exact .here) rfl,cG aJ (by exact Take.there .here) rfl,cD aJ bI rfl,cy aJ cY rfl⟩ zt) ?_
 rintro ⟨X9,d20,t20,Yy⟩ _
 try dsimp only [id_eq,List.cons_append,List.nil_append]
 refine cP (r:=fO) (s:=X9) (d:=d20) (t:=t20) (p:=Yy) (a8 _ _) fun ZJ ZI ZH ZG=>?_
 skip
 refine JN aZ rfl (fun w1 aJ=>N4 0 ⟨cE aJ (by exact .here) rfl,cG aJ (by exact Take.there .here) rfl,cD aJ bI rfl,cy aJ cY rfl⟩ Ey NQ.1 NQ.2) ?_
 rintro Kt _
 try dsimp only [id_eq,List.cons_append,List.nil_append]
 refine Jv rfl<|JJ rfl rfl<|JJ rfl rfl<|Ja rfl<|Ja rfl<|Ji<|ab (cr BY) rfl ?_
 refine eb [bD b3 (.cells #[.int .i64 (fO).lv,.int .i64 (fO).ma,s3,d3,t3,p3] 41 (0,0)),J1 (fO) s3,J2 (fO) d3,J3 (fO) t3,J4 (fO) p3,bD b5 (.cells #[.int .i64 (gz).lv,.int .i64 (gz).ma,s6,d6,t6,p6] 41 (0,0)),J1 (gz) s6,J2 (gz) d6,J3 (gz) t6,J4 (gz) p6,row 9 1 F6 ([cL,⟨#[]⟩]:List ByteArray).length (aM [cL,⟨#[]⟩]),row 9 1 J5 ([cL,nT,dC]:List ByteArray).length (aM [cL,nT,dC]),row 9 1 Kt ([nT]:List ByteArray).length (aM [nT])] (by exact .cons gC (.cons gC (.cons gC (.cons gC (.cons gC (.cons gC (.cons gC (.cons gC (.cons gC (.cons gC (.cons gC (.cons gC (.cons .here .nil))))))))))))) ?_
 refine JN bC rfl (fun w1 aJ=>ki ⟨cE aJ oq rfl,cG aJ tL rfl,cD aJ B6 rfl,cy aJ gC rfl⟩ zr) ?_
 rintro ⟨X8,d21,t21,Yx⟩ _
 try dsimp only [id_eq,List.cons_append,List.nil_append]
 refine lB (r:=gz) (s:=X8) (d:=d21) (t:=t21) (p:=Yx) (a8 _ _) fun ZF ZE ZD ZC=>?_
 skip
 refine JN bC rfl (fun w1 aJ=>fj ⟨cE aJ (by exact .here) rfl,cG aJ (by exact Take.there .here) rfl,cD aJ bI rfl,cy aJ cY rfl⟩ zr) ?_
 rintro ⟨X7,d22,t22,Yw⟩ _
 try dsimp only [id_eq,List.cons_append,List.nil_append]
 refine cP (r:=gz) (s:=X7) (d:=d22) (t:=t22) (p:=Yw) (a8 _ _) fun ZB ZA Zz Zy=>?_
 skip
 refine JN dK rfl (fun w1 aJ=>NY 0 cL ⟨cE aJ (by exact .here) rfl,cG aJ (by exact Take.there .here) rfl,cD aJ bI rfl,cy aJ cY rfl⟩ Ex NH.1 NH.2) ?_
 rintro MW _
 try dsimp only [id_eq,List.cons_append,List.nil_append]
 refine Jv rfl<|JJ rfl rfl<|JJ rfl rfl<|Ja rfl<|Ja rfl<|Ji<|ab (cr gC) rfl ?_
 refine eb [bD b3 (.cells #[.int .i64 (fO).lv,.int .i64 (fO).ma,s3,d3,t3,p3] 41 (0,0)),J1 (fO) s3,J2 (fO) d3,J3 (fO) t3,J4 (fO) p3,bD b5 (.cells #[.int .i64 (gz).lv,.int .i64 (gz).ma,s6,d6,t6,p6] 41 (0,0)),J1 (gz) s6,J2 (gz) d6,J3 (gz) t6,J4 (gz) p6,row 9 1 F6 ([cL,⟨#[]⟩]:List ByteArray).length (aM [cL,⟨#[]⟩]),row 9 1 J5 ([cL,nT,dC]:List ByteArray).length (aM [cL,nT,dC]),row 9 1 Kt ([nT]:List ByteArray).length (aM [nT]),row 9 1 MW ([dC,iM]:List ByteArray).length (aM [dC,iM])] (by exact .cons gC (.cons gC (.cons gC (.cons gC (.cons gC (.cons gC (.cons gC (.cons gC (.cons gC (.cons gC (.cons gC (.cons gC (.cons gC (.cons .here .nil)))))))))))))) ?_
 refine JN bC rfl (fun w1 aJ=>ki ⟨cE aJ (by exact Take.there .here) rfl,cG aJ bI rfl,cD aJ cY rfl,cy aJ ei rfl⟩ zt) ?_
 rintro ⟨X6,d23,t23,Yv⟩ _
 try dsimp only [id_eq,List.cons_append,List.nil_append]
 refine lB (r:=fO) (s:=X6) (d:=d23) (t:=t23) (p:=Yv) (a8 _ _) fun Zx Zw Zv Zu=>?_
 skip
 refine JN bC rfl (fun w1 aJ=>fj ⟨cE aJ (by exact .here) rfl,cG aJ (by exact Take.there .here) rfl,cD aJ bI rfl,cy aJ cY rfl⟩ zt) ?_
 rintro ⟨X5,d24,t24,Yu⟩ _
 try dsimp only [id_eq,List.cons_append,List.nil_append]
 refine cP (r:=fO) (s:=X5) (d:=d24) (t:=t24) (p:=Yu) (a8 _ _) fun Zt Zs Zr Zq=>?_
 skip
 refine JN dK rfl (fun w1 aJ=>Tv (b:=true) mY ⟨cE aJ (by exact .here) rfl,cG aJ (by exact Take.there .here) rfl,cD aJ bI rfl,cy aJ cY rfl⟩ Ey NN.1 NN.2) ?_
 rintro ⟨Us,d25,t25,UG⟩ _
 try dsimp only [id_eq,List.cons_append,List.nil_append]
 refine cP (r:=Ct) (s:=Us) (d:=d25) (t:=t25) (p:=UG) (a8 _ _) fun UR UQ UP UO=>?_
 (refine Jv rfl<|JJ rfl rfl<|JJ rfl rfl<|Jz rfl rfl fun _ _=>ao (.of rfl) (.of rfl) .here rfl rfl (ib rfl rfl UR UQ UP UO) (bE rfl) ak ?_;refine Ja rfl<|Ji<|ab (cr .here) rfl ?_)
 rename_i b25 abL
 refine eb [row 9 1 F6 ([cL,⟨#[]⟩]:List ByteArray).length (aM [cL,⟨#[]⟩]),row 9 1 J5 ([cL,nT,dC]:List ByteArray).length (aM [cL,nT,dC]),row 9 1 Kt ([nT]:List ByteArray).length (aM [nT]),row 9 1 MW ([dC,iM]:List ByteArray).length (aM [dC,iM]),bD b25 (.cells #[.int .i64 (Ct).lv,.int .i64 (Ct).ma,Us,d25,t25,UG] 41 (0,0)),J1 (Ct) Us,J2 (Ct) d25,J3 (Ct) t25,J4 (Ct) UG] (by exact .cons (.there (.there (.there (.there (.there (.there (.there mh))))))) (.cons (.there (.there (.there (.there (.there (.there (.there mh))))))) (.cons (.there (.there (.there (.there (.there (.there (.there mh))))))) (.cons (.there (.there (.there (.there (.there (.there (.there mh))))))) (.cons .here (.cons .here (.cons .here (.cons .here (.cons .here .nil))))))))) ?_
 refine JN bC rfl (fun w1 aJ=>ki ⟨cE aJ eC rfl,cG aJ oq rfl,cD aJ tL rfl,cy aJ B6 rfl⟩ S6) ?_
 rintro ⟨X4,d26,t26,Yt⟩ _
 try dsimp only [id_eq,List.cons_append,List.nil_append]
 refine lB (r:=Ct) (s:=X4) (d:=d26) (t:=t26) (p:=Yt) (a8 _ _) fun Zp Zo Zn Zm=>?_
 skip
 refine JN bC rfl (fun w1 aJ=>fj ⟨cE aJ (by exact .here) rfl,cG aJ (by exact Take.there .here) rfl,cD aJ bI rfl,cy aJ cY rfl⟩ S6) ?_
 rintro ⟨X3,d27,t27,Ys⟩ _
 try dsimp only [id_eq,List.cons_append,List.nil_append]
 refine cP (r:=Ct) (s:=X3) (d:=d27) (t:=t27) (p:=Ys) (a8 _ _) fun Zl Zk Zj Zi=>?_
 (refine bb (aA (.cons (.of rfl) (.cons (.of rfl) .nil)) rfl rfl rfl rfl) rfl fun _ _=>?_;refine ab (aS (.cons (.of rfl) (.cons (.of rfl) .nil)) ak) rfl ?_;refine bb (aA (.cons (.of rfl) (.cons (.of rfl) .nil)) rfl rfl rfl rfl) rfl fun _ _=>?_;refine ab (aS (.cons (.of rfl) (.cons (.of rfl) .nil)) ak) rfl ?_;refine bb (bu (.cons (.of rfl) (.cons (.of rfl) .nil)) rfl rfl bM bM ak) rfl fun _ _=>?_)
 rename_i ga hga gb hgb gc hgc
 refine bQ (g:=gc) (E:=78) (ys:=(ji [⟨⟨iM,[⟨#[45]⟩,⟨#[]⟩]⟩,.slice (some ⟨ga,0,none⟩) 2 2⟩,⟨⟨mY,[cL,cL]⟩,.slice (some ⟨gb,0,none⟩) 2 2⟩]).flatten) 2 2 (by exact .here) (by exact rfl) rfl rfl ?_
 refine JN aZ rfl (fun w1 aJ=>N2 (q:=(iV Ct [⟨iM,[⟨#[45]⟩,⟨#[]⟩]⟩,⟨mY,[cL,cL]⟩]).1) (i:=1) (e_:=31) (l:=[⟨⟨iM,[⟨#[45]⟩,⟨#[]⟩]⟩,.slice (some ⟨ga,0,none⟩) 2 2⟩,⟨⟨mY,[cL,cL]⟩,.slice (some ⟨gb,0,none⟩) 2 2⟩]) (Prod.ext rfl Ta) ⟨cE aJ cY rfl,cG aJ ei rfl,cD aJ eC rfl,cy aJ oq rfl⟩ S8 (lT aJ (by exact .here) (by exact rfl)) (gG (CB (g:=ga) (x:=⟨#[45]⟩) (y:=⟨#[]⟩) aJ bI) (gG (CB (g:=gb) (x:=⟨#[99,97,109]⟩) (y:=⟨#[99,97,109]⟩) aJ (by exact Take.there .here)) (jy _)))) ?_
 rintro ⟨X2,d28,t28,Yr⟩ _
 try dsimp only [id_eq,List.cons_append,List.nil_append]
 refine cP (r:=(iV Ct [⟨iM,[⟨#[45]⟩,⟨#[]⟩]⟩,⟨mY,[cL,cL]⟩]).1) (s:=X2) (d:=d28) (t:=t28) (p:=Yr) (a8 _ _) fun UN UM UL UK=>?_
 (refine Jv rfl<|JJ rfl rfl<|JJ rfl rfl<|JJ rfl rfl<|Jz rfl rfl fun _ _=>ao (.of rfl) (.of rfl) .here rfl rfl (ib rfl rfl UN UM UL UK) (bE rfl) ak ?_;refine Ja rfl<|Ja rfl<|Ji ?_)
 refine eb [row 9 1 F6 ([cL,⟨#[]⟩]:List ByteArray).length (aM [cL,⟨#[]⟩]),row 9 1 J5 ([cL,nT,dC]:List ByteArray).length (aM [cL,nT,dC]),row 9 1 Kt ([nT]:List ByteArray).length (aM [nT]),row 9 1 MW ([dC,iM]:List ByteArray).length (aM [dC,iM])] (by exact .cons mh (.cons mh (.cons mh (.cons mh .nil)))) ?_
 refine JN ng rfl (fun w1 aJ=>N1 w1) ?_
 rintro ⟨ya,yc⟩ _
 try dsimp only [id_eq,List.cons_append,List.nil_append]
 (refine bb (bu (.cons (.of rfl) .nil) rfl rfl bM bM ak) rfl fun _ _=>?_;refine ab (aS (.cons (.of rfl) (.cons (.of rfl) .nil)) ak) rfl ?_)
 rename_i ge Ia
 refine JN ng rfl (fun w1 aJ=>I3 w1) ?_
 rintro ⟨ua,uc⟩ _
 try dsimp only [id_eq,List.cons_append,List.nil_append]
 (refine bb (bu (.cons (.of rfl) .nil) rfl rfl bM bM ak) rfl fun _ _=>?_;refine ab (aS (.cons (.of rfl) (.cons (.of rfl) .nil)) ak) rfl ?_;refine bb (bu (.cons (.of rfl) (.cons (.of rfl) .nil)) rfl rfl bM bM ak) rfl fun _ _=>?_;refine Ja rfl<|Ji ?_)
 rename_i gf hgf gg hgg
 refine bQ (g:=ge) (E:=78) (ys:=(ji [⟨ni,.slice ya 2 yc⟩]).flatten) 1 2 cY (by exact rfl) rfl rfl ?_
 refine bQ (g:=gf) (E:=78) (ys:=(ji [⟨nh,.slice ua 2 uc⟩]).flatten) 1 2 bI (by exact rfl) rfl rfl ?_
 refine bQ (g:=gg) (E:=182) (ys:=(r8 [⟨10,[⟨ni,.slice ya 2 yc⟩],.slice (some ⟨ge,0,none⟩) 1 1⟩,⟨12,[⟨nh,.slice ua 2 uc⟩],.slice (some ⟨gf,0,none⟩) 1 1⟩]).flatten) 2 2 bI (by exact rfl) rfl rfl ?_
 refine eb [row 9 1 F6 ([cL,⟨#[]⟩]:List ByteArray).length (aM [cL,⟨#[]⟩]),row 9 1 J5 ([cL,nT,dC]:List ByteArray).length (aM [cL,nT,dC]),row 9 1 Kt ([nT]:List ByteArray).length (aM [nT]),row 9 1 MW ([dC,iM]:List ByteArray).length (aM [dC,iM]),row 182 2 (.slice (some ⟨gg,0,none⟩) 2 2) 2 (r8 [⟨10,[⟨ni,.slice ya 2 yc⟩],.slice (some ⟨ge,0,none⟩) 1 1⟩,⟨12,[⟨nh,.slice ua 2 uc⟩],.slice (some ⟨gf,0,none⟩) 1 1⟩]).flatten,row 78 2 (.slice (some ⟨ge,0,none⟩) 1 1) 1 (ji [⟨ni,.slice ya 2 yc⟩]).flatten,row 78 2 (.slice (some ⟨gf,0,none⟩) 1 1) 1 (ji [⟨nh,.slice ua 2 uc⟩]).flatten,row 9 1 (.slice ya 2 yc) 2 (aM ni.so),row 9 1 (.slice ua 2 uc) 2 (aM nh.so)] (by exact .cons eC (.cons eC (.cons eC (.cons eC (.cons .here (.cons (.there .here) (.cons .here (.cons (.there .here) (.cons .here .nil))))))))) ?_
 skip
 refine JN ng rfl (fun w1 aJ=>jg w1) ?_
 rintro ⟨X1,d29,t29,Yq⟩ _
 try dsimp only [id_eq,List.cons_append,List.nil_append]
 refine cP (r:=lD) (s:=X1) (d:=d29) (t:=t29) (p:=Yq) (a8 _ _) fun Zh Zg Zf Ze=>?_
 refine Na rfl rfl ?_
 refine JN eS rfl (fun w1 aJ=>I4 (l:=[⟨10,[⟨ni,.slice ya 2 yc⟩],.slice (some ⟨ge,0,none⟩) 1 1⟩,⟨12,[⟨nh,.slice ua 2 uc⟩],.slice (some ⟨gf,0,none⟩) 1 1⟩]) (m:=[⟨10,[ni]⟩,⟨12,[nh]⟩]) dC 9 rfl ⟨cE aJ (by exact .here) rfl,cG aJ (by exact Take.there .here) rfl,cD aJ bI rfl,cy aJ cY rfl⟩ qY NL.1 NL.2 (CI aJ B6 (by exact rfl)) (lW (lT aJ gC (by exact rfl)) (gG (br aJ vp (by exact rfl)) (jy _)) (lW (lT aJ jL (by exact rfl)) (gG (br aJ kl (by exact rfl)) (jy _)) (yV _)))) ?_
 rintro TJ _
 try dsimp only [id_eq,List.cons_append,List.nil_append]
 refine Jv rfl<|JJ rfl rfl<|JJ rfl rfl<|Ja rfl<|Ja rfl<|Ji ?_
 refine eb [row 9 1 F6 ([cL,⟨#[]⟩]:List ByteArray).length (aM [cL,⟨#[]⟩]),row 9 1 J5 ([cL,nT,dC]:List ByteArray).length (aM [cL,nT,dC]),row 9 1 Kt ([nT]:List ByteArray).length (aM [nT]),row 9 1 MW ([dC,iM]:List ByteArray).length (aM [dC,iM]),row 182 2 (.slice (some ⟨gg,0,none⟩) 2 2) 2 (r8 [⟨10,[⟨ni,.slice ya 2 yc⟩],.slice (some ⟨ge,0,none⟩) 1 1⟩,⟨12,[⟨nh,.slice ua 2 uc⟩],.slice (some ⟨gf,0,none⟩) 1 1⟩]).flatten,row 78 2 (.slice (some ⟨ge,0,none⟩) 1 1) 1 (ji [⟨ni,.slice ya 2 yc⟩]).flatten,row 78 2 (.slice (some ⟨gf,0,none⟩) 1 1) 1 (ji [⟨nh,.slice ua 2 uc⟩]).flatten,row 9 1 (.slice ya 2 yc) 2 (aM ni.so),row 9 1 (.slice ua 2 uc) 2 (aM nh.so),row 9 1 TJ ([⟨#[]⟩,⟨#[]⟩]:List ByteArray).length (aM [⟨#[]⟩,⟨#[]⟩])] (by exact .cons eC (.cons eC (.cons eC (.cons eC (.cons eC (.cons eC (.cons eC (.cons eC (.cons eC (.cons .here .nil)))))))))) ?_
 skip
 refine JN ng rfl (fun w1 aJ=>jg w1) ?_
 rintro ⟨X0,d30,t30,Yp⟩ _
 try dsimp only [id_eq,List.cons_append,List.nil_append]
 refine cP (r:=lD) (s:=X0) (d:=d30) (t:=t30) (p:=Yp) (a8 _ _) fun Zd Zc Zb Za=>?_
 refine Na rfl rfl ?_
 refine JN eS rfl (fun w1 aJ=>I4 (l:=[⟨10,[⟨ni,.slice ya 2 yc⟩],.slice (some ⟨ge,0,none⟩) 1 1⟩,⟨12,[⟨nh,.slice ua 2 uc⟩],.slice (some ⟨gf,0,none⟩) 1 1⟩]) (m:=[⟨10,[ni]⟩,⟨12,[nh]⟩]) dC 11 rfl ⟨cE aJ (by exact .here) rfl,cG aJ (by exact Take.there .here) rfl,cD aJ bI rfl,cy aJ cY rfl⟩ qY NK.1 NK.2 (CI aJ B6 (by exact rfl)) (lW (lT aJ gC (by exact rfl)) (gG (br aJ vp (by exact rfl)) (jy _)) (lW (lT aJ jL (by exact rfl)) (gG (br aJ kl (by exact rfl)) (jy _)) (yV _)))) ?_
 rintro Uo _
 try dsimp only [id_eq,List.cons_append,List.nil_append]
 refine Jv rfl<|JJ rfl rfl<|JJ rfl rfl<|Ja rfl<|Ja rfl<|Ji ?_
 refine eb [row 9 1 F6 ([cL,⟨#[]⟩]:List ByteArray).length (aM [cL,⟨#[]⟩]),row 9 1 J5 ([cL,nT,dC]:List ByteArray).length (aM [cL,nT,dC]),row 9 1 Kt ([nT]:List ByteArray).length (aM [nT]),row 9 1 MW ([dC,iM]:List ByteArray).length (aM [dC,iM]),row 182 2 (.slice (some ⟨gg,0,none⟩) 2 2) 2 (r8 [⟨10,[⟨ni,.slice ya 2 yc⟩],.slice (some ⟨ge,0,none⟩) 1 1⟩,⟨12,[⟨nh,.slice ua 2 uc⟩],.slice (some ⟨gf,0,none⟩) 1 1⟩]).flatten,row 78 2 (.slice (some ⟨ge,0,none⟩) 1 1) 1 (ji [⟨ni,.slice ya 2 yc⟩]).flatten,row 78 2 (.slice (some ⟨gf,0,none⟩) 1 1) 1 (ji [⟨nh,.slice ua 2 uc⟩]).flatten,row 9 1 (.slice ya 2 yc) 2 (aM ni.so),row 9 1 (.slice ua 2 uc) 2 (aM nh.so),row 9 1 TJ ([⟨#[]⟩,⟨#[]⟩]:List ByteArray).length (aM [⟨#[]⟩,⟨#[]⟩]),row 9 1 Uo ([cL,cL]:List ByteArray).length (aM [cL,cL])] (by exact .cons eC (.cons eC (.cons eC (.cons eC (.cons eC (.cons eC (.cons eC (.cons eC (.cons eC (.cons eC (.cons .here .nil))))))))))) ?_
 skip
 refine JN ng rfl (fun w1 aJ=>jg w1) ?_
 rintro ⟨XZ,d31,t31,Yo⟩ _
 try dsimp only [id_eq,List.cons_append,List.nil_append]
 refine cP (r:=lD) (s:=XZ) (d:=d31) (t:=t31) (p:=Yo) (a8 _ _) fun Y9 Y8 Y7 Y6=>?_
 refine Na rfl rfl ?_
 refine JN eS rfl (fun w1 aJ=>I4 (l:=[⟨10,[⟨ni,.slice ya 2 yc⟩],.slice (some ⟨ge,0,none⟩) 1 1⟩,⟨12,[⟨nh,.slice ua 2 uc⟩],.slice (some ⟨gf,0,none⟩) 1 1⟩]) (m:=[⟨10,[ni]⟩,⟨12,[nh]⟩]) dC 12 rfl ⟨cE aJ (by exact .here) rfl,cG aJ (by exact Take.there .here) rfl,cD aJ bI rfl,cy aJ cY rfl⟩ qY NJ.1 NJ.2 (CI aJ B6 (by exact rfl)) (lW (lT aJ gC (by exact rfl)) (gG (br aJ vp (by exact rfl)) (jy _)) (lW (lT aJ jL (by exact rfl)) (gG (br aJ kl (by exact rfl)) (jy _)) (yV _)))) ?_
 rintro WE _
 try dsimp only [id_eq,List.cons_append,List.nil_append]
 refine Jv rfl<|JJ rfl rfl<|JJ rfl rfl<|Ja rfl<|Ja rfl<|Ji ?_
 refine eb [row 9 1 F6 ([cL,⟨#[]⟩]:List ByteArray).length (aM [cL,⟨#[]⟩]),row 9 1 J5 ([cL,nT,dC]:List ByteArray).length (aM [cL,nT,dC]),row 9 1 Kt ([nT]:List ByteArray).length (aM [nT]),row 9 1 MW ([dC,iM]:List ByteArray).length (aM [dC,iM]),row 182 2 (.slice (some ⟨gg,0,none⟩) 2 2) 2 (r8 [⟨10,[⟨ni,.slice ya 2 yc⟩],.slice (some ⟨ge,0,none⟩) 1 1⟩,⟨12,[⟨nh,.slice ua 2 uc⟩],.slice (some ⟨gf,0,none⟩) 1 1⟩]).flatten,row 78 2 (.slice (some ⟨ge,0,none⟩) 1 1) 1 (ji [⟨ni,.slice ya 2 yc⟩]).flatten,row 78 2 (.slice (some ⟨gf,0,none⟩) 1 1) 1 (ji [⟨nh,.slice ua 2 uc⟩]).flatten,row 9 1 (.slice ya 2 yc) 2 (aM ni.so),row 9 1 (.slice ua 2 uc) 2 (aM nh.so),row 9 1 TJ ([⟨#[]⟩,⟨#[]⟩]:List ByteArray).length (aM [⟨#[]⟩,⟨#[]⟩]),row 9 1 Uo ([cL,cL]:List ByteArray).length (aM [cL,cL]),row 9 1 WE ([jP,jP]:List ByteArray).length (aM [jP,jP])] (by exact .cons eC (.cons eC (.cons eC (.cons eC (.cons eC (.cons eC (.cons eC (.cons eC (.cons eC (.cons eC (.cons eC (.cons .here .nil)))))))))))) ?_
 refine JN ng rfl (fun w1 aJ=>jg w1) ?_
 rintro ⟨XY,d32,t32,Yn⟩ _
 try dsimp only [id_eq,List.cons_append,List.nil_append]
 refine cP (r:=lD) (s:=XY) (d:=d32) (t:=t32) (p:=Yn) (a8 _ _) fun Y5 Y4 Y3 Y2=>?_
 skip
 refine ag bC rfl (fun w1 aJ=>Qo ⟨cE aJ (by exact .here) rfl,cG aJ (by exact Take.there .here) rfl,cD aJ bI rfl,cy aJ cY rfl⟩) ?_
 refine eb [row 9 1 F6 ([cL,⟨#[]⟩]:List ByteArray).length (aM [cL,⟨#[]⟩]),row 9 1 J5 ([cL,nT,dC]:List ByteArray).length (aM [cL,nT,dC]),row 9 1 Kt ([nT]:List ByteArray).length (aM [nT]),row 9 1 MW ([dC,iM]:List ByteArray).length (aM [dC,iM]),row 9 1 TJ ([⟨#[]⟩,⟨#[]⟩]:List ByteArray).length (aM [⟨#[]⟩,⟨#[]⟩]),row 9 1 Uo ([cL,cL]:List ByteArray).length (aM [cL,cL]),row 9 1 WE ([jP,jP]:List ByteArray).length (aM [jP,jP])] (by exact .cons ei (.cons ei (.cons ei (.cons ei (.cons gC (.cons gC (.cons gC .nil))))))) ?_
 refine Jv rfl<|JJ rfl rfl<|JJ rfl rfl<|Ja rfl<|Ja rfl<|Ji ?_
 simp only [List.cons_append,List.nil_append,List.append_eq,List.append]
 (refine Jv rfl<|Jv rfl<|JB rfl (by omega)<|Jv rfl<|JB rfl (by omega)<|Jv rfl<|JB rfl (by omega)<|Jv rfl<|JB rfl (by omega)<|Jv rfl<|JB rfl (by omega)<|Jv rfl<|JB rfl (by omega)<|Jv rfl<|JB rfl (by omega)<|Jv rfl<|JB rfl (by omega)<|JC rfl<|Jv rfl<|JK rfl rfl<|Jv rfl<|JK rfl rfl<|JC rfl<|ab (dD (.of rfl) (.of rfl) (.of rfl) rfl) rfl ?_;refine Jv rfl<|JK rfl rfl<|Jv rfl<|JK rfl rfl<|JC rfl<|ab (dD (.of rfl) (.of rfl) (.of rfl) rfl) rfl ?_;refine Jv rfl<|JK rfl rfl<|Jv rfl<|JK rfl rfl<|bb (aA (.cons (.of rfl) (.cons (.of rfl) .nil)) rfl rfl rfl rfl) rfl fun _ _=>?_;refine JK rfl rfl ?_)
 rename_i gz0 abk
 refine ag aZ rfl (fun w1 aJ=>lb (l:=[cL,⟨#[]⟩]) (br aJ (by exact Take.there .here) (by exact rfl)) (CB (g:=gz0) (x:=⟨#[99,97,109]⟩) (y:=⟨#[]⟩) aJ (by exact .here))) ?_
 (refine ab (dD (.of rfl) (.of rfl) (.of rfl) rfl) rfl ?_;refine Jv rfl<|JK rfl rfl<|Jv rfl<|JK rfl rfl<|bb (aA (.cons (.of rfl) (.cons (.of rfl) (.cons (.of rfl) .nil))) rfl rfl rfl rfl) rfl fun _ _=>?_;refine JK rfl rfl ?_)
 rename_i gz1 abj
 refine ag aZ rfl (fun w1 aJ=>lb (l:=[cL,nT,dC]) (br aJ cY (by exact rfl)) (Ux (g:=gz1) (x:=⟨#[99,97,109]⟩) (y:=⟨#[116]⟩) (z:=⟨#[97,105,114]⟩) aJ (by exact .here))) ?_
 (refine ab (dD (.of rfl) (.of rfl) (.of rfl) rfl) rfl ?_;refine Jv rfl<|JK rfl rfl<|Jv rfl<|JK rfl rfl<|bb (aA (.cons (.of rfl) .nil) rfl rfl rfl rfl) rfl fun _ _=>?_;refine JK rfl rfl ?_)
 rename_i gz2 abi
 refine ag aZ rfl (fun w1 aJ=>lb (l:=[nT]) (br aJ eC (by exact rfl)) (Uy (g:=gz2) (x:=⟨#[116]⟩) aJ (by exact .here))) ?_
 (refine ab (dD (.of rfl) (.of rfl) (.of rfl) rfl) rfl ?_;refine Jv rfl<|JK rfl rfl<|Jv rfl<|JK rfl rfl<|bb (aA (.cons (.of rfl) (.cons (.of rfl) .nil)) rfl rfl rfl rfl) rfl fun _ _=>?_;refine JK rfl rfl ?_)
 rename_i gz3 abh
 refine ag aZ rfl (fun w1 aJ=>lb (l:=[dC,iM]) (br aJ tL (by exact rfl)) (CB (g:=gz3) (x:=⟨#[97,105,114]⟩) (y:=⟨#[114,101,99]⟩) aJ (by exact .here))) ?_
 (refine ab (dD (.of rfl) (.of rfl) (.of rfl) rfl) rfl ?_;refine Jv rfl<|JK rfl rfl<|Jv rfl<|JK rfl rfl<|bb (aA (.cons (.of rfl) (.cons (.of rfl) .nil)) rfl rfl rfl rfl) rfl fun _ _=>?_;refine JK rfl rfl ?_)
 rename_i gz4 abg
 refine ag aZ rfl (fun w1 aJ=>lb (l:=[⟨#[]⟩,⟨#[]⟩]) (br aJ gC (by exact rfl)) (CB (g:=gz4) (x:=⟨#[]⟩) (y:=⟨#[]⟩) aJ (by exact .here))) ?_
 (refine ab (dD (.of rfl) (.of rfl) (.of rfl) rfl) rfl ?_;refine Jv rfl<|JK rfl rfl<|Jv rfl<|JK rfl rfl<|bb (aA (.cons (.of rfl) (.cons (.of rfl) .nil)) rfl rfl rfl rfl) rfl fun _ _=>?_;refine JK rfl rfl ?_)
 rename_i gz5 abf
 refine ag aZ rfl (fun w1 aJ=>lb (l:=[cL,cL]) (br aJ vp (by exact rfl)) (CB (g:=gz5) (x:=⟨#[99,97,109]⟩) (y:=⟨#[99,97,109]⟩) aJ (by exact .here))) ?_
 (refine ab (dD (.of rfl) (.of rfl) (.of rfl) rfl) rfl ?_;refine Jv rfl<|JK rfl rfl<|Jv rfl<|JK rfl rfl<|bb (aA (.cons (.of rfl) (.cons (.of rfl) .nil)) rfl rfl rfl rfl) rfl fun _ _=>?_;refine JK rfl rfl ?_)
 rename_i gz6 abe
 refine ag aZ rfl (fun w1 aJ=>lb (l:=[jP,jP]) (br aJ MT (by exact rfl)) (CB (g:=gz6) (x:=⟨#[118,116,114]⟩) (y:=⟨#[118,116,114]⟩) aJ (by exact .here))) ?_
 (refine ab (dD (.of rfl) (.of rfl) (.of rfl) rfl) rfl ?_;refine Jv rfl<|JK rfl rfl<|Jv rfl<|JK rfl rfl<|ab (E8 (.of rfl) (.of rfl) P5) rfl ?_;refine ab (dD (.of rfl) (.of rfl) (.of rfl) rfl) rfl ?_;refine Ja rfl<|Jn<|Je<|JT ?_)
 rfl
end Go.Proofs.A1
namespace Go.Proofs.A1
open Go Go.SL Go.ChangeShapes Go.WideShapes Go.Deep Go.Joins
section
variable {H:Type} {enc:TypeId×Value→H} {w:World}
theorem laidOut:laidOutB Tryz.prog=true:=by kernel_rfl
theorem UI:ownKnob Tryz.prog.godebug=none:=by kernel_rfl
theorem JM {b o n:Nat}:Addr.add ⟨b,o,none⟩ n=⟨b,o+n,none⟩:=eA b o n
theorem Gz {T:TypeId} (LX:Tryz.prog.readableRec T=true) (hrow:T<Tryz.prog.types.size) {W W':World} {WK:Nat→Bool} {n:Nat} {cs:List Value} {x:DataW H×List MemPlace} (h:DataW.trod enc Tryz.prog W 0 (fun _=>true) true n T cs=some x)
  (HU:∀ p∈x.2,W.sameAt W' p) (hs:∀ p∈x.2,WK p.block=true):DataW.trod enc Tryz.prog W' 0 WK true n T cs=some x:=
 DataW.trod_stays (kids_book laidOut LX) (book_sized LX) (fun h=>by cases h) ⟨hrow,book_self T⟩ h HU hs
theorem CH {α:Type} [Inhabited α] {Q:α→Prop} {T E:TypeId} {sz:Nat} {cells:α→List Value} (hu:Tryz.prog.underlying T=some (.slice E)) (hsz:Tryz.prog.cellsOf E=sz) (h0:0<sz) (hlen:∀ a,(cells a).length=sz)
  (hE:∀ (n:Nat) (cs:List Value) (x:DataW H×List MemPlace),DataW.trod enc Tryz.prog w 0 (fun _=>true) true n E cs=some x→∃ e:α,cs=cells e∧Q e)
  {n:Nat} {v:Value} {y:DataW H×List MemPlace} (h:DataW.trod enc Tryz.prog w 0 (fun _=>true) true n T [v]=some y):∃ l:List α,Rd w v sz (l.map cells)∧∀ x∈l,Q x:=by
 rcases open_slice hu h with ⟨e,_⟩ | ⟨a,len,cap,m,n',D,Pl,Nx,_,hl,hm,hmm,_,hi⟩
 ·simp only [List.cons.injEq,and_true] at e
  subst e
  exact ⟨[],Rd.nil w sz,fun _ h=>absurd h List.not_mem_nil⟩
 ·simp only [List.cons.injEq,and_true] at Nx
  subst Nx
  rw [hsz] at hi
  have QK:m=cap:=by simpa using hmm
  have hE:∀ i,i<len→∃ e:α,(∀ j,j<sz→w.cell? (a.add (i*sz+j))=(cells e)[j]?)∧Q e:=fun i iK=>by
   obtain ⟨NT,hc,ht⟩:=hi i (by omega)
   obtain ⟨_,ix,jk⟩:=World.cells?_some hc
   obtain ⟨e,rfl,hq⟩:=hE _ _ _ ht
   exact ⟨e,fun j hj=>by rw [← Go.Deep.add_add];exact jk j hj,hq⟩
  let S:Nat→α:=fun i=>if iK:i<len then (hE i iK).choose else default
  have hS:∀ i j,i<len→j<sz→w.cell? (a.add (i*sz+j))=(cells (S i))[j]?:=fun i j iK hj=>by
   have:=(hE i iK).choose_spec.1 j hj
   simpa only [S,dif_pos iK] using this
  have hQ:∀ i,i<len→Q (S i):=fun i iK=>by
   have:=(hE i iK).choose_spec.2
   simpa only [S,dif_pos iK] using this
  have uP:(((List.range len).map S).map cells).length=len:=by simp
  refine ⟨(List.range len).map S,?_,fun x hx=>by
   obtain ⟨i,hi,rfl⟩:=List.mem_map.1 hx
   exact hQ i (List.mem_range.1 hi)⟩
  by_cases hz:len=0
  ·subst hz
   exact ⟨some a,cap,0,0,by rw [uP],by rw [uP];omega,hm,fun hne=>absurd (List.length_eq_zero_iff.1 uP) hne,fun i r hr=>by
    have:=(List.getElem?_eq_some_iff.1 hr).1
    rw [uP] at this;omega⟩
  ·obtain ⟨b,off,spot⟩:=a
   have RY:spot=none:=by
    have h1:=hS 0 0 (by omega) h0
    rw [List.getElem?_eq_getElem (by rw [hlen];exact h0)] at h1
    simpa [Addr.add] using World.cell?_spot h1
   subst RY
   refine ⟨some ⟨b,off,none⟩,cap,b,off,by rw [uP],by rw [uP];exact hl,hm,fun _=>rfl,fun i r hr=>?_⟩
   have iK:i<len:=by
    have:=(List.getElem?_eq_some_iff.1 hr).1
    rwa [uP] at this
   have Sa:r=cells (S i):=by
    simp [iK] at hr;exact hr.symm
   subst Sa
   refine ⟨hlen _,fun j u hu=>?_⟩
   have hj:j<sz:=by
    have:=(List.getElem?_eq_some_iff.1 hu).1
    rwa [hlen] at this
   have:=hS i j iK hj
   rw [JM,hu] at this
   rw [Nat.add_assoc];exact this
theorem oJ {α:Type} [Inhabited α] {T E:TypeId} {sz:Nat} {cells:α→List Value} (hu:Tryz.prog.underlying T=some (.slice E)) (hsz:Tryz.prog.cellsOf E=sz) (h0:0<sz) (hlen:∀ a,(cells a).length=sz)
  (hE:∀ (n:Nat) (cs:List Value) (x:DataW H×List MemPlace),DataW.trod enc Tryz.prog w 0 (fun _=>true) true n E cs=some x→∃ e:α,cs=cells e)
  {n:Nat} {v:Value} {y:DataW H×List MemPlace} (h:DataW.trod enc Tryz.prog w 0 (fun _=>true) true n T [v]=some y):∃ l:List α,Rd w v sz (l.map cells):=by
 obtain ⟨l,hl,_⟩:=CH (Q:=fun _=>True) hu hsz h0 hlen (fun n cs x h=>by obtain ⟨e,he⟩:=hE n cs x h;exact ⟨e,he,trivial⟩) h
 exact ⟨l,hl⟩
theorem RF {α:Type}:∀ {l:List α},l.length=2→∃ a0 a1,l=[a0,a1]
 | [a0,a1],_=>⟨a0,a1,rfl⟩
theorem D9 {α:Type}:∀ {l:List α},l.length=3→∃ a0 a1 a2,l=[a0,a1,a2]
 | [a0,a1,a2],_=>⟨a0,a1,a2,rfl⟩
theorem RE {α:Type}:∀ {l:List α},l.length=6→∃ a0 a1 a2 a3 a4 a5,l=[a0,a1,a2,a3,a4,a5]
 | [a0,a1,a2,a3,a4,a5],_=>⟨a0,a1,a2,a3,a4,a5,rfl⟩
theorem Tp:Tryz.prog.cellsOf 118=2:=by kernel_rfl
theorem c9:Tryz.prog.cellsOf 9=1:=by kernel_rfl
theorem c3:Tryz.prog.cellsOf 3=1:=by kernel_rfl
theorem IT {n:Nat} {cs:List Value} {x:DataW H×List MemPlace} (h:DataW.trod enc Tryz.prog w 0 (fun _=>true) true n 118 cs=some x):∃ (a0:ByteArray) (a1:Int),cs=[.string a0,.int .i64 a1]:=by
 obtain ⟨ys,n0,_,_,hlen,HP,hf⟩:=DataW.trod_struct Tryz.underlying118 h
 rw [Tp] at hlen
 have HO:ys.length=2:=HP
 obtain ⟨k0,k1,rfl⟩:=RF hlen
 have f0:DataW.trod enc Tryz.prog w 0 (fun _=>true) true n0 9 (List.take (Tryz.prog.cellsOf 9) (List.drop 0 [k0,k1]))=ys[0]?:=hf 0 _ rfl
 rw [c9,List.getElem?_eq_getElem (by omega)] at f0
 obtain ⟨b0,e0,_,_⟩:=DataW.trod_string Tryz.underlying9 f0
 simp at e0
 have f1:DataW.trod enc Tryz.prog w 0 (fun _=>true) true n0 3 (List.take (Tryz.prog.cellsOf 3) (List.drop 1 [k0,k1]))=ys[1]?:=hf 1 _ rfl
 rw [c3,List.getElem?_eq_getElem (by omega)] at f1
 obtain ⟨b1,e1,_,_⟩:=DataW.trod_int Tryz.underlying3 f1
 simp at e1
 subst e0 e1
 exact ⟨b0,b1,rfl⟩
theorem XM:Tryz.prog.cellsOf 88=3:=by kernel_rfl
theorem c4:Tryz.prog.cellsOf 4=1:=by kernel_rfl
theorem ME {n:Nat} {cs:List Value} {x:DataW H×List MemPlace} (h:DataW.trod enc Tryz.prog w 0 (fun _=>true) true n 88 cs=some x):∃ (a0:ByteArray) (a1:Int) (a2:Bool),cs=[.string a0,.int .i64 a1,.bool a2]:=by
 obtain ⟨ys,n0,_,_,hlen,HP,hf⟩:=DataW.trod_struct Tryz.underlying88 h
 rw [XM] at hlen
 have HO:ys.length=3:=HP
 obtain ⟨k0,k1,k2,rfl⟩:=D9 hlen
 have f0:DataW.trod enc Tryz.prog w 0 (fun _=>true) true n0 9 (List.take (Tryz.prog.cellsOf 9) (List.drop 0 [k0,k1,k2]))=ys[0]?:=hf 0 _ rfl
 rw [c9,List.getElem?_eq_getElem (by omega)] at f0
 obtain ⟨b0,e0,_,_⟩:=DataW.trod_string Tryz.underlying9 f0
 simp at e0
 have f1:DataW.trod enc Tryz.prog w 0 (fun _=>true) true n0 3 (List.take (Tryz.prog.cellsOf 3) (List.drop 1 [k0,k1,k2]))=ys[1]?:=hf 1 _ rfl
 rw [c3,List.getElem?_eq_getElem (by omega)] at f1
 obtain ⟨b1,e1,_,_⟩:=DataW.trod_int Tryz.underlying3 f1
 simp at e1
 have f2:DataW.trod enc Tryz.prog w 0 (fun _=>true) true n0 4 (List.take (Tryz.prog.cellsOf 4) (List.drop 2 [k0,k1,k2]))=ys[2]?:=hf 2 _ rfl
 rw [c4,List.getElem?_eq_getElem (by omega)] at f2
 obtain ⟨b2,e2,_⟩:=DataW.trod_bool Tryz.underlying4 f2
 simp at e2
 subst e0 e1 e2
 exact ⟨b0,b1,b2,rfl⟩
theorem To:Tryz.prog.cellsOf 122=3:=by kernel_rfl
theorem IS {n:Nat} {cs:List Value} {x:DataW H×List MemPlace} (h:DataW.trod enc Tryz.prog w 0 (fun _=>true) true n 122 cs=some x):∃ (a0:ByteArray) (a1:Int) (a2:Int),cs=[.string a0,.int .i64 a1,.int .i64 a2]:=by
 obtain ⟨ys,n0,_,_,hlen,HP,hf⟩:=DataW.trod_struct Tryz.underlying122 h
 rw [To] at hlen
 have HO:ys.length=3:=HP
 obtain ⟨k0,k1,k2,rfl⟩:=D9 hlen
 have f0:DataW.trod enc Tryz.prog w 0 (fun _=>true) true n0 9 (List.take (Tryz.prog.cellsOf 9) (List.drop 0 [k0,k1,k2]))=ys[0]?:=hf 0 _ rfl
 rw [c9,List.getElem?_eq_getElem (by omega)] at f0
 obtain ⟨b0,e0,_,_⟩:=DataW.trod_string Tryz.underlying9 f0
 simp at e0
 have f1:DataW.trod enc Tryz.prog w 0 (fun _=>true) true n0 3 (List.take (Tryz.prog.cellsOf 3) (List.drop 1 [k0,k1,k2]))=ys[1]?:=hf 1 _ rfl
 rw [c3,List.getElem?_eq_getElem (by omega)] at f1
 obtain ⟨b1,e1,_,_⟩:=DataW.trod_int Tryz.underlying3 f1
 simp at e1
 have f2:DataW.trod enc Tryz.prog w 0 (fun _=>true) true n0 3 (List.take (Tryz.prog.cellsOf 3) (List.drop 2 [k0,k1,k2]))=ys[2]?:=hf 2 _ rfl
 rw [c3,List.getElem?_eq_getElem (by omega)] at f2
 obtain ⟨b2,e2,_,_⟩:=DataW.trod_int Tryz.underlying3 f2
 simp at e2
 subst e0 e1 e2
 exact ⟨b0,b1,b2,rfl⟩
theorem Tn:Tryz.prog.cellsOf 180=3:=by kernel_rfl
theorem IQ {n:Nat} {cs:List Value} {x:DataW H×List MemPlace} (h:DataW.trod enc Tryz.prog w 0 (fun _=>true) true n 180 cs=some x):∃ (a0:Int) (a1:ByteArray) (a2:ByteArray),cs=[.int .i64 a0,.string a1,.string a2]:=by
 obtain ⟨ys,n0,_,_,hlen,HP,hf⟩:=DataW.trod_struct Tryz.underlying180 h
 rw [Tn] at hlen
 have HO:ys.length=3:=HP
 obtain ⟨k0,k1,k2,rfl⟩:=D9 hlen
 have f0:DataW.trod enc Tryz.prog w 0 (fun _=>true) true n0 3 (List.take (Tryz.prog.cellsOf 3) (List.drop 0 [k0,k1,k2]))=ys[0]?:=hf 0 _ rfl
 rw [c3,List.getElem?_eq_getElem (by omega)] at f0
 obtain ⟨b0,e0,_,_⟩:=DataW.trod_int Tryz.underlying3 f0
 simp at e0
 have f1:DataW.trod enc Tryz.prog w 0 (fun _=>true) true n0 9 (List.take (Tryz.prog.cellsOf 9) (List.drop 1 [k0,k1,k2]))=ys[1]?:=hf 1 _ rfl
 rw [c9,List.getElem?_eq_getElem (by omega)] at f1
 obtain ⟨b1,e1,_,_⟩:=DataW.trod_string Tryz.underlying9 f1
 simp at e1
 have f2:DataW.trod enc Tryz.prog w 0 (fun _=>true) true n0 9 (List.take (Tryz.prog.cellsOf 9) (List.drop 2 [k0,k1,k2]))=ys[2]?:=hf 2 _ rfl
 rw [c9,List.getElem?_eq_getElem (by omega)] at f2
 obtain ⟨b2,e2,_,_⟩:=DataW.trod_string Tryz.underlying9 f2
 simp at e2
 subst e0 e1 e2
 exact ⟨b0,b1,b2,rfl⟩
theorem c27:Tryz.prog.cellsOf 27=6:=by kernel_rfl
theorem c22:Tryz.prog.cellsOf 22=1:=by kernel_rfl
theorem c23:Tryz.prog.cellsOf 23=1:=by kernel_rfl
theorem c24:Tryz.prog.cellsOf 24=1:=by kernel_rfl
theorem c25:Tryz.prog.cellsOf 25=1:=by kernel_rfl
theorem MG {n:Nat} {cs:List Value} {x:DataW H×List MemPlace} (h:DataW.trod enc Tryz.prog w 0 (fun _=>true) true n 27 cs=some x):∃ (a0:Int) (a1:Int) (a2:Value) (a3:Value) (a4:Value) (a5:Value),cs=[.int .i64 a0,.int .i64 a1,a2,a3,a4,a5]∧(∃ (m:Nat) (y:DataW H×List MemPlace),DataW.trod enc Tryz.prog w 0 (fun _=>true) true m 22 [a2]=some y)∧(∃ (m:Nat) (y:DataW H×List MemPlace),DataW.trod enc Tryz.prog w 0 (fun _=>true) true m 23 [a3]=some y)∧(∃ (m:Nat) (y:DataW H×List MemPlace),DataW.trod enc Tryz.prog w 0 (fun _=>true) true m 24 [a4]=some y)∧(∃ (m:Nat) (y:DataW H×List MemPlace),DataW.trod enc Tryz.prog w 0 (fun _=>true) true m 25 [a5]=some y):=by
 obtain ⟨ys,n0,_,_,hlen,HP,hf⟩:=DataW.trod_struct Tryz.underlying27 h
 rw [c27] at hlen
 have HO:ys.length=6:=HP
 obtain ⟨k0,k1,k2,k3,k4,k5,rfl⟩:=RE hlen
 have f0:DataW.trod enc Tryz.prog w 0 (fun _=>true) true n0 3 (List.take (Tryz.prog.cellsOf 3) (List.drop 0 [k0,k1,k2,k3,k4,k5]))=ys[0]?:=hf 0 _ rfl
 rw [c3,List.getElem?_eq_getElem (by omega)] at f0
 obtain ⟨b0,e0,_,_⟩:=DataW.trod_int Tryz.underlying3 f0
 simp at e0
 have f1:DataW.trod enc Tryz.prog w 0 (fun _=>true) true n0 3 (List.take (Tryz.prog.cellsOf 3) (List.drop 1 [k0,k1,k2,k3,k4,k5]))=ys[1]?:=hf 1 _ rfl
 rw [c3,List.getElem?_eq_getElem (by omega)] at f1
 obtain ⟨b1,e1,_,_⟩:=DataW.trod_int Tryz.underlying3 f1
 simp at e1
 have f2:DataW.trod enc Tryz.prog w 0 (fun _=>true) true n0 22 (List.take (Tryz.prog.cellsOf 22) (List.drop 2 [k0,k1,k2,k3,k4,k5]))=ys[2]?:=hf 2 _ rfl
 rw [c22,List.getElem?_eq_getElem (by omega)] at f2
 have f3:DataW.trod enc Tryz.prog w 0 (fun _=>true) true n0 23 (List.take (Tryz.prog.cellsOf 23) (List.drop 3 [k0,k1,k2,k3,k4,k5]))=ys[3]?:=hf 3 _ rfl
 rw [c23,List.getElem?_eq_getElem (by omega)] at f3
 have f4:DataW.trod enc Tryz.prog w 0 (fun _=>true) true n0 24 (List.take (Tryz.prog.cellsOf 24) (List.drop 4 [k0,k1,k2,k3,k4,k5]))=ys[4]?:=hf 4 _ rfl
 rw [c24,List.getElem?_eq_getElem (by omega)] at f4
 have f5:DataW.trod enc Tryz.prog w 0 (fun _=>true) true n0 25 (List.take (Tryz.prog.cellsOf 25) (List.drop 5 [k0,k1,k2,k3,k4,k5]))=ys[5]?:=hf 5 _ rfl
 rw [c25,List.getElem?_eq_getElem (by omega)] at f5
 subst e0 e1
 exact ⟨b0,b1,k2,k3,k4,k5,rfl,⟨_,_,by simpa using f2⟩,⟨_,_,by simpa using f3⟩,⟨_,_,by simpa using f4⟩,⟨_,_,by simpa using f5⟩⟩
theorem c29:Tryz.prog.cellsOf 29=3:=by kernel_rfl
theorem MF {n:Nat} {cs:List Value} {x:DataW H×List MemPlace} (h:DataW.trod enc Tryz.prog w 0 (fun _=>true) true n 29 cs=some x):∃ (a0:Int) (a1:ByteArray) (a2:ByteArray),cs=[.int .i64 a0,.string a1,.string a2]:=by
 obtain ⟨ys,n0,_,_,hlen,HP,hf⟩:=DataW.trod_struct Tryz.underlying29 h
 rw [c29] at hlen
 have HO:ys.length=3:=HP
 obtain ⟨k0,k1,k2,rfl⟩:=D9 hlen
 have f0:DataW.trod enc Tryz.prog w 0 (fun _=>true) true n0 3 (List.take (Tryz.prog.cellsOf 3) (List.drop 0 [k0,k1,k2]))=ys[0]?:=hf 0 _ rfl
 rw [c3,List.getElem?_eq_getElem (by omega)] at f0
 obtain ⟨b0,e0,_,_⟩:=DataW.trod_int Tryz.underlying3 f0
 simp at e0
 have f1:DataW.trod enc Tryz.prog w 0 (fun _=>true) true n0 9 (List.take (Tryz.prog.cellsOf 9) (List.drop 1 [k0,k1,k2]))=ys[1]?:=hf 1 _ rfl
 rw [c9,List.getElem?_eq_getElem (by omega)] at f1
 obtain ⟨b1,e1,_,_⟩:=DataW.trod_string Tryz.underlying9 f1
 simp at e1
 have f2:DataW.trod enc Tryz.prog w 0 (fun _=>true) true n0 9 (List.take (Tryz.prog.cellsOf 9) (List.drop 2 [k0,k1,k2]))=ys[2]?:=hf 2 _ rfl
 rw [c9,List.getElem?_eq_getElem (by omega)] at f2
 obtain ⟨b2,e2,_,_⟩:=DataW.trod_string Tryz.underlying9 f2
 simp at e2
 subst e0 e1 e2
 exact ⟨b0,b1,b2,rfl⟩
theorem Hi {n:Nat} {v:Value} {x:DataW H×List MemPlace} (h:DataW.trod enc Tryz.prog w 0 (fun _=>true) true n 22 [v]=some x):∃ l,Rd w v 2 (vt l):=by
 haveI:Inhabited Sr:=⟨⟨⟨#[]⟩,0⟩⟩
 exact oJ (cells:=Sr.cells) Tryz.underlying22 Tp (by decide) (fun _=>rfl) (fun _ _ _ h=>by obtain ⟨a,b,rfl⟩:=IT h;exact ⟨⟨a,b⟩,rfl⟩) h
theorem Hk {n:Nat} {v:Value} {x:DataW H×List MemPlace} (h:DataW.trod enc Tryz.prog w 0 (fun _=>true) true n 23 [v]=some x):∃ l,Rd w v 3 (u3 l):=by
 haveI:Inhabited De:=⟨⟨⟨#[]⟩,0,false⟩⟩
 exact oJ (cells:=De.cells) Tryz.underlying23 XM (by decide) (fun _=>rfl) (fun _ _ _ h=>by obtain ⟨a,b,c,rfl⟩:=ME h;exact ⟨⟨a,b,c⟩,rfl⟩) h
theorem Hh {n:Nat} {v:Value} {x:DataW H×List MemPlace} (h:DataW.trod enc Tryz.prog w 0 (fun _=>true) true n 24 [v]=some x):∃ l,Rd w v 3 (tW l):=by
 haveI:Inhabited Ti:=⟨⟨⟨#[]⟩,0,0⟩⟩
 exact oJ (cells:=Ti.cells) Tryz.underlying24 To (by decide) (fun _=>rfl) (fun _ _ _ h=>by obtain ⟨a,b,c,rfl⟩:=IS h;exact ⟨⟨a,b,c⟩,rfl⟩) h
theorem Hj {n:Nat} {v:Value} {x:DataW H×List MemPlace} (h:DataW.trod enc Tryz.prog w 0 (fun _=>true) true n 25 [v]=some x):∃ l,Rd w v 3 (sN l):=by
 haveI:Inhabited Po:=⟨⟨0,⟨#[]⟩,⟨#[]⟩⟩⟩
 exact oJ (cells:=Po.cells) Tryz.underlying25 Tn (by decide) (fun _=>rfl) (fun _ _ _ h=>by obtain ⟨a,b,c,rfl⟩:=IQ h;exact ⟨⟨a,b,c⟩,rfl⟩) h
theorem A0 {n:Nat} {cs:List Value} {x:DataW H×List MemPlace} (h:DataW.trod enc Tryz.prog w 0 (fun _=>true) true n 27 cs=some x):∃ (r:Ro) (s d t p:Value),cs=[.int .i64 r.lv,.int .i64 r.ma,s,d,t,p]∧RR w r s d t p:=by
 obtain ⟨a,b,s,d,t,p,rfl,⟨_,_,h1⟩,⟨_,_,h2⟩,⟨_,_,h3⟩,⟨_,_,h4⟩⟩:=MG h
 obtain ⟨l1,r1⟩:=Hi h1
 obtain ⟨l2,r2⟩:=Hk h2
 obtain ⟨l3,r3⟩:=Hh h3
 obtain ⟨l4,r4⟩:=Hj h4
 exact ⟨⟨a,b,l1,l2,l3,l4⟩,s,d,t,p,rfl,r1,r2,r3,r4⟩
end
end Go.Proofs.A1
namespace Go.Proofs.YteonnodafmegaaaGreatDoor
open Go Go.SL Go.Proofs.A1 Go.ChangeShapes Go.WideShapes Go.ChangeAt Go.RowKit Go.Joins
section
variable {H:Type} {enc:TypeId×Value→H} {P:Program}
theorem vP {f:Func} {s:ChangeSpec} {apart fresh handsOn again:Bool} {W W':World} {args:Array Value} {v:Value} {ds gs:List (DataW H)} {before pa pv:List MemPlace}
  (hW:DataW.Whole enc P f.params.toList s.vars apart W args.toList ds gs before)
  (R9:∀ (b:Nat) (sp:Nat→Bool) (hd:Bool),DataW.TrodAll enc P W' b sp hd f.resultTypes.toList (v.resultList f.resultTypes.size) (s.fn H (ds++gs)).results [])
  (El:∀ sp:Nat→Bool,(∀ p∈before,sp p.block=true)→DataW.TrodAll enc P W' 0 sp true f.params.toList args.toList (s.fn H (ds++gs)).args pa)
  (Ni:∀ sp:Nat→Bool,(∀ p∈before,sp p.block=true)→DataW.TrodVars enc P W' sp s.vars (s.fn H (ds++gs)).vars pv)
  (hps:before=pa++pv) (hb:Below W.heap.size W W')
  (eK:∀ (j:Nat) (t:TypeId) (r:Value),f.resultTypes[j]? = some t→(v.resultList f.resultTypes.size)[j]? = some r→Value.okWide P W' .any 0 t r) :
  s.post enc P f apart fresh handsOn again W args v W':=by
 have aN:∀ p∈before,p.block<W.heap.size:=fun p hp=>hW.lt p hp
 have hold:∀ p∈before,(fun b=>decide (b<W.heap.size)) p.block=true:=fun p hp=>by simpa using aN p hp
 refine ⟨ds,gs,before,[],pa,pv,hW,R9 _ _ _,El _ hold,Ni _ hold,World.keptBut_mono (fun p hp=>⟨hp,?_⟩) (hb.frame (·∈before)),fun _=>?_⟩
 ·rw [hps,List.mem_append] at hp
  exact Or.inr hp
 ·obtain ⟨_,_,_,_,_,hz,hn⟩:=hW
  refine ⟨eK,_,_,([]++pa)++pv,⟨[]++pa,pv,trodAll_append (El _ (fun _ _=>rfl)) (R9 _ _ _),Ni _ (fun _ _=>rfl),rfl,?_,?_⟩,?_⟩
  ·intro b off hp
   have mm:MemPlace.cell b off∈before:=by rw [hps];simpa using hp
   rw [hb.frozen (aN _ mm)]
   exact hz b off mm
  ·intro ha
   have:=hn ha
   rw [hps] at this
   simpa using this
  ·intro p hp _
   rw [hps]
   simpa using hp
end
end Go.Proofs.YteonnodafmegaaaGreatDoor
namespace Go.Proofs.A1
open Go Go.SL
theorem zy {r:Ro} {s d t p:Value} (o:ByteArray) {w:World} (h:RR w r s d t p):aj Tryz.prog 130 [RA r s d t p,.string o] w (.int .i64 (bA (cz r) o)):=by
 have h1:=Rd.one h.sr
 have h2:=Rd.one h.de
 have h3:=Rd.one h.ti
 have h4:=Rd.one h.po
 have hs:=h.sr
 obtain ⟨a,cp,b,o',rfl,df,bO,ha,hc⟩:=hs
 rw [cC] at *
 unfold maxLen at bO
 unfold RA
 refine ah Tryz.func130 rfl rfl ?_
 refine Jr<|Jy rfl rfl fun _ _=>Ja rfl<|Jn<|Jq<|Jr<|Ja rfl<|Jn<|J0 ?_
 rename_i b1 sy
 refine aX (ι:=Nat) (fun k=>k≤r.sr.length∧∀ j (hj:j<(cz r).length),j<k→(cz r)[j]≠o) (fun k=>[(5,.int .i64 (k:Nat)),(2,.pointer (some ⟨b1,0,none⟩)),(1,.string o)]) (fun _=>[JQ b1 r (.slice a r.sr.length cp) d t p]) (fun k=>r.sr.length-k) ?_ ?_
 ·apply aK (0:Nat) ⟨Nat.zero_le _,fun j _ hj=>absurd hj (Nat.not_lt_zero _)⟩
  case hs1=>exact cn
  case ht=>(try simp only [List.take_zero,List.map_nil,List.nil_append]);exact .cons .here .nil
 rintro k ⟨hk,hf⟩
 have tB:(cz r).length=r.sr.length:=by unfold cz;rw [List.length_map]
 by_cases aN:k<r.sr.length
 ·have cM:=ha (im aN)
  have aD:=(hc k _ (fD aN)).2
  have hx:(cz r)[k]'(by omega)=(r.sr[k]).nm:=by unfold cz;rw [List.getElem_map]
  have c0:w.cell? ⟨b,o'+k*2,none⟩=some (.string (r.sr[k]).nm):=aD 0 _ rfl
  generalize (r.sr[k]).nm=x at hx c0
  (refine Jq<|Jr<|Jv rfl<|bF rfl rfl ae ?_;refine JL rfl .here rfl<|JI rfl<|JA rfl<|Jn<|Jd rfl fun aq=>Jk<|Jq<|J0<|Jr<|bF rfl rfl ae ?_;refine JL rfl .here rfl<|Jv rfl<|ab (fM cM aq) rfl ?_;refine bF rfl rfl ae ?_;refine ab (ai (.of rfl) (At.base c0 rfl)) rfl ?_;refine Jv rfl<|ab (ee (.of rfl) (.of rfl)) rfl ?_;refine Jn<|fY rfl (fun aq=>?_) fun aq=>?_;refine Jr<|Jv rfl<|Ja rfl<|Jn<|Je<|Jm<|Jh<|Jh<|Jm<|Jh<|JT ?_;rotate_left;refine Jw<|Jj<|Jt<|Jg<|Jv rfl<|JB rfl (by omega)<|Ja rfl<|Jn ?_;rotate_right)
  ·have ss:x=o:=aq
   rw [pP (i:=k) (by omega) (hx.trans ss) (fun j hj=>hf j (by omega) hj)]
  ·have ss:¬ x=o:=aq
   apply aL (k+1) ⟨(show k+1≤r.sr.length from aN),fun j hj T3=>by
    by_cases e:j=k
    ·subst e;rw [hx];exact ss
    ·exact hf j hj (by omega)⟩ (show r.sr.length-(k+1)<r.sr.length-k by omega)
   case hs1=>exact cn
   case ht=>(try simp only [List.take_zero,List.map_nil,List.nil_append]);exact .cons .here .nil
 ·obtain rfl:k=r.sr.length:=by omega
  rw [zu fun j hj=>hf j hj (by omega)]
  (refine Jq<|Jr<|Jv rfl<|bF rfl rfl ae ?_;refine JL rfl .here rfl<|JI rfl<|JA rfl<|Jn<|Jc rfl fun aq=>Jp<|Jl<|Jo<|Jt<|Jr<|Ja rfl<|Jn<|Je<|JT ?_)
  rfl
theorem zA {r:Ro} {s d t p:Value} (o:ByteArray) {w:World} (h:RR w r s d t p):aj Tryz.prog 56 [RA r s d t p,.string o] w (.int .i64 (bA (cm r) o)):=by
 have h1:=Rd.one h.sr
 have h2:=Rd.one h.de
 have h3:=Rd.one h.ti
 have h4:=Rd.one h.po
 have hs:=h.de
 obtain ⟨a,cp,b,o',rfl,df,bO,ha,hc⟩:=hs
 rw [bX] at *
 unfold maxLen at bO
 unfold RA
 refine ah Tryz.func56 rfl rfl ?_
 refine Jr<|Jy rfl rfl fun _ _=>Ja rfl<|Jn<|Jq<|Jr<|Ja rfl<|Jn<|J0 ?_
 rename_i b1 sy
 refine aX (ι:=Nat) (fun k=>k≤r.de.length∧∀ j (hj:j<(cm r).length),j<k→(cm r)[j]≠o) (fun k=>[(5,.int .i64 (k:Nat)),(2,.pointer (some ⟨b1,0,none⟩)),(1,.string o)]) (fun _=>[JQ b1 r s (.slice a r.de.length cp) t p]) (fun k=>r.de.length-k) ?_ ?_
 ·apply aK (0:Nat) ⟨Nat.zero_le _,fun j _ hj=>absurd hj (Nat.not_lt_zero _)⟩
  case hs1=>exact cn
  case ht=>(try simp only [List.take_zero,List.map_nil,List.nil_append]);exact .cons .here .nil
 rintro k ⟨hk,hf⟩
 have tB:(cm r).length=r.de.length:=by unfold cm;rw [List.length_map]
 by_cases aN:k<r.de.length
 ·have cM:=ha (gm aN)
  have aD:=(hc k _ (fa aN)).2
  have hx:(cm r)[k]'(by omega)=(r.de[k]).nm:=by unfold cm;rw [List.getElem_map]
  have c0:w.cell? ⟨b,o'+k*3,none⟩=some (.string (r.de[k]).nm):=aD 0 _ rfl
  generalize (r.de[k]).nm=x at hx c0
  (refine Jq<|Jr<|Jv rfl<|bF rfl rfl ae ?_;refine JL rfl .here rfl<|JI rfl<|JA rfl<|Jn<|Jd rfl fun aq=>Jk<|Jq<|J0<|Jr<|bF rfl rfl ae ?_;refine JL rfl .here rfl<|Jv rfl<|ab (fM cM aq) rfl ?_;refine bF rfl rfl ae ?_;refine ab (ai (.of rfl) (At.base c0 rfl)) rfl ?_;refine Jv rfl<|ab (ee (.of rfl) (.of rfl)) rfl ?_;refine Jn<|fY rfl (fun aq=>?_) fun aq=>?_;refine Jr<|Jv rfl<|Ja rfl<|Jn<|Je<|Jm<|Jh<|Jh<|Jm<|Jh<|JT ?_;rotate_left;refine Jw<|Jj<|Jt<|Jg<|Jv rfl<|JB rfl (by omega)<|Ja rfl<|Jn ?_;rotate_right)
  ·have ss:x=o:=aq
   rw [pP (i:=k) (by omega) (hx.trans ss) (fun j hj=>hf j (by omega) hj)]
  ·have ss:¬ x=o:=aq
   apply aL (k+1) ⟨(show k+1≤r.de.length from aN),fun j hj T3=>by
    by_cases e:j=k
    ·subst e;rw [hx];exact ss
    ·exact hf j hj (by omega)⟩ (show r.de.length-(k+1)<r.de.length-k by omega)
   case hs1=>exact cn
   case ht=>(try simp only [List.take_zero,List.map_nil,List.nil_append]);exact .cons .here .nil
 ·obtain rfl:k=r.de.length:=by omega
  rw [zu fun j hj=>hf j hj (by omega)]
  (refine Jq<|Jr<|Jv rfl<|bF rfl rfl ae ?_;refine JL rfl .here rfl<|JI rfl<|JA rfl<|Jn<|Jc rfl fun aq=>Jp<|Jl<|Jo<|Jt<|Jr<|Ja rfl<|Jn<|Je<|JT ?_)
  rfl
theorem zx {r:Ro} {s d t p:Value} (o:ByteArray) {w:World} (h:RR w r s d t p):aj Tryz.prog 60 [RA r s d t p,.string o] w (.int .i64 (bA (cK r) o)):=by
 have h1:=Rd.one h.sr
 have h2:=Rd.one h.de
 have h3:=Rd.one h.ti
 have h4:=Rd.one h.po
 have hs:=h.ti
 obtain ⟨a,cp,b,o',rfl,df,bO,ha,hc⟩:=hs
 rw [bN] at *
 unfold maxLen at bO
 unfold RA
 refine ah Tryz.func60 rfl rfl ?_
 refine Jr<|Jy rfl rfl fun _ _=>Ja rfl<|Jn<|Jq<|Jr<|Ja rfl<|Jn<|J0 ?_
 rename_i b1 sy
 refine aX (ι:=Nat) (fun k=>k≤r.ti.length∧∀ j (hj:j<(cK r).length),j<k→(cK r)[j]≠o) (fun k=>[(5,.int .i64 (k:Nat)),(2,.pointer (some ⟨b1,0,none⟩)),(1,.string o)]) (fun _=>[JQ b1 r s d (.slice a r.ti.length cp) p]) (fun k=>r.ti.length-k) ?_ ?_
 ·apply aK (0:Nat) ⟨Nat.zero_le _,fun j _ hj=>absurd hj (Nat.not_lt_zero _)⟩
  case hs1=>exact cn
  case ht=>(try simp only [List.take_zero,List.map_nil,List.nil_append]);exact .cons .here .nil
 rintro k ⟨hk,hf⟩
 have tB:(cK r).length=r.ti.length:=by unfold cK;rw [List.length_map]
 by_cases aN:k<r.ti.length
 ·have cM:=ha (eT aN)
  have aD:=(hc k _ (ed aN)).2
  have hx:(cK r)[k]'(by omega)=(r.ti[k]).nm:=by unfold cK;rw [List.getElem_map]
  have c0:w.cell? ⟨b,o'+k*3,none⟩=some (.string (r.ti[k]).nm):=aD 0 _ rfl
  generalize (r.ti[k]).nm=x at hx c0
  (refine Jq<|Jr<|Jv rfl<|bF rfl rfl ae ?_;refine JL rfl .here rfl<|JI rfl<|JA rfl<|Jn<|Jd rfl fun aq=>Jk<|Jq<|J0<|Jr<|bF rfl rfl ae ?_;refine JL rfl .here rfl<|Jv rfl<|ab (fM cM aq) rfl ?_;refine bF rfl rfl ae ?_;refine ab (ai (.of rfl) (At.base c0 rfl)) rfl ?_;refine Jv rfl<|ab (ee (.of rfl) (.of rfl)) rfl ?_;refine Jn<|fY rfl (fun aq=>?_) fun aq=>?_;refine Jr<|Jv rfl<|Ja rfl<|Jn<|Je<|Jm<|Jh<|Jh<|Jm<|Jh<|JT ?_;rotate_left;refine Jw<|Jj<|Jt<|Jg<|Jv rfl<|JB rfl (by omega)<|Ja rfl<|Jn ?_;rotate_right)
  ·have ss:x=o:=aq
   rw [pP (i:=k) (by omega) (hx.trans ss) (fun j hj=>hf j (by omega) hj)]
  ·have ss:¬ x=o:=aq
   apply aL (k+1) ⟨(show k+1≤r.ti.length from aN),fun j hj T3=>by
    by_cases e:j=k
    ·subst e;rw [hx];exact ss
    ·exact hf j hj (by omega)⟩ (show r.ti.length-(k+1)<r.ti.length-k by omega)
   case hs1=>exact cn
   case ht=>(try simp only [List.take_zero,List.map_nil,List.nil_append]);exact .cons .here .nil
 ·obtain rfl:k=r.ti.length:=by omega
  rw [zu fun j hj=>hf j hj (by omega)]
  (refine Jq<|Jr<|Jv rfl<|bF rfl rfl ae ?_;refine JL rfl .here rfl<|JI rfl<|JA rfl<|Jn<|Jc rfl fun aq=>Jp<|Jl<|Jo<|Jt<|Jr<|Ja rfl<|Jn<|Je<|JT ?_)
  rfl
theorem y8 {r:Ro} {s d t p:Value} (v:Int) (o:ByteArray) {w:World} (h:RR w r s d t p):aj Tryz.prog 133 [RA r s d t p,.int .i64 v,.string o] w (.string ((dY r.po v o).getD ⟨#[]⟩)):=by
 have h1:=Rd.one h.sr
 have h2:=Rd.one h.de
 have h3:=Rd.one h.ti
 have h4:=Rd.one h.po
 have hs:=h.po
 obtain ⟨a,cp,b,o',rfl,df,bO,ha,hc⟩:=hs
 rw [cU] at *
 unfold maxLen at bO
 unfold RA
 refine ah Tryz.func133 rfl rfl ?_
 refine Jr<|Jy rfl rfl fun _ _=>Ja rfl<|Jn<|Jq<|Jr<|Ja rfl<|Jn<|J0 ?_
 rename_i b1 sy
 refine aX (ι:=Nat) (fun k=>k≤r.po.length∧dY r.po v o=((r.po.drop k).find? (Dn v o)).map Po.ip) (fun k=>[(7,.int .i64 (k:Nat)),(3,.pointer (some ⟨b1,0,none⟩)),(1,.int .i64 v),(2,.string o)]) (fun _=>[JQ b1 r s d t (.slice a r.po.length cp)]) (fun k=>r.po.length-k) ?_ ?_
 ·apply aK (0:Nat) ⟨Nat.zero_le _,rfl⟩
  case hs1=>exact cn
  case ht=>(try simp only [List.take_zero,List.map_nil,List.nil_append]);exact .cons .here .nil
 rintro k ⟨hk,hf⟩
 by_cases aN:k<r.po.length
 ·have cM:=ha (jO aN)
  have aD:=(hc k _ (gY aN)).2
  rw [List.drop_eq_getElem_cons aN] at hf
  have c0:w.cell? ⟨b,o'+k*3,none⟩=some (.int .i64 (r.po[k]).lv):=aD 0 _ rfl
  have c1:w.cell? ⟨b,o'+k*3+1,none⟩=some (.string (r.po[k]).ou):=aD 1 _ rfl
  have c2:w.cell? ⟨b,o'+k*3+2,none⟩=some (.string (r.po[k]).ip):=aD 2 _ rfl
  generalize r.po[k]=x at hf c0 c1 c2
  (refine Jq<|Jr<|Jv rfl<|bF rfl rfl ae ?_;refine JL rfl .here rfl<|JI rfl<|JA rfl<|Jn<|Jd rfl fun aq=>Jk<|Jq<|J0<|Jr<|bF rfl rfl ae ?_;refine JL rfl .here rfl<|Jv rfl<|ab (fM cM aq) rfl ?_;refine bF rfl rfl ae ?_;refine ab (ai (.of rfl) (At.base c0 rfl)) rfl ?_;refine Jv rfl<|JC rfl<|Jv rfl<|aI rfl rfl inferInstance (fun hg bL=>(ar (.of rfl) ae)) rfl ?_;refine aI rfl rfl inferInstance (fun hg bL=>(ai (.cA hg rfl) (At.lit .here rfl))) rfl ?_;refine jT rfl rfl rfl rfl ?_;refine aI rfl rfl inferInstance (fun hg bL=>(aC (.cA hg rfl) (.cA hg rfl) cM (by omega) aq bo)) rfl ?_;refine aI rfl rfl inferInstance (fun hg bL=>(ar (.cA hg rfl) ae)) rfl ?_;refine aI rfl rfl inferInstance (fun hg bL=>(ai (.cA hg rfl) (At.base c1 rfl))) rfl ?_;refine jT rfl rfl rfl rfl ?_;refine aI rfl rfl inferInstance (fun hg bL=>(ee (.cA hg rfl) (.cA hg rfl))) rfl ?_;refine ab (c7 (.of rfl) rfl) rfl ?_;refine Jn<|pV rfl (fun aq=>?_) fun aq=>?_;refine Jr<|bF rfl rfl ae ?_;refine JL rfl .here rfl<|Jv rfl<|ab (aC (.of rfl) (.of rfl) cM (by omega) (by assumption) bo) rfl ?_;refine bF rfl rfl ae ?_;refine ab (ai (.of rfl) (At.base c2 rfl)) rfl ?_;refine Ja rfl<|Jn<|Je<|Jm<|Jh<|Jh<|Jm<|Jh<|JT ?_;rotate_left;refine Jw<|Jj<|Jt<|Jg<|Jv rfl<|JB rfl (by omega)<|Ja rfl<|Jn ?_;rotate_right)
  ·rw [hf,List.find?_cons_of_pos (by unfold Dn;simp only [Bool.and_eq_true,decide_eq_true_eq];exact aq)];rfl
  ·apply aL (k+1) ⟨(show k+1≤r.po.length from aN),by rw [hf,List.find?_cons_of_neg (by unfold Dn;simp only [Bool.and_eq_true,decide_eq_true_eq];exact fun q=>aq.elim (fun z=>z q.1) (fun z=>z q.2))]⟩ (show r.po.length-(k+1)<r.po.length-k by omega)
   case hs1=>exact cn
   case ht=>(try simp only [List.take_zero,List.map_nil,List.nil_append]);exact .cons .here .nil
 ·obtain rfl:k=r.po.length:=by omega
  rw [List.drop_length] at hf
  rw [hf]
  (refine Jq<|Jr<|Jv rfl<|bF rfl rfl ae ?_;refine JL rfl .here rfl<|JI rfl<|JA rfl<|Jn<|Jc rfl fun aq=>Jp<|Jl<|Jo<|Jt<|Jr<|Ja rfl<|Jn<|Je<|JT ?_)
  rfl
theorem Oi {r:Ro} {s d t p:Value} (v:Int) (o:ByteArray) {w:World} (h:RR w r s d t p):aj Tryz.prog 233 [RA r s d t p,.int .i64 v,.string o] w (.bool (mW r.po v o)):=by
 have h1:=Rd.one h.sr
 have h2:=Rd.one h.de
 have h3:=Rd.one h.ti
 have h4:=Rd.one h.po
 have hs:=h.po
 obtain ⟨a,cp,b,o',rfl,df,bO,ha,hc⟩:=hs
 rw [cU] at *
 unfold maxLen at bO
 unfold RA
 refine ah Tryz.func233 rfl rfl ?_
 refine Jr<|Jy rfl rfl fun _ _=>Ja rfl<|Jn<|Jq<|Jr<|Ja rfl<|Jn<|J0 ?_
 rename_i b1 sy
 refine aX (ι:=Nat) (fun k=>k≤r.po.length∧mW r.po v o=(r.po.drop k).any (zd v o)) (fun k=>[(7,.int .i64 (k:Nat)),(3,.pointer (some ⟨b1,0,none⟩)),(1,.int .i64 v),(2,.string o)]) (fun _=>[JQ b1 r s d t (.slice a r.po.length cp)]) (fun k=>r.po.length-k) ?_ ?_
 ·apply aK (0:Nat) ⟨Nat.zero_le _,rfl⟩
  case hs1=>exact cn
  case ht=>(try simp only [List.take_zero,List.map_nil,List.nil_append]);exact .cons .here .nil
 rintro k ⟨hk,hf⟩
 by_cases aN:k<r.po.length
 ·have cM:=ha (jO aN)
  have aD:=(hc k _ (gY aN)).2
  rw [List.drop_eq_getElem_cons aN] at hf
  have c0:w.cell? ⟨b,o'+k*3,none⟩=some (.int .i64 (r.po[k]).lv):=aD 0 _ rfl
  have c1:w.cell? ⟨b,o'+k*3+1,none⟩=some (.string (r.po[k]).ou):=aD 1 _ rfl
  have c2:w.cell? ⟨b,o'+k*3+2,none⟩=some (.string (r.po[k]).ip):=aD 2 _ rfl
  generalize r.po[k]=x at hf c0 c1 c2
  (refine Jq<|Jr<|Jv rfl<|bF rfl rfl ae ?_;refine JL rfl .here rfl<|JI rfl<|JA rfl<|Jn<|Jd rfl fun aq=>Jk<|Jq<|J0<|Jr<|bF rfl rfl ae ?_;refine JL rfl .here rfl<|Jv rfl<|ab (fM cM aq) rfl ?_;refine bF rfl rfl ae ?_;refine ab (ai (.of rfl) (At.base c0 rfl)) rfl ?_;refine Jv rfl<|JC rfl<|Jv rfl<|aI rfl rfl inferInstance (fun hg bL=>(ar (.of rfl) ae)) rfl ?_;refine aI rfl rfl inferInstance (fun hg bL=>(ai (.cA hg rfl) (At.lit .here rfl))) rfl ?_;refine jT rfl rfl rfl rfl ?_;refine aI rfl rfl inferInstance (fun hg bL=>(aC (.cA hg rfl) (.cA hg rfl) cM (by omega) aq bo)) rfl ?_;refine aI rfl rfl inferInstance (fun hg bL=>(ar (.cA hg rfl) ae)) rfl ?_;refine aI rfl rfl inferInstance (fun hg bL=>(ai (.cA hg rfl) (At.base c2 rfl))) rfl ?_;refine jT rfl rfl rfl rfl ?_;refine aI rfl rfl inferInstance (fun hg bL=>(ee (.cA hg rfl) (.cA hg rfl))) rfl ?_;refine ab (c7 (.of rfl) rfl) rfl ?_;refine Jn<|pV rfl (fun aq=>?_) fun aq=>?_;refine Jr<|Ja rfl<|Jn<|Je<|Jm<|Jh<|Jh<|Jm<|Jh<|JT ?_;rotate_left;refine Jw<|Jj<|Jt<|Jg<|Jv rfl<|JB rfl (by omega)<|Ja rfl<|Jn ?_;rotate_right)
  ·rw [hf,List.any_cons,show zd v o x=true by unfold zd;simp only [Bool.and_eq_true,decide_eq_true_eq];exact aq];rfl
  ·apply aL (k+1) ⟨(show k+1≤r.po.length from aN),by rw [hf,List.any_cons,show zd v o x=false by unfold zd;rw [← Bool.not_eq_true];simp only [Bool.and_eq_true,decide_eq_true_eq];exact fun q=>aq.elim (fun z=>z q.1) (fun z=>z q.2),Bool.false_or]⟩ (show r.po.length-(k+1)<r.po.length-k by omega)
   case hs1=>exact cn
   case ht=>(try simp only [List.take_zero,List.map_nil,List.nil_append]);exact .cons .here .nil
 ·obtain rfl:k=r.po.length:=by omega
  rw [List.drop_length] at hf
  rw [hf]
  (refine Jq<|Jr<|Jv rfl<|bF rfl rfl ae ?_;refine JL rfl .here rfl<|JI rfl<|JA rfl<|Jn<|Jc rfl fun aq=>Jp<|Jl<|Jo<|Jt<|Jr<|Ja rfl<|Jn<|Je<|JT ?_)
  rfl
end Go.Proofs.A1
namespace Go.Proofs.A1
open Go Go.SL
theorem qW {l:List ByteArray} {s:ByteArray} (h:0≤bA l s):∃ k:Nat,bA l s=k∧k<l.length:=⟨(bA l s).toNat,by omega,(fw h).1⟩
theorem OW {r:Ro} {s:ByteArray} {k:Nat} (e:bA (cm r) s=k) (hk:k<r.de.length):jU r s=(r.de[k]).mx:=by
 unfold jU
 rw [if_pos (by omega),e,Int.toNat_natCast,List.getD_eq_getElem?_getD,List.getElem?_eq_getElem hk];rfl
theorem OU {r:Ro} {s:ByteArray} {k:Nat} (h:¬ 0≤bA (cm r) s) (e:bA (cK r) s=k) (hk:k<r.ti.length):jU r s=(r.ti[k]).fr:=by
 unfold jU
 rw [if_neg h,if_pos (by omega),e,Int.toNat_natCast,List.getD_eq_getElem?_getD,List.getElem?_eq_getElem hk];rfl
theorem OV {r:Ro} {s:ByteArray} (h:¬ 0≤bA (cm r) s) (h2:¬ 0≤bA (cK r) s):jU r s = -1:=by
 unfold jU;rw [if_neg h,if_neg h2]
theorem O9 {r:Ro} {s:ByteArray} {k:Nat} (e:bA (cz r) s=k) (hk:k<r.sr.length):jE r s=(r.sr[k]).mx:=by
 unfold jE
 rw [if_pos (by omega),e,Int.toNat_natCast,List.getD_eq_getElem?_getD,List.getElem?_eq_getElem hk];rfl
theorem O8 {r:Ro} {s:ByteArray} {k:Nat} (h:¬ 0≤bA (cz r) s) (e:bA (cK r) s=k) (hk:k<r.ti.length):jE r s=(r.ti[k]).to:=by
 unfold jE
 rw [if_neg h,if_pos (by omega),e,Int.toNat_natCast,List.getD_eq_getElem?_getD,List.getElem?_eq_getElem hk];rfl
theorem Pa {r:Ro} {s:ByteArray} (h:¬ 0≤bA (cz r) s) (h2:¬ 0≤bA (cK r) s):jE r s = -1:=by
 unfold jE;rw [if_neg h,if_neg h2]
theorem Hd {r:Ro} {s d t p:Value} (o:ByteArray) {w:World} (h:RR w r s d t p):aj Tryz.prog 232 [RA r s d t p,.string o] w (.int .i64 (jU r o)):=by
 have h1:=Rd.one h.sr
 have h2:=Rd.one h.de
 have h3:=Rd.one h.ti
 have h4:=Rd.one h.po
 have hA:∀ w',aF [] w w'→aj Tryz.prog 56 [.agg #[.int .i64 r.lv,.int .i64 r.ma,s,d,t,p],.string o] w' (.int .i64 (bA (cm r) o)):=fun w' hk=>zA o (h.keeps hk)
 have hB:∀ w',aF [] w w'→aj Tryz.prog 60 [.agg #[.int .i64 r.lv,.int .i64 r.ma,s,d,t,p],.string o] w' (.int .i64 (bA (cK r) o)):=fun w' hk=>zx o (h.keeps hk)
 have n1:(cm r).length=r.de.length:=by unfold cm;rw [List.length_map]
 have n2:(cK r).length=r.ti.length:=by unfold cK;rw [List.length_map]
 have hs:=h.de
 obtain ⟨a,cp,b,o',rfl,df,bO,ha,hc⟩:=hs
 rw [bX] at *
 have ht:=h.ti
 obtain ⟨a2,nn,b2,o2,rfl,jX,eW,je,jH⟩:=ht
 rw [bN] at *
 unfold maxLen at bO eW
 by_cases g1:0≤bA (cm r) o
 ·obtain ⟨k,e,hk⟩:=qW g1
  rw [n1] at hk
  rw [OW e hk]
  rw [e] at hA
  have cM:=ha (gm hk)
  have aD:=(hc k _ (fa hk)).2
  have c0:w.cell? ⟨b,o'+k*3+1,none⟩=some (.int .i64 (r.de[k]).mx):=aD 1 _ rfl
  unfold RA
  refine ah Tryz.func232 rfl rfl ?_
  (refine Jr<|Jy rfl rfl fun _ _=>Ja rfl<|Jn<|Jq<|Jr<|ab (cr .here) rfl ?_;refine Jv rfl<|ag aZ rfl (fun w' az=>(hA w' (Mem.keeps az))) ?_;refine Ja rfl<|Ji<|Jv rfl<|JG rfl<|Jn<|Jd rfl fun aq=>Jr<|bF rfl rfl ae ?_;refine JL rfl .here rfl<|Jv rfl<|ab (aC (.of rfl) (.of rfl) cM aq (by omega) bo) rfl ?_;refine bF rfl rfl ae ?_;refine ab (ai (.of rfl) (At.base c0 rfl)) rfl ?_;refine Ja rfl<|Jn<|Ju<|JT ?_)
  rfl
 by_cases g2:0≤bA (cK r) o
 ·obtain ⟨k,e,hk⟩:=qW g2
  rw [n2] at hk
  rw [OU g1 e hk]
  rw [e] at hB
  have cM:=je (eT hk)
  have aD:=(jH k _ (ed hk)).2
  have c0:w.cell? ⟨b2,o2+k*3+1,none⟩=some (.int .i64 (r.ti[k]).fr):=aD 1 _ rfl
  unfold RA
  refine ah Tryz.func232 rfl rfl ?_
  (refine Jr<|Jy rfl rfl fun _ _=>Ja rfl<|Jn<|Jq<|Jr<|ab (cr .here) rfl ?_;refine Jv rfl<|ag aZ rfl (fun w' az=>(hA w' (Mem.keeps az))) ?_;refine Ja rfl<|Ji<|Jv rfl<|JG rfl<|Jn<|Jc rfl fun aq=>Jk<|Jq<|Jr<|ab (cr .here) rfl ?_;refine Jv rfl<|ag aZ rfl (fun w' az=>(hB w' (Mem.keeps az))) ?_;refine Ja rfl<|Ji<|Jv rfl<|JG rfl<|Jn<|Jd rfl fun aq=>Jr<|bF rfl rfl ae ?_;refine JL rfl .here rfl<|Jv rfl<|ab (aC (.of rfl) (.of rfl) cM aq (by omega) bo) rfl ?_;refine bF rfl rfl ae ?_;refine ab (ai (.of rfl) (At.base c0 rfl)) rfl ?_;refine Ja rfl<|Jn<|Ju<|JT ?_)
  rfl
 rw [OV g1 g2]
 unfold RA
 refine ah Tryz.func232 rfl rfl ?_
 (refine Jr<|Jy rfl rfl fun _ _=>Ja rfl<|Jn<|Jq<|Jr<|ab (cr .here) rfl ?_;refine Jv rfl<|ag aZ rfl (fun w' az=>(hA w' (Mem.keeps az))) ?_;refine Ja rfl<|Ji<|Jv rfl<|JG rfl<|Jn<|Jc rfl fun aq=>Jk<|Jq<|Jr<|ab (cr .here) rfl ?_;refine Jv rfl<|ag aZ rfl (fun w' az=>(hB w' (Mem.keeps az))) ?_;refine Ja rfl<|Ji<|Jv rfl<|JG rfl<|Jn<|Jc rfl fun aq=>Jk<|Jr<|Ja rfl<|Jn<|Je<|JT ?_)
 rfl
theorem LM {r:Ro} {s d t p:Value} (o:ByteArray) {w:World} (h:RR w r s d t p):aj Tryz.prog 231 [RA r s d t p,.string o] w (.int .i64 (jE r o)):=by
 have h1:=Rd.one h.sr
 have h2:=Rd.one h.de
 have h3:=Rd.one h.ti
 have h4:=Rd.one h.po
 have hA:∀ w',aF [] w w'→aj Tryz.prog 130 [.agg #[.int .i64 r.lv,.int .i64 r.ma,s,d,t,p],.string o] w' (.int .i64 (bA (cz r) o)):=fun w' hk=>zy o (h.keeps hk)
 have hB:∀ w',aF [] w w'→aj Tryz.prog 60 [.agg #[.int .i64 r.lv,.int .i64 r.ma,s,d,t,p],.string o] w' (.int .i64 (bA (cK r) o)):=fun w' hk=>zx o (h.keeps hk)
 have n1:(cz r).length=r.sr.length:=by unfold cz;rw [List.length_map]
 have n2:(cK r).length=r.ti.length:=by unfold cK;rw [List.length_map]
 have hs:=h.sr
 obtain ⟨a,cp,b,o',rfl,df,bO,ha,hc⟩:=hs
 rw [cC] at *
 have ht:=h.ti
 obtain ⟨a2,nn,b2,o2,rfl,jX,eW,je,jH⟩:=ht
 rw [bN] at *
 unfold maxLen at bO eW
 by_cases g1:0≤bA (cz r) o
 ·obtain ⟨k,e,hk⟩:=qW g1
  rw [n1] at hk
  rw [O9 e hk]
  rw [e] at hA
  have cM:=ha (im hk)
  have aD:=(hc k _ (fD hk)).2
  have c0:w.cell? ⟨b,o'+k*2+1,none⟩=some (.int .i64 (r.sr[k]).mx):=aD 1 _ rfl
  unfold RA
  refine ah Tryz.func231 rfl rfl ?_
  (refine Jr<|Jy rfl rfl fun _ _=>Ja rfl<|Jn<|Jq<|Jr<|ab (cr .here) rfl ?_;refine Jv rfl<|ag aZ rfl (fun w' az=>(hA w' (Mem.keeps az))) ?_;refine Ja rfl<|Ji<|Jv rfl<|JG rfl<|Jn<|Jd rfl fun aq=>Jr<|bF rfl rfl ae ?_;refine JL rfl .here rfl<|Jv rfl<|ab (aC (.of rfl) (.of rfl) cM aq (by omega) bo) rfl ?_;refine bF rfl rfl ae ?_;refine ab (ai (.of rfl) (At.base c0 rfl)) rfl ?_;refine Ja rfl<|Jn<|Ju<|JT ?_)
  rfl
 by_cases g2:0≤bA (cK r) o
 ·obtain ⟨k,e,hk⟩:=qW g2
  rw [n2] at hk
  rw [O8 g1 e hk]
  rw [e] at hB
  have cM:=je (eT hk)
  have aD:=(jH k _ (ed hk)).2
  have c0:w.cell? ⟨b2,o2+k*3+2,none⟩=some (.int .i64 (r.ti[k]).to):=aD 2 _ rfl
  unfold RA
  refine ah Tryz.func231 rfl rfl ?_
  (refine Jr<|Jy rfl rfl fun _ _=>Ja rfl<|Jn<|Jq<|Jr<|ab (cr .here) rfl ?_;refine Jv rfl<|ag aZ rfl (fun w' az=>(hA w' (Mem.keeps az))) ?_;refine Ja rfl<|Ji<|Jv rfl<|JG rfl<|Jn<|Jc rfl fun aq=>Jk<|Jq<|Jr<|ab (cr .here) rfl ?_;refine Jv rfl<|ag aZ rfl (fun w' az=>(hB w' (Mem.keeps az))) ?_;refine Ja rfl<|Ji<|Jv rfl<|JG rfl<|Jn<|Jd rfl fun aq=>Jr<|bF rfl rfl ae ?_;refine JL rfl .here rfl<|Jv rfl<|ab (aC (.of rfl) (.of rfl) cM aq (by omega) bo) rfl ?_;refine bF rfl rfl ae ?_;refine ab (ai (.of rfl) (At.base c0 rfl)) rfl ?_;refine Ja rfl<|Jn<|Ju<|JT ?_)
  rfl
 rw [Pa g1 g2]
 unfold RA
 refine ah Tryz.func231 rfl rfl ?_
 (refine Jr<|Jy rfl rfl fun _ _=>Ja rfl<|Jn<|Jq<|Jr<|ab (cr .here) rfl ?_;refine Jv rfl<|ag aZ rfl (fun w' az=>(hA w' (Mem.keeps az))) ?_;refine Ja rfl<|Ji<|Jv rfl<|JG rfl<|Jn<|Jc rfl fun aq=>Jk<|Jq<|Jr<|ab (cr .here) rfl ?_;refine Jv rfl<|ag aZ rfl (fun w' az=>(hB w' (Mem.keeps az))) ?_;refine Ja rfl<|Ji<|Jv rfl<|JG rfl<|Jn<|Jc rfl fun aq=>Jk<|Jr<|Ja rfl<|Jn<|Je<|JT ?_)
 rfl
theorem Lp {r:Ro} {s d t p:Value} (o:ByteArray) {w:World} (h:RR w r s d t p) (hf:mi r):aj Tryz.prog 230 [RA r s d t p,.string o] w (.int .i64 (dP r o)):=by
 have h1:=Rd.one h.sr
 have h2:=Rd.one h.de
 have h3:=Rd.one h.ti
 have h4:=Rd.one h.po
 have hA:∀ w',aF [] w w'→aj Tryz.prog 56 [.agg #[.int .i64 r.lv,.int .i64 r.ma,s,d,t,p],.string o] w' (.int .i64 (bA (cm r) o)):=fun w' hk=>zA o (h.keeps hk)
 have hB:∀ w',aF [] w w'→aj Tryz.prog 60 [.agg #[.int .i64 r.lv,.int .i64 r.ma,s,d,t,p],.string o] w' (.int .i64 (bA (cK r) o)):=fun w' hk=>zx o (h.keeps hk)
 have n2:(cK r).length=r.ti.length:=by unfold cK;rw [List.length_map]
 have hs:=h.de
 obtain ⟨a,cp,b,o',rfl,df,bO,ha,hc⟩:=hs
 rw [bX] at *
 obtain ⟨f1,f2,f3,f4⟩:=hf
 have hq:0≤bA (cK r) o→bA (cK r) o≤1000000:=fun g=>by
  obtain ⟨k,e,hk⟩:=qW g
  omega
 unfold RA
 refine ah Tryz.func230 rfl rfl ?_
 unfold dP
 generalize bA (cm r) o=x at hA ⊢
 generalize bA (cK r) o=y at hB hq ⊢
 (refine Jr<|Jy rfl rfl fun _ _=>Ja rfl<|Jn<|Jq<|Jr<|ab (cr .here) rfl ?_;refine Jv rfl<|ag aZ rfl (fun w' az=>(hA w' (Mem.keeps az))) ?_;refine Ja rfl<|Ji<|Jv rfl<|JG rfl<|Jn<|fY rfl (fun aq=>?_) fun aq=>?_;refine Jr<|Jv rfl<|Ja rfl<|Jn<|Ju<|JT ?_;rotate_left;refine Jk<|Jq<|Jr<|ab (cr .here) rfl ?_;refine Jv rfl<|ag aZ rfl (fun w' az=>(hB w' (Mem.keeps az))) ?_;refine Ja rfl<|Ji<|Jv rfl<|JG rfl<|Jn<|fY rfl (fun aq=>?_) fun aq=>?_;refine Jr<|bF rfl rfl ae ?_;refine JL rfl .here rfl<|JI rfl<|Jv rfl<|JB rfl (by omega)<|Ja rfl<|Jn<|Ju<|JT ?_;rotate_left;refine Jk<|Jr<|Ja rfl<|Jn<|Je<|JT ?_;rotate_right;rotate_right)
 all_goals first | (rw [if_pos aq];done) | (rw [if_neg ‹¬ 0≤x›,if_pos aq];done) | (rw [if_neg ‹¬ 0≤x›,if_neg aq];done)
end Go.Proofs.A1
namespace Go.Proofs.A1
open Go Go.SL
theorem zH {r:Ro} {s d t p:Value} (v:Int) {w:World} (h:RR w r s d t p):aj Tryz.prog 27 [RA r s d t p,.int .i64 v] w (.int .i64 (tA r v)):=by
 have h1:=Rd.one h.sr
 have h2:=Rd.one h.de
 have h3:=Rd.one h.ti
 have h4:=Rd.one h.po
 unfold RA
 refine ah Tryz.func27 rfl rfl ?_
 (refine Jr<|Jy rfl rfl fun _ _=>Ja rfl<|Ji<|Jv rfl<|bF rfl rfl ae ?_;refine JL rfl .here rfl ?_)
 refine ab (DW (.of rfl) (.of rfl)) rfl ?_
 (refine ag dK rfl (fun w' az=>(tp v 0 _ w')) ?_;refine Ja rfl<|Jn<|Je<|JT ?_)
 rfl
theorem Di {r:Ro} {s d t p:Value} (o:ByteArray) {w:World} (h:RR w r s d t p):aj Tryz.prog 26 [RA r s d t p,.string o] w (.int .i64 (pn r o)):=by
 have h1:=Rd.one h.sr
 have h2:=Rd.one h.de
 have h3:=Rd.one h.ti
 have h4:=Rd.one h.po
 have qT:∀ w',aF [] w w'→aj Tryz.prog 56 [.agg #[.int .i64 r.lv,.int .i64 r.ma,s,d,t,p],.string o] w' (.int .i64 (bA (cm r) o)):=fun w' hk=>zA o (h.keeps hk)
 unfold RA
 refine ah Tryz.func26 rfl rfl ?_
 (refine Jr<|Jy rfl rfl fun _ _=>Ja rfl<|Ji<|ab (cr .here) rfl ?_;refine Jv rfl<|ag aZ rfl (fun w' az=>(qT w' (Mem.keeps az))) ?_;refine JA rfl<|ag aZ rfl (fun w' az=>(lz _ 10 w')) ?_;refine Ja rfl<|Jn<|Je<|JT ?_)
 rfl
theorem Dh {r:Ro} {s d t p:Value} (o:ByteArray) {w:World} (h:RR w r s d t p):aj Tryz.prog 29 [RA r s d t p,.string o] w (.int .i64 (Az r o)):=by
 have h1:=Rd.one h.sr
 have h2:=Rd.one h.de
 have h3:=Rd.one h.ti
 have h4:=Rd.one h.po
 have qT:∀ w',aF [] w w'→aj Tryz.prog 130 [.agg #[.int .i64 r.lv,.int .i64 r.ma,s,d,t,p],.string o] w' (.int .i64 (bA (cz r) o)):=fun w' hk=>zy o (h.keeps hk)
 unfold RA
 refine ah Tryz.func29 rfl rfl ?_
 (refine Jr<|Jy rfl rfl fun _ _=>Ja rfl<|Ji<|ab (cr .here) rfl ?_;refine Jv rfl<|ag aZ rfl (fun w' az=>(qT w' (Mem.keeps az))) ?_;refine JA rfl<|ag aZ rfl (fun w' az=>(lz _ 10 w')) ?_;refine Ja rfl<|Jn<|Je<|JT ?_)
 rfl
theorem zI (po:List Po) (v:Int):∀ (n:Nat) (o:ByteArray),(oe po v n o).length≤n
 | 0,_=>Nat.le_refl _
 | n + 1, o => by
  rw [oe]
  split
  ·exact Nat.zero_le _
  ·rw [List.length_cons];exact Nat.succ_le_succ (zI po v n _)
theorem ED {r:Ro} {s d t p:Value} (v:Int) (o:ByteArray) (n:Nat) (hn:n≤1000) {w:World} (h:RR w r s d t p):bd Tryz.prog 132 [RA r s d t p,.int .i64 v,.string o,.int .i64 (n:Nat)] w [] (fun _:Value=>True) id (fun x=>[row 9 1 x (oe r.po v n o).length (aM (oe r.po v n o))]):=by
 have h1:=Rd.one h.sr
 have h2:=Rd.one h.de
 have h3:=Rd.one h.ti
 have h4:=Rd.one h.po
 have mm:∀ (o':ByteArray) w',aF [] w w'→aj Tryz.prog 133 [.agg #[.int .i64 r.lv,.int .i64 r.ma,s,d,t,p],.int .i64 v,.string o'] w' (.string ((dY r.po v o').getD ⟨#[]⟩)):=fun o' w' hk=>y8 v o' (h.keeps hk)
 unfold RA
 refine aR Tryz.func132 rfl rfl ?_
 refine Jr<|Jy rfl rfl fun _ _=>Ja rfl<|Ji<|Ja rfl<|Jn<|Jq<|Jr<|Ja rfl<|Jn<|J0 ?_
 rename_i b4 vC
 refine aQ 9 1 ?_
 refine aX (ι:=Nat×ByteArray×Value×List ByteArray) (fun y=>y.1≤n∧y.2.2.2.length=y.1∧oe r.po v n o=y.2.2.2++oe r.po v (n-y.1) y.2.1) (fun y=>[(10,.int .i64 (y.1:Nat)),(9,y.2.2.1),(2,.string y.2.1),(1,.int .i64 v),(3,.int .i64 (n:Nat)),(4,.pointer (some ⟨b4,0,none⟩))]) (fun y=>[row 9 1 y.2.2.1 y.1 (aM y.2.2.2),JQ b4 r s d t p]) (fun y=>n-y.1) ?_ ?_
 ·apply aK (0,o,.slice none 0 0,[]) ⟨Nat.zero_le _,rfl,rfl⟩
  case hs1=>exact cn
  case ht=>
   exact .cons .here (.cons .here .nil)
 rintro ⟨k,o',v',L⟩ ⟨hk,hL,hc⟩
 dsimp only at hk hL hc ⊢
 have hlen:(aM L).length=k*1:=by rw [cS,hL];omega
 by_cases aN:k<n∧o'≠⟨#[]⟩
 ·obtain ⟨g1,g2⟩:=aN
  have jH:oe r.po v n o=(L++[o'])++oe r.po v (n-(k+1)) ((dY r.po v o').getD ⟨#[]⟩):=by
   rw [hc,show n-k=(n-(k+1))+1 by omega,oe,if_neg g2,List.append_assoc];rfl
  (refine Jq<|Jr<|Jv rfl<|Jv rfl<|JA rfl<|Jv rfl<|jT rfl rfl rfl rfl ?_;refine aI rfl rfl inferInstance (fun hg bL=>(iI (.cA hg rfl) (.of rfl))) rfl ?_;refine ab (c7 (.of rfl) rfl) rfl ?_;refine Jn<|pV rfl (fun aq=>?_) fun aq=>?_;refine Jk<|Jq<|J0<|Jr<|Jv rfl<|Jv rfl<|bb (aA (.cons (.of rfl) .nil) rfl rfl rfl rfl) rfl fun _ _=>?_;rotate_left;refine Jp<|Jl<|Jo<|Jt<|Jr<|Jv rfl<|Ja rfl<|Jn<|Je ?_;rotate_right)
  refine bz (.of rfl) (.of rfl) (.there .here) .here ak (by rfl) (dZ rfl) (by rfl) (by rfl) (by rfl) ep (by rfl) ?_
  intro x
  (refine Ja rfl<|Jn<|Jg<|ab (cr bI) rfl ?_;refine Jv rfl<|Jv rfl<|ag dK rfl (fun w' az=>(mm o' w' (Mem.keeps az))) ?_;refine Ja rfl<|Jx<|Jj<|Jt<|Jg<|Jv rfl<|JB rfl (by omega)<|Ja rfl<|Jn ?_)
  apply aL (k+1,(dY r.po v o').getD ⟨#[]⟩,x,L++[o']) ⟨by show k+1≤n;omega,by show (L++[o']).length=k+1;rw [List.length_append,hL];rfl,jH⟩ (by show n-(k+1)<n-k;omega)
  case hs1=>exact cn
  case ht=>
   show bj _ [row 9 1 x (k+1) (aM (L++[o'])),JQ b4 r s d t p] _
   rw [show aM (L++[o'])=aM L++[.string o'] from dO _ _]
   exact .cons .here (.cons (.there .here) .nil)
  exact aq.elim (fun z=>absurd (show ((k:Nat):Int)<(n:Nat) by omega) z) (fun z=>absurd g2 z)
 ·have he:oe r.po v n o=L:=by
   rw [hc]
   by_cases g:k<n
   ·have:o'=⟨#[]⟩:=Classical.byContradiction fun q=>aN ⟨g,q⟩
    rw [this,NU,List.append_nil]
   ·rw [show n-k=0 by omega,oe,List.append_nil]
  have HZ:¬ ((k:Nat):Int)<(n:Nat)∨¬ o'≠⟨#[]⟩:=by
   by_cases g:k<n
   ·exact .inr fun q=>aN ⟨g,q⟩
   ·exact .inl (by omega)
  rw [he,hL]
  (refine Jq<|Jr<|Jv rfl<|Jv rfl<|JA rfl<|Jv rfl<|jT rfl rfl rfl rfl ?_;refine aI rfl rfl inferInstance (fun hg bL=>(iI (.cA hg rfl) (.of rfl))) rfl ?_;refine ab (c7 (.of rfl) rfl) rfl ?_;refine Jn<|pV rfl (fun aq=>?_) fun aq=>?_;refine Jk<|Jq<|J0<|Jr<|Jv rfl<|Jv rfl<|bb (aA (.cons (.of rfl) .nil) rfl rfl rfl rfl) rfl fun _ _=>?_;rotate_left;refine Jp<|Jl<|Jo<|Jt<|Jr<|Jv rfl<|Ja rfl<|Jn<|Je ?_;rotate_right)
  ·exact absurd aq (by intro q;rcases HZ with z | z;exact z q.1;exact z q.2)
  first | with_reducible apply aO | with_reducible apply aP
  case he=>exact dj rfl rfl
  case hR=>
   intro w' az
   exact aB v' trivial (by exact .cons .here .nil) az rfl
end Go.Proofs.A1
namespace Go.Proofs.A1
open Go Go.SL
def zM (r:Ro) (v:Int):List ByteArray:=(cK r).filter fun x=>decide ((dY r.po v x).getD ⟨#[]⟩≠⟨#[]⟩)
theorem sA {α:Type} {q:α→Bool} {l:List α} {k:Nat} (h:k<l.length):(l.take (k+1)).filter q=(l.take k).filter q++(if q l[k]=true then [l[k]] else []):=by
 rw [List.take_succ_eq_append_getElem h,List.filter_append]
 congr 1
 by_cases e:q l[k]=true
 ·rw [if_pos e,List.filter_cons_of_pos e];rfl
 ·rw [if_neg e,List.filter_cons_of_neg e];rfl
theorem zL {r:Ro} {s d t p:Value} (v:Int) {w:World} (h:RR w r s d t p) (hf:mi r):bd Tryz.prog 32 [RA r s d t p,.int .i64 v] w [] (fun _:Value=>True) id (fun x=>[row 9 1 x (zM r v).length (aM (zM r v))]):=by
 have h1:=Rd.one h.sr
 have h2:=Rd.one h.de
 have h3:=Rd.one h.ti
 have h4:=Rd.one h.po
 have mm:∀ (o':ByteArray) w',aF [] w w'→aj Tryz.prog 133 [.agg #[.int .i64 r.lv,.int .i64 r.ma,s,d,t,p],.int .i64 v,.string o'] w' (.string ((dY r.po v o').getD ⟨#[]⟩)):=fun o' w' hk=>y8 v o' (h.keeps hk)
 have hs:=h.ti
 obtain ⟨a,cp,b,o',rfl,df,bO,ha,hc⟩:=hs
 rw [bN] at *
 obtain ⟨f1,f2,f3,f4⟩:=hf
 unfold maxLen at bO
 unfold RA
 refine aR Tryz.func32 rfl rfl ?_
 refine Jr<|Jy rfl rfl fun _ _=>Ja rfl<|Ji<|Ja rfl<|Jn<|Jq<|Jr<|Ja rfl<|Jn<|J0 ?_
 rename_i b3 rG
 refine aQ 9 1 ?_
 refine aX (ι:=Nat×Value×List ByteArray) (fun y=>y.1≤r.ti.length∧y.2.2=((cK r).take y.1).filter fun x=>decide ((dY r.po v x).getD ⟨#[]⟩≠⟨#[]⟩)) (fun y=>[(6,.int .i64 (y.1:Nat)),(5,y.2.1),(1,.int .i64 v),(2,.pointer (some ⟨b3,0,none⟩))]) (fun y=>[row 9 1 y.2.1 y.2.2.length (aM y.2.2),JQ b3 r s d (.slice a r.ti.length cp) p]) (fun y=>r.ti.length-y.1) ?_ ?_
 ·apply aK (0,.slice none 0 0,[]) ⟨Nat.zero_le _,rfl⟩
  case hs1=>exact cn
  case ht=>
   exact .cons .here (.cons .here .nil)
 rintro ⟨k,v',L⟩ ⟨hk,hL⟩
 dsimp only at hk hL ⊢
 have n2:(cK r).length=r.ti.length:=by unfold cK;rw [List.length_map]
 have Im:L.length≤k:=by
  rw [hL]
  exact Nat.le_trans (List.length_filter_le _ _) (by rw [List.length_take];omega)
 have hlen:(aM L).length=L.length*1:=by rw [cS];omega
 by_cases aN:k<r.ti.length
 ·have cM:=ha (eT aN)
  have aD:=(hc k _ (ed aN)).2
  have hx:(cK r)[k]'(by omega)=(r.ti[k]).nm:=by unfold cK;rw [List.getElem_map]
  have c0:w.cell? ⟨b,o'+k*3,none⟩=some (.string (r.ti[k]).nm):=aD 0 _ rfl
  have C0:=sA (q:=fun x=>decide ((dY r.po v x).getD ⟨#[]⟩≠⟨#[]⟩)) (l:=cK r) (k:=k) (by omega)
  rw [← hL,hx] at C0
  generalize (r.ti[k]).nm=x at hx c0 C0
  try dsimp only at C0
  (refine Jq<|Jr<|Jv rfl<|bF rfl rfl ae ?_;refine JL rfl (.there .here) rfl<|JI rfl<|JA rfl<|Jn<|Jd rfl fun aq=>Jk<|Jq<|J0<|Jq ?_)
  with_reducible refine dN 10 (by kernel_rfl) ?_
  (refine aH (cr (.there .here)) rfl ?_;refine kZ rfl rfl ?_;refine np rfl rfl ae ?_;refine aH (gp (.there .here)) rfl ?_;refine kZ rfl rfl ?_;refine aH (fM cM aq) rfl ?_;refine np rfl rfl ae ?_;refine aH (ai (.of rfl) (At.base c0 rfl)) rfl ?_;refine eZ dK rfl (fun w' az=>(mm x w' (Mem.keeps az))) ?_;refine aH (iI (.of rfl) (.of rfl)) rfl ?_)
  with_reducible refine dW ?_
  (refine Jn<|fY rfl (fun aq=>?_) fun aq=>?_;refine Jg<|Jv rfl<|bF rfl rfl ae ?_;refine JL rfl (.there .here) rfl<|Jv rfl<|ab (aC (.of rfl) (.of rfl) cM (by omega) (by assumption) bo) rfl ?_;refine bF rfl rfl ae ?_;refine ab (ai (.of rfl) (At.base c0 rfl)) rfl ?_;refine bb (aA (.cons (.of rfl) .nil) rfl rfl rfl rfl) rfl fun _ _=>?_;rotate_left;refine Jw<|Jj<|Jt<|Jg<|Jv rfl<|JB rfl (by omega)<|Ja rfl<|Jn ?_;rotate_right)
  ·have hq:(dY r.po v x).getD ⟨#[]⟩≠⟨#[]⟩:=aq
   rw [if_pos (decide_eq_true hq)] at C0
   refine bz (.of rfl) (.of rfl) (.there .here) .here ak (by rfl) (dZ rfl) (by rfl) (by rfl) (by rfl) ep (by rfl) ?_
   intro z
   refine Ja rfl<|Jx<|Jj<|Jt<|Jg<|Jv rfl<|JB rfl (by omega)<|Ja rfl<|Jn ?_
   apply aL (k+1,z,L++[x]) ⟨by show k+1≤r.ti.length;omega,C0.symm⟩ (by show r.ti.length-(k+1)<r.ti.length-k;omega)
   case hs1=>exact cn
   case ht=>
    show bj _ [row 9 1 z (L++[x]).length (aM (L++[x])),JQ b3 r s d (.slice a r.ti.length cp) p] _
    rw [show aM (L++[x])=aM L++[.string x] from dO _ _,List.length_append,List.length_singleton]
    exact .cons .here (.cons (.there .here) .nil)
  ·have hq:¬ (dY r.po v x).getD ⟨#[]⟩≠⟨#[]⟩:=aq
   rw [if_neg (by rw [decide_eq_false hq];decide),List.append_nil] at C0
   apply aL (k+1,v',L) ⟨by show k+1≤r.ti.length;omega,C0.symm⟩ (by show r.ti.length-(k+1)<r.ti.length-k;omega)
   case hs1=>exact cn
   case ht=>
    exact .cons .here (.cons .here .nil)
 obtain rfl:k=r.ti.length:=by omega
 have e:zM r v=L:=by
  rw [hL,List.take_of_length_le (by omega)];rfl
 rw [e]
 (refine Jq<|Jr<|Jv rfl<|bF rfl rfl ae ?_;refine JL rfl (.there .here) rfl<|JI rfl<|JA rfl<|Jn<|Jc rfl fun aq=>Jp<|Jl<|Jo<|Jt<|Jr<|Jv rfl<|Ja rfl<|Jn<|Je ?_)
 first | with_reducible apply aO | with_reducible apply aP
 case he=>exact dj rfl rfl
 case hR=>
  intro w' az
  exact aB v' trivial (by exact .cons .here .nil) az rfl
end Go.Proofs.A1
namespace Go.Proofs.A1
open Go Go.SL
def sL (r:Ro) (v:Int) (o:ByteArray):List ByteArray:=if bA (cz r) ((oe r.po v 8 o).getLastD ⟨#[]⟩)<0 then [] else (oe r.po v 8 o).reverse
theorem yl {r:Ro} {s d t p:Value} (v:Int) (o:ByteArray) (ho:o≠⟨#[]⟩) {w:World} (h:RR w r s d t p):bd Tryz.prog 31 [RA r s d t p,.int .i64 v,.string o] w [] (fun _:Value=>True) id (fun x=>[row 9 1 x (sL r v o).length (aM (sL r v o))]):=by
 have h1:=Rd.one h.sr
 have h2:=Rd.one h.de
 have h3:=Rd.one h.ti
 have h4:=Rd.one h.po
 have SD:∀ (o':ByteArray) w',aF [] w w'→aj Tryz.prog 130 [.agg #[.int .i64 r.lv,.int .i64 r.ma,s,d,t,p],.string o'] w' (.int .i64 (bA (cz r) o')):=fun o' w' hk=>zy o' (h.keeps hk)
 have PS:∀ w',aF [] w w'→bd Tryz.prog 132 [.agg #[.int .i64 r.lv,.int .i64 r.ma,s,d,t,p],.int .i64 v,.string o,.int .i64 8] w' [] (fun _:Value=>True) id (fun x=>[row 9 1 x (oe r.po v 8 o).length (aM (oe r.po v 8 o))]):=fun w' hk=>ED v o 8 (by decide) (h.keeps hk)
 have hle:=zI r.po v 8 o
 obtain ⟨m,hm⟩:∃ m,(oe r.po v 8 o).length=m+1:=by
  rw [oe,if_neg ho];exact ⟨_,rfl⟩
 unfold sL
 generalize oe r.po v 8 o=L at PS hle hm ⊢
 rw [hm] at PS
 unfold RA
 refine aR Tryz.func31 rfl rfl ?_
 (refine Jr<|Jy rfl rfl fun _ _=>Ja rfl<|Ji<|ab (cr .here) rfl ?_;refine Jv rfl<|Jv rfl ?_)
 refine JN eS rfl (fun w1 aJ=>PS w1 aJ.keeps) ?_
 intro x _
 dsimp only [id_eq,List.cons_append,List.nil_append]
 refine Ja rfl<|Jn<|Jq<|Jq ?_
 rename_i b3 rG
 refine db (E:=9) (sz:=1) (v:=x) (by exact .here) (Nat.succ_pos m) ?_
 rintro g gc cur e df _ _ _
 subst e
 have Nr:(aM L++cur)[m*1]? = some (.string (L.getLastD ⟨#[]⟩)):=by
  rw [ql L cur (by omega)]
  congr 2
  rw [List.getLastD_eq_getLast?,List.getLast?_eq_getElem?,show L.length-1=m by omega,List.getElem?_eq_getElem (by omega)];rfl
 have H7:(aM L++cur)[(((Nat.succ m:Nat):Int)-1).toNat*1]? = some (.string (L.getLastD ⟨#[]⟩)):=by
  rw [show (((Nat.succ m:Nat):Int)-1).toNat=m by omega];exact Nr
 with_reducible refine dN 7 (by kernel_rfl) ?_
 (refine aH (cr (.there .here)) rfl ?_;refine kZ rfl rfl ?_;refine kZ rfl rfl ?_;refine aH (ct (.of rfl)) rfl ?_;refine aH (ud (.of rfl) (.of rfl) (QF (by omega))) rfl ?_;refine aH (aC (.of rfl) (.of rfl) rfl (by omega) (by omega) bo) rfl ?_;refine aH (ai (.of rfl) (At.mO .here H7)) rfl ?_)
 with_reducible refine dW ?_
 (refine ag aZ rfl (fun w' az=>(SD _ w' (Mem.keeps az))) ?_;refine JA rfl<|Jn<|fY rfl (fun aq=>?_) fun aq=>?_;refine Jr<|Ja rfl<|Jn<|Ju ?_;rotate_left;refine Jk<|Jr<|Ja rfl<|Jn<|Jq<|Jr<|Jv rfl<|JI rfl<|JS rfl (by omega)<|Ja rfl<|Jn<|J0 ?_;rotate_right)
 ·rw [if_pos aq]
  refine aQ 9 1 ?_
  first | with_reducible apply aO | with_reducible apply aP
  case he=>exact dj rfl rfl
  case hR=>
   intro w' az
   exact aB (.slice none 0 0) trivial (by exact .cons .here .nil) az rfl
 rw [if_neg aq]
 refine aQ 9 1 ?_
 refine aX (ι:=Nat×Int×Value) (fun y=>y.1≤m+1∧y.2.1=(m:Int)-y.1) (fun y=>[(9,.int .i64 y.2.1),(8,y.2.2),(7,.slice (some ⟨g,0,none⟩) m.succ gc)]) (fun y=>[row 9 1 y.2.2 y.1 (aM (L.reverse.take y.1)),bD g (.cells (aM L++cur).toArray 9 (0,0))]) (fun y=>m+1-y.1) ?_ ?_
 ·apply aK (0,((Nat.succ m:Nat):Int)-1,.slice none 0 0) ⟨Nat.zero_le _,by show ((Nat.succ m:Nat):Int)-1=(m:Int)-((0:Nat):Int);omega⟩
  case hs1=>exact cn
  case ht=>
   exact .cons .here (.cons .here .nil)
 rintro ⟨k,i,v'⟩ ⟨hk,hi⟩
 dsimp only at hk hi ⊢
 clear Nr H7 aq
 have R6:L.reverse.length=m+1:=by rw [List.length_reverse,hm]
 by_cases aN:k<m+1
 ·have hj:(aM L++cur)[i.toNat*1]? = some (.string (L.reverse[k]'(by omega))):=by
   rw [show i.toNat=m-k by omega,ql L cur (by omega),List.getElem_reverse]
   congr 3
   omega
  have htk:aM (L.reverse.take (k+1))=aM (L.reverse.take k)++[.string (L.reverse[k]'(by omega))]:=by
   rw [List.take_succ_eq_append_getElem (by omega)];exact dO _ _
  have hlen:(aM (L.reverse.take k)).length=k*1:=by rw [cS,List.length_take];omega
  generalize L.reverse[k]'(by omega)=z at hj htk
  (refine Jq<|Jr<|Jv rfl<|JG rfl<|Jn<|Jd rfl fun aq=>Jk<|Jq<|J0<|Jg<|Jv rfl<|Jv rfl<|Jv rfl<|ab (aC (.of rfl) (.of rfl) rfl aq (by omega) bo) rfl ?_;refine ab (ai (.of rfl) (At.mO (.there .here) hj)) rfl ?_;refine bb (aA (.cons (.of rfl) .nil) rfl rfl rfl rfl) rfl fun _ _=>?_)
  refine bz (.of rfl) (.of rfl) (.there .here) .here ak (by rfl) (dZ rfl) (by rfl) (by rfl) (by rfl) ep (by rfl) ?_
  intro q
  refine Ja rfl<|Jx<|Jj<|Jt<|Jg<|Jv rfl<|JS rfl (by omega)<|Ja rfl<|Jn ?_
  apply aL (k+1,i-1,q) ⟨by show k+1≤m+1;omega,by show i-1=(m:Int)-((k+1:Nat):Int);omega⟩ (by show m+1-(k+1)<m+1-k;omega)
  case hs1=>exact cn
  case ht=>
   show bj _ [row 9 1 q (k+1) (aM (L.reverse.take (k+1))),bD g (.cells (aM L++cur).toArray 9 (0,0))] _
   rw [htk]
   exact .cons .here (.cons (.there .here) .nil)
 obtain rfl:k=m+1:=by omega
 rw [List.take_of_length_le (by omega)]
 refine Jq<|Jr<|Jv rfl<|JG rfl<|Jn<|Jc rfl fun aq=>Jp<|Jl<|Jo<|Jt<|Jr<|Jv rfl<|Ja rfl<|Jn<|Je ?_
 first | with_reducible apply aO | with_reducible apply aP
 case he=>exact dj rfl rfl
 case hR=>
  intro w' az
  rw [R6]
  exact aB v' trivial (by exact .cons .here .nil) az rfl
end Go.Proofs.A1
