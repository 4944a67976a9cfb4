/- Parts of the proof: PF. -/
import Derived.Test.YteonnodafmegaaaGreatDoorNM14
import Derived.Test.YteonnodafmegaaaGreatDoorNM04
set_option linter.unusedSectionVars false
set_option linter.unusedVariables false
set_option linter.unusedSimpArgs false
namespace Go.Proofs.A1
open Go Go.SL
theorem ET {c:Cx} {hs hs':List a8} {w:World} {l:List gG} {E:TypeId} {v:Value} {n:Nat} (hm:Mem c hs w) (ht:Take hs (row E 2 v n (lf l).flatten) hs') (hn:l.length=n):Rd w v 2 (lf l):=hm.n9 ht rfl (IK l) (by rw [eZ,hn])
theorem Sz {r Q:Ro} {l:List gG} {i e_:Int} {s d t p v:Value} {w:World} (e:wA r (cJ l)=(Q,i,e_)) (h:RR w r s d t p) (hf:lz r) (hv:Rd w v 2 (lf l)) (hM:wX w l):bh Tryz.prog 62 [.agg #[.int .i64 r.lv,.int .i64 r.ma,s,d,t,p],v] w [] (fun _:Value×Value×Value×Value=>True) (fun y=>.tuple #[.agg #[.int .i64 Q.lv,.int .i64 Q.ma,y.1,y.2.1,y.2.2.1,y.2.2.2],.int .i64 i,.int .i64 e_]) (fun y=>pC Q y):=by
 have:=VY h hf hv hM
 rw [e] at this
 exact this
theorem Dh {r:Ro} {W:List gG} {L:List Od} {s d t p v:Value} {y:ByteArray} {f:Int} {X:List ByteArray} {w:World} (hW:cJ W=L) (h:RR w r s d t p) (hf:lz r) (hv:Rd w v 2 (lf W)) (hM:wX w W) (e1:nB r L y f=0) (e2:pT r L y f=X) (e3:X.length=r.lv.toNat):bh Tryz.prog 64 [.agg #[.int .i64 r.lv,.int .i64 r.ma,s,d,t,p],v,.string y,.int .i64 f] w [] (fun _:Value=>True) (fun x=>.tuple #[x,.int .i64 0]) (fun x=>[row 9 1 x r.lv.toNat (aM X)]):=by
 have:=Lr y f h hf hv hM
 rw [hW,e1,e2,e3] at this
 exact this
def KG (y:gG):Value:=.agg #[.int .i64 y.fr,.agg (y.tk.map GR).toArray,y.v]
theorem KF {x y:gG} (h:KG x=KG y):x=y:=by
 obtain ⟨a,b,c⟩:=x
 obtain ⟨a',b',c'⟩:=y
 injection h with h
 have h:=congrArg Array.toList h
 simp only [List.cons.injEq,and_true] at h
 obtain ⟨h1,h2,h3⟩:=h
 injection h1 with _ h1
 injection h2 with h2
 have h2:=vv (congrArg Array.toList h2)
 try dsimp only at h1 h2 h3
 rw [h1,h2,h3]
theorem Cd:∀ {a b:List gG},a.map KG=b.map KG→a=b
 | [],[],_=>rfl
 | x :: a, y :: b, h => by
  rw [Z8,Z8] at h
  injection h with h1 h2
  rw [KF h1,Cd h2]
def Sg (x:Value×List gG):Value:=.agg #[x.1,.agg (x.2.map KG).toArray]
theorem KE {x y:Value×List gG} (h:Sg x=Sg y):x=y:=by
 obtain ⟨a,b⟩:=x
 obtain ⟨a',b'⟩:=y
 injection h with h
 have h:=congrArg Array.toList h
 simp only [List.cons.injEq,and_true] at h
 obtain ⟨h1,h2⟩:=h
 injection h2 with h2
 rw [Cd (congrArg Array.toList h2),h1]
noncomputable def GN (l:List gG):Value→{x:Value×List gG // cJ x.2=cJ l}:=WG (fun x=>Sg x.1) ⟨(.bool false,l),rfl⟩
theorem DT (l:List gG) (x:{x:Value×List gG // cJ x.2=cJ l}):∃ v,GN l v=x:=Kw (fun _ _ h=>Subtype.ext (KE h)) _ x
theorem L4 (r:Ro):r.wp r.po=r:=rfl
theorem QM {l:List gG} {i:Nat} (h:i<(cJ l).length):(cJ l)[i]=⟨(l[i]'(by rw [← jR];exact h)).fr,bZ (l[i]'(by rw [← jR];exact h)).tk⟩:=Z1 _
set_option maxRecDepth 20000 in
set_option maxHeartbeats 4000000 in
theorem DU {r:Ro} {s d t p kv:Value} {l:List gG} {w:World} (h:RR w r s d t p) (hw:Rd w kv 2 (lf l)) (hM:wX w l):aj Tryz.prog 8 [RA r s d t p,kv] w (.bool true):=by
 have h1:=Rd.one h.sr
 have h2:=Rd.one h.de
 have h3:=Rd.one h.ti
 have h4:=Rd.one h.po
 have AF:=hw
 obtain ⟨a,cp,b,o,rfl,c7,bQ,ha,hc⟩:=AF
 have hs:=h.de
 obtain ⟨da,vz,db,do',rfl,aaW,U0,hda,wJ⟩:=hs
 rw [eZ] at *
 rw [cg] at *
 have gH:∀ {w'},aH [] w w'→aj Tryz.prog 55 [.agg #[.int .i64 r.lv,.int .i64 r.ma,s,.slice da r.de.length vz,t,p]] w' (.bool (rN r&&decide (gC r=0))):=fun hk=>L9 (h.keeps hk)
 have BQ:∀ {w'},aH [] w w'→aj Tryz.prog 61 [.slice a l.length cp] w' (.bool (Bc (cJ l))):=fun hk=>wu (Rd.keeps hw hk) (hM.keeps hk)
 have AJ:∀ {w'},aH [] w w'→aj Tryz.prog 65 [.agg #[.int .i64 r.lv,.int .i64 r.ma,s,.slice da r.de.length vz,t,p],.slice a l.length cp] w' (.int .i64 (Ha r (cJ l))):=fun hk=>wQ (h.keeps hk) (Rd.keeps hw hk) (hM.keeps hk)
 unfold RA
 cases T8:(rN r&&decide (gC r=0)) with
 | false =>
  rw [T8] at gH
  refine ah Tryz.func8 rfl rfl ?_
  (refine Jr<|Jy rfl rfl fun _ _=>Ja rfl<|Jn<|Jq<|Jr<|ai ka rfl (fun w' aB=>(jV w'))<|JH rfl<|Jv rfl<|aA rfl rfl inferInstance (fun hg bB=>(bS (.of rfl) .here ak (by rfl))) rfl<|du rfl rfl (fun hg=>(aY (.of rfl) (.cons (.bI hg rfl) .nil) inferInstance dX)) rfl (fun hg w' aB=>(gH (Mem.keeps aB)))<|aA rfl rfl inferInstance (fun hg bB=>(dV (.bI bB rfl))) rfl<|ab (aZ (.of rfl) rfl) rfl<|Jv rfl<|gr rfl rfl rfl rfl<|dC rfl rfl rfl rfl<|aA rfl rfl inferInstance (fun hg bB=>(dV (.bI hg rfl))) rfl<|ab (aZ (.of rfl) rfl) rfl<|Jv rfl<|gr rfl rfl rfl rfl<|aA rfl rfl inferInstance (fun hg bB=>(bD (.bI hg rfl))) rfl<|aA rfl rfl inferInstance (fun hg bB=>(iK (.bI hg rfl) (.of rfl))) rfl<|ab (aZ (.of rfl) rfl) rfl<|Jv rfl<|aA rfl rfl inferInstance (fun hg bB=>(bS (.of rfl) .here ak (by rfl))) rfl<|gr rfl rfl rfl rfl<|dC rfl rfl rfl rfl<|dC rfl rfl rfl rfl<|ab (aZ (.of rfl) rfl) rfl<|Jn<|cF (.of rfl)<|Jr<|ai ka rfl (fun w' aB=>(jV w'))<|Ja rfl<|Jn<|Ju<|JT ?_)
  rfl
 | true=>
 cases SY:Bc (cJ l) with
 | false =>
  rw [T8] at gH
  rw [SY] at BQ
  refine ah Tryz.func8 rfl rfl ?_
  (refine Jr<|Jy rfl rfl fun _ _=>Ja rfl<|Jn<|Jq<|Jr<|ai ka rfl (fun w' aB=>(jV w'))<|JH rfl<|Jv rfl<|aA rfl rfl inferInstance (fun hg bB=>(bS (.of rfl) .here ak (by rfl))) rfl<|du rfl rfl (fun hg=>(aY (.of rfl) (.cons (.bI hg rfl) .nil) inferInstance dX)) rfl (fun hg w' aB=>(gH (Mem.keeps aB)))<|aA rfl rfl inferInstance (fun hg bB=>(dV (.bI bB rfl))) rfl<|ab (aZ (.of rfl) rfl) rfl<|Jv rfl<|gr rfl rfl rfl rfl<|du rfl rfl (fun hg=>(aY (.of rfl) (.cons (.bI hg rfl) .nil) inferInstance dX)) rfl (fun hg w' aB=>(BQ (Mem.keeps aB)))<|aA rfl rfl inferInstance (fun hg bB=>(dV (.bI hg rfl))) rfl<|ab (aZ (.of rfl) rfl) rfl<|Jv rfl<|gr rfl rfl rfl rfl<|aA rfl rfl inferInstance (fun hg bB=>(bD (.bI hg rfl))) rfl<|aA rfl rfl inferInstance (fun hg bB=>(iK (.bI hg rfl) (.of rfl))) rfl<|ab (aZ (.of rfl) rfl) rfl<|Jv rfl<|aA rfl rfl inferInstance (fun hg bB=>(bS (.of rfl) .here ak (by rfl))) rfl<|gr rfl rfl rfl rfl<|dC rfl rfl rfl rfl<|dC rfl rfl rfl rfl<|ab (aZ (.of rfl) rfl) rfl<|Jn<|cF (.of rfl)<|Jr<|ai ka rfl (fun w' aB=>(jV w'))<|Ja rfl<|Jn<|Ju<|JT ?_)
  rfl
 | true=>
 rw [T8] at gH
 rw [SY] at BQ
 rw [Zm,decide_eq_true_iff] at T8
 obtain ⟨Rf,fK⟩:=T8
 have hA:wx r=true:=by
  unfold rN at Rf
  exact (Zm _ _ ▸ Rf).1
 have hF:=HR hA
 have S7:=uE hA
 have zP:∀ x∈l,x.tk.length≤1000∧∀ y∈x.tk,y.tk.so.length≤1000:=fun x hx=>by
  unfold Bc at SY
  rw [Zm,Z3] at SY
  obtain ⟨a1,a2⟩:=My (SY.1 ⟨x.fr,bZ x.tk⟩ (Z0 (f:=fun x:gG=>(⟨x.fr,bZ x.tk⟩:Od)) hx))
  exact ⟨by omega,fun y hy=>by have:=a2 y hy;omega⟩
 clear Rf SY hA
 by_cases hx:Ha r (cJ l)=0
 rotate_left
 ·refine ah Tryz.func8 rfl rfl ?_
  (refine Jr<|Jy rfl rfl fun _ _=>Ja rfl<|Jn<|Jq<|Jr<|ai ka rfl (fun w' aB=>(jV w'))<|JH rfl<|Jv rfl<|aA rfl rfl inferInstance (fun hg bB=>(bS (.of rfl) .here ak (by rfl))) rfl<|du rfl rfl (fun hg=>(aY (.of rfl) (.cons (.bI hg rfl) .nil) inferInstance dX)) rfl (fun hg w' aB=>(gH (Mem.keeps aB)))<|aA rfl rfl inferInstance (fun hg bB=>(dV (.bI bB rfl))) rfl<|ab (aZ (.of rfl) rfl) rfl<|Jv rfl<|gr rfl rfl rfl rfl<|du rfl rfl (fun hg=>(aY (.of rfl) (.cons (.bI hg rfl) .nil) inferInstance dX)) rfl (fun hg w' aB=>(BQ (Mem.keeps aB)))<|aA rfl rfl inferInstance (fun hg bB=>(dV (.bI hg rfl))) rfl<|ab (aZ (.of rfl) rfl) rfl<|Jv rfl<|gr rfl rfl rfl rfl<|aA rfl rfl inferInstance (fun hg bB=>(bD (.bI hg rfl))) rfl<|aA rfl rfl inferInstance (fun hg bB=>(iK (.bI hg rfl) (.of rfl))) rfl<|ab (aZ (.of rfl) rfl) rfl<|Jv rfl<|aA rfl rfl inferInstance (fun hg bB=>(bS (.of rfl) .here ak (by rfl))) rfl<|gr rfl rfl rfl rfl<|du rfl rfl (fun hg=>(aY (.of rfl) (.cons (.bI hg rfl) (.cons (.bI hg rfl) .nil)) inferInstance dX)) rfl (fun hg w' aB=>(AJ (Mem.keeps aB)))<|aA rfl rfl inferInstance (fun hg bB=>(gl (.bI hg rfl) (.of rfl))) rfl<|ab (aZ (.of rfl) rfl) rfl<|Jn<|nF rfl (fun ar=>?_) (fun _=>by omega);refine Jr<|ai ka rfl (fun w' aB=>(jV w'))<|Ja rfl<|Jn<|Ju<|JT ?_)
  rfl
 rw [hx] at AJ
 have hO:=ods hx
 have eG:=G9 fK
 by_cases h5:l.length≤5
 rotate_left
 ·refine ah Tryz.func8 rfl rfl ?_
  (refine Jr<|Jy rfl rfl fun _ _=>Ja rfl<|Jn<|Jq<|Jr<|ai ka rfl (fun w' aB=>(jV w'))<|JH rfl<|Jv rfl<|aA rfl rfl inferInstance (fun hg bB=>(bS (.of rfl) .here ak (by rfl))) rfl<|du rfl rfl (fun hg=>(aY (.of rfl) (.cons (.bI hg rfl) .nil) inferInstance dX)) rfl (fun hg w' aB=>(gH (Mem.keeps aB)))<|aA rfl rfl inferInstance (fun hg bB=>(dV (.bI bB rfl))) rfl<|ab (aZ (.of rfl) rfl) rfl<|Jv rfl<|gr rfl rfl rfl rfl<|du rfl rfl (fun hg=>(aY (.of rfl) (.cons (.bI hg rfl) .nil) inferInstance dX)) rfl (fun hg w' aB=>(BQ (Mem.keeps aB)))<|aA rfl rfl inferInstance (fun hg bB=>(dV (.bI hg rfl))) rfl<|ab (aZ (.of rfl) rfl) rfl<|Jv rfl<|gr rfl rfl rfl rfl<|aA rfl rfl inferInstance (fun hg bB=>(bD (.bI hg rfl))) rfl<|aA rfl rfl inferInstance (fun hg bB=>(iK (.bI hg rfl) (.of rfl))) rfl<|ab (aZ (.of rfl) rfl) rfl<|Jv rfl<|aA rfl rfl inferInstance (fun hg bB=>(bS (.of rfl) .here ak (by rfl))) rfl<|gr rfl rfl rfl rfl<|du rfl rfl (fun hg=>(aY (.of rfl) (.cons (.bI hg rfl) (.cons (.bI hg rfl) .nil)) inferInstance dX)) rfl (fun hg w' aB=>(AJ (Mem.keeps aB)))<|aA rfl rfl inferInstance (fun hg bB=>(gl (.bI hg rfl) (.of rfl))) rfl<|ab (aZ (.of rfl) rfl) rfl<|Jn<|nF rfl (fun ar=>?_) (fun _=>by omega);refine Jr<|ai ka rfl (fun w' aB=>(jV w'))<|Ja rfl<|Jn<|Ju<|JT ?_)
  rfl
 obtain ⟨Q1,I1,E1,YP⟩:∃ Q o E,fI r (cJ l)=(Q,o,E):=⟨_,_,_,rfl⟩
 have hX:wA r (cJ l)=(Q1,I1,E1):=by
  unfold wA CG
  rw [if_neg (not_not_intro fK),if_neg (not_not_intro hx)]
  exact YP
 refine ah Tryz.func8 rfl rfl ?_
 (refine Jr<|Jy rfl rfl fun _ _=>Ja rfl<|Jn<|Jq<|Jr<|ai ka rfl (fun w' aB=>(jV w'))<|JH rfl<|Jv rfl<|aA rfl rfl inferInstance (fun hg bB=>(bS (.of rfl) .here ak (by rfl))) rfl<|du rfl rfl (fun hg=>(aY (.of rfl) (.cons (.bI hg rfl) .nil) inferInstance dX)) rfl (fun hg w' aB=>(gH (Mem.keeps aB)))<|aA rfl rfl inferInstance (fun hg bB=>(dV (.bI bB rfl))) rfl<|ab (aZ (.of rfl) rfl) rfl<|Jv rfl<|gr rfl rfl rfl rfl<|du rfl rfl (fun hg=>(aY (.of rfl) (.cons (.bI hg rfl) .nil) inferInstance dX)) rfl (fun hg w' aB=>(BQ (Mem.keeps aB)))<|aA rfl rfl inferInstance (fun hg bB=>(dV (.bI hg rfl))) rfl<|ab (aZ (.of rfl) rfl) rfl<|Jv rfl<|gr rfl rfl rfl rfl<|aA rfl rfl inferInstance (fun hg bB=>(bD (.bI hg rfl))) rfl<|aA rfl rfl inferInstance (fun hg bB=>(iK (.bI hg rfl) (.of rfl))) rfl<|ab (aZ (.of rfl) rfl) rfl<|Jv rfl<|aA rfl rfl inferInstance (fun hg bB=>(bS (.of rfl) .here ak (by rfl))) rfl<|gr rfl rfl rfl rfl<|du rfl rfl (fun hg=>(aY (.of rfl) (.cons (.bI hg rfl) (.cons (.bI hg rfl) .nil)) inferInstance dX)) rfl (fun hg w' aB=>(AJ (Mem.keeps aB)))<|aA rfl rfl inferInstance (fun hg bB=>(gl (.bI hg rfl) (.of rfl))) rfl<|ab (aZ (.of rfl) rfl) rfl<|Jn<|nF rfl (fun ar=>?_) fun ar=>?_;refine Jr<|ai ka rfl (fun w' aB=>(jV w'))<|Ja rfl<|Jn<|Ju<|JT ?_;rotate_left;refine Jk<|Jr<|ab (cL .here) rfl ?_;rotate_right)
 ·rfl
 rename_i b2 sW
 refine JN bL rfl (fun w1 aR=>jg (h.keeps aR.keeps) S7) ?_
 rintro ⟨o1,o2,o3,o4⟩ _
 try dsimp only [id_eq,Zb,Za]
 refine dq (r:=r) (s:=o1) (d:=o2) (t:=o3) (p:=o4) (bn _ _) fun ma mb mc md=>?_
 refine Nh rfl rfl ?_
 refine JN bL rfl (fun w1 aR=>q7 (Rd.keeps hw aR.keeps) (hM.keeps aR.keeps) (by omega) zP) ?_
 rintro ⟨gv,W⟩ hW
 try dsimp only [id_eq,Zb,Za]
 dsimp only at hW ⊢
 skip
 refine JN bd rfl (fun w1 aR=>Sz (Q:=Q1) (i:=I1) (e_:=E1) ((congrArg (wA r) hW).trans hX) ⟨cW aR bT rfl,cX aR c6 rfl,cV aR dO rfl,cM aR fk rfl⟩ hF (ET aR (by exact .here) rfl) (M7 aR (by exact Take.there .here))) ?_
 rintro ⟨s6,d6,t6,p6⟩ _
 try dsimp only [id_eq,Zb,Za]
 refine dq (r:=Q1) (s:=s6) (d:=d6) (t:=t6) (p:=p6) (bn _ _) fun ma6 mb6 mc6 md6=>?_
 by_cases hE:E1=0
 rotate_left
 ·obtain ⟨i,hi,rfl,YY⟩:=MG YP hE
  rw [jR] at hi
  unfold maxLen at bQ
  rcases YY with rfl | rfl
  all_goals
   (refine Jv rfl<|JJ rfl rfl<|JJ rfl rfl<|JJ rfl rfl<|Jz rfl rfl fun _ _=>aq (.of rfl) (.of rfl) .here rfl rfl (gE rfl rfl ma6 mb6 mc6 md6) (bF rfl) ak<|Ja rfl<|Ja rfl<|Jn<|Jq<|Jr<|Jv rfl<|JD rfl<|Jn<|Jd rfl fun ar=>Jr<|Jv rfl<|JG rfl<|Jv rfl<|gr rfl rfl rfl rfl<|gr rfl rfl rfl rfl<|aA rfl rfl inferInstance (fun hg bB=>(bD (.bI hg rfl))) rfl<|aA rfl rfl inferInstance (fun hg bB=>(k8 (.bI hg rfl) (.bI hg rfl))) rfl<|ab (cz (.of rfl) rfl) rfl<|Jv rfl<|gr rfl rfl rfl rfl<|aA rfl rfl inferInstance (fun hg bB=>(lY (.bI hg rfl) (.of rfl))) rfl<|aA rfl rfl inferInstance (fun hg bB=>(a7 (.bI hg rfl))) rfl<|kp rfl rfl inferInstance (fun hg bB=>(a7 (.of rfl))) rfl<|kp rfl rfl inferInstance (fun hg bB=>(lY (.bI hg rfl) (.of rfl))) rfl<|aA rfl rfl inferInstance (fun hg bB=>(nX hg (.bI hg rfl) rfl)) rfl<|ab (cz (.of rfl) rfl) rfl<|Ja rfl<|Jn<|Ju<|JT ?_)
   simp
   omega
 obtain ⟨hQ,hz⟩:=H2 YP hE
 obtain ⟨q,NW⟩:=Dj fK hO _ (Zz _) hz
 rw [NW.eq] at hQ
 subst hQ
 subst hE
 have hvq:=NW.val
 have U2:=D7 fK hvq
 have hFq:lz (r.wp q):=KD hF q
 have NY:=N6 fK S7 hvq
 try dsimp only [Th,Tg,OK,OM,OJ,OL]
 (refine Jv rfl<|JJ rfl rfl<|JJ rfl rfl<|JJ rfl rfl<|Jz rfl rfl fun _ _=>aq (.of rfl) (.of rfl) .here rfl rfl (gE rfl rfl ma6 mb6 mc6 md6) (bF rfl) ak<|Ja rfl<|Ja rfl<|Jn<|Jq<|Jr<|Jv rfl<|ab (nY (.of rfl) (.of rfl) rfl) rfl<|Jn<|bN (.of rfl)<|Jk<|Jq<|Jr<|ab (cL .here) rfl ?_)
 rename_i b6 hb6
 refine dR [JP b6 r s6 d6 t6 p6,J1 r (s6),J2 r (d6),J3 r (t6),row 188 3 (p6) (q).length (gR q),JQ b2 r s (.slice da r.de.length vz) t p] (by exact .cons .here (.cons .here (.cons .here (.cons .here (.cons .here (.cons jo .nil)))))) ?_
 refine JN bL rfl (fun w1 aR=>HF (r:=r.wp q) (H4 (cW (E:=186) aR (by exact Take.there .here) rfl) (cX (E:=90) aR bT rfl) (cV (E:=187) aR c6 rfl) (cM (E:=188) aR dO rfl)) NY) ?_
 rintro ⟨t1,t2,t3,t4⟩ _
 try dsimp only [id_eq,Zb,Za]
 refine kX (r:=r.wp q) (s:=t1) (d:=t2) (t:=t3) (p:=t4) (bn _ _) fun na nb nc nd=>?_
 try dsimp only [OK,OM,OJ,OL]
 skip
 refine ai bL rfl (fun w1 aR=>wM (r:=r.wp q) (H4 (cW (E:=118) aR (by exact .here) rfl) (cX (E:=88) aR (by exact Take.there .here) rfl) (cV (E:=122) aR bT rfl) (cM (E:=180) aR c6 rfl)) NY U2) ?_
 (refine ab (nY (.of rfl) (.of rfl) rfl) rfl<|Jn<|bN (.of rfl)<|Jk<|Jq<|Jr<|bP rfl rfl ae<|JL rfl iR rfl<|JI rfl<|Jv rfl<|Jn<|J0 ?_)
 refine dR [JP b6 r s6 d6 t6 p6,J1 r (s6),J2 r (d6),J3 r (t6),row 188 3 (p6) (q).length (gR q),JQ b2 r s (.slice da r.de.length vz) t p] (by exact .cons dO (.cons dO (.cons dO (.cons dO (.cons dO (.cons dO .nil)))))) ?_
 have zR:=eG.lim
 have aaK:=eG.len
 have X2:(r.lv.toNat:Int)=r.lv:=by omega
 unfold maxLen at bQ U0
 refine aX (ι:=Nat) (fun k=>k≤r.de.length) (fun k=>[(84,.int .i64 (k:Nat)),(83,.int .i64 (r.de.length:Nat)),(82,.slice da r.de.length vz),(5,.pointer (some ⟨b6,0,none⟩)),(1,.slice a l.length cp),(2,.pointer (some ⟨b2,0,none⟩))]) (fun k=>[JP b6 r s6 d6 t6 p6,J1 r (s6),J2 r (d6),J3 r (t6),row 188 3 (p6) (q).length (gR q),JQ b2 r s (.slice da r.de.length vz) t p]) (fun k=>r.de.length-k) ?_ ?_
 ·apply aI 0 (show 0≤r.de.length from Zi _)
  case hs1=>exact cd
  case ht=>exact lU
 intro k hk
 try dsimp only at hk ⊢
 by_cases aK:k<r.de.length
 ·have Yt:=hda (gJ aK)
  have aC:=(wJ k _ (fj aK)).2
  have hy:(r.de[k]).nm∈cy r:=Z0 (Zj aK)
  unfold De.cells at aC
  generalize (r.de[k]).nm=y at hy aC
  generalize (r.de[k]).mx=mx at aC
  generalize (r.de[k]).pr=pr at aC
  (refine Jr<|JA rfl<|Jn<|Jq<|Jd rfl fun ar=>Jk<|Jq<|J0<|Jr<|ab (az (.of rfl) (.of rfl) Yt (by omega) ar bj) rfl<|ab (gS (eF.base aC rfl)) rfl<|Jz rfl rfl fun _ _=>aq (.of rfl) (.of rfl) .here rfl rfl (fo rfl rfl rfl) (bF rfl) ak<|Jn<|Jq ?_)
  rename_i b9 YF
  with_reducible refine dK 10 (by kernel_rfl) ?_
  refine au (fun β=>(bS (.of rfl) jo ak (by rfl))) bC rfl ?_
  dsimp only [Nat.zero_add,Nat.reduceAdd]
  with_reducible apply dH (ι:=Value×Value×Value×Value) (Φ:=fun _=>True) (val:=fun x=>.agg #[.int .i64 r.lv,.int .i64 r.ma,x.1,x.2.1,x.2.2.1,x.2.2.2]) (own:=fun x=>pC r x) (g:=g4) (B:=[]) (args:=fun β=>[.agg #[.int .i64 r.lv,.int .i64 r.ma,s,.slice da r.de.length vz,t,p]])
  case hg=>exact rr
  case hB=>first | rfl | kernel_rfl
  case hr=>exact fun β=>aY (.of rfl) (.cons (.of rfl) .nil) inferInstance rfl
  case hd=>rfl
  case hc=>
   intro β w' hb
   exact jg (h.keeps hb.mem.keeps) S7
  dsimp only [Nat.reduceAdd]
  (refine au (fun β=>(ao (.of rfl) ae)) bC rfl<|au (fun β=>(ag (.of rfl) (At.lit .here rfl))) bC rfl ?_)
  dsimp only [Nat.zero_add,Nat.reduceAdd]
  with_reducible apply dH (ι:=Value) (Φ:=fun _=>True) (val:=fun x=>.tuple #[x,.int .i64 0]) (own:=fun x=>[row 9 1 x (r.lv.toNat) (aM (br r y))]) (g:=id) (B:=[1]) (args:=fun β=>[.agg #[.int .i64 r.lv,.int .i64 r.ma,(g4 (β 1)).1,(g4 (β 1)).2.1,(g4 (β 1)).2.2.1,(g4 (β 1)).2.2.2],.string y])
  case hg=>exact fun x=>⟨x,rfl⟩
  case hB=>kernel_rfl
  case hr=>exact fun β=>aY (.of rfl) ((.cons (.of rfl) (.cons (.of rfl) .nil))) inferInstance rfl
  case hd=>rfl
  case hc=>
   intro β w' hb
   have m1:=hb.at 1 Zt rfl
   dsimp only at m1
   have m4:=Bh m1 (bn _ _)
   exact Kl (r:=r) m4 hF fK hy
  dsimp only [id_eq,Nat.reduceAdd]
  with_reducible apply au (F:=fun β=>.tuple #[β 4,.int .i64 0])
  case hr=>(intro β;exact a7 (.of rfl))
  case hi=>exact fun β β' h=>by simp only [h 4 (by kernel_rfl)]
  case hd=>rfl
  dsimp only [Nat.reduceAdd]
  with_reducible apply au (F:=fun β=>β 4)
  case hr=>(intro β;exact dx (.of rfl) rfl)
  case hi=>exact fun β β' h=>by simp only [h 4 (by kernel_rfl)]
  case hd=>rfl
  dsimp only [Nat.reduceAdd]
  with_reducible apply au (F:=fun β=>.int .i64 0)
  case hr=>(intro β;exact dx (.of rfl) rfl)
  case hi=>exact bC
  case hd=>rfl
  dsimp only [Nat.reduceAdd]
  with_reducible apply au (F:=fun β=>β 4)
  case hr=>(intro β;exact cA (.of rfl))
  case hi=>exact fun β β' h=>by simp only [h 4 (by kernel_rfl)]
  case hd=>rfl
  dsimp only [Nat.reduceAdd]
  with_reducible apply au (F:=fun β=>.int .i64 0)
  case hr=>(intro β;exact cA (.of rfl))
  case hi=>exact bC
  case hd=>rfl
  dsimp only [Nat.reduceAdd]
  refine fh fun β=>?_
  unfold pC
  dsimp only [eu,Za,Zb,List.append_eq,Nat.reduceAdd]
  generalize β 4=xb
  generalize g4 (β 1)=y1
  clear β
  with_reducible refine cH (by kernel_rfl) ?_
  refine dR [row 9 1 (xb) (r.lv.toNat) (aM (br r y)),bG b9 (.cells #[.string y,.int .i64 mx,.bool pr] 88 (0,0)),JP b6 r s6 d6 t6 p6,J1 r (s6),J2 r (d6),J3 r (t6),row 188 3 (p6) (q).length (gR q),JQ b2 r s (.slice da r.de.length vz) t p] (by exact .cons dO (.cons dO (.cons dO (.cons dO (.cons dO (.cons dO (.cons dO (.cons dO .nil)))))))) ?_
  refine aW (E:=9) (sz:=1) (v:=xb) (by exact .here) fun ba bc e=>?_
  subst e
  (refine Jt<|Jq<|Jr<|Jv rfl<|JD rfl<|Jv rfl<|gr rfl rfl rfl rfl<|aA rfl rfl inferInstance (fun hg bB=>(bD (.bI hg rfl))) rfl<|aA rfl rfl inferInstance (fun hg bB=>(ao (.of rfl) ae)) rfl<|aA rfl rfl inferInstance (fun hg bB=>(ag (.bI hg rfl) (At.lit AB rfl))) rfl<|aA rfl rfl inferInstance (fun hg bB=>(gl (.bI hg rfl) (.bI hg rfl))) rfl<|ab (aZ (.of rfl) rfl) rfl<|Jn<|Jc rfl fun ar=>Jk<|Jq<|Jr<|Jv rfl<|JI rfl<|Jv rfl<|Jn<|J0 ?_)
  refine aX (ι:=Nat×List Po×Option Addr×Nat) (fun z=>z.1≤l.length∧Ej r (cJ l) z.1 z.2.1) (fun z=>[(107,.int .i64 (z.1:Nat)),(106,.int .i64 (l.length:Nat)),(105,.slice a l.length cp),(10,.slice z.2.2.1 r.lv.toNat z.2.2.2),(9,.pointer (some ⟨b9,0,none⟩)),(84,.int .i64 (k:Nat)),(83,.int .i64 (r.de.length:Nat)),(82,.slice da r.de.length vz),(5,.pointer (some ⟨b6,0,none⟩)),(1,.slice a l.length cp),(2,.pointer (some ⟨b2,0,none⟩))]) (fun z=>[row 9 1 (.slice z.2.2.1 r.lv.toNat z.2.2.2) (r.lv.toNat) (aM (br (r.wp z.2.1) y)),bG b9 (.cells #[.string y,.int .i64 mx,.bool pr] 88 (0,0)),JP b6 r s6 d6 t6 p6,J1 r (s6),J2 r (d6),J3 r (t6),row 188 3 (p6) (q).length (gR q),JQ b2 r s (.slice da r.de.length vz) t p]) (fun z=>l.length-z.1) ?_ ?_
  ·apply aI (0,r.po,ba,bc) ⟨Zi _,⟨rfl,eG.val⟩⟩
   case hs1=>exact cd
   case ht=>
    dsimp only
    rw [L4]
    exact .cons .here (.cons .here (.cons .here (.cons .here (.cons .here (.cons .here (.cons .here (.cons .here .nil)))))))
  rintro ⟨j,qj,la,lc⟩ ⟨hj,LO⟩
  dsimp only at hj LO ⊢
  by_cases eU:j<l.length
  ·have cB:=ha (qb eU)
   have dZ:=(hc j _ (zx l eU)).2
   have GB:j<(cJ l).length:=by rw [jR];exact eU
   obtain ⟨tz,NX⟩:=hM _ (Zj eU)
   obtain ⟨q2,hR2,NL,NK⟩:=LO.next fK hO GB (hz j GB)
   have r6:=hO.fr j GB
   have S4:=hO.tk j GB
   have Ub:=CW hO GB
   have Ua:=Mb hO GB
   rw [QM] at NL NK r6 S4 Ub Ua
   dsimp only at NL NK r6 S4 Ub Ua
   have fa:=Rd.one tz
   generalize l[j]=x at dZ tz NX fa NL NK r6 S4 Ub Ua
   obtain ⟨xf,xt,xv⟩:=x
   dsimp only at dZ tz NX fa NL NK r6 S4 Ub Ua
   obtain ⟨hs1,hs2⟩:=Di fK hx hz hy r6 Ua hR2
   refine mP ?_
   refine ml ?_
   refine ab (k8 (.of rfl) (.of rfl)) rfl ?_
   refine yM ?_
   refine tG ?_
   refine mP ?_
   refine fP rfl (fun ar=>?_) (fun _=>by omega)
   refine yK ?_
   refine tG ?_
   refine mP ?_
   refine AZ ?_
   refine mP ?_
   refine ml ?_
   refine ab (fG cB ar) rfl ?_
   refine ab (gS (eF.base dZ rfl)) rfl ?_
   refine bo (qS rfl) rfl (fun _ _=>?_)
   refine aq (.of rfl) (.of rfl) .here rfl rfl (fN rfl fa) (bF rfl) ak ?_
   refine yM ?_
   refine tG ?_
   rename_i CM YI
   refine P6 (ι:=Unit) (fun _=>True) (fun _=>[(13,.pointer (some ⟨CM,0,none⟩)),(107,.int .i64 (j:Nat)),(106,.int .i64 (l.length:Nat)),(105,.slice a l.length cp),(10,.slice la r.lv.toNat lc),(9,.pointer (some ⟨b9,0,none⟩)),(84,.int .i64 (k:Nat)),(83,.int .i64 (r.de.length:Nat)),(82,.slice da r.de.length vz),(5,.pointer (some ⟨b6,0,none⟩)),(1,.slice a l.length cp),(2,.pointer (some ⟨b2,0,none⟩))]) (fun _=>[row 9 1 (.slice la r.lv.toNat lc) (r.lv.toNat) (aM (br (r.wp qj) y)),bG CM (.cells #[.int .i64 xf,xv] 105 (0,0)),bG b9 (.cells #[.string y,.int .i64 mx,.bool pr] 88 (0,0)),JP b6 r s6 d6 t6 p6,J1 r (s6),J2 r (d6),J3 r (t6),row 188 3 (p6) (q).length (gR q),JQ b2 r s (.slice da r.de.length vz) t p]) ?_ ?_
   ·(refine Jr<|bP rfl rfl ae<|JL rfl .here rfl<|JE rfl<|Jn<|fP rfl (fun ar=>?_) fun ar=>?_;refine Jq ?_;rotate_left;refine Jk ?_;rotate_right)
    ·obtain ⟨vZ,Gw⟩:=Di fK hx hz hy (f:=xf-1) (by omega) Ub LO
     with_reducible refine dK 15 (by kernel_rfl) ?_
     refine au (fun β=>(bS (.of rfl) wY ak (by rfl))) bC rfl ?_
     dsimp only [Nat.zero_add,Nat.reduceAdd]
     with_reducible apply dH (ι:=Value×Value×Value×Value) (Φ:=fun _=>True) (val:=fun x=>.agg #[.int .i64 r.lv,.int .i64 r.ma,x.1,x.2.1,x.2.2.1,x.2.2.2]) (own:=fun x=>pC r x) (g:=g4) (B:=[]) (args:=fun β=>[.agg #[.int .i64 r.lv,.int .i64 r.ma,s,.slice da r.de.length vz,t,p]])
     case hg=>exact rr
     case hB=>first | rfl | kernel_rfl
     case hr=>exact fun β=>aY (.of rfl) (.cons (.of rfl) .nil) inferInstance rfl
     case hd=>rfl
     case hc=>
      intro β w' hb
      exact jg (h.keeps hb.mem.keeps) S7
     dsimp only [Nat.reduceAdd]
     refine au (fun β=>(a7 (.of rfl))) bC rfl ?_
     dsimp only [Nat.zero_add,Nat.reduceAdd]
     with_reducible apply dH (ι:={x:Value×List gG // cJ x.2=cJ l}) (Φ:=fun _=>True) (val:=fun z=>z.1.1) (own:=fun z=>[row 182 2 z.1.1 z.1.2.length (lf z.1.2).flatten,IJ z.1.2]) (g:=GN l) (B:=[]) (args:=fun _=>[.slice a l.length cp])
     case hg=>exact DT l
     case hB=>rfl
     case hr=>exact fun β=>aY (.of rfl) (.cons (.of rfl) .nil) inferInstance rfl
     case hd=>rfl
     case hc=>exact fun β w' hb=>bh.sub (q7 (Rd.keeps hw hb.mem.keeps) (hM.keeps hb.mem.keeps) (by omega) zP)
     dsimp only [Nat.reduceAdd]
     (refine au (fun β=>(ao (.of rfl) ae)) bC rfl<|au (fun β=>(ag (.of rfl) (At.lit bT rfl))) bC rfl<|au (fun β=>(ao (.of rfl) ae)) bC rfl<|au (fun β=>(ag (.of rfl) (At.lit .here rfl))) bC rfl<|au (fun β=>(rR (.of rfl) (.of rfl) (QV (by omega)))) bC rfl ?_)
     dsimp only [Nat.zero_add,Nat.reduceAdd]
     with_reducible apply dH (ι:=Value) (Φ:=fun _=>True) (val:=fun x=>.tuple #[x,.int .i64 0]) (own:=fun x=>[row 9 1 x (r.lv.toNat) (aM (br (r.wp qj) y))]) (g:=id) (B:=[1,3]) (args:=fun β=>[.agg #[.int .i64 r.lv,.int .i64 r.ma,(g4 (β 1)).1,(g4 (β 1)).2.1,(g4 (β 1)).2.2.1,(g4 (β 1)).2.2.2],(GN l (β 3)).1.1,.string y,.int .i64 (xf-1)])
     case hg=>exact fun x=>⟨x,rfl⟩
     case hB=>kernel_rfl
     case hr=>exact fun β=>aY (.of rfl) (.cons (.of rfl) (.cons (.of rfl) (.cons (.of rfl) (.cons (.of rfl) .nil)))) inferInstance rfl
     case hd=>rfl
     case hc=>
      intro β w' hb
      have m1:=hb.at 1 Zt rfl
      have m2:=hb.at 3 (ZV _ Zt) rfl
      dsimp only at m1
      dsimp only [Zb,Za] at m2
      have m4:=Bh m1 (bn _ _)
      have m5:=ET (E:=182) m2 .here rfl
      have m6:=M7 m2 (.there .here)
      exact Dh (GN l (β 3)).2 m4 hF m5 m6 vZ Gw (fX _ _)
     dsimp only [id_eq,Nat.reduceAdd]
     with_reducible apply au (F:=fun β=>.tuple #[β 9,.int .i64 0])
     case hr=>(intro β;exact a7 (.of rfl))
     case hi=>exact fun β β' h=>by simp only [h 9 (by kernel_rfl)]
     case hd=>rfl
     dsimp only [Nat.reduceAdd]
     with_reducible apply au (F:=fun β=>β 9)
     case hr=>(intro β;exact dx (.of rfl) rfl)
     case hi=>exact fun β β' h=>by simp only [h 9 (by kernel_rfl)]
     case hd=>rfl
     dsimp only [Nat.reduceAdd]
     with_reducible apply au (F:=fun β=>.int .i64 0)
     case hr=>(intro β;exact dx (.of rfl) rfl)
     case hi=>exact bC
     case hd=>rfl
     dsimp only [Nat.reduceAdd]
     with_reducible apply au (F:=fun β=>β 9)
     case hr=>(intro β;exact cA (.of rfl))
     case hi=>exact fun β β' h=>by simp only [h 9 (by kernel_rfl)]
     case hd=>rfl
     dsimp only [Nat.reduceAdd]
     with_reducible apply au (F:=fun β=>.int .i64 0)
     case hr=>(intro β;exact cA (.of rfl))
     case hi=>exact bC
     case hd=>rfl
     dsimp only [Nat.reduceAdd]
     refine fh fun β=>?_
     unfold pC
     dsimp only [eu,Za,Zb,List.append_eq,Nat.reduceAdd]
     generalize β 9=xs
     generalize g4 (β 1)=y1
     generalize GN l (β 3)=y3
     clear β
     with_reducible refine cH (by kernel_rfl) ?_
     refine dR [row 9 1 (xs) (r.lv.toNat) (aM (br (r.wp qj) y)),row 9 1 (.slice la r.lv.toNat lc) (r.lv.toNat) (aM (br (r.wp qj) y)),bG CM (.cells #[.int .i64 xf,xv] 105 (0,0)),bG b9 (.cells #[.string y,.int .i64 mx,.bool pr] 88 (0,0)),JP b6 r s6 d6 t6 p6,J1 r (s6),J2 r (d6),J3 r (t6),row 188 3 (p6) (q).length (gR q),JQ b2 r s (.slice da r.de.length vz) t p] (by exact .cons jo (.cons AB (.cons jo (.cons jo (.cons jo (.cons jo (.cons jo (.cons jo (.cons jo (.cons jo .nil)))))))))) ?_
     (refine Jt<|Jr<|Jv rfl<|ab (nY (.of rfl) (.of rfl) rfl) rfl<|Jv rfl<|JK rfl rfl<|Jv rfl<|JK rfl rfl<|Jv rfl<|JK rfl rfl ?_)
     refine ai bd rfl (fun w1 aR=>y7 (dL (l:=br (r.wp qj) y) (n:=r.lv.toNat) aR (by exact .here) (fX _ _)) (dL (l:=br (r.wp qj) y) (n:=r.lv.toNat) aR (by exact Take.there .here) (fX _ _)) rfl) ?_
     (refine JK rfl rfl<|JH rfl<|ab (k7 (.of rfl) (.of rfl) (.of rfl) rfl) rfl<|Jn<|bN (.of rfl)<|Jk ?_)
     with_reducible apply Eu () trivial
     case h1=>exact .cons rfl (.cons rfl (.cons rfl (.cons rfl (.cons rfl (.cons rfl (.cons rfl (.cons rfl (.cons rfl (.cons rfl (.cons rfl (.cons rfl .nil)))))))))))
     case ht=>exact lU
    ·with_reducible apply Eu () trivial
     case h1=>exact .cons rfl (.cons rfl (.cons rfl (.cons rfl (.cons rfl (.cons rfl (.cons rfl (.cons rfl (.cons rfl (.cons rfl (.cons rfl (.cons rfl .nil)))))))))))
     case ht=>exact lU
   rintro ⟨⟩ _
   try dsimp only
   refine mP ?_
   with_reducible refine dK 14 (by kernel_rfl) ?_
   refine au (fun β=>(bS (.of rfl) wY ak (by rfl))) bC rfl ?_
   dsimp only [Nat.zero_add,Nat.reduceAdd]
   with_reducible apply dH (ι:=Value×Value×Value×Value) (Φ:=fun _=>True) (val:=fun x=>.agg #[.int .i64 r.lv,.int .i64 r.ma,x.1,x.2.1,x.2.2.1,x.2.2.2]) (own:=fun x=>pC r x) (g:=g4) (B:=[]) (args:=fun β=>[.agg #[.int .i64 r.lv,.int .i64 r.ma,s,.slice da r.de.length vz,t,p]])
   case hg=>exact rr
   case hB=>first | rfl | kernel_rfl
   case hr=>exact fun β=>aY (.of rfl) (.cons (.of rfl) .nil) inferInstance rfl
   case hd=>rfl
   case hc=>
    intro β w' hb
    exact jg (h.keeps hb.mem.keeps) S7
   dsimp only [Nat.reduceAdd]
   refine au (fun β=>(a7 (.of rfl))) bC rfl ?_
   dsimp only [Nat.zero_add,Nat.reduceAdd]
   with_reducible apply dH (ι:={x:Value×List gG // cJ x.2=cJ l}) (Φ:=fun _=>True) (val:=fun z=>z.1.1) (own:=fun z=>[row 182 2 z.1.1 z.1.2.length (lf z.1.2).flatten,IJ z.1.2]) (g:=GN l) (B:=[]) (args:=fun _=>[.slice a l.length cp])
   case hg=>exact DT l
   case hB=>rfl
   case hr=>exact fun β=>aY (.of rfl) (.cons (.of rfl) .nil) inferInstance rfl
   case hd=>rfl
   case hc=>exact fun β w' hb=>bh.sub (q7 (Rd.keeps hw hb.mem.keeps) (hM.keeps hb.mem.keeps) (by omega) zP)
   dsimp only [Nat.reduceAdd]
   (refine au (fun β=>(ao (.of rfl) ae)) bC rfl<|au (fun β=>(ag (.of rfl) (At.lit bT rfl))) bC rfl<|au (fun β=>(ao (.of rfl) ae)) bC rfl<|au (fun β=>(ag (.of rfl) (At.lit (.there .here) rfl))) bC rfl ?_)
   dsimp only [Nat.zero_add,Nat.reduceAdd]
   with_reducible apply dH (ι:=Value) (Φ:=fun _=>True) (val:=fun x=>.tuple #[x,.int .i64 0]) (own:=fun x=>[row 9 1 x (r.lv.toNat) (aM (br (r.wp q2) y))]) (g:=id) (B:=[1,3]) (args:=fun β=>[.agg #[.int .i64 r.lv,.int .i64 r.ma,(g4 (β 1)).1,(g4 (β 1)).2.1,(g4 (β 1)).2.2.1,(g4 (β 1)).2.2.2],(GN l (β 3)).1.1,.string y,.int .i64 (xf)])
   case hg=>exact fun x=>⟨x,rfl⟩
   case hB=>kernel_rfl
   case hr=>exact fun β=>aY (.of rfl) (.cons (.of rfl) (.cons (.of rfl) (.cons (.of rfl) (.cons (.of rfl) .nil)))) inferInstance rfl
   case hd=>rfl
   case hc=>
    intro β w' hb
    have m1:=hb.at 1 Zt rfl
    have m2:=hb.at 3 (ZV _ Zt) rfl
    dsimp only at m1
    dsimp only [Zb,Za] at m2
    have m4:=Bh m1 (bn _ _)
    have m5:=ET (E:=182) m2 .here rfl
    have m6:=M7 m2 (.there .here)
    exact Dh (GN l (β 3)).2 m4 hF m5 m6 hs1 hs2 (fX _ _)
   dsimp only [id_eq,Nat.reduceAdd]
   with_reducible apply au (F:=fun β=>.tuple #[β 8,.int .i64 0])
   case hr=>(intro β;exact a7 (.of rfl))
   case hi=>exact fun β β' h=>by simp only [h 8 (by kernel_rfl)]
   case hd=>rfl
   dsimp only [Nat.reduceAdd]
   with_reducible apply au (F:=fun β=>β 8)
   case hr=>(intro β;exact dx (.of rfl) rfl)
   case hi=>exact fun β β' h=>by simp only [h 8 (by kernel_rfl)]
   case hd=>rfl
   dsimp only [Nat.reduceAdd]
   with_reducible apply au (F:=fun β=>.int .i64 0)
   case hr=>(intro β;exact dx (.of rfl) rfl)
   case hi=>exact bC
   case hd=>rfl
   dsimp only [Nat.reduceAdd]
   with_reducible apply au (F:=fun β=>β 8)
   case hr=>(intro β;exact cA (.of rfl))
   case hi=>exact fun β β' h=>by simp only [h 8 (by kernel_rfl)]
   case hd=>rfl
   dsimp only [Nat.reduceAdd]
   with_reducible apply au (F:=fun β=>.int .i64 0)
   case hr=>(intro β;exact cA (.of rfl))
   case hi=>exact bC
   case hd=>rfl
   dsimp only [Nat.reduceAdd]
   refine fh fun β=>?_
   unfold pC
   dsimp only [eu,Za,Zb,List.append_eq,Nat.reduceAdd]
   generalize β 8=xn
   generalize g4 (β 1)=y1
   generalize GN l (β 3)=y3
   clear β
   with_reducible refine cH (by kernel_rfl) ?_
   refine dR [row 9 1 (xn) (r.lv.toNat) (aM (br (r.wp q2) y)),row 9 1 (.slice la r.lv.toNat lc) (r.lv.toNat) (aM (br (r.wp qj) y)),bG CM (.cells #[.int .i64 xf,xv] 105 (0,0)),bG b9 (.cells #[.string y,.int .i64 mx,.bool pr] 88 (0,0)),JP b6 r s6 d6 t6 p6,J1 r (s6),J2 r (d6),J3 r (t6),row 188 3 (p6) (q).length (gR q),JQ b2 r s (.slice da r.de.length vz) t p] (by exact .cons jo (.cons jo (.cons jo (.cons jo (.cons jo (.cons jo (.cons jo (.cons jo (.cons jo (.cons jo .nil)))))))))) ?_
   refine aW (E:=9) (sz:=1) (v:=xn) (by exact .here) fun na nc e=>?_
   subst e
   (refine Jt<|Jq<|Jr<|Jv rfl<|JD rfl<|Jv rfl<|gr rfl rfl rfl rfl<|aA rfl rfl inferInstance (fun hg bB=>(bD (.bI hg rfl))) rfl<|aA rfl rfl inferInstance (fun hg bB=>(ao (.of rfl) ae)) rfl<|aA rfl rfl inferInstance (fun hg bB=>(ag (.bI hg rfl) (At.lit iR rfl))) rfl<|aA rfl rfl inferInstance (fun hg bB=>(gl (.bI hg rfl) (.bI hg rfl))) rfl<|ab (aZ (.of rfl) rfl) rfl<|Jn<|Jc rfl fun ar=>Jk<|Jq<|Jr<|bP rfl rfl ae<|JL rfl iR rfl<|Jv rfl<|Jn<|J0 ?_)
   obtain ⟨ta,tcp,tb,to_,rfl,aah,Tx,tha,thc⟩:=tz
   rw [dw] at *
   unfold maxLen at Tx
   refine aX (ι:=Nat) (fun v=>v≤r.lv.toNat) (fun v=>[(158,.int .i64 (v:Nat)),(157,.int .i64 r.lv),(16,.slice na r.lv.toNat nc),(13,.pointer (some ⟨CM,0,none⟩)),(107,.int .i64 (j:Nat)),(106,.int .i64 (l.length:Nat)),(105,.slice a l.length cp),(10,.slice la r.lv.toNat lc),(9,.pointer (some ⟨b9,0,none⟩)),(84,.int .i64 (k:Nat)),(83,.int .i64 (r.de.length:Nat)),(82,.slice da r.de.length vz),(5,.pointer (some ⟨b6,0,none⟩)),(1,.slice a l.length cp),(2,.pointer (some ⟨b2,0,none⟩))]) (fun v=>[row 9 1 (.slice na r.lv.toNat nc) (r.lv.toNat) (aM (br (r.wp q2) y)),row 9 1 (.slice la r.lv.toNat lc) (r.lv.toNat) (aM (br (r.wp qj) y)),bG CM (.cells #[.int .i64 xf,.slice ta xt.length tcp] 105 (0,0)),bG b9 (.cells #[.string y,.int .i64 mx,.bool pr] 88 (0,0)),JP b6 r s6 d6 t6 p6,J1 r (s6),J2 r (d6),J3 r (t6),row 188 3 (p6) (q).length (gR q),JQ b2 r s (.slice da r.de.length vz) t p]) (fun v=>r.lv.toNat-v) ?_ ?_
   ·apply aI 0 (show 0≤r.lv.toNat from Zi _)
    case hs1=>exact cd
    case ht=>exact lU
   intro v hv
   try dsimp only at hv ⊢
   by_cases Rw:v<r.lv.toNat
   ·have LH:((v:Nat):Int)<r.lv:=by omega
    have RU:∀ (Q:List Po) cur,(aM (br (r.wp Q) y)++cur)[v*1]? = some (.string (jM (r.wp Q) (v:Nat) y)):=fun Q cur=>by
     have hvh:v<(br (r.wp Q) y).length:=by rw [fX];exact Rw
     rw [uz _ cur hvh]
     have:=zT (r:=r.wp Q) (y:=y) (k:=v) LH
     rw [Zc hvh] at this
     rw [Option.some.inj this]
    have l9:=L5 (D7 fK LO.val) (S4.wp qj) (R:=r.wp q2) rfl NL (NK y hy) (k:=v) LH
    have U9:=RU qj
    have U8:=RU q2
    clear RU
    refine dd (E:=9) (sz:=1) (v:=.slice la r.lv.toNat lc) (by exact Take.there .here) (show 0<r.lv.toNat by omega) ?_
    intro ga cap_ VF Yq XU XT XS XR
    cases Yq
    have U7:=U9 VF
    (refine Jr<|JA rfl<|Jn<|Jq<|Jd rfl fun ar=>Jk<|Jq<|J0<|Jr<|Jv rfl<|Ja rfl<|Ji<|Jv rfl<|Jv rfl<|ab (az (.of rfl) (.of rfl) rfl (by omega) (by omega) bj) rfl ?_;refine ab (ag (.of rfl) (At.mF .here U7)) rfl ?_;refine Ja rfl<|Jn<|Jq<|Jr<|bP rfl rfl ae ?_;refine JL rfl bT rfl<|JI rfl<|Jv rfl<|Jn<|J0 ?_)
    refine cN (g:=ga) (E:=9) (sz:=1) (n:=r.lv.toNat) (xs:=aM (br (r.wp qj) y)) (cur:=VF) (by exact .here) XU XT XS XR ?_
    refine aX (ι:=Nat×ByteArray) (fun z=>z.1≤xt.length∧z.2=L6 (r.wp qj) (bZ xt) y v z.1) (fun z=>[(168,.int .i64 (z.1:Nat)),(167,.int .i64 (xt.length:Nat)),(166,.slice ta xt.length tcp),(19,.string z.2),(18,.int .i64 (v:Nat)),(158,.int .i64 (v:Nat)),(157,.int .i64 r.lv),(16,.slice na r.lv.toNat nc),(13,.pointer (some ⟨CM,0,none⟩)),(107,.int .i64 (j:Nat)),(106,.int .i64 (l.length:Nat)),(105,.slice a l.length cp),(10,.slice (some ⟨ga,0,none⟩) r.lv.toNat lc),(9,.pointer (some ⟨b9,0,none⟩)),(84,.int .i64 (k:Nat)),(83,.int .i64 (r.de.length:Nat)),(82,.slice da r.de.length vz),(5,.pointer (some ⟨b6,0,none⟩)),(1,.slice a l.length cp),(2,.pointer (some ⟨b2,0,none⟩))]) (fun z=>[row 9 1 (.slice na r.lv.toNat nc) (r.lv.toNat) (aM (br (r.wp q2) y)),row 9 1 (.slice (some ⟨ga,0,none⟩) r.lv.toNat lc) (r.lv.toNat) (aM (br (r.wp qj) y)),bG CM (.cells #[.int .i64 xf,.slice ta xt.length tcp] 105 (0,0)),bG b9 (.cells #[.string y,.int .i64 mx,.bool pr] 88 (0,0)),JP b6 r s6 d6 t6 p6,J1 r (s6),J2 r (d6),J3 r (t6),row 188 3 (p6) (q).length (gR q),JQ b2 r s (.slice da r.de.length vz) t p]) (fun z=>xt.length-z.1) ?_ ?_
    ·apply aI (0,jM (r.wp qj) (v:Nat) y) ⟨Zi _,rfl⟩
     case hs1=>exact cd
     case ht=>exact lU
    rintro ⟨i,W3⟩ ⟨hi,YQ⟩
    dsimp only at hi YQ ⊢
    by_cases LM:i<xt.length
    ·have WR:=tha (jJ LM)
     have kl:=(thc i _ (yR xt LM)).2
     have O6:=Zj LM
     have YU:=NX _ O6
     have Wp:=S4.lv xt[i].tk (Z0 O6)
     have jE:=ui (r:=r.wp qj) (l:=bZ xt) (y:=y) (k:=v) (i:=i) (by rw [yP];exact LM)
     rw [P7,← YQ] at jE
     generalize xt[i]=u at kl YU Wp jE
     obtain ⟨⟨ud,us⟩,uv⟩:=u
     dsimp only at kl YU Wp jE
     obtain ⟨sa,MB,sb,Qe,rfl,JZ,vd,Rg,Re⟩:=YU
     rw [bV] at *
     unfold maxLen at vd
     have X4:v<us.length:=by omega
     have BS:=Rg (k6 X4)
     have zO:w.cell? ⟨sb,Qe+v*1,none⟩=some (.string us[v]):=(Re v _ (jb X4)).2 0 _ rfl
     have YO:(Tk.mk ud us).at v=us[v]:=by unfold Tk.at;rw [Zk,Zc X4];rfl
     rw [YO] at jE
     generalize us[v]=uk at zO jE
     (refine Jr<|JA rfl<|Jn<|Jq<|Jd rfl fun ar=>Jk<|Jq<|J0<|Jr<|ab (az (.of rfl) (.of rfl) WR (by omega) ar bj) rfl<|ab (gS (eF.base kl rfl)) rfl<|Jz rfl rfl fun _ _=>aq (.of rfl) (.of rfl) .here rfl rfl (fN rfl rfl) (bF rfl) ak<|Ji<|bP rfl rfl ae<|JL rfl .here rfl<|bP rfl rfl ae<|JL rfl dO rfl<|ab (dS (.of rfl) (.of rfl)) rfl<|Jv rfl<|aA rfl rfl inferInstance (fun hg bB=>(ao (.of rfl) ae)) rfl<|aA rfl rfl inferInstance (fun hg bB=>(ag (.bI hg rfl) (At.lit .here rfl))) rfl<|gr rfl rfl rfl rfl<|aA rfl rfl inferInstance (fun hg bB=>(az (.bI hg rfl) (.bI hg rfl) BS (by omega) (by omega) bj)) rfl<|aA rfl rfl inferInstance (fun hg bB=>(ag (.bI hg rfl) (At.base zO rfl))) rfl<|aA rfl rfl inferInstance (fun hg bB=>(fR (.bI hg rfl) (.of rfl))) rfl<|ab (cz (.of rfl) rfl) rfl<|Jn<|nF rfl (fun ar=>?_) fun ar=>?_;refine Jg<|bP rfl rfl ae<|JL rfl .here rfl<|Jv rfl<|ab (az (.of rfl) (.of rfl) BS (by omega) (by omega) bj) rfl<|ab (ag (.of rfl) (At.base zO rfl)) rfl<|Ja rfl<|Jx<|Jj<|Jt<|Jg<|JB rfl (by omega)<|Jv rfl<|Jn ?_;rotate_left;refine Jw<|Jj<|Jt<|Jg<|JB rfl (by omega)<|Jv rfl<|Jn ?_;rotate_right)
     ·rw [if_pos (by simpa using ar)] at jE
      apply aJ (i+1,uk) ⟨ZaM LM,jE.symm⟩ (show xt.length-(i+1)<xt.length-i by omega)
      case hs1=>exact cd
      case ht=>exact lU
     ·rw [if_neg (fun c=>ar.elim (fun e=>e c.1) fun e=>e c.2)] at jE
      apply aJ (i+1,W3) ⟨ZaM LM,jE.symm⟩ (show xt.length-(i+1)<xt.length-i by omega)
      case hs1=>exact cd
      case ht=>exact lU
    obtain rfl:i=xt.length:=by omega
    rw [yP,← YQ] at l9
    refine dd (E:=9) (sz:=1) (v:=.slice na r.lv.toNat nc) (by exact .here) (show 0<r.lv.toNat by omega) ?_
    intro gn cap_ Sn Yq UE UD UC UB
    cases Yq
    have RX:=U8 Sn
    clear U8 U9 U7
    generalize jM (r.wp q2) (v:Nat) y=cf at RX l9
    (refine Jr<|JA rfl<|Jn<|Jq<|Jc rfl fun ar=>Jp<|Jl<|Jo<|Jt<|Jq<|Jr<|Jv rfl<|ab (dS (.of rfl) (.of rfl)) rfl ?_;refine Jn<|fP rfl (fun ar=>?_) fun ar=>?_;refine Jg<|Ja rfl<|Ji<|Jv rfl<|Jv rfl<|ab (az (.of rfl) (.of rfl) rfl (by omega) (by omega) bj) rfl ?_;refine ab (ag (.of rfl) (At.mF .here RX)) rfl ?_;refine Jv rfl<|ab (fR (.of rfl) (.of rfl)) rfl ?_;refine Jn<|fP rfl (fun ar=>?_) fun ar=>?_;refine Jr<|Ja rfl<|Jn<|Je<|Jm<|Jh<|Jh<|Jm<|Jh<|Jm<|Jh<|Jh<|Jm<|Jh<|Jm<|Jh<|Jh<|Jm<|Jh<|JT ?_;rotate_left;refine Jw<|Jj<|Jt<|Jg<|JB rfl (by omega)<|Jv rfl<|Jn ?_;rotate_right;rotate_left 2;refine Jk<|Jr<|Jv rfl<|Jv rfl<|ab (az (.of rfl) (.of rfl) rfl (by omega) (by omega) bj) rfl ?_;refine ab (ag (.of rfl) (At.mF .here RX)) rfl ?_;refine Jv rfl<|ab (fR (.of rfl) (.of rfl)) rfl ?_;refine Jn<|fP rfl (fun ar=>?_) fun ar=>?_;refine Jr<|Ja rfl<|Jn<|Je<|Jm<|Jh<|Jh<|Jm<|Jh<|Jm<|Jh<|Jh<|Jm<|Jh<|Jm<|Jh<|Jh<|Jm<|Jh<|JT ?_;rotate_left;refine Jw<|Jj<|Jt<|Jg<|JB rfl (by omega)<|Jv rfl<|Jn ?_;rotate_right;rotate_right 2)
    ·exfalso
     rw [if_pos (by assumption)] at l9
     exact ar l9.symm
    ·skip
     refine cN (g:=gn) (E:=9) (sz:=1) (n:=r.lv.toNat) (xs:=aM (br (r.wp q2) y)) (cur:=Sn) (by exact .here) UE UD UC UB ?_
     apply aJ (v+1) (show v+1≤r.lv.toNat from Rw) (show r.lv.toNat-(v+1)<r.lv.toNat-v by omega)
     case hs1=>exact cd
     case ht=>exact lU
    ·exfalso
     rw [if_neg (by assumption)] at l9
     exact ar l9.symm
    ·skip
     refine cN (g:=gn) (E:=9) (sz:=1) (n:=r.lv.toNat) (xs:=aM (br (r.wp q2) y)) (cur:=Sn) (by exact .here) UE UD UC UB ?_
     apply aJ (v+1) (show v+1≤r.lv.toNat from Rw) (show r.lv.toNat-(v+1)<r.lv.toNat-v by omega)
     case hs1=>exact cd
     case ht=>exact lU
   obtain rfl:v=r.lv.toNat:=by omega
   refine Jr<|JA rfl<|Jn<|Jq<|Jc rfl fun ar=>Jp<|Jl<|Jo<|Jt<|Jg<|Jv rfl<|Ja rfl<|Jx<|Jj<|Jt<|Jg<|JB rfl (by omega)<|Jv rfl<|Jn ?_
   apply aJ (j+1,q2,na,nc) ⟨ZaM eU,hR2⟩ (show l.length-(j+1)<l.length-j by omega)
   case hs1=>exact cd
   case ht=>exact lU
  obtain rfl:j=l.length:=by omega
  have hqe:r.wp qj=r.wp q:=by
   have e:=LO.eq
   rw [← jR] at e
   exact e.symm.trans NW.eq
  have hle:br (r.wp q) y=br (r.wp qj) y:=by rw [hqe]
  have LI:=Hq hO
  rw [jR] at LI
  obtain ⟨vZ,Gw⟩:=Di fK hx hz hy (f:=10000000) ⟨by decide,by decide⟩ LI LO
  refine Jr<|JA rfl<|Jn<|Jq<|Jc rfl fun ar=>Jp<|Jl<|Jo<|Jt<|Jq ?_
  with_reducible refine dK 11 (by kernel_rfl) ?_
  refine au (fun β=>(bS (.of rfl) bT ak (by rfl))) bC rfl ?_
  dsimp only [Nat.zero_add,Nat.reduceAdd]
  with_reducible apply dH (ι:=Value×Value×Value×Value) (Φ:=fun _=>True) (val:=fun x=>.agg #[.int .i64 r.lv,.int .i64 r.ma,x.1,x.2.1,x.2.2.1,x.2.2.2]) (own:=fun x=>Lx (r.wp q) x) (g:=g4) (B:=[]) (args:=fun β=>[.agg #[.int .i64 r.lv,.int .i64 r.ma,s6,d6,t6,p6]])
  case hg=>exact rr
  case hB=>first | rfl | kernel_rfl
  case hr=>exact fun β=>aY (.of rfl) (.cons (.of rfl) .nil) inferInstance rfl
  case hd=>rfl
  case hc=>
   intro β w' hb
   have m0:=hb.mem
   exact HF (H4 (cW (E:=186) m0 c6 rfl) (cX (E:=90) m0 dO rfl) (cV (E:=187) m0 fk rfl) (cM (E:=188) m0 jo rfl)) NY
  dsimp only [Nat.reduceAdd]
  with_reducible apply dH (ι:=Value×Value×Value×Value) (Φ:=fun _=>True) (val:=fun x=>.agg #[.int .i64 r.lv,.int .i64 r.ma,x.1,x.2.1,x.2.2.1,x.2.2.2]) (own:=fun x=>pC (r.wp q) x) (g:=g4) (B:=[1]) (args:=fun β=>[.agg #[.int .i64 r.lv,.int .i64 r.ma,(g4 (β 1)).1,(g4 (β 1)).2.1,(g4 (β 1)).2.2.1,(g4 (β 1)).2.2.2]])
  case hg=>exact rr
  case hB=>first | rfl | kernel_rfl
  case hr=>exact fun β=>aY (.of rfl) (.cons (.of rfl) .nil) inferInstance rfl
  case hd=>rfl
  case hc=>
   intro β w' hb
   have m1:=hb.at 1 Zt rfl
   dsimp only at m1
   have m4:=OQ m1 (bn _ _)
   exact jg m4 NY
  dsimp only [Nat.reduceAdd]
  (refine au (fun β=>(ao (.of rfl) ae)) bC rfl<|au (fun β=>(ag (.of rfl) (At.lit (.there .here) rfl))) bC rfl ?_)
  dsimp only [Nat.zero_add,Nat.reduceAdd]
  with_reducible apply dH (ι:=Value) (Φ:=fun _=>True) (val:=fun x=>.tuple #[x,.int .i64 0]) (own:=fun x=>[row 9 1 x (r.lv.toNat) (aM (br (r.wp q) y))]) (g:=id) (B:=[2]) (args:=fun β=>[.agg #[.int .i64 r.lv,.int .i64 r.ma,(g4 (β 2)).1,(g4 (β 2)).2.1,(g4 (β 2)).2.2.1,(g4 (β 2)).2.2.2],.string y])
  case hg=>exact fun x=>⟨x,rfl⟩
  case hB=>kernel_rfl
  case hr=>exact fun β=>aY (.of rfl) ((.cons (.of rfl) (.cons (.of rfl) .nil))) inferInstance rfl
  case hd=>rfl
  case hc=>
   intro β w' hb
   have m1:=hb.at 2 Zt rfl
   dsimp only at m1
   have m4:=Bh m1 (bn _ _)
   exact Kl (r:=r.wp q) m4 (KD hF q) U2 hy
  dsimp only [id_eq,Nat.reduceAdd]
  with_reducible apply au (F:=fun β=>.tuple #[β 5,.int .i64 0])
  case hr=>(intro β;exact a7 (.of rfl))
  case hi=>exact fun β β' h=>by simp only [h 5 (by kernel_rfl)]
  case hd=>rfl
  dsimp only [Nat.reduceAdd]
  with_reducible apply au (F:=fun β=>β 5)
  case hr=>(intro β;exact dx (.of rfl) rfl)
  case hi=>exact fun β β' h=>by simp only [h 5 (by kernel_rfl)]
  case hd=>rfl
  dsimp only [Nat.reduceAdd]
  with_reducible apply au (F:=fun β=>.int .i64 0)
  case hr=>(intro β;exact dx (.of rfl) rfl)
  case hi=>exact bC
  case hd=>rfl
  dsimp only [Nat.reduceAdd]
  with_reducible apply au (F:=fun β=>β 5)
  case hr=>(intro β;exact cA (.of rfl))
  case hi=>exact fun β β' h=>by simp only [h 5 (by kernel_rfl)]
  case hd=>rfl
  dsimp only [Nat.reduceAdd]
  with_reducible apply au (F:=fun β=>.int .i64 0)
  case hr=>(intro β;exact cA (.of rfl))
  case hi=>exact bC
  case hd=>rfl
  dsimp only [Nat.reduceAdd]
  refine fh fun β=>?_
  unfold pC Lx
  dsimp only [eu,Za,Zb,List.append_eq,Nat.reduceAdd]
  generalize β 5=xe
  generalize g4 (β 1)=y1
  generalize g4 (β 2)=y2
  clear β
  with_reducible refine cH (by kernel_rfl) ?_
  refine dR [row 9 1 (xe) (r.lv.toNat) (aM (br (r.wp q) y)),row 9 1 (.slice la r.lv.toNat lc) (r.lv.toNat) (aM (br (r.wp qj) y)),bG b9 (.cells #[.string y,.int .i64 mx,.bool pr] 88 (0,0)),JP b6 r s6 d6 t6 p6,J1 r (s6),J2 r (d6),J3 r (t6),row 188 3 (p6) (q).length (gR q),JQ b2 r s (.slice da r.de.length vz) t p] (by exact .cons wY (.cons wY (.cons wY (.cons wY (.cons wY (.cons wY (.cons wY (.cons wY (.cons wY .nil))))))))) ?_
  refine Jt<|Jq ?_
  with_reducible refine dK 12 (by kernel_rfl) ?_
  refine au (fun β=>(bS (.of rfl) wY ak (by rfl))) bC rfl ?_
  dsimp only [Nat.zero_add,Nat.reduceAdd]
  with_reducible apply dH (ι:=Value×Value×Value×Value) (Φ:=fun _=>True) (val:=fun x=>.agg #[.int .i64 r.lv,.int .i64 r.ma,x.1,x.2.1,x.2.2.1,x.2.2.2]) (own:=fun x=>pC r x) (g:=g4) (B:=[]) (args:=fun β=>[.agg #[.int .i64 r.lv,.int .i64 r.ma,s,.slice da r.de.length vz,t,p]])
  case hg=>exact rr
  case hB=>first | rfl | kernel_rfl
  case hr=>exact fun β=>aY (.of rfl) (.cons (.of rfl) .nil) inferInstance rfl
  case hd=>rfl
  case hc=>
   intro β w' hb
   exact jg (h.keeps hb.mem.keeps) S7
  dsimp only [Nat.reduceAdd]
  refine au (fun β=>(a7 (.of rfl))) bC rfl ?_
  dsimp only [Nat.zero_add,Nat.reduceAdd]
  with_reducible apply dH (ι:={x:Value×List gG // cJ x.2=cJ l}) (Φ:=fun _=>True) (val:=fun z=>z.1.1) (own:=fun z=>[row 182 2 z.1.1 z.1.2.length (lf z.1.2).flatten,IJ z.1.2]) (g:=GN l) (B:=[]) (args:=fun _=>[.slice a l.length cp])
  case hg=>exact DT l
  case hB=>rfl
  case hr=>exact fun β=>aY (.of rfl) (.cons (.of rfl) .nil) inferInstance rfl
  case hd=>rfl
  case hc=>exact fun β w' hb=>bh.sub (q7 (Rd.keeps hw hb.mem.keeps) (hM.keeps hb.mem.keeps) (by omega) zP)
  dsimp only [Nat.reduceAdd]
  (refine au (fun β=>(ao (.of rfl) ae)) bC rfl<|au (fun β=>(ag (.of rfl) (At.lit bT rfl))) bC rfl ?_)
  dsimp only [Nat.zero_add,Nat.reduceAdd]
  with_reducible apply dH (ι:=Value) (Φ:=fun _=>True) (val:=fun x=>.tuple #[x,.int .i64 0]) (own:=fun x=>[row 9 1 x (r.lv.toNat) (aM (br (r.wp qj) y))]) (g:=id) (B:=[1,3]) (args:=fun β=>[.agg #[.int .i64 r.lv,.int .i64 r.ma,(g4 (β 1)).1,(g4 (β 1)).2.1,(g4 (β 1)).2.2.1,(g4 (β 1)).2.2.2],(GN l (β 3)).1.1,.string y,.int .i64 (10000000)])
  case hg=>exact fun x=>⟨x,rfl⟩
  case hB=>kernel_rfl
  case hr=>exact fun β=>aY (.of rfl) (.cons (.of rfl) (.cons (.of rfl) (.cons (.of rfl) (.cons (.of rfl) .nil)))) inferInstance rfl
  case hd=>rfl
  case hc=>
   intro β w' hb
   have m1:=hb.at 1 Zt rfl
   have m2:=hb.at 3 (ZV _ Zt) rfl
   dsimp only at m1
   dsimp only [Zb,Za] at m2
   have m4:=Bh m1 (bn _ _)
   have m5:=ET (E:=182) m2 .here rfl
   have m6:=M7 m2 (.there .here)
   exact Dh (GN l (β 3)).2 m4 hF m5 m6 vZ Gw (fX _ _)
  dsimp only [id_eq,Nat.reduceAdd]
  with_reducible apply au (F:=fun β=>.tuple #[β 6,.int .i64 0])
  case hr=>(intro β;exact a7 (.of rfl))
  case hi=>exact fun β β' h=>by simp only [h 6 (by kernel_rfl)]
  case hd=>rfl
  dsimp only [Nat.reduceAdd]
  with_reducible apply au (F:=fun β=>β 6)
  case hr=>(intro β;exact dx (.of rfl) rfl)
  case hi=>exact fun β β' h=>by simp only [h 6 (by kernel_rfl)]
  case hd=>rfl
  dsimp only [Nat.reduceAdd]
  with_reducible apply au (F:=fun β=>.int .i64 0)
  case hr=>(intro β;exact dx (.of rfl) rfl)
  case hi=>exact bC
  case hd=>rfl
  dsimp only [Nat.reduceAdd]
  with_reducible apply au (F:=fun β=>β 6)
  case hr=>(intro β;exact cA (.of rfl))
  case hi=>exact fun β β' h=>by simp only [h 6 (by kernel_rfl)]
  case hd=>rfl
  dsimp only [Nat.reduceAdd]
  with_reducible apply au (F:=fun β=>.int .i64 0)
  case hr=>(intro β;exact cA (.of rfl))
  case hi=>exact bC
  case hd=>rfl
  dsimp only [Nat.reduceAdd]
  refine fh fun β=>?_
  unfold pC
  dsimp only [eu,Za,Zb,List.append_eq,Nat.reduceAdd]
  generalize β 6=xz
  generalize g4 (β 1)=y1
  generalize GN l (β 3)=y3
  clear β
  with_reducible refine cH (by kernel_rfl) ?_
  refine dR [row 9 1 (xz) (r.lv.toNat) (aM (br (r.wp qj) y)),row 9 1 (xe) (r.lv.toNat) (aM (br (r.wp q) y)),row 9 1 (.slice la r.lv.toNat lc) (r.lv.toNat) (aM (br (r.wp qj) y)),bG b9 (.cells #[.string y,.int .i64 mx,.bool pr] 88 (0,0)),JP b6 r s6 d6 t6 p6,J1 r (s6),J2 r (d6),J3 r (t6),row 188 3 (p6) (q).length (gR q),JQ b2 r s (.slice da r.de.length vz) t p] (by exact .cons jo (.cons jo (.cons jo (.cons jo (.cons jo (.cons jo (.cons jo (.cons jo (.cons jo (.cons jo .nil)))))))))) ?_
  (refine Jt<|Jr<|Jv rfl<|ab (nY (.of rfl) (.of rfl) rfl) rfl<|Jv rfl<|JK rfl rfl<|Jv rfl<|JK rfl rfl<|ab (nY (.of rfl) (.of rfl) rfl) rfl<|ab (k7 (.of rfl) (.of rfl) (.of rfl) rfl) rfl<|Jv rfl<|JK rfl rfl<|Jv rfl<|JK rfl rfl<|Jv rfl<|JK rfl rfl ?_)
  refine ai bd rfl (fun w1 aR=>y7 (dL (l:=br (r.wp q) y) (n:=r.lv.toNat) aR (by exact Take.there .here) (fX _ _)) (dL (l:=br (r.wp qj) y) (n:=r.lv.toNat) aR bT (fX _ _)) hle) ?_
  (refine JK rfl rfl<|JH rfl<|ab (k7 (.of rfl) (.of rfl) (.of rfl) rfl) rfl<|Jv rfl<|JK rfl rfl<|Jv rfl<|JK rfl rfl<|Jv rfl<|JK rfl rfl ?_)
  refine ai bd rfl (fun w1 aR=>y7 (dL (l:=br (r.wp qj) y) (n:=r.lv.toNat) aR (by exact .here) (fX _ _)) (dL (l:=br (r.wp qj) y) (n:=r.lv.toNat) aR bT (fX _ _)) rfl) ?_
  (refine JK rfl rfl<|JH rfl<|ab (k7 (.of rfl) (.of rfl) (.of rfl) rfl) rfl<|Jn<|bN (.of rfl)<|Jw<|Jj<|Jt<|Jg<|JB rfl (by omega)<|Jv rfl<|Jn ?_)
  apply aJ (k+1) (show k+1≤r.de.length from aK) (show r.de.length-(k+1)<r.de.length-k by omega)
  case hs1=>exact cd
  case ht=>exact .cons dO (.cons dO (.cons dO (.cons dO (.cons dO (.cons dO .nil)))))
 obtain rfl:k=r.de.length:=by omega
 refine Jr<|JA rfl<|Jn<|Jq<|Jc rfl fun ar=>Jp<|Jl<|Jo<|Jt<|Jr<|Ja rfl<|Jn<|Je<|JT ?_
 rfl
end Go.Proofs.A1
