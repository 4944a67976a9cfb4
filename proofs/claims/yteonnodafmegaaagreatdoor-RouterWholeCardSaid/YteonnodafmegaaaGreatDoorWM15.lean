/- Parts of the proof: WH. -/
import Derived.Test.YteonnodafmegaaaGreatDoorWM14
import Derived.Test.YteonnodafmegaaaGreatDoorWM04
set_option linter.unusedSectionVars false
set_option linter.unusedVariables false
set_option linter.unusedSimpArgs false
namespace Go.Proofs.A1
open Go Go.SL
theorem Oz {r:Ro} {q:List Po}:(r.wp q).lv=r.lv:=rfl
theorem Oy {r:Ro} {q:List Po}:(r.wp q).ma=r.ma:=rfl
theorem AW {r:Ro} {q:List Po}:(r.wp q).sr=r.sr:=rfl
theorem AX {r:Ro} {q:List Po}:(r.wp q).de=r.de:=rfl
theorem xz {r:Ro} {q:List Po}:(r.wp q).ti=r.ti:=rfl
theorem xA {r:Ro} {q:List Po}:(r.wp q).po=q:=rfl
theorem Cm (cur:List Value):∀ (l:List De) {k:Nat} (h:k<l.length),(iZ l++cur)[k*3]? = some (.string l[k].nm)
 | [],k,h=>absurd h (ZP _)
 | x::l,0,_=>rfl
 | x :: l, k + 1, h => by
  have:=Cm cur l (k:=k) (Nat.lt_of_succ_lt_succ h)
  show (De.cells x++iZ l++cur)[(k+1)*3]? = _
  rw [Zh,Zaf,ZK (by show 3≤_;omega)]
  show (iZ l++cur)[k*3+3-3]? = _
  rw [Zas,this];rfl
theorem pJ {r:Ro} {q:List Po} {s d t p:Value} {w:World} (h1:Rd w s 2 (uL r.sr)) (h2:Rd w d 3 (uy r.de)) (h3:Rd w t 3 (tX r.ti)) (h4:Rd w p 3 (td q)):RR w (r.wp q) s d t p:=⟨h1,h2,h3,h4⟩
theorem qv {r:Ro} (h:lD r) (q:List Po):lD (r.wp q):=h
theorem Fz {r:Ro} (eQ:fX r=0) (h:mn r) {q:List Po} (hq:iJ r q):mn (r.wp q):=⟨h.1,h.2.1,h.2.2.1,by
 have:=mU (CM eQ) hq
 show q.length≤1000000
 omega⟩
theorem pT {r:Ro} {s d t p:Value} {w:World} (h:RR w r s d t p) (hf:mn r):bu Tryz.prog 57 [.agg #[.int .i64 r.lv,.int .i64 r.ma,s,d,t,p]] w [] (fun _:Value×Value×Value×Value=>True) (fun x=>.agg #[.int .i64 r.lv,.int .i64 r.ma,x.1,x.2.1,x.2.2.1,x.2.2.2]) (fun x=>AI r x):=C8 h hf
theorem Aa {r:Ro} {s d t p:Value} {y:ByteArray} {w:World} (h:RR w r s d t p) (hf:lD r) (eQ:fX r=0) (hy:y∈cq r):bu Tryz.prog 20 [.agg #[.int .i64 r.lv,.int .i64 r.ma,s,d,t,p],.string y] w [] (fun _:Value=>True) (fun x=>.tuple #[x,.int .i64 0]) (fun x=>[row 9 1 x r.lv.toNat (aL (bo r y))]):=by
 have:=Py y h hf (J5 eQ hy).1 (J5 eQ hy).2
 rwa [jR] at this
theorem LV {r:Ro} {s d t p:Value} {y:ByteArray} {w:World} {k:Nat} (h:RR w r s d t p) (hf:lD r) (eQ:fX r=0) (hk:(k:Int)<r.lv) (hy:y∈cq r):bu Tryz.prog 22 [.agg #[.int .i64 r.lv,.int .i64 r.ma,s,d,t,p],.int .i64 (k:Nat),.string y] w [] (fun _:Value=>True) (fun x=>.tuple #[x,.int .i64 0]) (fun x=>[row 9 1 x (kH r (k:Nat) y).length (aL (kH r (k:Nat) y))]):=
 Pw _ y h hf (Hm eQ hk hy).1 (Hm eQ hk hy).2
theorem R6 {r:Ro} {s d t p:Value} {w:World} {k:Nat} (h:RR w r s d t p) (hf:lD r) (eQ:fX r=0) (hk:(k:Int)<r.lv):bu Tryz.prog 23 [.agg #[.int .i64 r.lv,.int .i64 r.ma,s,d,t,p],.int .i64 (k:Nat)] w [] (fun _:Value=>True) (fun x=>.tuple #[x,.int .i64 0]) (fun x=>[row 9 1 x ((cM r).filter (gV r.po (k:Nat))).length (aL ((cM r).filter (gV r.po (k:Nat))))]):=
 Pz _ h hf (KS eQ hk).1 (KS eQ hk).2
theorem EL {v1 v2:Value} {l m:List ByteArray} {w:World} (h1:Rd w v1 1 (im l)) (h2:Rd w v2 1 (im m)) (e:l=m):aj Tryz.prog 58 [v1,v2] w (.bool true):=by
 have:=zo h1 h2
 rwa [decide_eq_true e] at this
theorem xj {r:Ro} {s d t p:Value} {w:World} (h:RR w r s d t p) (hf:mn r) (eQ:fX r=0):aj Tryz.prog 25 [.agg #[.int .i64 r.lv,.int .i64 r.ma,s,d,t,p]] w (.int .i64 0):=by
 have:=pQ h hf
 rwa [eQ] at this
theorem Rx {lv:Value} {l:List ByteArray} {o:ByteArray} {w:World} (h:Rd w lv 1 (im l)) (e:o∈l):aj Tryz.prog 59 [lv,.string o] w (.bool true):=by
 have:=Kg o h
 rwa [eV.2 e] at this
theorem oY (l:List fu):(cr l).length=l.length:=Zd _
theorem Da {l:List fu} {i:Nat} (h:i<(cr l).length):(cr l)[i]=(l[i]'(by rw [← oY];exact h)).tk:=Z1 _
theorem uJ {L:List ByteArray} {x:ByteArray} (cur:List Value) {k:Nat} (h:L[k]? = some x):(aL L++cur)[k*1]? = some (.string x):=by
 obtain ⟨hk,rfl⟩:=Zl.1 h
 exact nV L cur hk
theorem LZ {c:Cx} {D:List Nat} {sl:aH} {hs:List bd} {X:Act→World→Prop} {ι:Type} (Φ:ι→Prop) (sM:ι→aH) (hM:ι→List bd) (h1:Tr c D sl hs (PE c D Φ sM hM)) (h2:∀ x,Φ x→Tr c D (sM x) (hM x) X):Tr c D sl hs X:=fun a w bh=>by
 obtain ⟨x,hx,h⟩:=h1 a w bh
 exact h2 x hx a w h
theorem HE {r:Ro} {L:List Tk} {n:Nat} {q:List Po} (h:l5 r L n q) (e:n=L.length):l5 r L L.length q:=e ▸ h
theorem Hn {r:Ro} (h:rR r) (v:Int) (y:ByteArray):(kH r v y).length≤8:=by
 have h1:=iC r.po v (r.ti.length+1) y
 have h2:=h.len.2.2
 unfold kH
 split
 ·exact Zi _
 ·rw [Zg,List.length_reverse,ZaE];omega
theorem mz {P:Program} {c:Cx} {sl:aH} {hs:List bd} {dst:Option Tmp} {ty:TypeId} {pos:String} {af:Array Edge} {g:Option (Nat×Bool)} {k:IntKind} {t u:TypeId} {x y:Operand} {a b:Int} (hx:Is sl x (.int k a)) (hy:Is sl y (.int k b)) (e:a=b) :
  cY P c sl hs ⟨dst,.binOp .neq t x y u,ty,pos,af,g⟩ (.bool false):=by
 have:=fa (P:=P) (c:=c) (hs:=hs) (dst:=dst) (ty:=ty) (pos:=pos) (af:=af) (g:=g) (t:=t) (u:=u) hx hy
 rwa [decide_eq_false (not_not_intro e)] at this
set_option maxRecDepth 20000 in
set_option maxHeartbeats 4000000 in
theorem FP {r:Ro} {s d t p kv:Value} {l:List fu} {w:World} (h:RR w r s d t p) (hw:Rd w kv 2 (iF l)) (hM:sR w l):aj Tryz.prog 6 [RA r s d t p,kv] w (.bool true):=by
 have h1:=Rd.one h.sr
 have h2:=Rd.one h.de
 have h3:=Rd.one h.ti
 have h4:=Rd.one h.po
 have AK:=hw
 obtain ⟨a,cp,b,o,rfl,dj,bV,ha,hc⟩:=AK
 have hs:=h.de
 obtain ⟨da,qz,db,do',rfl,aaA,O1,X0,vF⟩:=hs
 rw [du] at *
 rw [cn] at *
 have jt:∀ {w'},aJ [] w w'→aj Tryz.prog 55 [.agg #[.int .i64 r.lv,.int .i64 r.ma,s,.slice da r.de.length qz,t,p]] w' (.bool (r5 r&&decide (fX r=0))):=fun hk=>LQ (h.keeps hk)
 have I7:∀ {w'},aJ [] w w'→aj Tryz.prog 44 [.slice a l.length cp] w' (.bool (zj (cr l))):=fun hk=>zk (Rd.keeps hw hk) (hM.keeps hk)
 have DX:∀ {w'},aJ [] w w'→aj Tryz.prog 49 [.agg #[.int .i64 r.lv,.int .i64 r.ma,s,.slice da r.de.length qz,t,p],.slice a l.length cp] w' (.int .i64 (tH r (cr l))):=fun hk=>An (h.keeps hk) (Rd.keeps hw hk) (hM.keeps hk)
 unfold RA
 cases TH:(r5 r&&decide (fX r=0)) with
 | false =>
  rw [TH] at jt
  refine ah Tryz.func6 rfl rfl ?_
  (refine Jr<|Jy rfl rfl fun _ _=>Ja rfl<|Jn<|Jq<|Jr<|ai lC rfl (fun w' aA=>(nw w'))<|JH rfl<|Jv rfl<|aD rfl rfl inferInstance (fun hg bA=>(bT (.of rfl) .here ak (by rfl))) rfl<|dW rfl rfl (fun hg=>(aZ (.of rfl) (.cons (.bI hg rfl) .nil) inferInstance ez)) rfl (fun hg w' aA=>(jt (Mem.keeps aA)))<|aD rfl rfl inferInstance (fun hg bA=>(dU (.bI bA rfl))) rfl<|ab (a7 (.of rfl) rfl) rfl<|Jv rfl<|il rfl rfl rfl rfl<|dC rfl rfl rfl rfl<|aD rfl rfl inferInstance (fun hg bA=>(dU (.bI hg rfl))) rfl<|ab (a7 (.of rfl) rfl) rfl<|Jv rfl<|aD rfl rfl inferInstance (fun hg bA=>(bT (.of rfl) .here ak (by rfl))) rfl<|il rfl rfl rfl rfl<|dC rfl rfl rfl rfl<|dC rfl rfl rfl rfl<|ab (a7 (.of rfl) rfl) rfl<|Jn<|cP (.of rfl)<|Jr<|ai lC rfl (fun w' aA=>(nw w'))<|Ja rfl<|Jn<|Ju<|JT ?_)
  rfl
 | true=>
 cases VD:zj (cr l) with
 | false =>
  rw [TH] at jt
  rw [VD] at I7
  refine ah Tryz.func6 rfl rfl ?_
  (refine Jr<|Jy rfl rfl fun _ _=>Ja rfl<|Jn<|Jq<|Jr<|ai lC rfl (fun w' aA=>(nw w'))<|JH rfl<|Jv rfl<|aD rfl rfl inferInstance (fun hg bA=>(bT (.of rfl) .here ak (by rfl))) rfl<|dW rfl rfl (fun hg=>(aZ (.of rfl) (.cons (.bI hg rfl) .nil) inferInstance ez)) rfl (fun hg w' aA=>(jt (Mem.keeps aA)))<|aD rfl rfl inferInstance (fun hg bA=>(dU (.bI bA rfl))) rfl<|ab (a7 (.of rfl) rfl) rfl<|Jv rfl<|il rfl rfl rfl rfl<|dW rfl rfl (fun hg=>(aZ (.of rfl) (.cons (.bI hg rfl) .nil) inferInstance ez)) rfl (fun hg w' aA=>(I7 (Mem.keeps aA)))<|aD rfl rfl inferInstance (fun hg bA=>(dU (.bI hg rfl))) rfl<|ab (a7 (.of rfl) rfl) rfl<|Jv rfl<|aD rfl rfl inferInstance (fun hg bA=>(bT (.of rfl) .here ak (by rfl))) rfl<|il rfl rfl rfl rfl<|dC rfl rfl rfl rfl<|dC rfl rfl rfl rfl<|ab (a7 (.of rfl) rfl) rfl<|Jn<|cP (.of rfl)<|Jr<|ai lC rfl (fun w' aA=>(nw w'))<|Ja rfl<|Jn<|Ju<|JT ?_)
  rfl
 | true=>
 rw [TH] at jt
 rw [VD] at I7
 rw [Zm,decide_eq_true_iff] at TH
 obtain ⟨TS,eQ⟩:=TH
 have hA:wM r=true:=by
  unfold r5 at TS
  exact (Zm _ _ ▸ TS).1
 obtain ⟨Ug,hs4⟩:=Mn VD
 have hF:=HM hA
 have UJ:=uN hA
 clear TS VD hA
 by_cases hx:tH r (cr l)=0
 rotate_left
 ·refine ah Tryz.func6 rfl rfl ?_
  (refine Jr<|Jy rfl rfl fun _ _=>Ja rfl<|Jn<|Jq<|Jr<|ai lC rfl (fun w' aA=>(nw w'))<|JH rfl<|Jv rfl<|aD rfl rfl inferInstance (fun hg bA=>(bT (.of rfl) .here ak (by rfl))) rfl<|dW rfl rfl (fun hg=>(aZ (.of rfl) (.cons (.bI hg rfl) .nil) inferInstance ez)) rfl (fun hg w' aA=>(jt (Mem.keeps aA)))<|aD rfl rfl inferInstance (fun hg bA=>(dU (.bI bA rfl))) rfl<|ab (a7 (.of rfl) rfl) rfl<|Jv rfl<|il rfl rfl rfl rfl<|dW rfl rfl (fun hg=>(aZ (.of rfl) (.cons (.bI hg rfl) .nil) inferInstance ez)) rfl (fun hg w' aA=>(I7 (Mem.keeps aA)))<|aD rfl rfl inferInstance (fun hg bA=>(dU (.bI hg rfl))) rfl<|ab (a7 (.of rfl) rfl) rfl<|Jv rfl<|aD rfl rfl inferInstance (fun hg bA=>(bT (.of rfl) .here ak (by rfl))) rfl<|il rfl rfl rfl rfl<|dW rfl rfl (fun hg=>(aZ (.of rfl) (.cons (.bI hg rfl) (.cons (.bI hg rfl) .nil)) inferInstance ez)) rfl (fun hg w' aA=>(DX (Mem.keeps aA)))<|aD rfl rfl inferInstance (fun hg bA=>(fa (.bI hg rfl) (.of rfl))) rfl<|ab (a7 (.of rfl) rfl) rfl<|Jn<|Jd rfl fun az=>Jr<|ai lC rfl (fun w' aA=>(nw w'))<|Ja rfl<|Jn<|Ju<|JT ?_)
  rfl
 rw [hx] at DX
 obtain ⟨hne,hT⟩:=qR.1 hx
 have eJ:=CM eQ
 have Jf:∀ x∈l,x.tk.so.length≤1000:=fun x hx=>ZX (hs4 x hx) (by decide)
 obtain ⟨Q1,I1,E1,TU⟩:∃ Q o E,hP r (cr l)=(Q,o,E):=⟨_,_,_,rfl⟩
 have hX:gI r (cr l)=(Q1,I1,E1):=by
  unfold gI
  rw [if_neg (not_not_intro eQ),if_neg (not_not_intro hx)]
  exact TU
 refine ah Tryz.func6 rfl rfl ?_
 (refine Jr<|Jy rfl rfl fun _ _=>Ja rfl<|Jn<|Jq<|Jr<|ai lC rfl (fun w' aA=>(nw w'))<|JH rfl<|Jv rfl<|aD rfl rfl inferInstance (fun hg bA=>(bT (.of rfl) .here ak (by rfl))) rfl<|dW rfl rfl (fun hg=>(aZ (.of rfl) (.cons (.bI hg rfl) .nil) inferInstance ez)) rfl (fun hg w' aA=>(jt (Mem.keeps aA)))<|aD rfl rfl inferInstance (fun hg bA=>(dU (.bI bA rfl))) rfl<|ab (a7 (.of rfl) rfl) rfl<|Jv rfl<|il rfl rfl rfl rfl<|dW rfl rfl (fun hg=>(aZ (.of rfl) (.cons (.bI hg rfl) .nil) inferInstance ez)) rfl (fun hg w' aA=>(I7 (Mem.keeps aA)))<|aD rfl rfl inferInstance (fun hg bA=>(dU (.bI hg rfl))) rfl<|ab (a7 (.of rfl) rfl) rfl<|Jv rfl<|aD rfl rfl inferInstance (fun hg bA=>(bT (.of rfl) .here ak (by rfl))) rfl<|il rfl rfl rfl rfl<|dW rfl rfl (fun hg=>(aZ (.of rfl) (.cons (.bI hg rfl) (.cons (.bI hg rfl) .nil)) inferInstance ez)) rfl (fun hg w' aA=>(DX (Mem.keeps aA)))<|aD rfl rfl inferInstance (fun hg bA=>(fa (.bI hg rfl) (.of rfl))) rfl<|ab (a7 (.of rfl) rfl) rfl<|Jn<|bK (.of rfl)<|Jk<|Jr<|ab (cR .here) rfl ?_)
 rename_i b2 tL
 refine JN bN rfl (fun w1 aR=>gM (h.keeps aR.keeps) UJ) ?_
 rintro ⟨o1,o2,o3,o4⟩ _
 try dsimp only [id_eq,Zb,Za]
 refine di (r:=r) (s:=o1) (d:=o2) (t:=o3) (p:=o4) (a8 _ _) fun ma mb mc md=>?_
 refine Lq rfl rfl ?_
 refine JN bN rfl (fun w1 aR=>Fj (Rd.keeps hw aR.keeps) (hM.keeps aR.keeps) (by omega) Jf) ?_
 rintro ⟨gv,W⟩ hW
 try dsimp only [id_eq,Zb,Za]
 dsimp only at hW ⊢
 skip
 refine JN bj rfl (fun w1 aR=>K1 (q:=Q1) (i:=I1) (e_:=E1) ((congrArg (gI r) hW).trans hX) ⟨cK aR bL rfl,cL aR cW rfl,cJ aR dT rfl,cE aR eX rfl⟩ hF (lN aR (by exact .here) rfl) (V8 aR (by exact Take.there .here))) ?_
 rintro ⟨s6,d6,t6,p6⟩ _
 try dsimp only [id_eq,Zb,Za]
 refine di (r:=Q1) (s:=s6) (d:=d6) (t:=t6) (p:=p6) (a8 _ _) fun YY mb6 YV YS=>?_
 by_cases hE:E1=0
 rotate_left
 ·obtain ⟨i,hi,rfl,UK⟩:=Mt hne TU hE
  have gU:i<l.length:=by rwa [oY] at hi
  have cG:=ha (jk gU)
  have c0:w.cell? ⟨b,o+i*2,none⟩=some (.string (cr l)[i].de):=by rw [Da];exact (hc i _ (rW l gU)).2 0 _ rfl
  obtain ⟨j,hj,hfj,hpj⟩:=MI (hT.de _ (Zj hi))
  have Rn:∀ {w'},aJ [] w w'→aj Tryz.prog 56 [.agg #[.int .i64 r.lv,.int .i64 r.ma,s,.slice da r.de.length qz,t,p],.string (cr l)[i].de] w' (.int .i64 (j:Nat)):=fun hk=>by rw [← hfj];exact ux _ (h.keeps hk)
  have Ka:=X0 (fW hj)
  have c1:w.cell? ⟨db,do'+j*3+2,none⟩=some (.bool r.de[j].pr):=(vF j _ (eR hj)).2 2 _ rfl
  rw [hpj] at UK
  generalize r.de[j].pr=pr at c1 UK
  unfold maxLen at bV O1
  generalize (cr l)[i].de=dn at c0 Rn
  rcases UK with ⟨rfl,rfl⟩ | ⟨rfl,rfl⟩
  all_goals
   (refine Jv rfl<|JJ rfl rfl<|JJ rfl rfl<|JJ rfl rfl<|Jz rfl rfl fun _ _=>aq (.of rfl) (.of rfl) .here rfl rfl (gA rfl rfl YY mb6 YV YS) (bG rfl) ak<|Ja rfl<|Ja rfl<|Jn<|Jq<|Jr<|Jv rfl<|JD rfl<|Jn<|Jd rfl fun az=>Jq<|Jr<|Jv rfl<|JA rfl<|Jv rfl<|il rfl rfl rfl rfl<|il rfl rfl rfl rfl<|aD rfl rfl inferInstance (fun hg bA=>(bJ (.bI hg rfl))) rfl<|aD rfl rfl inferInstance (fun hg bA=>(uU (.bI hg rfl) (.bI hg rfl))) rfl<|ab (a7 (.of rfl) rfl) rfl<|Jn<|Jc rfl fun az=>Jk<|Jq ?_)
   with_reducible refine dE 13 (by kernel_rfl) ?_
   (refine nF rfl rfl ae<|aF (gT qJ) rfl<|aF (cR qJ) rfl<|ju rfl rfl<|ju rfl rfl<|aF (ar (.of rfl) (.of rfl) cG (by omega) (by omega) bb) rfl<|nF rfl rfl ae<|aF (ag (.of rfl) (At.base c0 rfl)) rfl<|fI bj rfl (fun w' aA=>(Rn (Mem.keeps aA)))<|aF (ar (.of rfl) (.of rfl) Ka (by omega) (by omega) bb) rfl<|nF rfl rfl ae<|aF (ag (.of rfl) (At.base c1 rfl)) rfl<|aF (cB (.of rfl)) rfl ?_)
   with_reducible refine dI ?_
   (first | (refine Ji<|Jv rfl<|JC rfl<|Jv rfl<|il rfl rfl rfl rfl<|ab (cD (.of rfl) rfl) rfl<|Jv rfl<|il rfl rfl rfl rfl<|aD rfl rfl inferInstance (fun hg bA=>(mX (.bI hg rfl) (.of rfl))) rfl<|aD rfl rfl inferInstance (fun hg bA=>(aN (.bI hg rfl))) rfl<|kB rfl rfl inferInstance (fun hg bA=>(aN (.of rfl))) rfl<|kB rfl rfl inferInstance (fun hg bA=>(have XQ:=(R9 hg);(dU (.bI XQ rfl)))) rfl<|aD rfl rfl inferInstance (fun hg bA=>(iw hg (.bI hg rfl) rfl)) rfl<|ab (a7 (.of rfl) rfl) rfl<|Ja rfl<|Jn<|Ju<|JT ?_) | (refine Ji<|Jv rfl<|JC rfl<|Jv rfl<|il rfl rfl rfl rfl<|ab (cD (.of rfl) rfl) rfl<|Jv rfl<|il rfl rfl rfl rfl<|aD rfl rfl inferInstance (fun hg bA=>(mX (.bI hg rfl) (.of rfl))) rfl<|aD rfl rfl inferInstance (fun hg bA=>(aN (.bI hg rfl))) rfl<|il rfl rfl rfl rfl<|aD rfl rfl inferInstance (fun hg bA=>(dU (.bI hg rfl))) rfl<|aD rfl rfl inferInstance (fun hg bA=>(cD (.bI hg rfl) rfl)) rfl<|ab (a7 (.of rfl) rfl) rfl<|Ja rfl<|Jn<|Ju<|JT ?_))
   rfl
 obtain ⟨q,gF,hQ,tu⟩:=r6 (r:=r) (l:=cr l) (by rw [TU];exact hE)
 rw [TU] at hQ
 obtain ⟨rfl,rfl,rfl⟩:Q1=r.wp q∧I1=0∧E1=0:=by
  injection hQ with e1 e2
  injection e2 with e2 e3
  exact ⟨e1,e2,e3⟩
 obtain ⟨Y4,_,_⟩:=od eQ hT gF
 have DY:=vV eQ Y4
 have hFq:lD (r.wp q):=qv hF q
 have xh:=Fz eQ UJ Y4
 have hjF:=fun {y} (hy:y∈cq r)=>LM eQ hT gF hy
 clear hQ hE TU hX
 try dsimp only [Oz,Oy,AW,AX,xz,xA]
 refine aT (E:=90) (sz:=3) (v:=d6) (by exact Take.there .here) fun vO mT e=>?_
 subst e
 (refine Jv rfl<|JJ rfl rfl<|JJ rfl rfl<|JJ rfl rfl<|Jz rfl rfl fun _ _=>aq (.of rfl) (.of rfl) .here rfl rfl (gA rfl rfl YY rfl YV YS) (bG rfl) ak<|Ja rfl<|Ja rfl<|Jn<|Jq<|Jr<|Jv rfl<|ab (mz (.of rfl) (.of rfl) rfl) rfl<|Jn<|bK (.of rfl)<|Jk<|Jq<|Jr<|Jv rfl<|ab (mz (.of rfl) (.of rfl) rfl) rfl<|Jv rfl<|JK rfl rfl<|ab (cR .here) rfl<|JK rfl rfl ?_)
 rename_i b6 hb6
 refine dF [JP b6 r s6 (.slice vO r.de.length mT) t6 p6,J1 r (s6),row 90 3 (.slice vO r.de.length mT) r.de.length (iZ r.de),J3 r (t6),row 188 3 (p6) (q).length (fO q),JQ b2 r s (.slice da r.de.length qz) t p] (by exact .cons .here (.cons .here (.cons .here (.cons .here (.cons .here (.cons pz .nil)))))) ?_
 refine JN bN rfl (fun w1 aR=>pT (r:=r.wp q) (pJ (cK (E:=186) aR (by exact Take.there .here) rfl) (cL (E:=90) aR bL rfl) (cJ (E:=187) aR cW rfl) (cE (E:=188) aR dT rfl)) xh) ?_
 rintro ⟨t1,t2,t3,t4⟩ _
 try dsimp only [id_eq,Zb,Za]
 refine ki (r:=r.wp q) (s:=t1) (d:=t2) (t:=t3) (p:=t4) (a8 _ _) fun na nb nc nd=>?_
 try dsimp only [AW,AX,xz,xA]
 refine Hu rfl rfl ?_
 refine ai bN rfl (fun w1 aR=>xj (r:=r.wp q) (pJ (cK (E:=118) aR (by exact .here) rfl) (cL (E:=88) aR (by exact Take.there .here) rfl) (cJ (E:=122) aR bL rfl) (cE (E:=180) aR cW rfl)) xh DY) ?_
 (refine JK rfl rfl<|ab (mz (.of rfl) (.of rfl) rfl) rfl<|ab (gC (.of rfl) (.of rfl) (.of rfl) rfl) rfl<|Jv rfl<|JK rfl rfl<|bS rfl rfl ae<|JK rfl rfl<|JL rfl dT rfl<|JK rfl rfl<|JI rfl<|JK rfl rfl<|bS rfl rfl ae<|JK rfl rfl<|JL rfl iE rfl<|JK rfl rfl<|JI rfl<|JK rfl rfl<|ab (mz (.of rfl) (.of rfl) rfl) rfl<|ab (gC (.of rfl) (.of rfl) (.of rfl) rfl) rfl<|Jn<|bK (.of rfl)<|Jk<|Jq<|Jr<|bS rfl rfl ae<|JL rfl iE rfl<|JI rfl<|Jv rfl<|Jn<|J0 ?_)
 refine dF [JP b6 r s6 (.slice vO r.de.length mT) t6 p6,J1 r (s6),row 90 3 (.slice vO r.de.length mT) r.de.length (iZ r.de),J3 r (t6),row 188 3 (p6) (q).length (fO q),JQ b2 r s (.slice da r.de.length qz) t p] (by exact .cons dT (.cons dT (.cons dT (.cons dT (.cons dT (.cons dT .nil)))))) ?_
 have z7:=eJ.lim
 have aan:=eJ.len
 unfold maxLen at bV O1
 refine aW (ι:=Nat) (fun k=>k≤r.de.length) (fun k=>[(120,.int .i64 (k:Nat)),(119,.int .i64 (r.de.length:Nat)),(118,.slice da r.de.length qz),(5,.pointer (some ⟨b6,0,none⟩)),(1,.slice a l.length cp),(2,.pointer (some ⟨b2,0,none⟩))]) (fun k=>[JP b6 r s6 (.slice vO r.de.length mT) t6 p6,J1 r (s6),row 90 3 (.slice vO r.de.length mT) r.de.length (iZ r.de),J3 r (t6),row 188 3 (p6) (q).length (fO q),JQ b2 r s (.slice da r.de.length qz) t p]) (fun k=>r.de.length-k) ?_ ?_
 ·apply aI 0 (show 0≤r.de.length from Zi _)
  case hs1=>exact cg
  case ht=>exact l6
 intro k hk
 try dsimp only at hk ⊢
 by_cases aM:k<r.de.length
 ·have Ka:=X0 (fW aM)
  have aB:=(vF k _ (eR aM)).2
  have hy:(r.de[k]).nm∈cq r:=Z3 (Zj aM)
  have Uz:=fun cur=>Cm cur r.de aM
  unfold De.cells at aB
  generalize (r.de[k]).nm=y at hy aB Uz
  generalize (r.de[k]).mx=mx at aB
  generalize (r.de[k]).pr=pr at aB
  (refine Jr<|JA rfl<|Jn<|Jq<|Jd rfl fun az=>Jk<|Jq<|J0<|Jr<|Jv rfl<|ab (ar (.of rfl) (.of rfl) Ka (by omega) az bb) rfl<|ab (gW (ew.base aB rfl)) rfl<|Jz rfl rfl fun _ _=>Ja rfl<|aq (.of rfl) (.of rfl) .here rfl rfl (fo rfl rfl rfl) (bG rfl) ak<|Jn<|Jq ?_)
  rename_i CS afB
  with_reducible refine dL 10 (by kernel_rfl) ?_
  refine an (fun β=>(bT (.of rfl) pz ak (by rfl))) bz rfl ?_
  dsimp only [Nat.zero_add,Nat.reduceAdd]
  with_reducible apply dp (ι:=Value×Value×Value×Value) (Φ:=fun _=>True) (val:=fun x=>.agg #[.int .i64 r.lv,.int .i64 r.ma,x.1,x.2.1,x.2.2.1,x.2.2.2]) (own:=fun x=>nS r x) (g:=g4) (B:=[]) (args:=fun β=>[.agg #[.int .i64 r.lv,.int .i64 r.ma,s,.slice da r.de.length qz,t,p]])
  case hg=>exact ln
  case hB=>first | rfl | kernel_rfl
  case hr=>exact fun β=>aZ (.of rfl) (.cons (.of rfl) .nil) inferInstance rfl
  case hd=>rfl
  case hc=>
   intro β w' hb
   exact gM (h.keeps hb.mem.keeps) UJ
  dsimp only [Nat.reduceAdd]
  (refine an (fun β=>(au (.of rfl) ae)) bz rfl<|an (fun β=>(ag (.of rfl) (At.lit .here rfl))) bz rfl ?_)
  dsimp only [Nat.zero_add,Nat.reduceAdd]
  with_reducible apply dp (ι:=Value) (Φ:=fun _=>True) (val:=fun x=>.tuple #[x,.int .i64 0]) (own:=fun x=>[row 9 1 x (r.lv.toNat) (aL (bo r y))]) (g:=id) (B:=[1]) (args:=fun β=>[.agg #[.int .i64 r.lv,.int .i64 r.ma,(g4 (β 1)).1,(g4 (β 1)).2.1,(g4 (β 1)).2.2.1,(g4 (β 1)).2.2.2],.string y])
  case hg=>exact fun x=>⟨x,rfl⟩
  case hB=>kernel_rfl
  case hr=>exact fun β=>aZ (.of rfl) ((.cons (.of rfl) (.cons (.of rfl) .nil))) inferInstance rfl
  case hd=>rfl
  case hc=>
   intro β w' hb
   have m1:=hb.at 1 Zq rfl
   dsimp only at m1
   have m4:=xW m1 (a8 _ _)
   exact Aa (r:=r) m4 hF eQ hy
  dsimp only [id_eq,Nat.reduceAdd]
  with_reducible apply an (F:=fun β=>.tuple #[β 4,.int .i64 0])
  case hr=>(intro β;exact aN (.of rfl))
  case hi=>exact fun β β' h=>by simp only [h 4 (by kernel_rfl)]
  case hd=>rfl
  dsimp only [Nat.reduceAdd]
  with_reducible apply an (F:=fun β=>β 4)
  case hr=>(intro β;exact dh (.of rfl) rfl)
  case hi=>exact fun β β' h=>by simp only [h 4 (by kernel_rfl)]
  case hd=>rfl
  dsimp only [Nat.reduceAdd]
  with_reducible apply an (F:=fun β=>.int .i64 0)
  case hr=>(intro β;exact dh (.of rfl) rfl)
  case hi=>exact bz
  case hd=>rfl
  dsimp only [Nat.reduceAdd]
  with_reducible apply an (F:=fun β=>β 4)
  case hr=>(intro β;exact cB (.of rfl))
  case hi=>exact fun β β' h=>by simp only [h 4 (by kernel_rfl)]
  case hd=>rfl
  dsimp only [Nat.reduceAdd]
  with_reducible apply an (F:=fun β=>.int .i64 0)
  case hr=>(intro β;exact cB (.of rfl))
  case hi=>exact bz
  case hd=>rfl
  dsimp only [Nat.reduceAdd]
  refine fh fun β=>?_
  unfold nS
  dsimp only [ei,Za,Zb,List.append_eq,Nat.reduceAdd]
  generalize β 4=xb
  generalize g4 (β 1)=y1
  clear β
  with_reducible refine cH (by kernel_rfl) ?_
  refine dF [row 9 1 (xb) (r.lv.toNat) (aL (bo r y)),bH CS (.cells #[.string y,.int .i64 mx,.bool pr] 88 (0,0)),JP b6 r s6 (.slice vO r.de.length mT) t6 p6,J1 r (s6),row 90 3 (.slice vO r.de.length mT) r.de.length (iZ r.de),J3 r (t6),row 188 3 (p6) (q).length (fO q),JQ b2 r s (.slice da r.de.length qz) t p] (by exact .cons dT (.cons dT (.cons dT (.cons dT (.cons dT (.cons dT (.cons dT (.cons dT .nil)))))))) ?_
  refine Jt<|Jq ?_
  with_reducible refine dL 11 (by kernel_rfl) ?_
  refine an (fun β=>(bT (.of rfl) bL ak (by rfl))) bz rfl ?_
  dsimp only [Nat.zero_add,Nat.reduceAdd]
  with_reducible apply dp (ι:=Value×Value×Value×Value) (Φ:=fun _=>True) (val:=fun x=>.agg #[.int .i64 r.lv,.int .i64 r.ma,x.1,x.2.1,x.2.2.1,x.2.2.2]) (own:=fun x=>AI (r.wp q) x) (g:=g4) (B:=[]) (args:=fun β=>[.agg #[.int .i64 r.lv,.int .i64 r.ma,s6,.slice vO r.de.length mT,t6,p6]])
  case hg=>exact ln
  case hB=>first | rfl | kernel_rfl
  case hr=>exact fun β=>aZ (.of rfl) (.cons (.of rfl) .nil) inferInstance rfl
  case hd=>rfl
  case hc=>
   intro β w' hb
   have m0:=hb.mem
   exact pT (pJ (cK (E:=186) m0 cW rfl) (cL (E:=90) m0 dT rfl) (cJ (E:=187) m0 eX rfl) (cE (E:=188) m0 pz rfl)) xh
  dsimp only [Nat.reduceAdd]
  with_reducible apply dp (ι:=Value×Value×Value×Value) (Φ:=fun _=>True) (val:=fun x=>.agg #[.int .i64 r.lv,.int .i64 r.ma,x.1,x.2.1,x.2.2.1,x.2.2.2]) (own:=fun x=>nS (r.wp q) x) (g:=g4) (B:=[1]) (args:=fun β=>[.agg #[.int .i64 r.lv,.int .i64 r.ma,(g4 (β 1)).1,(g4 (β 1)).2.1,(g4 (β 1)).2.2.1,(g4 (β 1)).2.2.2]])
  case hg=>exact ln
  case hB=>first | rfl | kernel_rfl
  case hr=>exact fun β=>aZ (.of rfl) (.cons (.of rfl) .nil) inferInstance rfl
  case hd=>rfl
  case hc=>
   intro β w' hb
   have m1:=hb.at 1 Zq rfl
   dsimp only at m1
   have m4:=xV m1 (a8 _ _)
   exact gM m4 xh
  dsimp only [Nat.reduceAdd]
  (refine an (fun β=>(au (.of rfl) ae)) bz rfl<|an (fun β=>(ag (.of rfl) (At.lit (.there .here) rfl))) bz rfl ?_)
  dsimp only [Nat.zero_add,Nat.reduceAdd]
  with_reducible apply dp (ι:=Value) (Φ:=fun _=>True) (val:=fun x=>.tuple #[x,.int .i64 0]) (own:=fun x=>[row 9 1 x (r.lv.toNat) (aL (bo (r.wp q) y))]) (g:=id) (B:=[2]) (args:=fun β=>[.agg #[.int .i64 r.lv,.int .i64 r.ma,(g4 (β 2)).1,(g4 (β 2)).2.1,(g4 (β 2)).2.2.1,(g4 (β 2)).2.2.2],.string y])
  case hg=>exact fun x=>⟨x,rfl⟩
  case hB=>kernel_rfl
  case hr=>exact fun β=>aZ (.of rfl) ((.cons (.of rfl) (.cons (.of rfl) .nil))) inferInstance rfl
  case hd=>rfl
  case hc=>
   intro β w' hb
   have m1:=hb.at 2 Zq rfl
   dsimp only at m1
   have m4:=xW m1 (a8 _ _)
   exact Aa (r:=r.wp q) m4 (qv hF q) DY hy
  dsimp only [id_eq,Nat.reduceAdd]
  with_reducible apply an (F:=fun β=>.tuple #[β 5,.int .i64 0])
  case hr=>(intro β;exact aN (.of rfl))
  case hi=>exact fun β β' h=>by simp only [h 5 (by kernel_rfl)]
  case hd=>rfl
  dsimp only [Nat.reduceAdd]
  with_reducible apply an (F:=fun β=>β 5)
  case hr=>(intro β;exact dh (.of rfl) rfl)
  case hi=>exact fun β β' h=>by simp only [h 5 (by kernel_rfl)]
  case hd=>rfl
  dsimp only [Nat.reduceAdd]
  with_reducible apply an (F:=fun β=>.int .i64 0)
  case hr=>(intro β;exact dh (.of rfl) rfl)
  case hi=>exact bz
  case hd=>rfl
  dsimp only [Nat.reduceAdd]
  with_reducible apply an (F:=fun β=>β 5)
  case hr=>(intro β;exact cB (.of rfl))
  case hi=>exact fun β β' h=>by simp only [h 5 (by kernel_rfl)]
  case hd=>rfl
  dsimp only [Nat.reduceAdd]
  with_reducible apply an (F:=fun β=>.int .i64 0)
  case hr=>(intro β;exact cB (.of rfl))
  case hi=>exact bz
  case hd=>rfl
  dsimp only [Nat.reduceAdd]
  refine fh fun β=>?_
  unfold nS AI
  dsimp only [ei,Za,Zb,List.append_eq,Nat.reduceAdd]
  generalize β 5=xa
  generalize g4 (β 1)=y1
  generalize g4 (β 2)=y2
  clear β
  with_reducible refine cH (by kernel_rfl) ?_
  refine dF [row 9 1 (xa) (r.lv.toNat) (aL (bo (r.wp q) y)),row 9 1 (xb) (r.lv.toNat) (aL (bo r y)),bH CS (.cells #[.string y,.int .i64 mx,.bool pr] 88 (0,0)),JP b6 r s6 (.slice vO r.de.length mT) t6 p6,J1 r (s6),row 90 3 (.slice vO r.de.length mT) r.de.length (iZ r.de),J3 r (t6),row 188 3 (p6) (q).length (fO q),JQ b2 r s (.slice da r.de.length qz) t p] (by exact .cons iW (.cons iW (.cons iW (.cons iW (.cons iW (.cons iW (.cons iW (.cons iW (.cons iW .nil))))))))) ?_
  refine aT (E:=9) (sz:=1) (v:=xb) (by exact Take.there .here) fun ba bc e=>?_
  subst e
  refine aT (E:=9) (sz:=1) (v:=xa) (by exact .here) fun aa ac e=>?_
  subst e
  refine Jt<|Jq<|Jq ?_
  refine cU (E:=90) (sz:=3) (v:=.slice vO r.de.length mT) eX (show 0<r.de.length by omega) ?_
  intro g6 cap_ U5 Nz hqa hqb OS hqd
  cases Nz
  have jv:=Uz U5
  with_reducible refine dE 31 (by kernel_rfl) ?_
  (refine ju rfl rfl<|aF (fa (.of rfl) (.of rfl)) rfl<|ju rfl rfl<|bn rfl rfl inferInstance (fun hg bA=>(aN (.of rfl))) rfl<|bn rfl rfl inferInstance (fun hg bA=>(fa (.bI hg rfl) (.of rfl))) rfl<|aF (a7 (.of rfl) rfl) rfl<|ju rfl rfl<|bn rfl rfl inferInstance (fun hg bA=>(aN (.of rfl))) rfl<|bn rfl rfl inferInstance (fun hg bA=>(bJ (.bI hg rfl))) rfl<|bn rfl rfl inferInstance (fun hg bA=>(au (.of rfl) ae)) rfl<|bn rfl rfl inferInstance (fun hg bA=>(ag (.bI hg rfl) (At.lit iW rfl))) rfl<|bn rfl rfl inferInstance (fun hg bA=>(fa (.bI hg rfl) (.bI hg rfl))) rfl<|aF (a7 (.of rfl) rfl) rfl<|ju rfl rfl<|bn rfl rfl inferInstance (fun hg bA=>(aN (.of rfl))) rfl<|bn rfl rfl inferInstance (fun hg bA=>(bJ (.bI hg rfl))) rfl<|bn rfl rfl inferInstance (fun hg bA=>(au (.of rfl) ae)) rfl<|bn rfl rfl inferInstance (fun hg bA=>(ag (.bI hg rfl) (At.lit iW rfl))) rfl<|bn rfl rfl inferInstance (fun hg bA=>(fa (.bI hg rfl) (.bI hg rfl))) rfl<|aF (a7 (.of rfl) rfl) rfl<|ju rfl rfl<|bn rfl rfl inferInstance (fun hg bA=>(au (.of rfl) ae)) rfl<|bn rfl rfl inferInstance (fun hg bA=>(ag (.bI hg rfl) (At.lit dT rfl))) rfl<|bn rfl rfl inferInstance (fun hg bA=>(aN (.of rfl))) rfl<|bn rfl rfl inferInstance (fun hg bA=>(ar (.bI hg rfl) (.bI hg rfl) rfl (by omega) az bb)) rfl<|bn rfl rfl inferInstance (fun hg bA=>(au (.bI hg rfl) ae)) rfl<|bn rfl rfl inferInstance (fun hg bA=>(ag (.bI hg rfl) (At.jL .here jv))) rfl<|bn rfl rfl inferInstance (fun hg bA=>(au (.of rfl) ae)) rfl<|bn rfl rfl inferInstance (fun hg bA=>(ag (.bI hg rfl) (At.lit cW rfl))) rfl<|bn rfl rfl inferInstance (fun hg bA=>(eZ (.bI hg rfl) (.bI hg rfl))) rfl<|aF (a7 (.of rfl) rfl) rfl ?_)
  with_reducible refine dI ?_
  (refine Jn<|pt rfl (fun az=>?_) fun az=>?_;refine Jr<|Ja rfl<|Jn<|Ju<|Jm<|Jh<|Jh<|Jm<|Jh<|JT ?_;rotate_left;refine Jk<|Jr<|Jv rfl<|Ja rfl<|Jn<|Jq<|Jr<|Jv rfl<|JI rfl<|Jv rfl<|Jn<|J0 ?_;rotate_right)
  ·exfalso
   rw [show (r.lv.toNat:Int)=r.lv by omega] at az
   simp at az
  refine cN (g:=g6) (E:=90) (sz:=3) (n:=r.de.length) (xs:=iZ r.de) (cur:=U5) (by exact .here) hqa hqb OS hqd ?_
  refine aQ 9 1 ?_
  refine aW (ι:=Nat×Bool×Option Addr×Nat×List ByteArray) (fun z=>z.1≤l.length∧cond z.2.1 z.2.2.2.2 (bo r y)=LN r (cr l) y z.1) (fun z=>[(176,.int .i64 (z.1:Nat)),(175,.int .i64 (l.length:Nat)),(174,.slice a l.length cp),(15,cond z.2.1 (.slice z.2.2.1 (z.2.2.2.2).length z.2.2.2.1) (.slice ba r.lv.toNat bc)),(11,.slice ba r.lv.toNat bc),(13,.slice aa r.lv.toNat ac),(10,.pointer (some ⟨CS,0,none⟩)),(120,.int .i64 (k:Nat)),(119,.int .i64 (r.de.length:Nat)),(118,.slice da r.de.length qz),(5,.pointer (some ⟨b6,0,none⟩)),(1,.slice a l.length cp),(2,.pointer (some ⟨b2,0,none⟩))]) (fun z=>[row 9 1 (.slice z.2.2.1 (z.2.2.2.2).length z.2.2.2.1) (z.2.2.2.2).length (aL (z.2.2.2.2)),row 9 1 (.slice ba r.lv.toNat bc) (r.lv.toNat) (aL (bo r y)),row 9 1 (.slice aa r.lv.toNat ac) (r.lv.toNat) (aL (bo (r.wp q) y)),bH CS (.cells #[.string y,.int .i64 mx,.bool pr] 88 (0,0)),JP b6 r s6 (.slice (some ⟨g6,0,none⟩) r.de.length mT) t6 p6,J1 r (s6),row 90 3 (.slice (some ⟨g6,0,none⟩) r.de.length mT) r.de.length (iZ r.de),J3 r (t6),row 188 3 (p6) (q).length (fO q),JQ b2 r s (.slice da r.de.length qz) t p]) (fun z=>l.length-z.1) ?_ ?_
  ·apply aI (0,false,none,0,[]) ⟨Zi _,rfl⟩
   case hs1=>exact cg
   case ht=>
    show bD _ (row 9 1 (.slice none 0 0) 0 []::_) _
    exact .cons .here (.cons bL (.cons (.there .here) (.cons (.there .here) (.cons (.there .here) (.cons (.there .here) (.cons .here (.cons .here (.cons .here (.cons .here .nil)))))))))
  rintro ⟨j,f,g,gc,W⟩ ⟨hj,hW⟩
  dsimp only at hj hW ⊢
  by_cases ep:j<l.length
  ·have cG:=ha (jk ep)
   have aB:=(hc j _ (rW l ep)).2
   have gJ:=Zj ep
   have Ce:=hM _ gJ
   have hls:=hT.lv l[j].tk (Z3 gJ)
   have j9:=AZ (r:=r) (L:=cr l) (y:=y) (j:=j) (by rw [oY];exact ep)
   rw [Da] at j9
   generalize hti:l[j]=ti at *
   obtain ⟨tk,tv⟩:=ti
   dsimp only at *
   obtain ⟨sa,HR,sb,P1,rfl,I8,vu,QS,QR⟩:=Ce
   rw [bW] at *
   unfold maxLen at vu
   have c3:w.cell? ⟨b,o+j*2,none⟩=some (.string tk.de):=aB 0 _ rfl
   have c4:w.cell? ⟨b,o+j*2+1,none⟩=some (.slice sa tk.so.length HR):=aB 1 _ rfl
   (refine Jr<|JA rfl<|Jn<|Jq<|Jd rfl fun az=>Jk<|Jq<|J0<|Jr<|ab (fM cG az) rfl<|ab (gW (ew.base aB rfl)) rfl<|Jz rfl rfl fun _ _=>aq (.of rfl) (.of rfl) .here rfl rfl (fY rfl rfl) (bG rfl) ak<|Jn<|Jq<|Jr<|bS rfl rfl ae<|JL rfl .here rfl<|bS rfl rfl ae<|JL rfl dT rfl<|ab (eZ (.of rfl) (.of rfl)) rfl<|Jn<|gm rfl (fun az=>?_) fun az=>?_;refine Jp<|Jo<|Jt<|Jg<|JB rfl (by omega)<|Jv rfl<|Jn ?_;rotate_left;refine Jk<|Jr<|Ja rfl<|Ji<|bS rfl rfl ae<|JL rfl .here rfl<|JI rfl<|Jv rfl<|Jn<|J0 ?_;rotate_right)
   ·rw [if_neg az,← hW] at j9
    with_reducible apply aK (j+1,f,g,gc,W) ⟨Zax ep,j9.symm⟩ (show l.length-(j+1)<l.length-j by omega)
    case hs1=>exact cg
    case ht=>exact l6
   have hd:tk.de=y:=Zo.1 az
   rw [if_pos hd] at j9
   refine aQ 9 1 ?_
   refine aW (ι:=Nat×Option Addr×Nat×List ByteArray) (fun z=>z.1≤tk.so.length∧z.2.2.2=CY r tk z.1) (fun z=>[(188,.int .i64 (z.1:Nat)),(187,.int .i64 (tk.so.length:Nat)),(186,.slice sa tk.so.length HR),(15,.slice z.2.1 (z.2.2.2).length z.2.2.1),(11,.slice ba r.lv.toNat bc),(176,.int .i64 (j:Nat)),(175,.int .i64 (l.length:Nat)),(174,.slice a l.length cp),(13,.slice aa r.lv.toNat ac),(10,.pointer (some ⟨CS,0,none⟩)),(120,.int .i64 (k:Nat)),(119,.int .i64 (r.de.length:Nat)),(118,.slice da r.de.length qz),(5,.pointer (some ⟨b6,0,none⟩)),(1,.slice a l.length cp),(2,.pointer (some ⟨b2,0,none⟩))]) (fun z=>[row 9 1 (.slice z.2.1 (z.2.2.2).length z.2.2.1) (z.2.2.2).length (aL (z.2.2.2)),row 9 1 (.slice ba r.lv.toNat bc) (r.lv.toNat) (aL (bo r y)),row 9 1 (.slice aa r.lv.toNat ac) (r.lv.toNat) (aL (bo (r.wp q) y)),bH CS (.cells #[.string y,.int .i64 mx,.bool pr] 88 (0,0)),JP b6 r s6 (.slice (some ⟨g6,0,none⟩) r.de.length mT) t6 p6,J1 r (s6),row 90 3 (.slice (some ⟨g6,0,none⟩) r.de.length mT) r.de.length (iZ r.de),J3 r (t6),row 188 3 (p6) (q).length (fO q),JQ b2 r s (.slice da r.de.length qz) t p]) (fun z=>tk.so.length-z.1) ?_ ?_
   ·apply aI (0,none,0,[]) ⟨Zi _,rfl⟩
    case hs1=>exact cg
    case ht=>
     show bD _ (row 9 1 (.slice none 0 0) 0 []::_) _
     exact .cons .here (.cons bL (.cons bL (.cons bL (.cons bL (.cons bL (.cons bL (.cons bL (.cons bL (.cons bL .nil)))))))))
   rintro ⟨i,g1,qn,L⟩ ⟨hi,hL⟩
   dsimp only at hi hL ⊢
   have Fi:L.length=i:=by rw [hL,Hb]
   by_cases Lx:i<tk.so.length
   ·have DP:=QS (lf Lx)
    have DO:w.cell? ⟨sb,P1+i*1,none⟩=some (.string tk.so[i]):=(QR i _ (ji Lx)).2 0 _ rfl
    have jv:tk.at i=tk.so[i]:=by unfold Tk.at;rw [Zk,Zc Lx];rfl
    have sx:=FO r tk i
    rw [← hL] at sx
    have hu:CX r tk i=if tk.so[i]=⟨#[]⟩ then jG r (i:Nat) tk.de else if tk.so[i]=⟨#[45]⟩ then ⟨#[]⟩ else tk.so[i]:=by unfold CX;rw [jv];rfl
    have hlh:i<(bo r y).length:=by rw [jR];omega
    have Kf:∀ cur,(aL (bo r y)++cur)[i*1]? = some (.string (jG r (i:Nat) tk.de)):=fun cur=>by
     rw [nV _ cur hlh,hd]
     have:=uq (r:=r) (y:=y) (k:=i) (by omega)
     rw [Zc hlh] at this
     rw [Option.some.inj this]
    have hlen:(aL L).length=L.length*1:=by rw [c7];omega
    generalize jG r (i:Nat) tk.de=ck at *
    generalize tk.so[i]=sk at *
    (refine Jr<|JA rfl<|Jn<|Jq<|Jd rfl fun az=>Jk<|Jq<|J0<|Jr<|Jv rfl<|ab (ar (.of rfl) (.of rfl) DP (by omega) az bb) rfl<|ab (ag (.of rfl) (At.base DO rfl)) rfl<|Ja rfl<|Ja rfl<|Ji<|Jv rfl<|Jn<|J0<|Jr<|ab (dG (.of rfl) (.of rfl)) rfl<|Ja rfl<|Jn<|gm rfl (fun az=>?_) fun az=>?_;refine Jg<|Jv rfl<|Jv rfl<|Jv rfl ?_;rotate_left;refine Jr<|ab (dG (.of rfl) (.of rfl)) rfl<|Ja rfl<|Jn<|gm rfl (fun az=>?_) fun az=>?_;refine Jg<|Jv rfl<|br (aC (.cons (.of rfl) .nil) rfl rfl rfl rfl) rfl fun _ _=>?_;rotate_left;refine Jg<|Jv rfl<|Jv rfl<|br (aC (.cons (.of rfl) .nil) rfl rfl rfl rfl) rfl fun _ _=>?_;rotate_right;rotate_right)
    ·have he:CX r tk i=ck:=by rw [hu,if_pos (by assumption)]
     rw [he] at sx
     refine cU (E:=9) (sz:=1) (v:=.slice ba r.lv.toNat bc) (by exact Take.there .here) (show 0<r.lv.toNat by omega) ?_
     intro gb cap_ U4 Nz Xc Xb Xa W9
     cases Nz
     have Cb:=Kf U4
     (refine ab (ar (.of rfl) (.of rfl) rfl (by omega) (by omega) bb) rfl ?_;refine ab (ag (.of rfl) (At.jL .here Cb)) rfl ?_;refine br (aC (.cons (.of rfl) .nil) rfl rfl rfl rfl) rfl fun _ _=>?_)
     refine cN (g:=gb) (E:=9) (sz:=1) (n:=r.lv.toNat) (xs:=aL (bo r y)) (cur:=U4) (by exact Take.there .here) Xc Xb Xa W9 ?_
     refine bF (.of rfl) (.of rfl) bL (.there .here) ak (by rfl) (en rfl) (by rfl) (by rfl) (by rfl) eC (by rfl) ?_
     intro z
     refine aT (v:=z) (by exact .here) fun gx cx e0=>?_
     subst e0
     rw [← rY,vi L (ck)]
     refine Ja rfl<|Jx<|Jj<|Jj<|Jt<|Jg<|JB rfl (by omega)<|Jv rfl<|Jn ?_
     apply aK (i+1,gx,cx,L++[ck]) ⟨Zax Lx,sx.symm⟩ (show tk.so.length-(i+1)<tk.so.length-i by omega)
     case hs1=>exact cg
     case ht=>
      dsimp only
      exact .cons .here (.cons .here (.cons (.there .here) (.cons (.there .here) (.cons (.there .here) (.cons (.there .here) (.cons (.there .here) (.cons (.there .here) (.cons (.there .here) (.cons (.there .here) .nil)))))))))
    ·have he:CX r tk i=⟨#[]⟩:=by rw [hu,if_neg (by assumption),if_pos (by assumption)]
     rw [he] at sx
     refine bF (.of rfl) (.of rfl) (.there .here) .here ak (by rfl) (en rfl) (by rfl) (by rfl) (by rfl) eC (by rfl) ?_
     intro z
     refine aT (v:=z) (by exact .here) fun gx cx e0=>?_
     subst e0
     rw [← rY,vi L (⟨#[]⟩)]
     refine Ja rfl<|Jx<|Jj<|Jj<|Jt<|Jg<|JB rfl (by omega)<|Jv rfl<|Jn ?_
     apply aK (i+1,gx,cx,L++[⟨#[]⟩]) ⟨Zax Lx,sx.symm⟩ (show tk.so.length-(i+1)<tk.so.length-i by omega)
     case hs1=>exact cg
     case ht=>
      dsimp only
      exact .cons .here (.cons (.there .here) (.cons (.there .here) (.cons (.there .here) (.cons (.there .here) (.cons (.there .here) (.cons (.there .here) (.cons (.there .here) (.cons (.there .here) (.cons (.there .here) .nil)))))))))
    ·have he:CX r tk i=sk:=by rw [hu,if_neg (by assumption),if_neg (by assumption)]
     rw [he] at sx
     refine bF (.of rfl) (.of rfl) (.there .here) .here ak (by rfl) (en rfl) (by rfl) (by rfl) (by rfl) eC (by rfl) ?_
     intro z
     refine aT (v:=z) (by exact .here) fun gx cx e0=>?_
     subst e0
     rw [← rY,vi L (sk)]
     refine Ja rfl<|Jx<|Jj<|Jj<|Jt<|Jg<|JB rfl (by omega)<|Jv rfl<|Jn ?_
     apply aK (i+1,gx,cx,L++[sk]) ⟨Zax Lx,sx.symm⟩ (show tk.so.length-(i+1)<tk.so.length-i by omega)
     case hs1=>exact cg
     case ht=>
      dsimp only
      exact .cons .here (.cons (.there .here) (.cons (.there .here) (.cons (.there .here) (.cons (.there .here) (.cons (.there .here) (.cons (.there .here) (.cons (.there .here) (.cons (.there .here) (.cons (.there .here) .nil)))))))))
   ·obtain rfl:i=tk.so.length:=by omega
    have hLw:L=yV r tk:=by rw [PJ,hL];congr 1;omega
    rw [← hLw] at j9
    refine Jr<|JA rfl<|Jn<|Jq<|Jc rfl fun az=>Jp<|Jl<|Jo<|Jj<|Jt<|Jg<|JB rfl (by omega)<|Jv rfl<|Jn ?_
    apply aK (j+1,true,g1,qn,L) ⟨Zax ep,(show L=LN r (cr l) y (j+1) from j9.symm)⟩ (show l.length-(j+1)<l.length-j by omega)
    case hs1=>exact cg
    case ht=>exact l6
  obtain rfl:j=l.length:=by omega
  rw [← oY,hjF hy] at hW
  refine Jr<|JA rfl<|Jn<|Jq<|Jc rfl fun az=>Jp<|Jl<|Jo<|Jt<|Jq<|Jr<|Jv rfl<|Jv rfl ?_
  refine LZ (fun x:Value×List ByteArray=>x.2=bo (r.wp q) y) (fun x=>[(215,x.1),(214,.slice aa r.lv.toNat ac),(13,.slice aa r.lv.toNat ac),(10,.pointer (some ⟨CS,0,none⟩)),(120,.int .i64 (k:Nat)),(119,.int .i64 (r.de.length:Nat)),(118,.slice da r.de.length qz),(5,.pointer (some ⟨b6,0,none⟩)),(1,.slice a l.length cp),(2,.pointer (some ⟨b2,0,none⟩))]) (fun x=>[row 9 1 x.1 x.2.length (aL x.2),row 9 1 (.slice aa r.lv.toNat ac) (r.lv.toNat) (aL (bo (r.wp q) y)),bH CS (.cells #[.string y,.int .i64 mx,.bool pr] 88 (0,0)),JP b6 r s6 (.slice (some ⟨g6,0,none⟩) r.de.length mT) t6 p6,J1 r (s6),row 90 3 (.slice (some ⟨g6,0,none⟩) r.de.length mT) r.de.length (iZ r.de),J3 r (t6),row 188 3 (p6) (q).length (fO q),JQ b2 r s (.slice da r.de.length qz) t p]) ?_ ?_
  ·cases f
   ·have Ym:bo r y=bo (r.wp q) y:=hW
    with_reducible apply Ez (.slice ba r.lv.toNat bc,bo r y) Ym
    case h1=>exact .cons rfl (.cons rfl (.cons rfl (.cons rfl (.cons rfl (.cons rfl (.cons rfl (.cons rfl (.cons rfl (.cons rfl .nil)))))))))
    case ht=>
     dsimp only
     rw [jR]
     exact .cons (.there .here) (.cons (.there .here) (.cons (.there .here) (.cons (.there .here) (.cons (.there .here) (.cons (.there .here) (.cons (.there .here) (.cons (.there .here) (.cons (.there .here) .nil))))))))
   ·have Ym:W=bo (r.wp q) y:=hW
    with_reducible apply Ez (.slice g W.length gc,W) Ym
    case h1=>exact .cons rfl (.cons rfl (.cons rfl (.cons rfl (.cons rfl (.cons rfl (.cons rfl (.cons rfl (.cons rfl (.cons rfl .nil)))))))))
    case ht=>exact l6
  rintro ⟨wv,W2⟩ hW2
  dsimp only at hW2 ⊢
  refine ai bj rfl (fun w1 aR=>EL (dM (l:=bo (r.wp q) y) (n:=r.lv.toNat) aR (by exact Take.there .here) (jR _ _)) (dM (l:=W2) aR (by exact .here) rfl) hW2.symm) ?_
  (refine JH rfl<|Jn<|bK (.of rfl)<|Jk<|Jr<|bS rfl rfl ae<|JL rfl iW rfl<|Jv rfl<|Jn<|J0 ?_)
  refine aW (ι:=Nat) (fun v=>v≤r.lv.toNat) (fun v=>[(220,.int .i64 (v:Nat)),(219,.int .i64 r.lv),(13,.slice aa r.lv.toNat ac),(10,.pointer (some ⟨CS,0,none⟩)),(120,.int .i64 (k:Nat)),(119,.int .i64 (r.de.length:Nat)),(118,.slice da r.de.length qz),(5,.pointer (some ⟨b6,0,none⟩)),(1,.slice a l.length cp),(2,.pointer (some ⟨b2,0,none⟩))]) (fun v=>[row 9 1 (.slice aa r.lv.toNat ac) (r.lv.toNat) (aL (bo (r.wp q) y)),bH CS (.cells #[.string y,.int .i64 mx,.bool pr] 88 (0,0)),JP b6 r s6 (.slice (some ⟨g6,0,none⟩) r.de.length mT) t6 p6,J1 r (s6),row 90 3 (.slice (some ⟨g6,0,none⟩) r.de.length mT) r.de.length (iZ r.de),J3 r (t6),row 188 3 (p6) (q).length (fO q),JQ b2 r s (.slice da r.de.length qz) t p]) (fun v=>r.lv.toNat-v) ?_ ?_
  ·apply aI 0 (show 0≤r.lv.toNat from Zi _)
   case hs1=>exact cg
   case ht=>exact l6
  intro v hv
  try dsimp only at hv ⊢
  by_cases Ra:v<r.lv.toNat
  ·have I3:((v:Nat):Int)<r.lv:=by omega
   have No:=Ho (r:=r.wp q) DY (v:=(v:Nat)) (y:=y) hy
   have WV:=Hn (CM DY) (v:Nat) y
   have Y6:v<(bo (r.wp q) y).length:=by rw [jR];exact Ra
   have Kf:∀ cur,(aL (bo (r.wp q) y)++cur)[v*1]? = some (.string (jG (r.wp q) (v:Nat) y)):=fun cur=>by
    rw [nV _ cur Y6]
    have:=uq (r:=r.wp q) (y:=y) (k:=v) I3
    rw [Zc Y6] at this
    rw [Option.some.inj this]
   refine Jr<|JA rfl<|Jn<|Jq<|Jd rfl fun az=>Jk<|Jq<|J0<|Jr<|Jv rfl<|Ja rfl<|Jn<|Jq ?_
   with_reducible refine dL 12 (by kernel_rfl) ?_
   refine an (fun β=>(bT (.of rfl) bL ak (by rfl))) bz rfl ?_
   dsimp only [Nat.zero_add,Nat.reduceAdd]
   with_reducible apply dp (ι:=Value×Value×Value×Value) (Φ:=fun _=>True) (val:=fun x=>.agg #[.int .i64 r.lv,.int .i64 r.ma,x.1,x.2.1,x.2.2.1,x.2.2.2]) (own:=fun x=>AI (r.wp q) x) (g:=g4) (B:=[]) (args:=fun β=>[.agg #[.int .i64 r.lv,.int .i64 r.ma,s6,.slice (some ⟨g6,0,none⟩) r.de.length mT,t6,p6]])
   case hg=>exact ln
   case hB=>first | rfl | kernel_rfl
   case hr=>exact fun β=>aZ (.of rfl) (.cons (.of rfl) .nil) inferInstance rfl
   case hd=>rfl
   case hc=>
    intro β w' hb
    have m0:=hb.mem
    exact pT (pJ (cK (E:=186) m0 cW rfl) (cL (E:=90) m0 dT rfl) (cJ (E:=187) m0 eX rfl) (cE (E:=188) m0 pz rfl)) xh
   dsimp only [Nat.reduceAdd]
   with_reducible apply dp (ι:=Value×Value×Value×Value) (Φ:=fun _=>True) (val:=fun x=>.agg #[.int .i64 r.lv,.int .i64 r.ma,x.1,x.2.1,x.2.2.1,x.2.2.2]) (own:=fun x=>nS (r.wp q) x) (g:=g4) (B:=[1]) (args:=fun β=>[.agg #[.int .i64 r.lv,.int .i64 r.ma,(g4 (β 1)).1,(g4 (β 1)).2.1,(g4 (β 1)).2.2.1,(g4 (β 1)).2.2.2]])
   case hg=>exact ln
   case hB=>first | rfl | kernel_rfl
   case hr=>exact fun β=>aZ (.of rfl) (.cons (.of rfl) .nil) inferInstance rfl
   case hd=>rfl
   case hc=>
    intro β w' hb
    have m1:=hb.at 1 Zq rfl
    dsimp only at m1
    have m4:=xV m1 (a8 _ _)
    exact gM m4 xh
   dsimp only [Nat.reduceAdd]
   (refine an (fun β=>(aN (.of rfl))) bz rfl<|an (fun β=>(au (.of rfl) ae)) bz rfl<|an (fun β=>(ag (.of rfl) (At.lit (.there .here) rfl))) bz rfl ?_)
   dsimp only [Nat.zero_add,Nat.reduceAdd]
   with_reducible apply dp (ι:=Value) (Φ:=fun _=>True) (val:=fun x=>.tuple #[x,.int .i64 0]) (own:=fun x=>[row 9 1 x ((kH (r.wp q) (v:Nat) y).length) (aL (kH (r.wp q) (v:Nat) y))]) (g:=id) (B:=[2]) (args:=fun β=>[.agg #[.int .i64 r.lv,.int .i64 r.ma,(g4 (β 2)).1,(g4 (β 2)).2.1,(g4 (β 2)).2.2.1,(g4 (β 2)).2.2.2],.int .i64 (v:Nat),.string y])
   case hg=>exact fun x=>⟨x,rfl⟩
   case hB=>kernel_rfl
   case hr=>exact fun β=>aZ (.of rfl) ((.cons (.of rfl) (.cons (.of rfl) (.cons (.of rfl) .nil)))) inferInstance rfl
   case hd=>rfl
   case hc=>
    intro β w' hb
    have m1:=hb.at 2 Zq rfl
    dsimp only at m1
    have m4:=xW m1 (a8 _ _)
    exact LV (r:=r.wp q) m4 (qv hF q) DY I3 hy
   dsimp only [id_eq,Nat.reduceAdd]
   with_reducible apply an (F:=fun β=>.tuple #[β 6,.int .i64 0])
   case hr=>(intro β;exact aN (.of rfl))
   case hi=>exact fun β β' h=>by simp only [h 6 (by kernel_rfl)]
   case hd=>rfl
   dsimp only [Nat.reduceAdd]
   with_reducible apply an (F:=fun β=>β 6)
   case hr=>(intro β;exact dh (.of rfl) rfl)
   case hi=>exact fun β β' h=>by simp only [h 6 (by kernel_rfl)]
   case hd=>rfl
   dsimp only [Nat.reduceAdd]
   with_reducible apply an (F:=fun β=>.int .i64 0)
   case hr=>(intro β;exact dh (.of rfl) rfl)
   case hi=>exact bz
   case hd=>rfl
   dsimp only [Nat.reduceAdd]
   with_reducible apply an (F:=fun β=>β 6)
   case hr=>(intro β;exact cB (.of rfl))
   case hi=>exact fun β β' h=>by simp only [h 6 (by kernel_rfl)]
   case hd=>rfl
   dsimp only [Nat.reduceAdd]
   with_reducible apply an (F:=fun β=>.int .i64 0)
   case hr=>(intro β;exact cB (.of rfl))
   case hi=>exact bz
   case hd=>rfl
   dsimp only [Nat.reduceAdd]
   refine fh fun β=>?_
   unfold nS AI
   dsimp only [ei,Za,Zb,List.append_eq,Nat.reduceAdd]
   generalize β 6=xw
   generalize g4 (β 1)=y1
   generalize g4 (β 2)=y2
   clear β
   with_reducible refine cH (by kernel_rfl) ?_
   refine dF [row 9 1 (xw) ((kH (r.wp q) (v:Nat) y).length) (aL (kH (r.wp q) (v:Nat) y)),row 9 1 (.slice aa r.lv.toNat ac) (r.lv.toNat) (aL (bo (r.wp q) y)),bH CS (.cells #[.string y,.int .i64 mx,.bool pr] 88 (0,0)),JP b6 r s6 (.slice (some ⟨g6,0,none⟩) r.de.length mT) t6 p6,J1 r (s6),row 90 3 (.slice (some ⟨g6,0,none⟩) r.de.length mT) r.de.length (iZ r.de),J3 r (t6),row 188 3 (p6) (q).length (fO q),JQ b2 r s (.slice da r.de.length qz) t p] (by exact .cons iW (.cons iW (.cons iW (.cons iW (.cons iW (.cons iW (.cons iW (.cons iW (.cons iW .nil))))))))) ?_
   refine Jt<|Jr<|ab (cR cW) rfl ?_
   refine JN bN rfl (fun w1 aR=>pT (r:=r.wp q) (pJ (cK (E:=186) aR dT rfl) (cL (E:=90) aR eX rfl) (cJ (E:=187) aR pz rfl) (cE (E:=188) aR AH rfl)) xh) ?_
   rintro ⟨t1,t2,t3,t4⟩ _
   try dsimp only [id_eq,Zb,Za]
   refine ki (r:=r.wp q) (s:=t1) (d:=t2) (t:=t3) (p:=t4) (a8 _ _) fun na nb nc nd=>?_
   try dsimp only [AW,AX,xz,xA]
   skip
   refine JN bN rfl (fun w1 aR=>gM (r:=r.wp q) (pJ (cK (E:=118) aR (by exact .here) rfl) (cL (E:=88) aR (by exact Take.there .here) rfl) (cJ (E:=122) aR bL rfl) (cE (E:=180) aR cW rfl)) xh) ?_
   rintro ⟨u1,u2,u3,u4⟩ _
   try dsimp only [id_eq,Zb,Za]
   refine di (r:=r.wp q) (s:=u1) (d:=u2) (t:=u3) (p:=u4) (a8 _ _) fun la lb lc ld=>?_
   try dsimp only [AW,AX,xz,xA]
   refine Lq rfl rfl ?_
   refine JN bj rfl (fun w1 aR=>R6 (r:=r.wp q) (k:=v) (pJ (cK (E:=186) aR (by exact .here) rfl) (cL (E:=90) aR (by exact Take.there .here) rfl) (cJ (E:=187) aR bL rfl) (cE (E:=188) aR cW rfl)) (qv hF q) DY I3) ?_
   rintro bv _
   try dsimp only [id_eq,Zb,Za]
   try dsimp only [xz,xA]
   refine Jv rfl<|JJ rfl rfl<|JJ rfl rfl<|Ja rfl<|Ja rfl<|Jn<|Jq<|Jq ?_
   refine aT (E:=9) (sz:=1) (v:=bv) (by exact .here) fun va vc e=>?_
   subst e
   refine aT (E:=9) (sz:=1) (v:=xw) iE fun wa wc e=>?_
   subst e
   generalize kH (r.wp q) (v:Nat) y=T at No WV ⊢
   generalize jG (r.wp q) (v:Nat) y=cf at No Kf ⊢
   refine dF [row 9 1 (.slice va ((cM (r.wp q)).filter (gV q (v:Nat))).length vc) (((cM (r.wp q)).filter (gV q (v:Nat))).length) (aL ((cM (r.wp q)).filter (gV q (v:Nat)))),row 9 1 (.slice wa T.length wc) (T.length) (aL (T)),row 9 1 (.slice aa r.lv.toNat ac) (r.lv.toNat) (aL (bo (r.wp q) y)),bH CS (.cells #[.string y,.int .i64 mx,.bool pr] 88 (0,0)),JP b6 r s6 (.slice (some ⟨g6,0,none⟩) r.de.length mT) t6 p6,J1 r (s6),row 90 3 (.slice (some ⟨g6,0,none⟩) r.de.length mT) r.de.length (iZ r.de),J3 r (t6),row 188 3 (p6) (q).length (fO q),JQ b2 r s (.slice da r.de.length qz) t p] (by exact .cons .here (.cons iW (.cons iW (.cons iW (.cons iW (.cons iW (.cons iW (.cons iW (.cons iW (.cons iW .nil)))))))))) ?_
   by_cases xe:cf=⟨#[]⟩
   ·obtain rfl:=No.1 xe
    subst xe
    refine cU (E:=9) (sz:=1) (v:=.slice aa r.lv.toNat ac) bL (show 0<r.lv.toNat by omega) ?_
    intro ga cap_ KE Nz Q6 Q5 Q4 Q3
    cases Nz
    have Cb:=Kf KE
    with_reducible refine dL 51 (by kernel_rfl) ?_
    (refine an (fun β=>(aN (.of rfl))) bz rfl ?_;refine an (fun β=>(fa (.of rfl) (.of rfl))) bz rfl ?_;refine an (fun β=>(aN (.of rfl))) bz rfl ?_;refine bX rfl (fun _=>rfl) ?_;refine an (fun β=>(aN (.of rfl))) bz rfl ?_;refine bX rfl (fun _=>rfl) ?_;refine an (fun β=>(fa (.of rfl) (.of rfl))) bz rfl ?_;refine an (fun β=>(gC (.of rfl) (.of rfl) (.of rfl) rfl)) bz rfl ?_;refine an (fun β=>(aN (.of rfl))) bz rfl ?_;refine bX rfl (fun _=>rfl) ?_;refine an (fun β=>(aN (.of rfl))) bz rfl ?_;refine bX rfl (fun _=>rfl) ?_;refine an (fun β=>(aN (.of rfl))) bz rfl ?_;refine bX rfl (fun _=>rfl) ?_;refine an (fun β=>(ar (.of rfl) (.of rfl) rfl (by omega) (by omega) bb)) bz rfl ?_;refine bX rfl (fun _=>rfl) ?_;refine an (fun β=>(ag (.of rfl) (At.jL .here Cb))) bz rfl ?_;refine bX rfl (fun _=>rfl) ?_;refine an (fun β=>(dG (.of rfl) (.of rfl))) bz rfl ?_;refine bX rfl (fun _=>rfl) ?_;refine an (fun β=>(aN (.of rfl))) bz rfl ?_;refine bX rfl (fun _=>rfl) ?_;refine an (fun β=>(aN (.of rfl))) bz rfl ?_;refine bX rfl (fun _=>rfl) ?_;refine an (fun β=>(bJ (.of rfl))) bz rfl ?_;refine bX rfl (fun _=>rfl) ?_;refine an (fun β=>(km (.of rfl) (.of rfl))) bz rfl ?_;refine bX rfl (fun _=>rfl) ?_;refine an (fun β=>(gC (.of rfl) (.of rfl) (.of rfl) rfl)) bz rfl ?_;refine an (fun β=>(gC (.of rfl) (.of rfl) (.of rfl) rfl)) bz rfl ?_;refine an (fun β=>(aN (.of rfl))) bz rfl ?_;refine bX rfl (fun _=>rfl) ?_;refine an (fun β=>(aN (.of rfl))) bz rfl ?_;refine bX rfl (fun _=>rfl) ?_;refine an (fun β=>(aN (.of rfl))) bz rfl ?_;refine bX rfl (fun _=>rfl) ?_;refine an (fun β=>(ar (.of rfl) (.of rfl) rfl (by omega) (by omega) bb)) bz rfl ?_;refine bX rfl (fun _=>rfl) ?_;refine an (fun β=>(ag (.of rfl) (At.jL .here Cb))) bz rfl ?_;refine bX rfl (fun _=>rfl) ?_;refine an (fun β=>(eZ (.of rfl) (.of rfl))) bz rfl ?_;refine bX rfl (fun _=>rfl) ?_;refine an (fun β=>(aN (.of rfl))) bz rfl ?_;refine bP rfl (fun _=>rfl) (Or.inr rfl) rfl ?_;refine bP rfl (fun _=>rfl) (Or.inr rfl) rfl ?_;refine bP rfl (fun _=>rfl) (Or.inr rfl) rfl ?_;refine bP rfl (fun _=>rfl) (Or.inr rfl) rfl ?_;refine bP rfl (fun _=>rfl) (Or.inl rfl) rfl ?_;refine bP rfl (fun _=>rfl) (Or.inl rfl) rfl ?_;refine bP rfl (fun _=>rfl) (Or.inl rfl) rfl ?_;refine bP rfl (fun _=>rfl) (Or.inl rfl) rfl ?_;refine bP rfl (fun _=>rfl) (Or.inl rfl) rfl ?_;refine bP rfl (fun _=>rfl) (Or.inl rfl) rfl ?_;refine bP rfl (fun _=>rfl) (Or.inl rfl) rfl ?_;refine bP rfl (fun _=>rfl) (Or.inl rfl) rfl ?_;refine bP rfl (fun _=>rfl) (Or.inr rfl) rfl ?_;refine bP rfl (fun _=>rfl) (Or.inr rfl) rfl ?_;refine bP rfl (fun _=>rfl) (Or.inl rfl) rfl ?_;refine bP rfl (fun _=>rfl) (Or.inl rfl) rfl ?_;refine bP rfl (fun _=>rfl) (Or.inl rfl) rfl ?_;refine bP rfl (fun _=>rfl) (Or.inl rfl) rfl ?_;refine bP rfl (fun _=>rfl) (Or.inl rfl) rfl ?_;refine bP rfl (fun _=>rfl) (Or.inl rfl) rfl ?_;refine bP rfl (fun _=>rfl) (Or.inl rfl) rfl ?_;refine bP rfl (fun _=>rfl) (Or.inl rfl) rfl ?_;refine bP rfl (fun _=>rfl) (Or.inl rfl) rfl ?_;refine bP rfl (fun _=>rfl) (Or.inr rfl) rfl ?_;refine bX rfl (fun _=>rfl) ?_;refine an (fun β=>(gC (.of rfl) (.of rfl) (.of rfl) rfl)) bz rfl ?_;refine an (fun β=>(gC (.of rfl) (.of rfl) (.of rfl) rfl)) bz rfl ?_)
    refine fh fun β=>?_
    dsimp only [ei,Za,Zb,List.append_eq,Nat.reduceAdd]
    clear β
    with_reducible refine cH (by kernel_rfl) ?_
    (refine Jt<|bK (.of rfl)<|Jk<|Jr<|Ja rfl<|Jn<|J0 ?_)
    refine cN (g:=ga) (E:=9) (sz:=1) (n:=r.lv.toNat) (xs:=aL (bo (r.wp q) y)) (cur:=KE) (by exact .here) Q6 Q5 Q4 Q3 ?_
    refine aW (ι:=Nat) (fun m=>m=1) (fun m=>[(25,.int .i64 1),(21,.slice wa 0 wc),(220,.int .i64 (v:Nat)),(219,.int .i64 r.lv),(13,.slice (some ⟨ga,0,none⟩) r.lv.toNat ac),(10,.pointer (some ⟨CS,0,none⟩)),(120,.int .i64 (k:Nat)),(119,.int .i64 (r.de.length:Nat)),(118,.slice da r.de.length qz),(5,.pointer (some ⟨b6,0,none⟩)),(1,.slice a l.length cp),(2,.pointer (some ⟨b2,0,none⟩))]) (fun m=>[row 9 1 (.slice (some ⟨ga,0,none⟩) r.lv.toNat ac) (r.lv.toNat) (aL (bo (r.wp q) y)),bH CS (.cells #[.string y,.int .i64 mx,.bool pr] 88 (0,0)),JP b6 r s6 (.slice (some ⟨g6,0,none⟩) r.de.length mT) t6 p6,J1 r (s6),row 90 3 (.slice (some ⟨g6,0,none⟩) r.de.length mT) r.de.length (iZ r.de),J3 r (t6),row 188 3 (p6) (q).length (fO q),JQ b2 r s (.slice da r.de.length qz) t p]) (fun m=>0) ?_ ?_
    ·apply aI 1 (by exact rfl)
     case hs1=>exact cg
     case ht=>exact l6
    rintro m rfl
    refine Jq<|Jr<|Jv rfl<|JB rfl (by omega)<|Jv rfl<|JI rfl<|JA rfl<|Jn<|Jc rfl fun az=>Jp<|Jl<|Jo<|Jj<|Jt<|Jg<|JB rfl (by omega)<|Jv rfl<|Jn ?_
    apply aK (v+1) (show v+1≤r.lv.toNat from Ra) (show r.lv.toNat-(v+1)<r.lv.toNat-v by omega)
    case hs1=>exact cg
    case ht=>exact l6
   ·obtain ⟨g2,gz,gl,gt⟩:=No.2 xe
    refine cU (E:=9) (sz:=1) (v:=.slice aa r.lv.toNat ac) bL (show 0<r.lv.toNat by omega) ?_
    intro ga cap_ KE Nz Q6 Q5 Q4 Q3
    cases Nz
    refine cU (E:=9) (sz:=1) (v:=.slice wa T.length wc) bL (show 0<T.length by omega) ?_
    intro gw cap_ KD Nz aed aec aeb aea
    cases Nz
    have Cb:=Kf KE
    have hT0:=uJ KD gz
    have hTl:(aL T++KD)[((T.length:Int)-1).toNat*1]? = some (.string y):=by
     rw [show ((T.length:Int)-1).toNat=T.length-1 by omega]
     exact uJ KD gl
    with_reducible refine dE 51 (by kernel_rfl) ?_
    (refine ju rfl rfl ?_;refine aF (fa (.of rfl) (.of rfl)) rfl ?_;refine ju rfl rfl ?_;refine bn rfl rfl inferInstance (fun hg bA=>(aN (.of rfl))) rfl ?_;refine bn rfl rfl inferInstance (fun hg bA=>(fa (.bI hg rfl) (.of rfl))) rfl ?_;refine aF (a7 (.of rfl) rfl) rfl ?_;refine ju rfl rfl ?_;refine bn rfl rfl inferInstance (fun hg bA=>(aN (.of rfl))) rfl ?_;refine bn rfl rfl inferInstance (fun hg bA=>(aN (.of rfl))) rfl ?_;refine bn rfl rfl inferInstance (fun hg bA=>(ar (.bI hg rfl) (.bI hg rfl) rfl (by omega) (by omega) bb)) rfl ?_;refine bn rfl rfl inferInstance (fun hg bA=>(ag (.bI hg rfl) (At.jL (.there .here) Cb))) rfl ?_;refine bn rfl rfl inferInstance (fun hg bA=>(dG (.bI hg rfl) (.of rfl))) rfl ?_;refine bn rfl rfl inferInstance (fun hg bA=>(aN (.bI hg rfl))) rfl ?_;refine bn rfl rfl inferInstance (fun hg bA=>(aN (.of rfl))) rfl ?_;refine bn rfl rfl inferInstance (fun hg bA=>(bJ (.bI hg rfl))) rfl ?_;refine bn rfl rfl inferInstance (fun hg bA=>(km (.bI hg rfl) (.of rfl))) rfl ?_;refine bn rfl rfl inferInstance (fun hg bA=>(cD (.bI hg rfl) rfl)) rfl ?_;refine aF (a7 (.of rfl) rfl) rfl ?_;refine ju rfl rfl ?_;refine bn rfl rfl inferInstance (fun hg bA=>(aN (.of rfl))) rfl ?_;refine bn rfl rfl inferInstance (fun hg bA=>(aN (.of rfl))) rfl ?_;refine bn rfl rfl inferInstance (fun hg bA=>(ar (.bI hg rfl) (.bI hg rfl) rfl (by omega) (by omega) bb)) rfl ?_;refine bn rfl rfl inferInstance (fun hg bA=>(ag (.bI hg rfl) (At.jL (.there .here) Cb))) rfl ?_;refine bn rfl rfl inferInstance (fun hg bA=>(eZ (.bI hg rfl) (.of rfl))) rfl ?_;refine bn rfl rfl inferInstance (fun hg bA=>(aN (.bI hg rfl))) rfl ?_;refine dP rfl rfl inferInstance (fun hg bA=>(aN (.of rfl))) rfl ?_;refine dP rfl rfl inferInstance (fun hg bA=>(bJ (.bI hg rfl))) rfl ?_;refine dP rfl rfl inferInstance (fun hg bA=>(lg (.bI hg rfl) (.of rfl))) rfl ?_;refine dP rfl rfl inferInstance (fun hg bA=>(aN (.bI hg rfl))) rfl ?_;refine dP rfl rfl inferInstance (fun hg bA=>(aN (.of rfl))) rfl ?_;refine dP rfl rfl inferInstance (fun hg bA=>(ar (.bI hg rfl) (.of rfl) rfl (by omega) (by omega) bb)) rfl ?_;refine dP rfl rfl inferInstance (fun hg bA=>(ag (.bI hg rfl) (At.jL .here hT0))) rfl ?_;refine dP rfl rfl inferInstance (fun hg bA=>(aN (.of rfl))) rfl ?_;refine dP rfl rfl inferInstance (fun hg bA=>(aN (.of rfl))) rfl ?_;refine dP rfl rfl inferInstance (fun hg bA=>(ar (.bI hg rfl) (.bI hg rfl) rfl (by omega) (by omega) bb)) rfl ?_;refine dP rfl rfl inferInstance (fun hg bA=>(ag (.bI hg rfl) (At.jL (.there .here) Cb))) rfl ?_;refine dP rfl rfl inferInstance (fun hg bA=>(eZ (.bI hg rfl) (.bI hg rfl))) rfl ?_;refine dP rfl rfl inferInstance (fun hg bA=>(lR hg (.bI hg rfl) rfl)) rfl ?_;refine dP rfl rfl inferInstance (fun hg bA=>(aN (.bI hg rfl))) rfl ?_;refine dP rfl rfl inferInstance (fun hg bA=>(aN (.of rfl))) rfl ?_;refine dP rfl rfl inferInstance (fun hg bA=>(aN (.of rfl))) rfl ?_;refine dP rfl rfl inferInstance (fun hg bA=>(bJ (.bI hg rfl))) rfl ?_;refine dP rfl rfl inferInstance (fun hg bA=>(uP (.bI hg rfl) (.of rfl) (SB (by omega)))) rfl ?_;refine dP rfl rfl inferInstance (fun hg bA=>(ar (.bI hg rfl) (.bI hg rfl) rfl (by omega) (by omega) bb)) rfl ?_;refine dP rfl rfl inferInstance (fun hg bA=>(ag (.bI hg rfl) (At.jL .here hTl))) rfl ?_;refine dP rfl rfl inferInstance (fun hg bA=>(au (.of rfl) ae)) rfl ?_;refine dP rfl rfl inferInstance (fun hg bA=>(ag (.bI hg rfl) (At.lit cW rfl))) rfl ?_;refine dP rfl rfl inferInstance (fun hg bA=>(eZ (.bI hg rfl) (.bI hg rfl))) rfl ?_;refine dP rfl rfl inferInstance (fun hg bA=>(lR hg (.bI hg rfl) rfl)) rfl ?_;refine bn rfl rfl inferInstance (fun hg bA=>(iw hg (.bI hg rfl) rfl)) rfl ?_;refine aF (a7 (.of rfl) rfl) rfl ?_)
    with_reducible refine dI ?_
    (refine Jn<|pt rfl (fun az=>?_) fun az=>?_;refine Jr<|Ja rfl<|Jn<|Ju<|Jm<|Jh<|Jh<|Jm<|Jm<|Jh<|Jh<|Jm<|Jh<|JT ?_;rotate_left;refine Jk<|Jr<|Ja rfl<|Jn<|J0 ?_;rotate_right)
    ·exfalso
     simp [xe] at az
     omega
    refine cN (g:=ga) (E:=9) (sz:=1) (n:=r.lv.toNat) (xs:=aL (bo (r.wp q) y)) (cur:=KE) (by exact Take.there .here) Q6 Q5 Q4 Q3 ?_
    refine aW (ι:=Nat) (fun m=>1≤m∧m≤9) (fun m=>[(25,.int .i64 (m:Nat)),(23,.slice va ((cM (r.wp q)).filter (gV q (v:Nat))).length vc),(21,.slice (some ⟨gw,0,none⟩) T.length wc),(220,.int .i64 (v:Nat)),(219,.int .i64 r.lv),(13,.slice (some ⟨ga,0,none⟩) r.lv.toNat ac),(10,.pointer (some ⟨CS,0,none⟩)),(120,.int .i64 (k:Nat)),(119,.int .i64 (r.de.length:Nat)),(118,.slice da r.de.length qz),(5,.pointer (some ⟨b6,0,none⟩)),(1,.slice a l.length cp),(2,.pointer (some ⟨b2,0,none⟩))]) (fun m=>[bH gw (.cells (aL T++KD).toArray 9 (0,0)),row 9 1 (.slice va ((cM (r.wp q)).filter (gV q (v:Nat))).length vc) (((cM (r.wp q)).filter (gV q (v:Nat))).length) (aL ((cM (r.wp q)).filter (gV q (v:Nat)))),row 9 1 (.slice (some ⟨ga,0,none⟩) r.lv.toNat ac) (r.lv.toNat) (aL (bo (r.wp q) y)),bH CS (.cells #[.string y,.int .i64 mx,.bool pr] 88 (0,0)),JP b6 r s6 (.slice (some ⟨g6,0,none⟩) r.de.length mT) t6 p6,J1 r (s6),row 90 3 (.slice (some ⟨g6,0,none⟩) r.de.length mT) r.de.length (iZ r.de),J3 r (t6),row 188 3 (p6) (q).length (fO q),JQ b2 r s (.slice da r.de.length qz) t p]) (fun m=>20-m) ?_ ?_
    ·apply aI 1 ⟨Zz _,by decide⟩
     case hs1=>exact cg
     case ht=>exact l6
    rintro m ⟨Xv,hm9⟩
    by_cases T9:m+1<T.length
    ·obtain ⟨x,Y2,SC,hxm⟩:=gt m Xv T9
     have hTm:=uJ KD hxm
     have hmb:x∈(cM (r.wp q)).filter (gV q (v:Nat)):=Zv.2 ⟨Y2,SC⟩
     have hft:∀ {w'},aJ [] w w'→aj Tryz.prog 60 [.agg #[.int .i64 r.lv,.int .i64 r.ma,s,.slice da r.de.length qz,t,p],.string x] w' (.int .i64 (bE (cM r) x)):=fun hk=>uw x (h.keeps hk)
     have XS:¬ bE (cM r) x<0:=fun c=>cm.1 c Y2
     generalize bE (cM r) x=fx at hft XS
     refine Jq<|Jr<|Jv rfl<|JB rfl (by omega)<|Jv rfl<|JI rfl<|JA rfl<|Jn<|Jd rfl fun az=>Jk<|Jq<|J0<|Jq ?_
     with_reducible refine dE 16 (by kernel_rfl) ?_
     (refine ju rfl rfl ?_;refine ju rfl rfl ?_;refine ju rfl rfl ?_;refine aF (ar (.of rfl) (.of rfl) rfl (by omega) (by omega) bb) rfl ?_;refine aF (ag (.of rfl) (At.jL .here hTm)) rfl ?_;refine fI bj rfl (fun w' aA=>(Rx (dM aA (.there .here) rfl) hmb)) ?_;refine aF (dU (.of rfl)) rfl ?_;refine ju rfl rfl ?_;refine bn rfl rfl inferInstance (fun hg bA=>(bT (.of rfl) iE ak (by rfl))) rfl ?_;refine bn rfl rfl inferInstance (fun hg bA=>(aN (.of rfl))) rfl ?_;refine bn rfl rfl inferInstance (fun hg bA=>(aN (.of rfl))) rfl ?_;refine bn rfl rfl inferInstance (fun hg bA=>(ar (.bI bA rfl) (.bI bA rfl) rfl (by omega) (by omega) bb)) rfl ?_;refine bn rfl rfl inferInstance (fun hg bA=>(ag (.bI bA rfl) (At.jL .here hTm))) rfl ?_;refine qF rfl rfl (fun hg=>(aZ (.of rfl) (.cons (.bI hg rfl) (.cons (.bI hg rfl) .nil)) inferInstance ez)) rfl (fun hg w' aA=>(hft (Mem.keeps aA))) ?_;refine bn rfl rfl inferInstance (fun hg bA=>(lg (.bI bA rfl) (.of rfl))) rfl ?_;refine aF (a7 (.of rfl) rfl) rfl ?_)
     with_reducible refine dI ?_
     refine Jn<|Jc rfl fun az=>Jw<|Jj<|Jt<|Jg<|Jv rfl<|JB rfl (by omega)<|Ja rfl<|Jn ?_
     apply aK (m+1) ⟨Nat.succ_le_succ (Zi _),by omega⟩ (show 20-(m+1)<20-m by omega)
     case hs1=>exact cg
     case ht=>exact l6
    refine Jq<|Jr<|Jv rfl<|JB rfl (by omega)<|Jv rfl<|JI rfl<|JA rfl<|Jn<|Jc rfl fun az=>Jp<|Jl<|Jo<|Jj<|Jt<|Jg<|JB rfl (by omega)<|Jv rfl<|Jn ?_
    apply aK (v+1) (show v+1≤r.lv.toNat from Ra) (show r.lv.toNat-(v+1)<r.lv.toNat-v by omega)
    case hs1=>exact cg
    case ht=>exact .cons bL (.cons bL (.cons bL (.cons bL (.cons bL (.cons bL (.cons bL (.cons bL .nil)))))))
  obtain rfl:v=r.lv.toNat:=by omega
  refine Jr<|JA rfl<|Jn<|Jq<|Jc rfl fun az=>Jp<|Jl<|Jo<|Jj<|Jt<|Jg<|JB rfl (by omega)<|Jv rfl<|Jn ?_
  apply aK (k+1) (show k+1≤r.de.length from aM) (show r.de.length-(k+1)<r.de.length-k by omega)
  case hs1=>exact cg
  case ht=>exact .cons bL (.cons bL (.cons bL (.cons bL (.cons bL (.cons bL .nil)))))
 obtain rfl:k=r.de.length:=by omega
 refine Jr<|JA rfl<|Jn<|Jq<|Jc rfl fun az=>Jp<|Jl<|Jo<|Jt<|Jr<|ab (cR eX) rfl ?_
 refine JN bN rfl (fun w1 aR=>gM (h.keeps aR.keeps) UJ) ?_
 rintro ⟨v1,v2,v3,v4⟩ _
 try dsimp only [id_eq,Zb,Za]
 refine di (r:=r) (s:=v1) (d:=v2) (t:=v3) (p:=v4) (a8 _ _) fun ka kb kc kd=>?_
 (refine Jz rfl rfl fun _ _=>aq (.of rfl) (.of rfl) .here rfl rfl (gA rfl rfl ka kb kc kd) (bG rfl) ak<|Jn<|Jq<|Jr<|Jv rfl<|JI rfl<|Jv rfl<|Jn<|J0 ?_)
 rename_i Sb afu
 refine aW (ι:=Nat×List Po×Value×Value×Value×Value) (fun z=>z.1≤l.length∧l5 r (cr l) z.1 z.2.1) (fun z=>[(321,.int .i64 (z.1:Nat)),(320,.int .i64 (l.length:Nat)),(319,.slice a l.length cp),(26,.pointer (some ⟨Sb,0,none⟩)),(5,.pointer (some ⟨b6,0,none⟩)),(1,.slice a l.length cp),(2,.pointer (some ⟨b2,0,none⟩))]) (fun z=>[JP Sb r (z.2.2.1) (z.2.2.2.1) (z.2.2.2.2.1) (z.2.2.2.2.2),J1 r (z.2.2.1),J2 r (z.2.2.2.1),J3 r (z.2.2.2.2.1),row 188 3 (z.2.2.2.2.2) (z.2.1).length (fO z.2.1),JP b6 r s6 (.slice vO r.de.length mT) t6 p6,J1 r (s6),row 90 3 (.slice vO r.de.length mT) r.de.length (iZ r.de),J3 r (t6),row 188 3 (p6) (q).length (fO q),JQ b2 r s (.slice da r.de.length qz) t p]) (fun z=>l.length-z.1) ?_ ?_
 ·apply aI (0,r.po,v1,v2,v3,v4) ⟨Zi _,l5.start r eJ (cr l)⟩
  case hs1=>exact cg
  case ht=>exact l6
 rintro ⟨j,qj,s7,d7,t7,p7⟩ ⟨hj,hS⟩
 dsimp only at hj hS ⊢
 have Y5:=hS.val
 have X7:=vV eQ Y5
 have hFj:lD (r.wp qj):=qv hF qj
 have NK:=Fz eQ UJ Y5
 by_cases ep:j<l.length
 ·have cG:=ha (jk ep)
  have aB:=(hc j _ (rW l ep)).2
  have gJ:=Zj ep
  have Ce:=hM _ gJ
  have hs9:=Jf _ gJ
  obtain ⟨Q2,I2,E2,hX2⟩:∃ Q o E,gI (r.wp qj) [l[j].tk]=(Q,o,E):=⟨_,_,_,rfl⟩
  have wW:=HC eQ hT tu (j:=j) (by rw [oY];exact ep) hS (Q:=Q2) (I:=I2) (E:=E2) (by rw [Da];exact hX2)
  generalize hti:l[j]=ti at *
  obtain ⟨⟨xd,xs⟩,xv⟩:=ti
  dsimp only at *
  have hv1:=Rd.one Ce
  (refine Jr<|JA rfl<|Jn<|Jq<|Jd rfl fun az=>Jk<|Jq<|J0<|Jr<|ab (fM cG az) rfl<|ab (gW (ew.base aB rfl)) rfl<|Jz rfl rfl fun _ _=>aq (.of rfl) (.of rfl) .here rfl rfl (fY rfl hv1) (bG rfl) ak<|Jn<|Jq ?_)
  rename_i b28 aft
  with_reducible refine rV 13 [11] (by kernel_rfl) (ZA.2 ⟨rf rfl (by kernel_rfl) (by kernel_rfl),fun _ h=>absurd h Zp⟩) ?_
  refine an (fun β=>(bT (.of rfl) (.there .here) ak (by rfl))) bz rfl ?_
  dsimp only [Nat.zero_add,Nat.reduceAdd]
  with_reducible apply dp (ι:=Value×Value×Value×Value) (Φ:=fun _=>True) (val:=fun x=>.agg #[.int .i64 r.lv,.int .i64 r.ma,x.1,x.2.1,x.2.2.1,x.2.2.2]) (own:=fun x=>AI (r.wp qj) x) (g:=g4) (B:=[]) (args:=fun β=>[.agg #[.int .i64 r.lv,.int .i64 r.ma,s7,d7,t7,p7]])
  case hg=>exact ln
  case hB=>first | rfl | kernel_rfl
  case hr=>exact fun β=>aZ (.of rfl) (.cons (.of rfl) .nil) inferInstance rfl
  case hd=>rfl
  case hc=>
   intro β w' hb
   have m0:=hb.mem
   exact pT (pJ (cK (E:=186) m0 bL rfl) (cL (E:=90) m0 cW rfl) (cJ (E:=187) m0 dT rfl) (cE (E:=188) m0 eX rfl)) NK
  dsimp only [Nat.reduceAdd]
  with_reducible apply dp (ι:=Value×Value×Value×Value) (Φ:=fun _=>True) (val:=fun x=>.agg #[.int .i64 r.lv,.int .i64 r.ma,x.1,x.2.1,x.2.2.1,x.2.2.2]) (own:=fun x=>nS (r.wp qj) x) (g:=g4) (B:=[1]) (args:=fun β=>[.agg #[.int .i64 r.lv,.int .i64 r.ma,(g4 (β 1)).1,(g4 (β 1)).2.1,(g4 (β 1)).2.2.1,(g4 (β 1)).2.2.2]])
  case hg=>exact ln
  case hB=>first | rfl | kernel_rfl
  case hr=>exact fun β=>aZ (.of rfl) (.cons (.of rfl) .nil) inferInstance rfl
  case hd=>rfl
  case hc=>
   intro β w' hb
   have m1:=hb.at 1 Zq rfl
   dsimp only at m1
   have m4:=xV m1 (a8 _ _)
   exact gM m4 NK
  dsimp only [Nat.reduceAdd]
  refine an (fun β=>(bT (.of rfl) .here ak (by rfl))) bz rfl ?_
  refine kA (fun β=>(bB (.cons (.of rfl) .nil) rfl rfl bQ bQ ak)) (fun _ _ _=>rfl) rfl ?_
  dsimp only [Nat.reduceAdd]
  with_reducible apply dp (ι:=Nat×Nat×Value) (Φ:=fun _=>True) (val:=fun x=>.slice (some ⟨x.1,0,none⟩) 1 x.2.1) (own:=fun x=>[row 78 2 (.slice (some ⟨x.1,0,none⟩) 1 x.2.1) 1 [.string xd,x.2.2],row 9 1 x.2.2 xs.length (aL xs)]) (g:=RM) (B:=[4]) (args:=fun β=>[.slice (some ⟨fm (β 4),0,none⟩) 1 1])
  case hg=>exact RL
  case hB=>kernel_rfl
  case hr=>exact fun β=>aZ (.of rfl) (.cons (.of rfl) .nil) inferInstance rfl
  case hd=>rfl
  case hc=>
   intro β w' hb
   have m3:=hb.at 4 Zq (s:=⟨fun β=>.slice (some ⟨fm (β 4),0,none⟩) 1 1,fun β=>[bH (fm (β 4)) (.cells #[.string xd,xv] 69 (0,0))]⟩) rfl
   dsimp only [Zb,Za] at m3
   exact Km (Wk m3 .here) (Ce.keeps hb.mem.keeps) hs9
  dsimp only [Nat.reduceAdd]
  with_reducible apply an (F:=fun β=>.pointer (some ⟨(RM (β 5)).1,0,none⟩))
  case hr=>(intro β;exact ar (.of rfl) (.of rfl) rfl (by omega) (by omega) bb)
  case hi=>exact fun β β' h=>by simp only [h 5 (by kernel_rfl)]
  case hd=>rfl
  dsimp only [Nat.reduceAdd]
  with_reducible apply Vj (j:=5) (F:=fun β=>.agg #[.string xd,(RM (β 5)).2.2])
  case hS=>rfl
  case hw=>kernel_rfl
  case hr=>exact fun β=>jc (.of rfl) (ew.Wj .here) rfl
  case hi=>exact fun β β' h=>by simp only [h 5 (by kernel_rfl)]
  case hd=>rfl
  dsimp only [Nat.reduceAdd]
  with_reducible apply dp (ι:=Value×Value×Value×Value) (Φ:=fun _=>True) (val:=fun y=>.tuple #[.agg #[.int .i64 (Q2).lv,.int .i64 (Q2).ma,y.1,y.2.1,y.2.2.1,y.2.2.2],.int .i64 E2]) (own:=fun y=>nS Q2 y) (g:=g4) (B:=[2,5]) (args:=fun β=>[.agg #[.int .i64 r.lv,.int .i64 r.ma,(g4 (β 2)).1,(g4 (β 2)).2.1,(g4 (β 2)).2.2.1,(g4 (β 2)).2.2.2],.agg #[.string xd,(RM (β 5)).2.2]])
  case hg=>exact ln
  case hB=>kernel_rfl
  case hr=>exact fun β=>aZ (.of rfl) (.cons (.of rfl) (.cons (.of rfl) .nil)) inferInstance rfl
  case hd=>rfl
  case hc=>
   intro β w' hb
   have m1:=hb.at 2 Zq rfl
   have m2:=hb.at 5 (ZW _ Zq) rfl
   dsimp only at m1
   dsimp only [Zb,Za] at m2
   have m3:=dM (E:=9) (v:=(RM (β 5)).2.2) (l:=xs) (n:=xs.length) m2 (.there .here) rfl
   have m4:=xW m1 (a8 _ _)
   exact Mb (r:=r.wp qj) (k:=⟨xd,xs⟩) hX2 m4 hFj m3
  dsimp only [Nat.reduceAdd]
  with_reducible apply an (F:=fun β=>.tuple #[.agg #[.int .i64 (Q2).lv,.int .i64 (Q2).ma,(g4 (β 8)).1,(g4 (β 8)).2.1,(g4 (β 8)).2.2.1,(g4 (β 8)).2.2.2],.int .i64 E2])
  case hr=>(intro β;exact aN (.of rfl))
  case hi=>exact fun β β' h=>by simp only [h 8 (by kernel_rfl)]
  case hd=>rfl
  dsimp only [Nat.reduceAdd]
  with_reducible apply an (F:=fun β=>.agg #[.int .i64 (Q2).lv,.int .i64 (Q2).ma,(g4 (β 8)).1,(g4 (β 8)).2.1,(g4 (β 8)).2.2.1,(g4 (β 8)).2.2.2])
  case hr=>(intro β;exact dh (.of rfl) rfl)
  case hi=>exact fun β β' h=>by simp only [h 8 (by kernel_rfl)]
  case hd=>rfl
  dsimp only [Nat.reduceAdd]
  with_reducible apply an (F:=fun β=>.int .i64 E2)
  case hr=>(intro β;exact dh (.of rfl) rfl)
  case hi=>exact bz
  case hd=>rfl
  dsimp only [Nat.reduceAdd]
  refine kA (fun β=>(q6 rfl)) (fun _ _ _=>rfl) rfl ?_
  refine fh fun β=>?_
  unfold nS AI
  dsimp only [ei,Za,Zb,List.append_eq,Nat.reduceAdd]
  generalize g4 (β 1)=ya
  generalize g4 (β 2)=yc
  generalize RM (β 5)=yb
  generalize fm (β 4)=b3
  obtain ⟨s9,d9,t9,p9⟩:=g4 (β 8)
  generalize fm (β 12)=b29
  clear β
  dsimp only
  refine di (r:=Q2) (s:=s9) (d:=d9) (t:=t9) (p:=p9) (by unfold nS;dsimp only;exact .cons qJ (.cons qJ (.cons qJ (.cons qJ .nil)))) fun YX YW YU YR=>?_
  refine cC (rs:=[13]) (by kernel_rfl) (by simp) (ZA.2 ⟨?_,fun _ h=>absurd h Zp⟩)
  refine cQ rfl ?_
  (refine aq (.of rfl) (.of rfl) iX rfl rfl (gA rfl rfl YX YW YU YR) (bG rfl) ak<|Jn ?_)
  refine cC (rs:=[14]) (by kernel_rfl) (by simp) (ZA.2 ⟨?_,fun _ h=>absurd h Zp⟩)
  refine cQ rfl ?_
  refine Ja rfl<|Jn ?_
  with_reducible refine cH (by kernel_rfl) ?_
  rcases wW with ⟨rfl,_⟩ | ⟨rfl,q9,rfl,hS9⟩
  ·refine Jt<|Jq<|Jr<|Jv rfl<|JD rfl<|Jn<|Jd rfl fun az=>Jr<|Jv rfl<|JC rfl<|Ja rfl<|Jn<|Ju<|Jm<|Jh<|Jh<|Jm<|Jh<|JT ?_
   rfl
  try dsimp only [Oz,Oy,AW,AX,xz,xA]
  refine dF [JP b29 r s9 d9 t9 p9,J1 r (s9),J2 r (d9),J3 r (t9),row 188 3 (p9) (q9).length (fO q9),JP Sb r s7 d7 t7 p7,J1 r (s7),J2 r (d7),J3 r (t7),row 188 3 (p7) (qj).length (fO qj),JP b6 r s6 (.slice vO r.de.length mT) t6 p6,J1 r (s6),row 90 3 (.slice vO r.de.length mT) r.de.length (iZ r.de),J3 r (t6),row 188 3 (p6) (q).length (fO q),JQ b2 r s (.slice da r.de.length qz) t p] (by exact .cons .here (.cons .here (.cons .here (.cons .here (.cons .here (.cons iY (.cons iY (.cons iY (.cons iY (.cons iY (.cons iY (.cons iY (.cons iY (.cons iY (.cons iY (.cons iY .nil)))))))))))))))) ?_
  (refine Jt<|Jq<|Jr<|Jv rfl<|JD rfl<|Jn<|Jc rfl fun az=>Jk<|Jg<|ab (cR .here) rfl<|aq (.of rfl) (.of rfl) eX rfl rfl (gA rfl rfl YX YW YU YR) (bG rfl) ak<|Jx<|Jj<|Jt<|Jg<|JB rfl (by omega)<|Jv rfl<|Jn ?_)
  apply aK (j+1,q9,s9,d9,t9,p9) ⟨Zax ep,hS9⟩ (show l.length-(j+1)<l.length-j by omega)
  case hs1=>exact cg
  case ht=>exact l6
 obtain rfl:j=l.length:=by omega
 have hSe:=HE hS (oY l).symm
 (refine Jr<|JA rfl<|Jn<|Jq<|Jc rfl fun az=>Jp<|Jl<|Jo<|Jt<|Jq<|Jr<|bS rfl rfl ae<|JL rfl lL rfl<|JI rfl<|Jv rfl<|Jn<|J0 ?_)
 refine aW (ι:=Nat) (fun i=>i≤r.de.length) (fun i=>[(346,.int .i64 (i:Nat)),(345,.int .i64 (r.de.length:Nat)),(344,.slice da r.de.length qz),(26,.pointer (some ⟨Sb,0,none⟩)),(5,.pointer (some ⟨b6,0,none⟩)),(1,.slice a l.length cp),(2,.pointer (some ⟨b2,0,none⟩))]) (fun i=>[JP Sb r s7 d7 t7 p7,J1 r (s7),J2 r (d7),J3 r (t7),row 188 3 (p7) (qj).length (fO qj),JP b6 r s6 (.slice vO r.de.length mT) t6 p6,J1 r (s6),row 90 3 (.slice vO r.de.length mT) r.de.length (iZ r.de),J3 r (t6),row 188 3 (p6) (q).length (fO q),JQ b2 r s (.slice da r.de.length qz) t p]) (fun i=>r.de.length-i) ?_ ?_
 ·apply aI 0 (show 0≤r.de.length from Zi _)
  case hs1=>exact cg
  case ht=>exact l6
 intro i hi
 try dsimp only at hi ⊢
 by_cases aM:i<r.de.length
 ·have Ka:=X0 (fW aM)
  have aB:=(vF i _ (eR aM)).2
  have hy:(r.de[i]).nm∈cq r:=Z3 (Zj aM)
  unfold De.cells at aB
  generalize (r.de[i]).nm=y at hy aB
  generalize (r.de[i]).mx=mx at aB
  generalize (r.de[i]).pr=pr at aB
  have hsm:=l5.same eQ hT hSe gF hy
  (refine Jr<|JA rfl<|Jn<|Jq<|Jd rfl fun az=>Jk<|Jq<|J0<|Jr<|ab (ar (.of rfl) (.of rfl) Ka (by omega) az bb) rfl<|ab (gW (ew.base aB rfl)) rfl<|Jz rfl rfl fun _ _=>aq (.of rfl) (.of rfl) .here rfl rfl (fo rfl rfl rfl) (bG rfl) ak<|Jn<|Jq ?_)
  rename_i b32 afr
  with_reducible refine dL 11 (by kernel_rfl) ?_
  refine an (fun β=>(bT (.of rfl) (.there .here) ak (by rfl))) bz rfl ?_
  dsimp only [Nat.zero_add,Nat.reduceAdd]
  with_reducible apply dp (ι:=Value×Value×Value×Value) (Φ:=fun _=>True) (val:=fun x=>.agg #[.int .i64 r.lv,.int .i64 r.ma,x.1,x.2.1,x.2.2.1,x.2.2.2]) (own:=fun x=>AI (r.wp qj) x) (g:=g4) (B:=[]) (args:=fun β=>[.agg #[.int .i64 r.lv,.int .i64 r.ma,s7,d7,t7,p7]])
  case hg=>exact ln
  case hB=>first | rfl | kernel_rfl
  case hr=>exact fun β=>aZ (.of rfl) (.cons (.of rfl) .nil) inferInstance rfl
  case hd=>rfl
  case hc=>
   intro β w' hb
   have m0:=hb.mem
   exact pT (pJ (cK (E:=186) m0 bL rfl) (cL (E:=90) m0 cW rfl) (cJ (E:=187) m0 dT rfl) (cE (E:=188) m0 eX rfl)) NK
  dsimp only [Nat.reduceAdd]
  with_reducible apply dp (ι:=Value×Value×Value×Value) (Φ:=fun _=>True) (val:=fun x=>.agg #[.int .i64 r.lv,.int .i64 r.ma,x.1,x.2.1,x.2.2.1,x.2.2.2]) (own:=fun x=>nS (r.wp qj) x) (g:=g4) (B:=[1]) (args:=fun β=>[.agg #[.int .i64 r.lv,.int .i64 r.ma,(g4 (β 1)).1,(g4 (β 1)).2.1,(g4 (β 1)).2.2.1,(g4 (β 1)).2.2.2]])
  case hg=>exact ln
  case hB=>first | rfl | kernel_rfl
  case hr=>exact fun β=>aZ (.of rfl) (.cons (.of rfl) .nil) inferInstance rfl
  case hd=>rfl
  case hc=>
   intro β w' hb
   have m1:=hb.at 1 Zq rfl
   dsimp only at m1
   have m4:=xV m1 (a8 _ _)
   exact gM m4 NK
  dsimp only [Nat.reduceAdd]
  (refine an (fun β=>(au (.of rfl) ae)) bz rfl<|an (fun β=>(ag (.of rfl) (At.lit .here rfl))) bz rfl ?_)
  dsimp only [Nat.zero_add,Nat.reduceAdd]
  with_reducible apply dp (ι:=Value) (Φ:=fun _=>True) (val:=fun x=>.tuple #[x,.int .i64 0]) (own:=fun x=>[row 9 1 x (r.lv.toNat) (aL (bo (r.wp qj) y))]) (g:=id) (B:=[2]) (args:=fun β=>[.agg #[.int .i64 r.lv,.int .i64 r.ma,(g4 (β 2)).1,(g4 (β 2)).2.1,(g4 (β 2)).2.2.1,(g4 (β 2)).2.2.2],.string y])
  case hg=>exact fun x=>⟨x,rfl⟩
  case hB=>kernel_rfl
  case hr=>exact fun β=>aZ (.of rfl) ((.cons (.of rfl) (.cons (.of rfl) .nil))) inferInstance rfl
  case hd=>rfl
  case hc=>
   intro β w' hb
   have m1:=hb.at 2 Zq rfl
   dsimp only at m1
   have m4:=xW m1 (a8 _ _)
   exact Aa (r:=r.wp qj) m4 (qv hF qj) X7 hy
  dsimp only [id_eq,Nat.reduceAdd]
  with_reducible apply an (F:=fun β=>.tuple #[β 5,.int .i64 0])
  case hr=>(intro β;exact aN (.of rfl))
  case hi=>exact fun β β' h=>by simp only [h 5 (by kernel_rfl)]
  case hd=>rfl
  dsimp only [Nat.reduceAdd]
  with_reducible apply an (F:=fun β=>β 5)
  case hr=>(intro β;exact dh (.of rfl) rfl)
  case hi=>exact fun β β' h=>by simp only [h 5 (by kernel_rfl)]
  case hd=>rfl
  dsimp only [Nat.reduceAdd]
  with_reducible apply an (F:=fun β=>.int .i64 0)
  case hr=>(intro β;exact dh (.of rfl) rfl)
  case hi=>exact bz
  case hd=>rfl
  dsimp only [Nat.reduceAdd]
  with_reducible apply an (F:=fun β=>β 5)
  case hr=>(intro β;exact cB (.of rfl))
  case hi=>exact fun β β' h=>by simp only [h 5 (by kernel_rfl)]
  case hd=>rfl
  dsimp only [Nat.reduceAdd]
  with_reducible apply an (F:=fun β=>.int .i64 0)
  case hr=>(intro β;exact cB (.of rfl))
  case hi=>exact bz
  case hd=>rfl
  dsimp only [Nat.reduceAdd]
  refine fh fun β=>?_
  unfold nS AI
  dsimp only [ei,Za,Zb,List.append_eq,Nat.reduceAdd]
  generalize β 5=xa
  generalize g4 (β 1)=y1
  generalize g4 (β 2)=y2
  clear β
  with_reducible refine cH (by kernel_rfl) ?_
  refine dF [row 9 1 (xa) (r.lv.toNat) (aL (bo (r.wp qj) y)),bH b32 (.cells #[.string y,.int .i64 mx,.bool pr] 88 (0,0)),JP Sb r s7 d7 t7 p7,J1 r (s7),J2 r (d7),J3 r (t7),row 188 3 (p7) (qj).length (fO qj),JP b6 r s6 (.slice vO r.de.length mT) t6 p6,J1 r (s6),row 90 3 (.slice vO r.de.length mT) r.de.length (iZ r.de),J3 r (t6),row 188 3 (p6) (q).length (fO q),JQ b2 r s (.slice da r.de.length qz) t p] (by exact .cons iW (.cons iW (.cons iW (.cons iW (.cons iW (.cons iW (.cons iW (.cons iW (.cons iW (.cons iW (.cons iW (.cons iW (.cons iW .nil))))))))))))) ?_
  refine Jt<|Jq ?_
  with_reducible refine dL 11 (by kernel_rfl) ?_
  refine an (fun β=>(bT (.of rfl) AH ak (by rfl))) bz rfl ?_
  dsimp only [Nat.zero_add,Nat.reduceAdd]
  with_reducible apply dp (ι:=Value×Value×Value×Value) (Φ:=fun _=>True) (val:=fun x=>.agg #[.int .i64 r.lv,.int .i64 r.ma,x.1,x.2.1,x.2.2.1,x.2.2.2]) (own:=fun x=>AI (r.wp q) x) (g:=g4) (B:=[]) (args:=fun β=>[.agg #[.int .i64 r.lv,.int .i64 r.ma,s6,.slice vO r.de.length mT,t6,p6]])
  case hg=>exact ln
  case hB=>first | rfl | kernel_rfl
  case hr=>exact fun β=>aZ (.of rfl) (.cons (.of rfl) .nil) inferInstance rfl
  case hd=>rfl
  case hc=>
   intro β w' hb
   have m0:=hb.mem
   exact pT (pJ (cK (E:=186) m0 iW rfl) (cL (E:=90) m0 iE rfl) (cJ (E:=187) m0 lL rfl) (cE (E:=188) m0 qJ rfl)) xh
  dsimp only [Nat.reduceAdd]
  with_reducible apply dp (ι:=Value×Value×Value×Value) (Φ:=fun _=>True) (val:=fun x=>.agg #[.int .i64 r.lv,.int .i64 r.ma,x.1,x.2.1,x.2.2.1,x.2.2.2]) (own:=fun x=>nS (r.wp q) x) (g:=g4) (B:=[1]) (args:=fun β=>[.agg #[.int .i64 r.lv,.int .i64 r.ma,(g4 (β 1)).1,(g4 (β 1)).2.1,(g4 (β 1)).2.2.1,(g4 (β 1)).2.2.2]])
  case hg=>exact ln
  case hB=>first | rfl | kernel_rfl
  case hr=>exact fun β=>aZ (.of rfl) (.cons (.of rfl) .nil) inferInstance rfl
  case hd=>rfl
  case hc=>
   intro β w' hb
   have m1:=hb.at 1 Zq rfl
   dsimp only at m1
   have m4:=xV m1 (a8 _ _)
   exact gM m4 xh
  dsimp only [Nat.reduceAdd]
  (refine an (fun β=>(au (.of rfl) ae)) bz rfl<|an (fun β=>(ag (.of rfl) (At.lit (.there .here) rfl))) bz rfl ?_)
  dsimp only [Nat.zero_add,Nat.reduceAdd]
  with_reducible apply dp (ι:=Value) (Φ:=fun _=>True) (val:=fun x=>.tuple #[x,.int .i64 0]) (own:=fun x=>[row 9 1 x (r.lv.toNat) (aL (bo (r.wp q) y))]) (g:=id) (B:=[2]) (args:=fun β=>[.agg #[.int .i64 r.lv,.int .i64 r.ma,(g4 (β 2)).1,(g4 (β 2)).2.1,(g4 (β 2)).2.2.1,(g4 (β 2)).2.2.2],.string y])
  case hg=>exact fun x=>⟨x,rfl⟩
  case hB=>kernel_rfl
  case hr=>exact fun β=>aZ (.of rfl) ((.cons (.of rfl) (.cons (.of rfl) .nil))) inferInstance rfl
  case hd=>rfl
  case hc=>
   intro β w' hb
   have m1:=hb.at 2 Zq rfl
   dsimp only at m1
   have m4:=xW m1 (a8 _ _)
   exact Aa (r:=r.wp q) m4 (qv hF q) DY hy
  dsimp only [id_eq,Nat.reduceAdd]
  with_reducible apply an (F:=fun β=>.tuple #[β 5,.int .i64 0])
  case hr=>(intro β;exact aN (.of rfl))
  case hi=>exact fun β β' h=>by simp only [h 5 (by kernel_rfl)]
  case hd=>rfl
  dsimp only [Nat.reduceAdd]
  with_reducible apply an (F:=fun β=>β 5)
  case hr=>(intro β;exact dh (.of rfl) rfl)
  case hi=>exact fun β β' h=>by simp only [h 5 (by kernel_rfl)]
  case hd=>rfl
  dsimp only [Nat.reduceAdd]
  with_reducible apply an (F:=fun β=>.int .i64 0)
  case hr=>(intro β;exact dh (.of rfl) rfl)
  case hi=>exact bz
  case hd=>rfl
  dsimp only [Nat.reduceAdd]
  with_reducible apply an (F:=fun β=>β 5)
  case hr=>(intro β;exact cB (.of rfl))
  case hi=>exact fun β β' h=>by simp only [h 5 (by kernel_rfl)]
  case hd=>rfl
  dsimp only [Nat.reduceAdd]
  with_reducible apply an (F:=fun β=>.int .i64 0)
  case hr=>(intro β;exact cB (.of rfl))
  case hi=>exact bz
  case hd=>rfl
  dsimp only [Nat.reduceAdd]
  refine fh fun β=>?_
  unfold nS AI
  dsimp only [ei,Za,Zb,List.append_eq,Nat.reduceAdd]
  generalize β 5=xb
  generalize g4 (β 1)=y1
  generalize g4 (β 2)=y2
  clear β
  with_reducible refine cH (by kernel_rfl) ?_
  refine dF [row 9 1 (xb) (r.lv.toNat) (aL (bo (r.wp q) y)),row 9 1 (xa) (r.lv.toNat) (aL (bo (r.wp qj) y)),bH b32 (.cells #[.string y,.int .i64 mx,.bool pr] 88 (0,0)),JP Sb r s7 d7 t7 p7,J1 r (s7),J2 r (d7),J3 r (t7),row 188 3 (p7) (qj).length (fO qj),JP b6 r s6 (.slice vO r.de.length mT) t6 p6,J1 r (s6),row 90 3 (.slice vO r.de.length mT) r.de.length (iZ r.de),J3 r (t6),row 188 3 (p6) (q).length (fO q),JQ b2 r s (.slice da r.de.length qz) t p] (by exact .cons iW (.cons iW (.cons iW (.cons iW (.cons iW (.cons iW (.cons iW (.cons iW (.cons iW (.cons iW (.cons iW (.cons iW (.cons iW (.cons iW .nil)))))))))))))) ?_
  (refine Jt<|Jr<|Jv rfl<|ab (mz (.of rfl) (.of rfl) rfl) rfl<|Jv rfl<|JK rfl rfl<|Jv rfl<|JK rfl rfl<|ab (mz (.of rfl) (.of rfl) rfl) rfl<|ab (gC (.of rfl) (.of rfl) (.of rfl) rfl) rfl<|Jv rfl<|JK rfl rfl<|Jv rfl<|JK rfl rfl<|Jv rfl<|JK rfl rfl ?_)
  refine ai bj rfl (fun w1 aR=>EL (dM (l:=bo (r.wp qj) y) (n:=r.lv.toNat) aR (by exact Take.there .here) (jR _ _)) (dM (l:=bo (r.wp q) y) (n:=r.lv.toNat) aR (by exact .here) (jR _ _)) hsm) ?_
  (refine JK rfl rfl<|JH rfl<|ab (gC (.of rfl) (.of rfl) (.of rfl) rfl) rfl<|Jn<|bK (.of rfl)<|Jw<|Jj<|Jt<|Jg<|JB rfl (by omega)<|Jv rfl<|Jn ?_)
  apply aK (i+1) (show i+1≤r.de.length from aM) (show r.de.length-(i+1)<r.de.length-i by omega)
  case hs1=>exact cg
  case ht=>exact .cons cW (.cons cW (.cons cW (.cons cW (.cons cW (.cons cW (.cons cW (.cons cW (.cons cW (.cons cW (.cons cW .nil))))))))))
 obtain rfl:i=r.de.length:=by omega
 refine Jr<|JA rfl<|Jn<|Jq<|Jc rfl fun az=>Jp<|Jl<|Jo<|Jt<|Jr<|Ja rfl<|Jn<|Je<|JT ?_
 rfl
end Go.Proofs.A1
