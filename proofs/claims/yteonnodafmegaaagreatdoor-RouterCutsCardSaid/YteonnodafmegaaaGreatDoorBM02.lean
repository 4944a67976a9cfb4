/- Parts of the proof: P5i P5j P5k P5l P5m P5n P5o GkMem GkAny GkReg GkEq GkPlan. -/
import Derived.Test.YteonnodafmegaaaGreatDoorBM01
import Derived.Laws.StructEq
set_option linter.unusedSectionVars false
set_option linter.unusedVariables false
set_option linter.unusedSimpArgs false
namespace Go.Proofs.A1
open Go Go.SL
theorem HO {po:List Po} {g f:Po→Bool}:(po.filter g).filter f=po.filter fun p=>g p&&f p:=by
 rw [List.filter_filter]
 refine List.filter_congr fun p _=>?_
 rw [Bool.and_comm]
theorem MU {r:Ro} {po:List Po} (hn:pA r) (h:iR r po) {g f:Po→Bool} (hg:∀ p∈po,p.ou∈cQ r→g p=true)
  (Qv:∀ p∈po.filter g,p.ou∈ct r→f p=true) (F9:∀ p∈po.filter g,∀ q∈po.filter g,f q=true→q.lv=p.lv→q.ip=p.ou→f p=true) (WU:∀ p∈po.filter g,f p=true→p.ou∈ct r∨∃ q∈po.filter g,f q=true∧q.lv=p.lv∧q.ip=p.ou) :
  iR r ((po.filter g).filter f)∧(∀ v y,y∈ct r→(∀ p∈po,p.lv=v→p.ou=y→g p=true)→ee ((po.filter g).filter f) v y=ee po v y∧qk ((po.filter g).filter f) v (cm r) y=qk po v (cm r) y) ∧
  (∀ v y,(∀ p∈po,p.lv=v→p.ou=y→g p=false)→ee ((po.filter g).filter f) v y=none):=by
 have h1:=iR.one h.qv
 have hm:∀ p,p∈po.filter g↔p∈po∧g p=true:=fun p=>List.mem_filter
 have hk:∀ {p:Po},(g p&&f p)=true↔g p=true∧f p=true:=fun {p}=>Bool.and_eq_true _ _ ▸ Iff.rfl
 rw [HO]
 have fw:∀ q∈po,(g q&&f q)=true→∀ p∈po,p.lv=q.lv→p.ou=q.ip→(g p&&f p)=true:=by
  intro q hq Ws p hp hv ho
  obtain ⟨Ms,xB⟩:=hk.1 Ws
  have ht:p.ou∈cQ r:=by
   rcases h.v8 q hq with hs | ht
   ·rcases h.out p hp with hd | hd
    ·exact absurd hd (by rw [ho];exact hn.sd _ hs)
    ·exact hd
   ·rw [ho];exact ht
  have bj:=hg p hp ht
  exact hk.2 ⟨bj,F9 p ((hm p).2 ⟨hp,bj⟩) q ((hm q).2 ⟨hq,Ms⟩) xB hv.symm ho.symm⟩
 refine ⟨iR.filter hn h _ (fun p hp ht q hq Ws hv hi=>fw q hq Ws p hp hv.symm hi.symm) (fun p hp ht hkp=>?_),fun v y hy a7=>?_,fun v y CX=>?_⟩
 ·obtain ⟨zM,Mt⟩:=hk.1 hkp
  rcases WU p ((hm p).2 ⟨hp,zM⟩) Mt with hd | ⟨q,hq,xB,S3,V4⟩
  ·exact absurd ht (hn.dt _ hd)
  ·exact ⟨q,((hm q).1 hq).1,hk.2 ⟨((hm q).1 hq).2,xB⟩,S3,V4⟩
 ·have dU:∀ p∈po,p.lv=v→p.ou=y→(g p&&f p)=true:=fun p hp KC qj=>by
   have bj:=a7 p hp KC qj
   exact hk.2 ⟨bj,Qv p ((hm p).2 ⟨hp,bj⟩) (by rw [qj];exact hy)⟩
  refine ⟨?_,?_⟩
  ·cases hi:ee po v y with
   | none=>exact gT.2 fun p hp=>gT.1 hi p (List.mem_filter.1 hp).1
   | some u =>
    obtain ⟨q,hq,KB,N2,rfl⟩:=fa hi
    have:=mN (h1.filter fun p=>g p&&f p) (List.mem_filter.2 ⟨hq,dU q hq KB N2⟩)
    rwa [KB,N2] at this
  ·unfold qk gD
   rw [vp (f:=fun p=>g p&&f p) h1 fw dU]
 ·refine gT.2 fun p hp e=>?_
  obtain ⟨zM,Mt⟩:=List.mem_filter.1 hp
  have:=CX p zM e.1 e.2
  rw [(hk.1 Mt).1] at this
  cases this
structure Jb where
 v:Int
 s:ByteArray
 d:ByteArray
def rA (r:Ro) (W:List Po→Jb→Option (List Nat)):List Po→List Jb→Option (List Po)
 | po,[]=>some po
 | po, j :: l => match W po j with
  | none=>none
  | some p=>rA r W (k9 r po j.v j.s p j.d) l
theorem yy {r:Ro} {W:List Po→Jb→Option (List Nat)} (hn:pA r) (hd:(cQ r).Nodup) (hW:∀ po j p,W po j=some p→(fj r po j.v j.s).ok p∧(fj r po j.v j.s).fin p=ka r j.d) :
  ∀ (l:List Jb) (po oP:List Po),iR r po→(∀ j∈l,(0≤j.v∧j.v<r.lv)∧j.s∈cm r∧j.d∈ct r∧ee po j.v j.d=none)→l.Pairwise (fun a b=>¬(b.v=a.v∧b.d=a.d))→rA r W po l=some oP →
  iR r oP∧(∀ j∈l,qk oP j.v (cm r) j.d=j.s)∧∀ v y,y∈ct r→(∀ j∈l,¬(v=j.v∧y=j.d))→qk oP v (cm r) y=qk po v (cm r) y∧ee oP v y=ee po v y
 | [], po, oP, hv, _, _, hr => by
  rw [rA] at hr
  cases hr
  exact ⟨hv,fun j hj=>absurd hj List.not_mem_nil,fun _ _ _ _=>⟨rfl,rfl⟩⟩
 | j :: l, po, oP, hv, hj, hp, hr => by
  rw [rA] at hr
  cases hw:W po j with
  | none=>rw [hw] at hr;cases hr
  | some p =>
   rw [hw] at hr
   obtain ⟨Bb,hs,lT,wc⟩:=hj j List.mem_cons_self
   obtain ⟨dB,mf⟩:=hW po j p hw
   obtain ⟨hV,hc,ho⟩:=GY hn hd Bb hv hs lT wc dB mf
   obtain ⟨zM,Mt⟩:=List.pairwise_cons.1 hp
   obtain ⟨k1,k2,k3⟩:=yy hn hd hW l _ oP hV (fun x hx=>by
    obtain ⟨a1,a2,a3,a4⟩:=hj x (List.mem_cons_of_mem _ hx)
    exact ⟨a1,a2,a3,by rw [(ho x.v x.d a3 (zM x hx)).2];exact a4⟩) Mt hr
   refine ⟨k1,fun x hx=>?_,fun v y hy hne=>?_⟩
   ·rcases List.mem_cons.1 hx with rfl | hx
    ·rw [(k3 x.v x.d lT fun z hz e=>zM z hz ⟨e.1.symm,e.2.symm⟩).1]
     exact hc
    ·exact k2 x hx
   ·obtain ⟨b1,b2⟩:=k3 v y hy fun z hz=>hne z (List.mem_cons_of_mem _ hz)
    obtain ⟨c1,c2⟩:=ho v y hy (hne j List.mem_cons_self)
    exact ⟨b1.trans c1,b2.trans c2⟩
def sP {α:Type} (lt:α→α→Bool):α→List α→α
 | b,[]=>b
 | b,x::l=>sP lt (if lt x b then x else b) l
theorem oC {α:Type} {lt:α→α→Bool} (P5:∀ {a b c},lt a b=true→lt b c=true→lt a c=true) (H3:∀ {a b},a≠b→lt a b=true∨lt b a=true) (WC:∀ a,lt a a=false) :
  ∀ (l:List α) (b:α),sP lt b l∈b::l∧∀ q∈b::l,lt q (sP lt b l)=false
 | [],b=>⟨List.mem_cons_self,fun q hq=>by
   rcases List.mem_cons.1 hq with rfl | hq
   ·exact WC _
   ·exact absurd hq List.not_mem_nil⟩
 | x :: l, b => by
  rw [sP]
  by_cases hx:lt x b=true
  ·rw [if_pos hx]
   obtain ⟨h1,h2⟩:=oC (lt:=lt) P5 H3 WC l x
   refine ⟨List.mem_cons_of_mem _ h1,fun q hq=>?_⟩
   rcases List.mem_cons.1 hq with rfl | hq
   ·cases hb:lt q (sP lt x l) with
    | false=>rfl
    | true =>
     have:=P5 hx hb
     rw [h2 x List.mem_cons_self] at this
     exact this.symm
   ·exact h2 q hq
  ·rw [if_neg hx]
   obtain ⟨h1,h2⟩:=oC (lt:=lt) P5 H3 WC l b
   refine ⟨?_,fun q hq=>?_⟩
   ·rcases List.mem_cons.1 h1 with h | h
    ·rw [h];exact List.mem_cons_self
    ·exact List.mem_cons_of_mem _ (List.mem_cons_of_mem _ h)
   ·rcases List.mem_cons.1 hq with rfl | hq
    ·exact h2 q List.mem_cons_self
    ·rcases List.mem_cons.1 hq with rfl | hq
     ·cases hb:lt q (sP lt b l) with
      | false=>rfl
      | true =>
       by_cases he:q=b
       ·subst he
        rw [h2 q List.mem_cons_self] at hb
        exact hb.symm
       ·have:=P5 ((H3 he).resolve_left hx) hb
        rw [h2 b List.mem_cons_self] at this
        exact this.symm
     ·exact h2 q (List.mem_cons_of_mem _ hq)
theorem Wn.Q3 {N:Wn} {d:Int} {a:List Nat} {l:List (List Nat)} (h:N.all d (N.n+1) []=a::l):N.least d (sP N.lt a l):=by
 obtain ⟨h1,h2⟩:=oC (lt:=N.lt) (fun {_ _ _}=>N.lt_trans) (fun {_ _}=>N.AY) N.lt_irrefl l a
 rw [← h] at h1 h2
 obtain ⟨k1,k2⟩:=Wn.yU N.rG h1
 refine ⟨k1,k2,fun q hq hf=>h2 q ?_⟩
 exact Wn.zD (p:=[]) (r:=q) hq hf (Nat.lt_succ_of_le (Wn.uF hq))
theorem Wn.all_none {N:Wn} {d:Int} (h:N.all d (N.n+1) []=[]) (p:List Nat) (hp:N.ok p):N.fin p≠d:=fun hf=>by
 have:=Wn.zD (p:=[]) (r:=p) (k:=N.n+1) hp hf (Nat.lt_succ_of_le (Wn.uF hp))
 rw [h] at this
 exact absurd this List.not_mem_nil


inductive Wn.Rc (N:Wn):Int→Prop
 | xS:Wn.Rc N N.xS
 | ca {i:Nat}:i<N.n→N.ca i=true→Wn.Rc N (N.to i)
 | fe {i:Nat}:i<N.n→N.fe i=true→Wn.Rc N (N.fr i)→Wn.Rc N (N.to i)
theorem wU {p:List Nat} {k:Nat} (h:k<p.length):p.take (k+1)=p.take k++[p[k]]:=by
 rw [List.take_succ_eq_append_getElem h]
theorem Wn.DT {N:Wn} {p:List Nat} (h:N.ok p):∀ k,k≤p.length→N.Rc (N.fin (p.take k))
 | 0,_=>by rw [Ze];exact .xS
 | k + 1, hk => by
  have ih:=Wn.DT h k (by omega)
  have hs:=h k (by omega)
  rw [wU (by omega),Wn.mh]
  have aL:=Wn.oM hs
  unfold Wn.step at hs
  simp only [Bool.and_eq_true,Bool.or_eq_true,decide_eq_true_eq] at hs
  rcases hs.2.2 with ⟨_,hc⟩ | ⟨hf,he⟩
  ·exact .ca aL hc
  ·exact .fe aL hf (he ▸ ih)
theorem Wn.Sf {N:Wn} {p:List Nat} (h:N.ok p):N.Rc (N.fin p):=by
 have:=Wn.DT h p.length (Nat.le_refl _)
 rwa [List.take_length] at this
theorem Wn.Su {N:Wn} {m:Int} (h:N.Rc m):∃ p,N.ok p∧N.fin p=m:=by
 induction h with
 | xS=>exact ⟨[],N.rG,rfl⟩
 | @ca i hi hc =>
  refine ⟨[]++[i],Wn.ki.2 ⟨N.rG,?_⟩,Wn.mh _ _ _⟩
  unfold Wn.step
  simp [hi,hc]
 | @fe i hi hf _ ih =>
  obtain ⟨p,hp,he⟩:=ih
  by_cases hm:i∈p
  ·obtain ⟨k,hk,rfl⟩:=List.getElem_of_mem hm
   exact ⟨p.take (k+1),Wn.D1 hp _,by rw [wU hk,Wn.mh]⟩
  ·refine ⟨p++[i],Wn.ki.2 ⟨hp,?_⟩,Wn.mh _ _ _⟩
   unfold Wn.step
   simp [hi,hf,he,hm]
def Wn.Re (N:Wn) (S:Int→Prop):Prop:=S N.xS∧∀ i,i<N.n→(N.ca i=true∨N.fe i=true∧S (N.fr i))→S (N.to i)
theorem Wn.NL {N:Wn} {S:Int→Prop} (h:N.Re S) {m:Int} (hm:N.Rc m):S m:=by
 induction hm with
 | xS=>exact h.1
 | ca hi hc=>exact h.2 _ hi (.inl hc)
 | fe hi hf _ ih=>exact h.2 _ hi (.inr ⟨hf,ih⟩)
theorem Wn.Lx {N:Wn} {S:Int→Prop} (h:N.Re S) (hS:∀ m,S m→N.Rc m) (m:Int):S m↔N.Rc m:=⟨hS m,Wn.NL h⟩
theorem JR {po:List Po} {v:Int} {o:ByteArray}:fV po v o=true↔∃ p∈po,p.lv=v∧p.ou=o:=by
 unfold fV
 constructor
 ·intro h
  obtain ⟨i,hi⟩:=Option.isSome_iff_exists.1 h
  obtain ⟨p,hp,h1,h2,_⟩:=fa hi
  exact ⟨p,hp,h1,h2⟩
 ·rintro ⟨p,hp,h1,h2⟩
  cases hq:ee po v o with
  | some _=>rfl
  | none=>exact absurd ⟨h1,h2⟩ (gT.1 hq p hp)
theorem Nk {po qo:List Po} (h:po.Perm qo) (v:Int) (o:ByteArray):fV po v o=fV qo v o:=by
 rw [Bool.eq_iff_iff,JR,JR]
 exact ⟨fun ⟨p,hp,e⟩=>⟨p,h.mem_iff.1 hp,e⟩,fun ⟨p,hp,e⟩=>⟨p,h.mem_iff.2 hp,e⟩⟩
def qb (r:Ro) (v:Int):List Po→ByteArray→List Nat→List Po×ByteArray
 | po,x,[]=>(po,x)
 | po,x,i::p=>qb r v (if fV po v (gn r i) then po else po++[⟨v,gn r i,x⟩]) (gn r i) p
theorem tX {r:Ro} {v:Int}:∀ (q:List Nat) (po qo:List Po) (x:ByteArray),po.Perm qo→(k8 r v po x q).1.Perm (qb r v qo x q).1∧(k8 r v po x q).2=(qb r v qo x q).2
 | [],po,qo,x,h=>⟨h,rfl⟩
 | i :: q, po, qo, x, h => by
  rw [k8,qb,Nk h v (gn r i)]
  by_cases hb:fV qo v (gn r i)=true
  ·rw [if_pos hb,if_pos hb]
   exact tX q po qo _ h
  ·rw [if_neg hb,if_neg hb]
   exact tX q _ _ _ ((oR r _ po).trans ((h.cons _).trans (List.perm_append_singleton _ _).symm))
theorem set_perm {r:Ro} {po:List Po} {v:Int} {s d:ByteArray} {p:List Nat}:(k9 r po v s p d).Perm ((qb r v po s p).1++[⟨v,d,(qb r v po s p).2⟩]):=by
 obtain ⟨h1,h2⟩:=tX (r:=r) (v:=v) p po po s (List.Perm.refl _)
 unfold k9
 rw [h2]
 exact (oR r _ _).trans ((h1.cons _).trans (List.perm_append_singleton _ _).symm)
theorem GX {r:Ro} {po S:List Po} {v:Int} {s d:ByteArray} {p:List Nat} (hv:(k9 r po v s p d).Pairwise (fun a b=>pj r a b=true)) (hS:S.Perm ((qb r v po s p).1++[⟨v,d,(qb r v po s p).2⟩])) (hs:S.Pairwise (fun a b=>¬ pj r b a=true)):S=k9 r po v s p d:=by
 have hp:(k9 r po v s p d).Perm S:=set_perm.trans hS.symm
 have hk:S.Pairwise (fun a b=>pj r a b=true∨pj r b a=true):=(List.Perm.pairwise_iff (fun {_ _} h=>h.symm) hp).1 (hv.imp fun h=>.inl h)
 have a7:S.Pairwise (fun a b=>pj r a b=true):=(List.Pairwise.and hk hs).imp fun h=>h.1.resolve_right h.2
 exact nE (fun a b h=>Fk a b h) a7 hv hp.symm
end Go.Proofs.A1
namespace Go.SL
open Go
def qg (P:Program) (c:Cx) (sl:aI) (hs:List a8) (o:Oper) (V:Nat→Value) (ob:Obj):Prop:=
 (∀ d,o.op≠.defer d)∧∀ a w,bK sl a→Mem c hs w→(execOp a.eval o).run P w=.ok (.value (V w.heap.size)) (w.alloc ob)
section
variable {P:Program} {r:Option Nat} {c:Cx} {D:List Nat} {sl:aI} {hs hs':List a8} {ops:Array Oper} {Q:Exit→Act→World→Prop} {d:Nat} {dst:Option Tmp} {op:Op} {ty:TypeId} {pos:String} {af:Array Edge} {g:Option (Nat×Bool)} {rest:List Oper}
theorem bb {V:Nat→Value} {ob:Obj}
  (hr:qg P c sl hs ⟨some d,op,ty,pos,af,none⟩ V ob) (hd:Nat.blt d c.nt=true) (k:∀ b,c.w0.heap.size≤b→Tr c D ((d,V b)::sl) (bA b ob::hs) (WL P r ops Q rest)) :
  Tr c D sl hs (WL P r ops Q (⟨some d,op,ty,pos,af,none⟩::rest)):=fun a w a7=>by
 refine lU rfl ⟨dH _ _ _ _ _,?_⟩
 rw [Oper.semAt_eq _ _ _ hr.1,hr.2 a w a7.cM a7.qL]
 have h1:=(a7.put (by simpa [Nat.blt_eq] using hd) (V w.heap.size))
 exact k w.heap.size a7.qL.keeps.size _ _ (h1.heap (a7.mem.alloc ob))
theorem Pf {t:TypeId} {x:Operand} {v:Value} {cs:List Value} (hx:Is sl x v) (hc:v.cells=cs.toArray):qg P c sl hs ⟨dst,.box t x,ty,pos,af,g⟩ (fun b=>.pointer (some ⟨b,0,none⟩)) (.cells cs.toArray t):=
 ⟨by simp,fun a w ha _=>by simp [execOp,hx a ha,Instr.box,newVar,newRow,hc]⟩
theorem uz {t:TypeId} {z:Value} {cs:List Value} [lG P t z] (hc:z.cells=cs.toArray):qg P c sl hs ⟨dst,.alloc t,ty,pos,af,g⟩ (fun b=>.pointer (some ⟨b,0,none⟩)) (.cells cs.toArray t):=
 ⟨by simp,fun a w _ _=>by simp [execOp,Instr.alloc,hP (t:=t) (v:=z),newVar,newRow,hc]⟩
theorem Cp {t:TypeId}:qg P c sl hs ⟨dst,.makeMap t none,ty,pos,af,g⟩ (fun b=>.map (some b)) (.map #[] 0):=
 ⟨by simp,fun a w _ _=>by simp [execOp,Instr.makeMap]⟩
theorem lM {t:TypeId} {n:Nat} {parts:Array (Nat×Operand)} {ps:Array (Nat×Value)} {V:Nat→Value} {ob:Obj}
  (hp:∀ a,bK sl a→(parts.map fun (i,x)=>(i,a.eval x))=ps) (hb:∀ w,(Instr.buildSlice t n ps).run P w=.ok (V w.heap.size) (w.alloc ob)) :
  qg P c sl hs ⟨dst,.buildSlice t n parts,ty,pos,af,g⟩ V ob:=
 ⟨by simp,fun a w ha _=>by simp only [execOp,hp a ha,Sem.run_bind,hb w,Result.andThen_ok,Sem.run_pure]⟩
def uE (vs:List Value):Array (Nat×Value):=(vs.zipIdx.map fun (v,i)=>(i,v)).toArray
theorem xK:∀ (vs:List Value) (k:Nat) (acc:List Value),(∀ v∈vs,v.oneCell'=true)→k+vs.length≤acc.length →
  Instr.fill (fun i=>some (i*1,1)) acc.toArray ((vs.zipIdx k).map fun (v,i)=>(i,v))=some (acc.take k++vs++acc.drop (k+vs.length)).toArray
 | [],k,acc,_,_=>by simp [Instr.fill]
 | v :: vs, k, acc, h1, h2 => by
  have hv:=h1 v (by simp)
  have hc:v.cells=#[v]:=by cases v <;> simp_all [Value.cells,Value.oneCell']
  simp only [List.length_cons] at h2
  have e:Array.foldl (fun cs (x:Value×Nat)=>cs.setIfInBounds (k*1+x.2) x.1) acc.toArray #[v].zipIdx=(acc.set k v).toArray:=by
   simp
  simp only [List.zipIdx_cons,List.map_cons,Instr.fill,hc]
  rw [if_neg (by simp;omega)]
  simp only [e]
  rw [xK vs (k+1) (acc.set k v) (fun u hu=>h1 u (by simp [hu])) (by simp;omega)]
  congr 1
  have hk:k<acc.length:=by omega
  simp only [List.length_cons,Zh,Zb]
  rw [List.take_set,List.drop_set_of_lt (by omega)]
  rw [show k+1+vs.length=k+(vs.length+1) from by omega]
  congr 1
  rw [List.take_succ_eq_append_getElem hk]
  rw [List.set_append_right _ _ (by simp;omega)]
  simp [Nat.min_eq_left (Nat.le_of_lt hk)]
theorem uy {t e:TypeId} {n:Nat} {z:Value} [hu:iH P t (.slice e)] [Ty P e false 1] [lG P e z] {vs:List Value} (hl:vs.length=n) (hn:n≤1000) (hz:z.oneCell'=true) (hv:∀ v∈vs,v.oneCell'=true) (w:World) :
  (Instr.buildSlice t n (uE vs)).run P w=.ok (.slice (some ⟨w.heap.size,0,none⟩) n n) (w.alloc (.cells vs.toArray e)):=by
 have hzc:z.cells=#[z]:=by cases z <;> simp_all [Value.cells,Value.oneCell']
 unfold Instr.buildSlice
 simp only [Sem.run_bind,aV hu.eq,Result.andThen_ok,fL (t:=e) (agg:=false) (n:=1),Nat.mul_one]
 rw [if_neg (by omega)]
 have hf:∀ (zz:Array Value),zz.size=n→Instr.fill (fun i=>some (i,1)) zz (uE vs).toList=some vs.toArray:=by
  intro zz UD
  have:=xK vs 0 zz.toList hv (by simp [hl,UD])
  simp only [Array.toArray_toList,Nat.mul_one] at this
  simp only [uE]
  rw [this]
  simp [hl,UD]
 by_cases h0:n=0
 ·subst h0
  simp only [if_true,Sem.run_bind,Sem.run_pure,Result.andThen_ok]
  rw [hf _ (by simp)]
  simp [newRow]
 ·rw [if_neg h0]
  simp only [Sem.run_bind,hP (t:=e) (v:=z),Result.andThen_ok,Sem.run_pure,hzc]
  rw [hf _ (by simp)]
  simp [newRow]
def setCells:List Value→Nat→List Value→List Value
 | cs,_,[]=>cs
 | cs,o,v::vs=>setCells (cs.set o v) (o+1) vs
theorem jX:∀ (vs:List Value) (cs:List Value) (o:Nat),(setCells cs o vs).length=cs.length
 | [],_,_=>rfl
 | v::vs,cs,o=>by simp [setCells,jX vs]
def setBlock (w:World) (b:Nat) (ob:Obj):World:={ w with heap:=w.heap.setIfInBounds b ob }
theorem aG.setBlock (w:World) (b:Nat) (ob:Obj):aG [b] w (setBlock w b ob):=
 ⟨rfl,rfl,rfl,Nat.le_refl _,by simp [SL.setBlock],fun k hk hm=>by
  have:b≠k:=fun e=>hm (by simp [e])
  simp [SL.setBlock,Array.getElem?_setIfInBounds_ne this]⟩
theorem lK {w:World} {b:Nat} {ob:Obj} (h:b<w.heap.size):(setBlock w b ob).heap[b]? = some ob:=by simp [setBlock,h]
theorem td {w:World} {b:Nat} {cs:Array Value} {E:TypeId} (h:w.heap[b]? = some (.cells cs E (0,0))) (o:Nat):w.frozen? ⟨b,o,none⟩=false:=by
 simp [World.frozen?,h]
theorem vW {w:World} {b:Nat} {cs:List Value} {E:TypeId} (h:w.heap[b]? = some (.cells cs.toArray E (0,0))) (o:Nat) (v:Value):w.setCell ⟨b,o,none⟩ v=setBlock w b (.cells (cs.set o v).toArray E (0,0)):=by
 unfold World.setCell setBlock
 congr 1
 apply Array.ext_getElem?
 intro k
 rw [Array.getElem?_modify]
 by_cases hk:b=k
 ·subst hk
  have:=jQ (w:=w) h
  rw [if_pos rfl,h,Array.getElem?_setIfInBounds_self_of_lt this]
  simp
 ·rw [if_neg hk,Array.getElem?_setIfInBounds_ne hk]
theorem iJ {b o:Nat} {E:TypeId}:∀ (vs:List Value) (i:Nat) (cs:List Value) (w:World),w.heap[b]? = some (.cells cs.toArray E (0,0))→(∀ v∈vs,v.oneCell'=true)→o+i+vs.length≤cs.length →
  ∃ w',(storeCells ⟨b,o,none⟩ vs i).run P w=.ok () w'∧aG [b] w w'∧w'.heap[b]? = some (.cells (setCells cs (o+i) vs).toArray E (0,0))
 | [],i,cs,w,h,_,_=>⟨w,rfl,.refl _ _,h⟩
 | v :: vs, i, cs, w, h, h1, h2 => by
  simp only [List.length_cons] at h2
  have aL:=jQ (w:=w) h
  have a7:(store (Addr.add ⟨b,o,none⟩ i) v).run P w=.ok () (setBlock w b (.cells (cs.set (o+i) v).toArray E (0,0))):=by
   rw [eD,run_store P w _ v .plain (h1 v (by simp)),cell_of_block h]
   have:(cs.toArray)[o+i]? = some (cs[o+i]'(by omega)):=by simp
   rw [this]
   simp only [td h,Bool.false_eq_true,if_false,vW h]
  obtain ⟨w',h3,h4,h5⟩:=iJ (o:=o) vs (i+1) (cs.set (o+i) v) (setBlock w b (.cells (cs.set (o+i) v).toArray E (0,0))) (lK aL) (fun u hu=>h1 u (by simp [hu])) (by simp;omega)
  refine ⟨w',?_,(aG.setBlock w b _).trans h4,by rw [h5];rfl⟩
  simp only [storeCells,Sem.run_bind,a7,Result.andThen_ok,h3]
theorem Aw {t:TypeId} {agg:Bool} {n:Nat} [Ty P t agg n] {b o:Nat} {E:TypeId} {v:Value} {vs cs:List Value} {w:World} (h:w.heap[b]? = some (.cells cs.toArray E (0,0))) (hv:v.cells=vs.toArray) (hl:vs.length=n)
  (h1:∀ u∈vs,u.oneCell'=true) (h2:o+n≤cs.length) :
  ∃ w',(storeVar t ⟨b,o,none⟩ v).run P w=.ok () w'∧aG [b] w w'∧w'.heap[b]? = some (.cells (setCells cs o vs).toArray E (0,0)):=by
 obtain ⟨w',h3,h4,h5⟩:=iJ (P:=P) (o:=o) vs 0 cs w h h1 (by omega)
 refine ⟨w',?_,h4,h5⟩
 unfold storeVar
 rw [Sem.run_bind,fL (t:=t) (agg:=agg) (n:=n),Result.andThen_ok,if_neg (by simp [hv,hl])]
 simpa [hv] using h3
theorem aq {t:TypeId} {agg:Bool} {n:Nat} [Ty P t agg n] {x y:Operand} {b o:Nat} {E:TypeId} {v:Value} {vs cs OF:List Value} (hx:Is sl x (.pointer (some ⟨b,o,none⟩))) (hy:Is sl y v)
  (ht:Take hs (bA b (.cells cs.toArray E (0,0))) hs') (hv:v.cells=vs.toArray) (hl:vs.length=n) (h1:∀ u∈vs,u.oneCell'=true) (h2:o+n≤cs.length) (he:setCells cs o vs=OF)
  (k:Tr c D sl (bA b (.cells OF.toArray E (0,0))::hs') (WL P r ops Q rest)) :
  Tr c D sl hs (WL P r ops Q (⟨none,.store t x y,ty,pos,af,none⟩::rest)):=fun a w a7=>by
 subst he
 have hm:=a7.mem.take (ht.append _)
 obtain ⟨w',h3,h4,h5⟩:=Aw (P:=P) (t:=t) (o:=o) (hm.bA .here) hv hl h1 h2
 refine lU rfl ⟨dH _ _ _ _ _,?_⟩
 rw [Oper.semAt_eq _ _ _ (by simp)]
 have:(execOp a.eval ⟨none,.store t x y,ty,pos,af,none⟩).run P w=.ok .skip w':=by
  simp [execOp,hx a a7.cM,hy a a7.cM,Instr.storeAt,Instr.sureAddr,h3]
 rw [this]
 exact k _ _ (a7.heap (Mem.store hm h4 h5))
theorem Bp (off:Nat):∀ (vs:List Value) (k:Nat) (cs:List Value),(vs.zipIdx k).foldl (fun (cs:Array Value) (x:Value×Nat)=>cs.setIfInBounds (off+x.2) x.1) cs.toArray=(setCells cs (off+k) vs).toArray
 | [],_,_=>rfl
 | v :: vs, k, cs => by
  simp only [List.zipIdx_cons,List.foldl_cons,List.setIfInBounds_toArray,setCells]
  exact Bp off vs (k+1) (cs.set (off+k) v)
def sK (places:List (Nat×Nat)):List Value→List (Nat×Value)→Option (List Value)
 | cs,[]=>some cs
 | cs, (i, v) :: rest =>
  match places[i]? with
  | some (off,size)=>if v.cells.size=size∧off+size≤cs.length then sK places (setCells cs off v.cells.toList) rest else none
  | none=>none
theorem fill_eq {places:List (Nat×Nat)} {f:Nat→Option (Nat×Nat)} (hf:∀ i x,places[i]? = some x→f i=some x):∀ (ps:List (Nat×Value)) (cs OF:List Value),sK places cs ps=some OF→Instr.fill f cs.toArray ps=some OF.toArray
 | [],cs,OF,h=>by simp only [sK,Option.some.injEq] at h;simp [Instr.fill,h]
 | (i, v) :: rest, cs, OF, h => by
  unfold sK at h
  split at h
  ·rename_i off size hp
   split at h
   ·rename_i hc
    have h2:=fill_eq hf rest _ _ h
    unfold Instr.fill
    simp only [hf i _ hp]
    rw [if_neg (by simp [hc.1];omega)]
    rw [← h2]
    congr 1
    have:=Bp off v.cells.toList 0 cs
    simp only [Nat.add_zero] at this
    rw [← this,← Array.foldl_toList]
    simp
   ·cases h
  ·cases h
def xR (P:Program) (t:TypeId):Option (List (Nat×Nat)×List Value):=
 match P.underlying t,P.info? t with
 | some (.struct fs), some i => match i.zero, fs.toList.mapM (fun f => (P.info? f.type).map fun j => (f.offset, j.size)) with
  | some z,some ps=>some (ps,z.cells.toList)
  | _,_=>none
 | some (.array n e), some i => match i.zero, P.info? e with
  | some z,some j=>some ((List.range n).map (fun k=>(k*j.size,j.size)),z.cells.toList)
  | _,_=>none
 | _,_=>none
class BV (P:Program) (t:TypeId) (ps:outParam (List (Nat×Nat))) (z:outParam (List Value)):Prop where
 eq:xR P t=some (ps,z)
theorem uJ {w:World}:∀ (fs:List Field) (ps:List (Nat×Nat)),fs.mapM (fun f=>(P.info? f.type).map fun j=>(f.offset,j.size))=some ps →
  (fs.mapM (fun (f:Field)=>(do pure (f.offset,← sizeOf f.type):Sem (Nat×Nat)))).run P w=.ok ps w
 | [],ps,h=>by simp at h;simp [h]
 | f :: fs, ps, h => by
  simp only [List.mapM_cons,Option.bind_eq_bind,Option.bind_eq_some_iff,Option.map_eq_some_iff,Option.pure_def,Option.some.injEq] at h
  obtain ⟨_,⟨j,hj,rfl⟩,qs,hq,rfl⟩:=h
  have:=uJ (w:=w) fs qs hq
  have hsz:(sizeOf f.type).run P w=.ok j.size w:=by simp [sizeOf,fB hj]
  rw [List.mapM_cons]
  simp only [Sem.run_bind,hsz,Result.andThen_ok,Sem.run_pure,this]
theorem Fa {t:TypeId} {places:List (Nat×Nat)} {z cs:List Value} [h:BV P t places z] {ps:List (Nat×Value)} (hf:sK places z ps=some cs) (w:World):(Instr.build t ps.toArray).run P w=.ok (.agg cs.toArray) w:=by
 have h0:=h.eq
 unfold xR at h0
 split at h0
 ·rename_i fs i hu hi
  split at h0
  ·rename_i zz qs hz hq
   simp only [Option.some.injEq,Prod.mk.injEq] at h0
   obtain ⟨rfl,rfl⟩:=h0
   have h1:(zeroValue t).run P w=.ok zz w:=by simp [zeroValue,fB hi,hz]
   have h2:(fs.mapM (fun (f:Field)=>(do pure (f.offset,← sizeOf f.type):Sem (Nat×Nat)))).run P w=.ok qs.toArray w:=by
    have:=uJ (P:=P) (w:=w) fs.toList qs hq
    rw [← Array.toArray_toList (xs:=fs),List.mapM_toArray,Sem.run_map,this]
    rfl
   have h3:=fill_eq (f:=fun i=>qs.toArray[i]?) (fun i x hx=>by simpa using hx) ps zz.cells.toList cs hf
   unfold Instr.build
   simp only [Sem.run_bind,h1,Result.andThen_ok,aV hu,h2]
   simp only [Array.toArray_toList] at h3
   rw [h3]
   rfl
  ·cases h0
 ·rename_i n e i hu hi
  split at h0
  ·rename_i zz j hz hj
   simp only [Option.some.injEq,Prod.mk.injEq] at h0
   obtain ⟨rfl,rfl⟩:=h0
   have h1:(zeroValue t).run P w=.ok zz w:=by simp [zeroValue,fB hi,hz]
   have h2:(sizeOf e).run P w=.ok j.size w:=by simp [sizeOf,fB hj]
   have h3:=fill_eq (f:=fun i=>some (i*j.size,j.size)) (fun i x hx=>by
    rw [List.getElem?_map] at hx
    obtain ⟨y,hy,rfl⟩:=Option.map_eq_some_iff.1 hx
    have:=List.getElem?_eq_some_iff.1 hy
    obtain ⟨aL,he⟩:=this
    simp at he
    rw [he]) ps zz.cells.toList cs hf
   unfold Instr.build
   simp only [Sem.run_bind,h1,Result.andThen_ok,aV hu,h2]
   simp only [Array.toArray_toList] at h3
   rw [h3]
   rfl
  ·cases h0
 ·cases h0
inductive vA (sl:aI):List (Nat×Operand)→List (Nat×Value)→Prop
 | nil:vA sl [] []
 | cons {i:Nat} {x:Operand} {xs:List (Nat×Operand)} {v:Value} {vs:List (Nat×Value)} (h:Is sl x v) (t:vA sl xs vs):vA sl ((i,x)::xs) ((i,v)::vs)
theorem vA.map {xs:List (Nat×Operand)} {vs:List (Nat×Value)} (h:vA sl xs vs) {a:Act} (ha:bK sl a):(xs.map fun (i,x)=>(i,a.eval x))=vs:=by
 induction h with
 | nil=>rfl
 | cons h _ ih=>simp [h a ha];simpa using ih
theorem aU {t:TypeId} {xs:List (Nat×Operand)} {ps:List (Nat×Value)} {places:List (Nat×Nat)} {z cs:List Value} [BV P t places z] (hp:vA sl xs ps) (hf:sK places z ps=some cs) :
  cL P c sl hs ⟨dst,.build t xs.toArray,ty,pos,af,g⟩ (.agg cs.toArray):=
 G6 (ps:=ps.toArray) (fun a ha=>by simp [← hp.map ha]) (fun w=>Fa hf w)
inductive r9 (sl:aI):Nat→List (Nat×Operand)→List Value→Prop
 | nil {i:Nat}:r9 sl i [] []
 | cons {i:Nat} {x:Operand} {xs:List (Nat×Operand)} {v:Value} {vs:List Value} (h:Is sl x v) (t:r9 sl (i+1) xs vs):r9 sl i ((i,x)::xs) (v::vs)
theorem r9.map {i:Nat} {xs:List (Nat×Operand)} {vs:List Value} (h:r9 sl i xs vs) {a:Act} (ha:bK sl a):(xs.map fun (i,x)=>(i,a.eval x))=(vs.zipIdx i).map fun (v,i)=>(i,v):=by
 induction h with
 | nil=>rfl
 | cons h _ ih=>simp [h a ha];simpa using ih
theorem aA {t e:TypeId} {n:Nat} {z:Value} {xs:List (Nat×Operand)} {vs:List Value} [hu:iH P t (.slice e)] [Ty P e false 1] [lG P e z] (hp:r9 sl 0 xs vs)
  (hl:vs.length=n) (hn:Nat.ble n 1000=true) (hz:z.oneCell'=true) (h1:vs.all Value.oneCell'=true) :
  qg P c sl hs ⟨dst,.buildSlice t n xs.toArray,ty,pos,af,g⟩ (fun b=>.slice (some ⟨b,0,none⟩) n n) (.cells vs.toArray e):=
 lM (ps:=uE vs) (fun a ha=>by simp only [uE,← hp.map ha];simp) (fun w=>uy hl (by simpa using hn) hz (by simpa [List.all_eq_true] using h1) w)
class bS (P:Program) (f:FuncId):Prop where
 eq:((P.funcs[f]?).map fun fn=>(fn.name == "runtime.NumGoroutine" || fn.body.isNone))=some false
theorem sn {f:FuncId} [h:bS P f] (args:Array Value) (w:World):(callFunc f args).run P w=.ok (.enter f args) w:=by
 have:=h.eq
 cases hf:P.funcs[f]? with
 | none=>rw [hf] at this;cases this
 | some fn =>
  rw [hf] at this
  simp only [Option.map_some,Option.some.injEq,Bool.or_eq_false_iff] at this
  obtain ⟨h1,h2⟩:=this
  simp only [callFunc,Sem.run_bind,run_program,Result.andThen_ok,hf,h1,h2]
  rfl
inductive F2 (sl:aI):List Operand→List Value→Prop
 | nil:F2 sl [] []
 | cons {x:Operand} {xs:List Operand} {v:Value} {vs:List Value} (h:Is sl x v) (t:F2 sl xs vs):F2 sl (x::xs) (v::vs)
theorem F2.map {sl:aI} {xs:List Operand} {vs:List Value} (h:F2 sl xs vs) {a:Act} (ha:bK sl a):xs.map a.eval=vs:=by
 induction h with
 | nil=>rfl
 | cons h _ ih=>simp [h a ha,ih]
def ln (P:Program) (sl:aI) (o:Oper) (f:FuncId) (args:List Value):Prop:=
 (∀ d,o.op≠.defer d)∧∀ a w,bK sl a→(execOp a.eval o).run P w=.ok (.enter f args.toArray) w
theorem bh {x:Operand} {xs:List Operand} {ts:Array TypeId} {f:FuncId} {first vs cap args:List Value} (hx:Is sl x (.func (.func f) first.toArray cap.toArray)) (ha:F2 sl xs vs) (hb:bS P f) (he:first++vs++cap=args) :
  ln P sl ⟨dst,.call ⟨.value x,xs.toArray,ts⟩,ty,pos,af,g⟩ f args:=
 ⟨by simp,fun a w hs=>by
  subst he
  have h1:=ha.map hs
  simp only [execOp,resolve,hx a hs,Deferred.ofValue,Sem.run_bind,Sem.run_pure,Result.andThen_ok,invoke,List.map_toArray,h1,List.append_toArray]
  exact sn (h:=hb) _ _⟩
theorem bn {f:Fn} {xs ys:List Operand} {vs us:List Value} (h1:F2 sl xs vs) (h2:F2 sl ys us) :
  cL P c sl hs ⟨dst,.makeFunc f xs.toArray ys.toArray,ty,pos,af,g⟩ (.func f vs.toArray us.toArray):=
 AE (fun a ha=>by simp [h1.map ha]) (fun a ha=>by simp [h2.map ha])
def bd (P:Program) (f:FuncId) (args:List Value) (w:World) (md:List Nat) {ι:Type} (Φ:ι→Prop) (val:ι→Value) (own:ι→List a8):Prop:=
 Calls P f args.toArray w fun e w'=>∃ x,e=.returned (val x)∧Φ x∧aG md w w'∧∃ fp:List Nat,fp.Nodup∧bY (hp w') (own x) fp∧∀ b∈fp,b∈md∨w.heap.size≤b
def aj (P:Program) (f:FuncId) (args:List Value) (w:World) (V:Value):Prop:=
 Calls P f args.toArray w fun e w'=>e=.returned V∧aG [] w w'
theorem gV {n:Nat} {f:FuncId} {args:Array Value} {w:World} {R:Ending→World→Prop} (h:Calls P f args w R):CallsIn (FR r) n P f args w R:=
 (callsIn_wide (n:=n)).2 h
theorem yb {o:Oper} {f:FuncId} {args:List Value} {R:Ending→World→Prop} {a:Act} {w:World} (hg:o.guard=none) (hr:ln P sl o f args) (hs:bK sl a) (hc:Calls P f args.toArray w R)
  (k:∀ e w',R e w'→∃ v,e=.returned v∧WL P r ops Q rest (a.put o.dst v) w'):WL P r ops Q (o::rest) a w:=by
 refine lU hg ⟨dH _ _ _ _ _,?_⟩
 rw [Oper.semAt_eq _ _ _ hr.1,hr.2 a w hs]
 refine ⟨by simp [FR,Fence.wide],(gV hc).mono fun e w' h=>?_⟩
 obtain ⟨v,rfl,hk⟩:=k e w' h
 exact hk
theorem ai {f:FuncId} {args:List Value} {V:Value} (hr:ln P sl ⟨some d,op,ty,pos,af,none⟩ f args) (hd:Nat.blt d c.nt=true) (hc:∀ w,Mem c hs w→aj P f args w V)
  (k:Tr c D ((d,V)::sl) hs (WL P r ops Q rest)):Tr c D sl hs (WL P r ops Q (⟨some d,op,ty,pos,af,none⟩::rest)):=fun a w a7=>
 yb rfl hr a7.cM (hc w a7.qL) fun e w' ⟨he,hk⟩=>⟨V,he,k _ _ ((a7.put (by simpa [Nat.blt_eq] using hd) V).heap (a7.mem.qP hk))⟩
inductive bo:List a8→List a8→List a8→Prop
 | nil {hs:List a8}:bo hs [] hs
 | cons {hs h1 h2:List a8} {A:a8} {As:List a8} (h:Take hs A h1) (t:bo h1 As h2):bo hs (A::As) h2
theorem bY.iZ {h:Nat→Option Obj} {hs As hs':List a8} (ht:bo hs As hs'):∀ {fp:List Nat},bY h hs fp→∃ f1 f2,bY h As f1∧bY h hs' f2∧fp.Perm (f1++f2):=by
 induction ht with
 | nil=>intro fp hf;exact ⟨[],fp,rfl,hf,.refl _⟩
 | cons h _ ih =>
  intro fp hf
  obtain ⟨f1,f2,h1,h2,hp⟩:=hf.take h
  obtain ⟨g1,g2,h3,h4,hq⟩:=ih h2
  exact ⟨f1++g1,g2,⟨f1,g1,rfl,h1,h3⟩,h4,hp.trans (by rw [Zh];exact hq.append_left f1)⟩
theorem Mem.iZ {As:List a8} {w:World} (h:Mem c hs w) (ht:bo hs As hs'):Mem c (As++hs') w:=by
 obtain ⟨k,fp,hn,hs,hb⟩:=h
 obtain ⟨f1,f2,h1,h2,hp⟩:=hs.iZ ht
 exact ⟨k,f1++f2,hp.nodup_iff.1 hn,bY.append_iff.2 ⟨f1,f2,rfl,h1,h2⟩,fun b dy=>hb b (hp.mem_iff.2 dy)⟩
theorem bo.append {As:List a8} (h:bo hs As hs') (m:List a8):bo (hs++m) As (hs'++m):=by
 induction h with
 | nil=>exact .nil
 | cons h _ ih=>exact .cons (h.append m) ih
theorem Mem.On {As Bs:List a8} {w w':World} (hm:Mem c (As++hs') w)
  (hs0:∀ fp,fp.Nodup→bY (hp w) As fp→aG fp w w'∧∃ lh:List Nat,lh.Nodup∧bY (hp w') Bs lh∧∀ b∈lh,b∈fp∨w.heap.size≤b):Mem c (Bs++hs') w':=Mem.change hm hs0
theorem jg {f:FuncId} {args:List Value} {As:List a8} {ι:Type} {Φ:ι→Prop} {val:ι→Value} {own:ι→List a8} (hr:ln P sl ⟨some d,op,ty,pos,af,none⟩ f args) (hd:Nat.blt d c.nt=true) (ht:bo hs As hs')
  (hc:∀ w fp,Mem c hs w→fp.Nodup→bY (hp w) As fp→bd P f args w fp Φ val own)
  (k:∀ x,Φ x→Tr c D ((d,val x)::sl) (own x++hs') (WL P r ops Q rest)):Tr c D sl hs (WL P r ops Q (⟨some d,op,ty,pos,af,none⟩::rest)):=fun a w a7=>by
 have hm:=a7.mem.iZ (ht.append (l8 D))
 obtain ⟨kk,fp,hn,ie,hb⟩:=hm
 obtain ⟨f1,f2,rfl,h1,h2⟩:=bY.append_iff.1 ie
 refine yb rfl hr a7.cM (hc w f1 a7.qL (List.nodup_append.1 hn).1 h1) fun e w' ⟨x,he,hx,hk,lh,qV,hs',u4⟩=>⟨val x,he,k x hx _ _ ((a7.put (by simpa [Nat.blt_eq] using hd) (val x)).heap ?_)⟩
 obtain ⟨n1,n2,n12⟩:=List.nodup_append.1 hn
 have aL:∀ b∈f2,b<w.heap.size:=fun b dy=>let ⟨o,ho⟩:=h2.own b dy;jQ ho
 rw [Zh]
 refine ⟨?_,lh++f2,?_,bY.append_iff.2 ⟨lh,f2,rfl,hs',h2.loc fun b dy=>?_⟩,?_⟩
 ·refine ⟨hk.os.trans kk.os,hk.tape.trans kk.tape,hk.output.trans kk.output,Nat.le_trans kk.dr hk.dr,Nat.le_trans kk.size hk.size,fun b dy hm=>?_⟩
  rw [← kk.block b dy hm]
  refine hk.block b (Nat.lt_of_lt_of_le dy kk.size) (fun hf=>?_)
  rcases hb b (List.mem_append_left _ hf) with h | h
  ·omega
  ·exact hm h
 ·refine List.nodup_append.2 ⟨qV,n2,fun x hx y hy e=>?_⟩
  subst e
  rcases u4 x hx with h | h
  ·exact n12 x h x hy rfl
  ·have:=aL x hy;omega
 ·exact hk.block b (aL b dy) (fun hf=>n12 b hf b dy rfl)
 ·intro b dy
  rcases List.mem_append.1 dy with h | h
  ·rcases u4 b h with h | h
   ·exact hb b (List.mem_append_left _ h)
   ·exact .inl (Nat.le_trans kk.size h)
  ·exact hb b (List.mem_append_right _ h)
def jl:Nat→List Value→aI
 | _,[]=>[]
 | i,v::vs=>(i,v)::jl (i+1) vs
theorem pg:∀ (vs:List Value) (i t:Nat) (v:Value),cF (jl i vs) t=some v→∃ j,t=i+j∧vs[j]? = some v
 | [],_,_,_,h=>by simp [jl,cF] at h
 | u :: us, i, t, v, h => by
  by_cases hit:i=t
  ·subst hit
   rw [jl,fA] at h
   exact ⟨0,rfl,by simpa using h⟩
  ·rw [jl,fy hit] at h
   obtain ⟨j,e,hj⟩:=pg us (i+1) t v h
   exact ⟨j+1,by omega,by simpa using hj⟩
theorem oB {f:FuncId} {fn:Func} {code:Code} {args:List Value} {w:World} {md:List Nat} {hs0:List a8} {R:Ending→World→Prop} (hf:P.funcs[f]? = some fn) (hb:fn.body=some code) (hl:args.length≤fn.ntmps)
  (h0:∃ fp:List Nat,fp.Nodup∧bY (hp w) hs0 fp∧∀ b∈fp,b∈md)
  (h:Tr ⟨w,md,fn.ntmps⟩ [] (jl 0 args) hs0 (WP P none code (bodyPostM (FR none) 0 P fn R))):Calls P f args.toArray w R:=by
 have hc:=callsIn_of_wp_marks (F:=FR none) (n:=0) (P:=P) (f:=f) (R:=R) (w:=w) (args:=args.toArray) hf hb trivial
  (h { tmps:=args.toArray++Array.replicate (fn.ntmps-args.toArray.size) undef,defers:=[] } w ⟨⟨.refl _ _,?_⟩,?_,?_,rfl⟩)
 ·exact (callsIn_wide (n:=0)).1 hc
 ·obtain ⟨fp,hn,ie,hm⟩:=h0
  exact ⟨fp,hn,by simpa [l8] using ie,fun b dy=>.inr (hm b dy)⟩
 ·intro t v hv
  obtain ⟨j,e,hj⟩:=pg args 0 t v hv
  have:t=j:=by omega
  subst this
  obtain ⟨aL,mu⟩:=List.getElem?_eq_some_iff.1 hj
  simp [Array.getElem?_append,aL,mu]
 ·simp;omega
end
end Go.SL
namespace Go.SL
open Go
structure Rel where
 p:Value→World→Prop
 st:∀ {v:Value} {w w':World},p v w→aG [] w w'→p v w'
def Rel.val (V:Value):Rel:=⟨fun v _=>v=V,fun h _=>h⟩
abbrev eE:=List (Nat×Rel)
def zH (T:List Nat) (rl:eE) (a:Act) (w:World):Prop:=∀ d R,(d,R)∈rl→d∈T→∃ v,a.tmps[d]? = some v∧R.p v w
def wx (P:Program) (o:Oper) (a:Act) (w:World) (R:Rel):Prop:=
 match (execOp a.eval o).run P w with
 | .ok (.value v) w'=>aG [] w w'∧R.p v w'
 | .ok (.enter f args) w'=>w'=w∧Calls P f args w (fun e vQ=>∃ v,e=.returned v∧aG [] w vQ∧R.p v vQ)
 | _=>False
def sQ (P:Program) (c:Cx) (hs:List a8) (ops:Array Oper) (sl:aI) (rl:eE) (o:Oper) (R:Rel):Prop:=
 ∀ a w,bK sl a→zH (o.looksAt ops) rl a w→Mem c hs w→if Region.wanted o (yielded ops a.tmps) then wx P o a w R else R.p undef w
def KH (e:Edge):Bool:=Region.binds .any e
def mH (o:Oper):Bool:=match o.op with | .select ..=>false | .defer _=>false | _=>true
def fk (o:Oper) (i:Nat):Bool:=o.after.toList.any fun e=>KH e&&Nat.beq e.on i
def has (l:List Nat) (t:Nat):Bool:=l.any (Nat.beq t)
theorem Eh {l:List Nat} {t:Nat}:has l t=true↔t∈l:=by
 simp [has,List.any_eq_true]
def pG (ops:Array Oper) (x y:Oper) (i:Nat):Bool:=
 match x.dst,y.dst with
 | some d,some e=>!Nat.beq d e&&((!has (y.looksAt ops) d&&!has (x.looksAt ops) e)||fk y i)
 | _,_=>false
def kh (ops:Array Oper):List Oper→Nat→Bool
 | [],_=>true
 | x::r,i=>r.all (fun y=>pG ops x y i)&&kh ops r (i+1)
def th:List Oper→Nat→Bool
 | [],_=>true
 | o::r,k=>o.after.toList.all (fun e=>!KH e||Nat.blt e.on k)&&th r (k+1)
def pJ (acc:List Nat) (o:Oper):Nat:=o.after.toList.foldl (fun s e=>if KH e then s ||| 2 ^ e.on ||| acc.getD e.on 0 else s) 0
def iw:List Oper→List Nat→List Nat
 | [],acc=>acc
 | o::r,acc=>iw r (acc++[pJ acc o])
def yn (ms:List Nat):List Nat→Bool
 | []=>true
 | k::r=>(List.range k).all (fun i=>(ms.getD k 0).testBit i)&&yn ms r
def xg (l:List Oper) (m:Nat):Bool:=
 l.all mH&&th l 0&&kh l.toArray (l.take m) 0&&(l.take m).all (fun o=>o.dst.isSome)&&yn (iw l []) (List.range' m (l.length-m))&&Nat.ble m l.length
theorem jD {l:List Oper}:∀ {s:Nat},th l s=true→∀ {k:Nat} {o:Oper},l[k]? = some o→∀ e∈o.after,KH e=true→e.on<s+k:=by
 induction l with
 | nil=>intro s _ k o h;simp at h
 | cons x r ih =>
  intro s h k o hk e he hb
  simp only [th,Bool.and_eq_true,List.all_eq_true] at h
  cases k with
  | zero =>
   simp at hk;subst hk
   have:=h.1 e (by simpa using he)
   simpa [hb,Nat.blt_eq] using this
  | succ k =>
   have:=ih h.2 (k:=k) (by simpa using hk) e he hb
   omega
theorem qM:∀ (l:List Oper) (acc:List Nat),∃ t,iw l acc=acc++t∧t.length=l.length
 | [],acc=>⟨[],by simp [iw]⟩
 | o :: r, acc => by
  obtain ⟨t,h,hl⟩:=qM r (acc++[pJ acc o])
  exact ⟨pJ acc o::t,by simp [iw,h],by simp [hl]⟩
theorem uI:∀ (l:List Oper) (acc:List Nat) (k:Nat) (o:Oper),l[k]? = some o→(iw l acc).getD (acc.length+k) 0=pJ ((iw l acc).take (acc.length+k)) o
 | [],_,_,_,h=>by simp at h
 | x :: r, acc, k, o, h => by
  obtain ⟨t,ht,hl⟩:=qM r (acc++[pJ acc x])
  cases k with
  | zero =>
   simp at h;subst h
   simp [iw,ht]
  | succ k =>
   have:=uI r (acc++[pJ acc x]) k o (by simpa using h)
   simp only [Zg,List.length_cons,List.length_nil] at this
   rw [show acc.length+(k+1)=acc.length+(0+1)+k from by omega]
   exact this
theorem sx (acc:List Nat) (i:Nat):∀ (es:List Edge) (s:Nat),(es.foldl (fun s e=>if KH e then s ||| 2 ^ e.on ||| acc.getD e.on 0 else s) s).testBit i=true →
  s.testBit i=true∨∃ e∈es,KH e=true∧(i=e.on∨(acc.getD e.on 0).testBit i=true)
 | [],s,h=>.inl h
 | e :: es, s, h => by
  simp only [List.foldl_cons] at h
  rcases sx acc i es _ h with h | ⟨e',Ga,hb,h⟩
  ·by_cases hb:KH e=true
   ·simp only [hb,if_true,Nat.testBit_or,Bool.or_eq_true,Nat.testBit_two_pow,decide_eq_true_eq] at h
    rcases h with (h | h) | h
    ·exact .inl h
    ·exact .inr ⟨e,by simp,hb,.inl h.symm⟩
    ·exact .inr ⟨e,by simp,hb,.inr h⟩
   ·simp only [hb] at h
    exact .inl h
  ·exact .inr ⟨e',by simp [Ga],hb,h⟩
def DC (l:List Oper) (L:Nat→Prop):Prop:=∀ k o,l[k]? = some o→L k→∀ e∈o.after,KH e=true→L e.on
theorem gQ {l:List Oper} {L:Nat→Prop} (zf:DC l L) (RH:th l 0=true):∀ (k:Nat),k<l.length→L k→∀ i,((iw l []).getD k 0).testBit i=true→L i:=by
 intro k
 induction k using Nat.strongRecOn with
 | _ k ih =>
  intro hk hL i hi
  have ho:l[k]? = some l[k]:=Zc hk
  have hm:=uI l [] k _ ho
  simp only [List.length_nil,Nat.zero_add] at hm
  rw [hm] at hi
  unfold pJ at hi
  rcases sx _ i _ 0 hi with h | ⟨e,he,hb,h⟩
  ·simp at h
  ·have Ga:e∈l[k].after:=by simpa using he
   have aL:e.on<k:=by have:=jD RH ho e Ga hb;omega
   have Yx:=zf k _ ho hL e Ga hb
   rcases h with h | h
   ·rw [h];exact Yx
   ·refine ih e.on aL (by omega) Yx i ?_
    have:((iw l []).take k).getD e.on 0=(iw l []).getD e.on 0:=by
     simp [List.getD_eq_getElem?_getD,aL]
    rwa [this] at h
theorem mG {ops:Array Oper} {l:List Oper}:∀ {s:Nat},kh ops l s=true→∀ {i j:Nat} {x y:Oper},i<j→l[i]? = some x→l[j]? = some y→pG ops x y (s+i)=true:=by
 induction l with
 | nil=>intro s _ i j x y _ h;simp at h
 | cons o r ih =>
  intro s h i j x y xE hx hy
  simp only [kh,Bool.and_eq_true,List.all_eq_true] at h
  cases j with
  | zero=>omega
  | succ j =>
   cases i with
   | zero =>
    simp at hx;subst hx
    exact h.1 y (List.mem_of_getElem? (by simpa using hy))
   | succ i =>
    have:=ih h.2 (i:=i) (j:=j) (by omega) (by simpa using hx) (by simpa using hy)
    rwa [show s+1+i=s+(i+1) from by omega] at this
theorem om {sl:aI} {T:List Nat} {a:Act} {nt:Nat} (hn:a.tmps.size=nt) (hk:∀ t v,cF sl t=some v→t<nt) (hT:∀ t∈T,∀ v,cF sl t=some v→a.tmps[t]? = some v) :
  ∃ a':Act,bK sl a'∧(∀ t∈T,a'.tmps[t]? = a.tmps[t]?)∧a'.tmps.size=nt:=by
 refine ⟨⟨Array.ofFn (n:=nt) fun t=>if (t:Nat)∈T then a.tmps.getD t undef else (cF sl t).getD undef,a.defers⟩,?_,?_,by simp⟩
 ·intro t v hv
  have aL:=hk t v hv
  simp only [Array.getElem?_ofFn,aL,dif_pos]
  by_cases ht:t∈T
  ·have:=hT t ht v hv
   simp [ht,Array.getD_eq_getD_getElem?,this]
  ·simp [ht,hv]
 ·intro t ht
  by_cases aL:t<nt
  ·have:a.tmps[t]? = some (a.tmps[t]'(by omega)):=Array.getElem?_eq_getElem (by omega)
   simp [ht,aL,Array.getD_eq_getD_getElem?,this]
  ·rw [Array.getElem?_eq_none (by simp;omega),Array.getElem?_eq_none (by omega)]
theorem zo {a a':Act} {x:Operand} (h:∀ t,x=.tmp t→a'.tmps[t]? = a.tmps[t]?):a'.eval x=a.eval x:=by
 cases x with
 | tmp t=>simp [Act.eval,Array.getD_eq_getD_getElem?,h t rfl]
 | _=>rfl
theorem im {o:Oper} {ops:Array Oper} {a a':Act} (ho:mH o=true) (h:∀ t∈o.looksAt ops,a'.tmps[t]? = a.tmps[t]?):execOp a'.eval o=execOp a.eval o:=by
 refine execOp_congr o (fun cs b he=>by simp [mH,he] at ho) fun x hx=>zo fun t ht=>h t ?_
 subst ht
 unfold Oper.looksAt
 refine List.mem_append_left _ ?_
 simp only [List.mem_filterMap]
 exact ⟨_,by simpa using hx,rfl⟩
theorem gM {o:Oper} {ops:Array Oper} {a a':Act} (h:∀ t∈o.looksAt ops,a'.tmps[t]? = a.tmps[t]?):Region.wanted o (yielded ops a'.tmps)=Region.wanted o (yielded ops a.tmps):=by
 unfold Region.wanted
 cases hg:o.guard with
 | none=>rfl
 | some gw =>
  obtain ⟨j,want⟩:=gw
  simp only []
  have:yielded ops a'.tmps j=yielded ops a.tmps j:=by
   unfold yielded
   cases hd:(ops[j]?).bind (·.dst) with
   | none=>rfl
   | some d =>
    have:=h d (by unfold Oper.looksAt;exact List.mem_append_right _ (by simp [hg,hd]))
    simp [this]
  rw [this]
inductive r8 (P:Program) (c:Cx) (hs:List a8) (ops:Array Oper):List Oper→aI→eE→List Rel→aI→eE→Prop
 | nil {sl:aI} {rl:eE}:r8 P c hs ops [] sl rl [] sl rl
 | val {o:Oper} {l:List Oper} {sl jc:aI} {rl ke:eE} {d:Nat} {V:Value} {S:List Rel} (hd:o.dst=some d) (fw:d<c.nt) (h:sQ P c hs ops sl rl o (.val V)) (t:r8 P c hs ops l ((d,V)::sl) rl S jc ke) :
   r8 P c hs ops (o::l) sl rl (.val V::S) jc ke
 | rel {o:Oper} {l:List Oper} {sl jc:aI} {rl ke:eE} {d:Nat} {R:Rel} {S:List Rel} (hd:o.dst=some d) (fw:d<c.nt) (hn:cF sl d=none) (h:sQ P c hs ops sl rl o R) (t:r8 P c hs ops l sl ((d,R)::rl) S jc ke) :
   r8 P c hs ops (o::l) sl rl (R::S) jc ke
theorem r8.at_ {P:Program} {c:Cx} {hs:List a8} {ops:Array Oper} {l:List Oper} {sl jc:aI} {rl ke:eE} {S:List Rel} (h:r8 P c hs ops l sl rl S jc ke) :
  ∀ (i : Nat) (o : Oper), l[i]? = some o → ∃ tx Ku R, S[i]? = some R ∧ sQ P c hs ops tx Ku o R ∧
   (∀ t v,cF tx t=some v→(∃ (j:Nat) (oj:Oper),j<i∧l[j]? = some oj∧oj.dst=some t∧S[j]? = some (.val v))∨((∀ (j:Nat) (oj:Oper),j<i→l[j]? = some oj→oj.dst≠some t)∧cF sl t=some v)) ∧
   (∀ t Rt,(t,Rt)∈Ku→(∃ (j:Nat) (oj:Oper),j<i∧l[j]? = some oj∧oj.dst=some t∧S[j]? = some Rt)∨(t,Rt)∈rl):=by
 induction h with
 | nil=>intro i o h;simp at h
 | @val o0 l sl jc rl ke d V S hd fw a7 t ih =>
  intro i o ho
  cases i with
  | zero =>
   simp at ho;subst ho
   exact ⟨sl,rl,.val V,rfl,a7,fun t v hv=>.inr ⟨fun j _ hj=>by omega,hv⟩,fun t Rt hm=>.inr hm⟩
  | succ i =>
   obtain ⟨tx,Ku,R,hR,hs',h1,h2⟩:=ih i o (by simpa using ho)
   refine ⟨tx,Ku,R,by simpa using hR,hs',fun t v hv=>?_,fun t Rt hm=>?_⟩
   ·rcases h1 t v hv with ⟨j,oj,hj,iE,iy,ju⟩ | ⟨uX,mu⟩
    ·exact .inl ⟨j+1,oj,by omega,by simpa using iE,iy,by simpa using ju⟩
    ·by_cases wg:d=t
     ·subst wg
      rw [fA] at mu
      cases mu
      exact .inl ⟨0,o0,by omega,rfl,hd,rfl⟩
     ·rw [fy wg] at mu
      refine .inr ⟨fun j oj hj iE=>?_,mu⟩
      cases j with
      | zero=>simp at iE;subst iE;rw [hd];simp [wg]
      | succ j=>exact uX j oj (by omega) (by simpa using iE)
   ·rcases h2 t Rt hm with ⟨j,oj,hj,iE,iy,ju⟩ | au
    ·exact .inl ⟨j+1,oj,by omega,by simpa using iE,iy,by simpa using ju⟩
    ·exact .inr au
 | @rel o0 l sl jc rl ke d R0 S hd fw hn a7 t ih =>
  intro i o ho
  cases i with
  | zero =>
   simp at ho;subst ho
   exact ⟨sl,rl,R0,rfl,a7,fun t v hv=>.inr ⟨fun j _ hj=>by omega,hv⟩,fun t Rt hm=>.inr hm⟩
  | succ i =>
   obtain ⟨tx,Ku,R,hR,hs',h1,h2⟩:=ih i o (by simpa using ho)
   refine ⟨tx,Ku,R,by simpa using hR,hs',fun t v hv=>?_,fun t Rt hm=>?_⟩
   ·rcases h1 t v hv with ⟨j,oj,hj,iE,iy,ju⟩ | ⟨uX,mu⟩
    ·exact .inl ⟨j+1,oj,by omega,by simpa using iE,iy,by simpa using ju⟩
    ·have wg:d≠t:=fun e=>by subst e;rw [hn] at mu;cases mu
     refine .inr ⟨fun j oj hj iE=>?_,mu⟩
     cases j with
     | zero=>simp at iE;subst iE;rw [hd];simp [wg]
     | succ j=>exact uX j oj (by omega) (by simpa using iE)
   ·rcases h2 t Rt hm with ⟨j,oj,hj,iE,iy,ju⟩ | au
    ·exact .inl ⟨j+1,oj,by omega,by simpa using iE,iy,by simpa using ju⟩
    ·rcases List.mem_cons.1 au with e | Qm
     ·cases e
      exact .inl ⟨0,o0,by omega,rfl,hd,rfl⟩
     ·exact .inr Qm
theorem r8.end_ {P:Program} {c:Cx} {hs:List a8} {ops:Array Oper} {l:List Oper} {sl jc:aI} {rl ke:eE} {S:List Rel} (h:r8 P c hs ops l sl rl S jc ke) :
   (∀ t v,cF jc t=some v→(∃ (j:Nat) (oj:Oper),l[j]? = some oj∧oj.dst=some t∧S[j]? = some (.val v))∨((∀ (j:Nat) (oj:Oper),l[j]? = some oj→oj.dst≠some t)∧cF sl t=some v)) ∧
   (∀ t Rt,(t,Rt)∈ke→(∃ (j:Nat) (oj:Oper),l[j]? = some oj∧oj.dst=some t∧S[j]? = some Rt)∨(t,Rt)∈rl) ∧
   (∀ (j:Nat) (oj:Oper),l[j]? = some oj→∃ d R,oj.dst=some d∧d<c.nt∧S[j]? = some R):=by
 induction h with
 | nil=>exact ⟨fun t v hv=>.inr ⟨fun j oj h=>by simp at h,hv⟩,fun t Rt hm=>.inr hm,fun j oj h=>by simp at h⟩
 | @val o0 l sl jc rl ke d V S hd fw a7 t ih =>
  obtain ⟨h1,h2,h3⟩:=ih
  refine ⟨fun t v hv=>?_,fun t Rt hm=>?_,fun j oj hj=>?_⟩
  ·rcases h1 t v hv with ⟨j,oj,iE,iy,ju⟩ | ⟨uX,mu⟩
   ·exact .inl ⟨j+1,oj,by simpa using iE,iy,by simpa using ju⟩
   ·by_cases wg:d=t
    ·subst wg
     rw [fA] at mu
     cases mu
     exact .inl ⟨0,o0,rfl,hd,rfl⟩
    ·rw [fy wg] at mu
     refine .inr ⟨fun j oj iE=>?_,mu⟩
     cases j with
     | zero=>simp at iE;subst iE;rw [hd];simp [wg]
     | succ j=>exact uX j oj (by simpa using iE)
  ·rcases h2 t Rt hm with ⟨j,oj,iE,iy,ju⟩ | au
   ·exact .inl ⟨j+1,oj,by simpa using iE,iy,by simpa using ju⟩
   ·exact .inr au
  ·cases j with
   | zero=>simp at hj;subst hj;exact ⟨d,_,hd,fw,rfl⟩
   | succ j=>obtain ⟨d',R',h⟩:=h3 j oj (by simpa using hj);exact ⟨d',R',by simpa using h⟩
 | @rel o0 l sl jc rl ke d R0 S hd fw hn a7 t ih =>
  obtain ⟨h1,h2,h3⟩:=ih
  refine ⟨fun t v hv=>?_,fun t Rt hm=>?_,fun j oj hj=>?_⟩
  ·rcases h1 t v hv with ⟨j,oj,iE,iy,ju⟩ | ⟨uX,mu⟩
   ·exact .inl ⟨j+1,oj,by simpa using iE,iy,by simpa using ju⟩
   ·have wg:d≠t:=fun e=>by subst e;rw [hn] at mu;cases mu
    refine .inr ⟨fun j oj iE=>?_,mu⟩
    cases j with
    | zero=>simp at iE;subst iE;rw [hd];simp [wg]
    | succ j=>exact uX j oj (by simpa using iE)
  ·rcases h2 t Rt hm with ⟨j,oj,iE,iy,ju⟩ | au
   ·exact .inl ⟨j+1,oj,by simpa using iE,iy,by simpa using ju⟩
   ·rcases List.mem_cons.1 au with e | Qm
    ·cases e
     exact .inl ⟨0,o0,rfl,hd,rfl⟩
    ·exact .inr Qm
  ·cases j with
   | zero=>simp at hj;subst hj;exact ⟨d,_,hd,fw,rfl⟩
   | succ j=>obtain ⟨d',R',h⟩:=h3 j oj (by simpa using hj);exact ⟨d',R',by simpa using h⟩
end Go.SL
namespace Go.SL
open Go
section
variable {P:Program} {r:Option Nat} {c:Cx} {D:List Nat} {sl jc:aI} {ke:eE} {hs:List a8} {Q:Exit→Act→World→Prop} {l:List Oper} {m:Nat} {S:List Rel}
def Ls (listed:Array Bool) (i:Nat):Prop:=listed.getD i false=true
theorem eL (n i:Nat):¬ Ls (Array.replicate n false) i:=by
 unfold Ls
 rw [Array.getD_eq_getD_getElem?,Array.getElem?_replicate]
 split <;> simp
theorem cr {listed:Array Bool} {i j:Nat} (hi:i<listed.size):Ls (listed.setIfInBounds i true) j↔(j=i∨Ls listed j):=by
 unfold Ls
 by_cases h:i=j
 ·subst h
  simp [Array.getD_eq_getD_getElem?,hi]
 ·have h':¬ j=i:=fun e=>h e.symm
  simp [Array.getD_eq_getD_getElem?,Array.getElem?_setIfInBounds_ne h,h']
theorem Ek {listed:Array Bool} {i:Nat} (hi:i<listed.size):listed.getD i true=false↔¬ Ls listed i:=by
 unfold Ls
 simp [Array.getD_eq_getD_getElem?,hi]
theorem dA {listed:Array Bool} (hsz:listed.size=l.length) {i:Nat}:i∈Region.ready .any l.toArray listed↔∃ o,l[i]? = some o∧¬ Ls listed i∧∀ e∈o.after,KH e=true→Ls listed e.on:=by
 rw [mem_ready]
 constructor
 ·rintro ⟨h1,o,ho,h2⟩
  have Ef:l[i]? = some o:=by simpa using ho
  have hi:i<listed.size:=by rw [hsz];exact (List.getElem?_eq_some_iff.1 Ef).1
  exact ⟨o,Ef,(Ek hi).1 h1,h2⟩
 ·rintro ⟨o,ho,h1,h2⟩
  have hi:i<listed.size:=by rw [hsz];exact (List.getElem?_eq_some_iff.1 ho).1
  exact ⟨(Ek hi).2 h1,o,by simpa using ho,h2⟩
theorem ja {listed:Array Bool} (hsz:listed.size=l.length) (RH:th l 0=true) (h:∃ i,i<l.length∧¬ Ls listed i):∃ i,i∈Region.ready .any l.toArray listed:=by
 obtain ⟨i,hi,hn⟩:=h
 induction i using Nat.strongRecOn with
 | _ i ih =>
  by_cases dU:∀ j,j<i→Ls listed j
  ·refine ⟨i,(dA hsz).2 ⟨l[i],Zc hi,hn,fun e he hb=>dU _ ?_⟩⟩
   have:=jD RH (Zc hi) e he hb
   omega
  ·have:∃ j,j<i∧¬ Ls listed j:=by
    apply Classical.byContradiction
    intro hc
    exact dU fun j hj=>Classical.byContradiction fun qV=>hc ⟨j,hj,qV⟩
   obtain ⟨j,hj,hnj⟩:=this
   exact ih j hj (by omega) hnj
theorem sg {ms:List Nat}:∀ {ks:List Nat},yn ms ks=true→∀ k∈ks,∀ i,i<k→(ms.getD k 0).testBit i=true
 | [],_,k,hk=>by cases hk
 | x :: ks, h, k, hk => by
  simp only [yn,Bool.and_eq_true,List.all_eq_true,List.mem_range] at h
  rcases List.mem_cons.1 hk with e | hk
  ·subst e;exact h.1
  ·exact sg h.2 k hk
structure Rl (l:List Oper) (m:Nat):Prop where
 op:∀ o∈l,mH o=true
 ac:th l 0=true
 AM:kh l.toArray (l.take m) 0=true
 tail:∀ k,m≤k→k<l.length→∀ i,i<k→((iw l []).getD k 0).testBit i=true
 le:m≤l.length
theorem uB (h:xg l m=true):Rl l m:=by
 simp only [xg,Bool.and_eq_true,List.all_eq_true] at h
 obtain ⟨⟨⟨⟨⟨h1,h2⟩,h3⟩,_⟩,h5⟩,h6⟩:=h
 refine ⟨h1,h2,h3,fun k hk aL=>sg h5 k ?_,by simpa using h6⟩
 rw [List.mem_range'_1]
 omega
theorem pE (hc:Rl l m) {listed:Array Bool} (hsz:listed.size=l.length) (zf:DC l (Ls listed)) {i:Nat} (hi:i∈Region.ready .any l.toArray listed) (hm:m≤i):∀ j,j<i→Ls listed j:=by
 intro j hj
 obtain ⟨o,ho,hn,hd⟩:=(dA hsz).1 hi
 have aL:i<l.length:=(List.getElem?_eq_some_iff.1 ho).1
 have CY:DC l (fun k=>k=i∨Ls listed k):=by
  intro k ok hk hL e he hb
  rcases hL with e' | hL
  ·subst e'
   rw [ho] at hk;cases hk
   exact .inr (hd e he hb)
  ·exact .inr (zf k ok hk hL e he hb)
 rcases gQ CY hc.ac i aL (.inl rfl) j (hc.tail i hm aL j hj) with h | h
 ·omega
 ·exact h
theorem B7 {o:Oper} {rest:List Oper} {i:Nat} {ops:Array Oper} {K:Act→World→Prop} {a:Act} {w:World} (hi:ops[i]? = some o) (hK:∀ a w,WL P r ops Q rest a w→K a w) (h:WL P r ops Q (o::rest) a w):wpOpIn (FR r) 0 P ops Q i K a w:=by
 unfold wpOpIn
 simp only [hi]
 unfold WL at h
 split
 ·rename_i hw
  rw [if_pos hw] at h
  exact Oper.wpIn_mono hK h
 ·rename_i hw
  rw [if_neg hw] at h
  exact ⟨fun _ _=>trivial,hK _ _ h⟩
theorem CB (hc:Rl l m):∀ (fuel k:Nat) (listed:Array Bool) (a:Act) (w:World),m≤k→k+fuel=l.length→listed.size=l.length→(∀ i,i<l.length→(Ls listed i↔i<k)) →
  WL P r l.toArray Q (l.drop k) a w→wpAnyIn (FR r) 0 P .any l.toArray Q fuel listed a w
 | 0, k, listed, a, w, _, hk, hsz, hL, h => by
  refine ⟨?_,by rw [List.drop_of_length_le (by omega)] at h;exact h⟩
  apply List.eq_nil_iff_forall_not_mem.2
  intro i hi
  obtain ⟨o,ho,hn,_⟩:=(dA hsz).1 hi
  have aL:=(List.getElem?_eq_some_iff.1 ho).1
  exact hn ((hL i aL).2 (by omega))
 | fuel + 1, k, listed, a, w, KD, hk, hsz, hL, h => by
  have zf:DC l (Ls listed):=fun k' o' Ef MH e he hb=>by
   have aL:=(List.getElem?_eq_some_iff.1 Ef).1
   have:=jD hc.ac Ef e he hb
   exact (hL e.on (by omega)).2 (by have:=(hL k' aL).1 MH;omega)
  have Mv:k<l.length:=by omega
  refine ⟨fun h0=>?_,fun i hi=>?_⟩
  ·obtain ⟨i,hi⟩:=ja hsz hc.ac ⟨k,Mv,fun hh=>by have:=(hL k Mv).1 hh;omega⟩
   rw [h0] at hi;cases hi
  ·obtain ⟨o,ho,hn,_⟩:=(dA hsz).1 hi
   have aL:=(List.getElem?_eq_some_iff.1 ho).1
   have Qp:k≤i:=Nat.le_of_not_lt fun hh=>hn ((hL i aL).2 hh)
   have:i=k:=by
    rcases Nat.lt_or_ge k i with hh | hh
    ·have:=(hL k Mv).1 (pE hc hsz zf hi (by omega) k hh)
     omega
    ·omega
   subst this
   rw [List.drop_eq_getElem_cons aL] at h
   have Ef:l[i]=o:=by rw [Zc aL] at ho;exact Option.some.inj ho
   rw [Ef] at h
   refine B7 (by simpa using ho) (fun a' w' h'=>CB hc fuel (i+1) _ a' w' (by omega) (by omega) (by simpa using hsz) (fun j hj=>?_) h') h
   rw [cr (by omega)]
   have:=hL j hj
   constructor
   ·rintro (e | hh)
    ·omega
    ·have:=this.1 hh;omega
   ·intro hh
    by_cases e:j=i
    ·exact .inl e
    ·exact .inr (this.2 (by omega))
structure Inv1 (c:Cx) (D:List Nat) (hs:List a8) (l:List Oper) (m:Nat) (S:List Rel) (a0:Act) (fuel:Nat) (listed:Array Bool) (a:Act) (w:World):Prop where
 sz:listed.size=l.length
 dc:DC l (Ls listed)
 hi:∀ k,m≤k→¬ Ls listed k
 mem:Mem c (hs++l8 D) w
 defers:a.defers=D.map mark
 size:a.tmps.size=c.nt
 AP:∀ t,(∀ (j:Nat) (o:Oper),l[j]? = some o→Ls listed j→o.dst≠some t)→a.tmps[t]? = a0.tmps[t]?
 new:∀ (j:Nat) (o:Oper),l[j]? = some o→Ls listed j→∀ d R,o.dst=some d→S[j]? = some R→∃ v,a.tmps[d]? = some v∧R.p v w
 left:∃ U:List Nat,U.Nodup∧(∀ i,i∈U↔i<l.length∧¬ Ls listed i)∧U.length=fuel
theorem ly (hc:Rl l m) {i j:Nat} {x y:Oper} (xE:i<j) (hj:j<m) (hx:l[i]? = some x) (hy:l[j]? = some y):pG l.toArray x y i=true:=by
 have:=mG hc.AM (i:=i) (j:=j) xE (by rw [List.getElem?_take,if_pos (by omega)];exact hx) (by rw [List.getElem?_take,if_pos hj];exact hy)
 simpa using this
theorem di {ops:Array Oper} {x y:Oper} {i d e:Nat} (h:pG ops x y i=true) (hx:x.dst=some d) (hy:y.dst=some e):d≠e∧((d∈y.looksAt ops∨e∈x.looksAt ops)→fk y i=true):=by
 simp only [pG,hx,hy,Bool.and_eq_true,Bool.not_eq_true',Bool.or_eq_true] at h
 obtain ⟨h1,h2⟩:=h
 refine ⟨fun e'=>by subst e';simp at h1,fun h3=>?_⟩
 rcases h2 with ⟨h4,h5⟩ | h2
 ·rcases h3 with h3 | h3
  ·rw [Eh.2 h3] at h4;cases h4
  ·rw [Eh.2 h3] at h5;cases h5
 ·exact h2
theorem dq {o:Oper} {i:Nat} (h:fk o i=true):∃ e∈o.after,KH e=true∧e.on=i:=by
 simp only [fk,List.any_eq_true,Bool.and_eq_true] at h
 obtain ⟨e,he,hb,pq⟩:=h
 exact ⟨e,by simpa using he,hb,Nat.eq_of_beq_eq_true pq⟩
theorem A3 (hc:Rl l m) (hl:m≤l.length) {a0 a:Act} {w w':World} {fuel i d:Nat} {listed:Array Bool} {o:Oper} {R:Rel} {v:Value} (hI:Inv1 c D hs l m S a0 (fuel+1) listed a w)
  (hi:i∈Region.ready .any l.toArray listed) (oT:i<m) (ho:l[i]? = some o) (hd:o.dst=some d) (fw:d<c.nt) (qZ:S[i]? = some R)
  (WW:∀ (j:Nat) (oj:Oper),j<m→l[j]? = some oj→∃ e,oj.dst=some e) (hk:aG [] w w') (hv:R.p v w'):Inv1 c D hs l m S a0 fuel (listed.setIfInBounds i true) (a.put o.dst v) w':=by
 obtain ⟨o',Ef,hn,lB⟩:=(dA hI.sz).1 hi
 rw [ho] at Ef;cases Ef
 have iP:i<listed.size:=by rw [hI.sz];omega
 have _:=WW
 have pt:∀ (j:Nat) (oj:Oper) (e:Nat),l[j]? = some oj→j<m→j≠i→oj.dst=some e→e≠d:=by
  intro j oj e hj gX hne he
  rcases Nat.lt_or_ge j i with h | h
  ·exact (di (ly hc h oT hj ho) he hd).1
  ·exact fun e'=>(di (ly hc (show i<j by omega) gX ho hj) hd he).1 e'.symm
 rw [hd]
 refine ⟨by simpa using hI.sz,?_,?_,hI.mem.qP hk,hI.defers,by simpa [Act.put] using hI.size,?_,?_,?_⟩
 ·intro k ok rn hL e he hb
  rw [cr iP] at hL ⊢
  rcases hL with e' | hL
  ·subst e'
   rw [ho] at rn;cases rn
   exact .inr (lB e he hb)
  ·exact .inr (hI.dc k ok rn hL e he hb)
 ·intro k rn hL
  rw [cr iP] at hL
  rcases hL with e | hL
  ·omega
  ·exact hI.hi k rn hL
 ·intro t ht
  have h1:d≠t:=fun e=>by subst e;exact ht i o ho ((cr iP).2 (.inl rfl)) hd
  simp only [Act.put,Array.getElem?_setIfInBounds_ne h1]
  exact hI.AP t fun j oj hj hL=>ht j oj hj ((cr iP).2 (.inr hL))
 ·intro j oj hj hL e Rj he Xh
  rw [cr iP] at hL
  by_cases nf:j=i
  ·subst nf
   rw [ho] at hj;cases hj
   rw [hd] at he;cases he
   rw [qZ] at Xh;cases Xh
   exact ⟨v,by simp [Act.put,hI.size,fw],hv⟩
  ·have zQ:=hL.resolve_left nf
   obtain ⟨u,hu,hp⟩:=hI.new j oj hj zQ e Rj he Xh
   have gX:j<m:=Nat.lt_of_not_le fun h=>hI.hi j h zQ
   have hne:e≠d:=pt j oj e hj gX nf he
   refine ⟨u,?_,Rj.st hp hk⟩
   simp only [Act.put,Array.getElem?_setIfInBounds_ne (Ne.symm hne)]
   exact hu
 ·obtain ⟨U,wh,pN,rQ⟩:=hI.left
  have Qr:i∈U:=(pN i).2 ⟨by omega,hn⟩
  refine ⟨U.erase i,wh.erase i,fun j=>?_,by rw [List.length_erase_of_mem Qr,rQ];rfl⟩
  rw [wh.mem_erase_iff,pN j,cr iP]
  constructor
  ·rintro ⟨h1,h2,h3⟩
   exact ⟨h2,fun h=>h.elim h1 h3⟩
  ·rintro ⟨h1,h2⟩
   exact ⟨fun e=>h2 (.inl e),h1,fun h=>h2 (.inr h)⟩
def Dp (rl:eE) (a:Act) (w:World):Prop:=∀ d R,(d,R)∈rl→∃ v,a.tmps[d]? = some v∧R.p v w
theorem Pv (hc:Rl l m) (hp:r8 P c hs l.toArray (l.take m) sl [] S jc ke) {a0:Act} (h0:bK sl a0) (Ih:a0.tmps.size=c.nt)
  (tail:∀ a w,St c D jc hs a w→Dp ke a w→WL P r l.toArray Q (l.drop m) a w) :
  ∀ (fuel:Nat) (listed:Array Bool) (a:Act) (w:World),Inv1 c D hs l m S a0 fuel listed a w→wpAnyIn (FR r) 0 P .any l.toArray Q fuel listed a w:=by
 have qW:=hp.end_
 have dT:∀ (j:Nat) (o:Oper),j<m→l[j]? = some o→(l.take m)[j]? = some o:=fun j o hj ho=>by rw [List.getElem?_take,if_pos hj];exact ho
 have fu:∀ (j:Nat) (o:Oper),(l.take m)[j]? = some o→j<m∧l[j]? = some o:=fun j o ho=>by
  rw [List.getElem?_take] at ho
  split at ho
  ·exact ⟨by assumption,ho⟩
  ·cases ho
 have mf:∀ fuel listed a w,Inv1 c D hs l m S a0 fuel listed a w→(∀ i,i<m→Ls listed i)→wpAnyIn (FR r) 0 P .any l.toArray Q fuel listed a w:=by
  intro fuel listed a w hI dU
  have hL:∀ i,i<l.length→(Ls listed i↔i<m):=fun i _=>⟨fun h=>Nat.lt_of_not_le fun hm=>hI.hi i hm h,dU i⟩
  obtain ⟨U,wh,pN,rQ⟩:=hI.left
  have gU:U.Perm (List.range' m (l.length-m)):=by
   rw [List.perm_ext_iff_of_nodup wh (List.nodup_range')]
   intro i
   rw [pN i,List.mem_range'_1]
   constructor
   ·rintro ⟨h1,h2⟩
    exact ⟨Nat.le_of_not_lt fun h=>h2 (dU i h),by omega⟩
   ·rintro ⟨h1,h2⟩
    exact ⟨by omega,hI.hi i h1⟩
  have hlen:fuel=l.length-m:=by rw [← rQ,gU.length_eq,List.length_range']
  refine CB hc fuel m listed a w (Nat.le_refl _) (by have:=hc.le;omega) hI.sz hL (tail a w ⟨hI.mem,?_,hI.size,hI.defers⟩ ?_)
  ·intro t v hv
   rcases qW.1 t v hv with ⟨j,oj,hj,iy,ju⟩ | ⟨uX,mu⟩
   ·obtain ⟨gX,lQ⟩:=fu j oj hj
    obtain ⟨u,hu,nb⟩:=hI.new j oj lQ (dU j gX) t _ iy ju
    rw [hu,show u=v from nb]
   ·rw [hI.AP t fun j oj hj jr=>uX j oj (dT j oj (Nat.lt_of_not_le fun hm=>hI.hi j hm jr) hj)]
    exact h0 t v mu
  ·intro d R hm
   rcases qW.2.1 d R hm with ⟨j,oj,hj,iy,ju⟩ | au
   ·obtain ⟨gX,lQ⟩:=fu j oj hj
    exact hI.new j oj lQ (dU j gX) d R iy ju
   ·cases au
 intro fuel
 induction fuel with
 | zero =>
  intro listed a w hI
  obtain ⟨U,_,pN,rQ⟩:=hI.left
  have hU:U=[]:=List.length_eq_zero_iff.1 rQ
  refine mf 0 listed a w hI fun i hi=>Classical.byContradiction fun hn=>?_
  have:=(pN i).2 ⟨by have:=hc.le;omega,hn⟩
  rw [hU] at this;cases this
 | succ fuel ih =>
  intro listed a w hI
  by_cases dU:∀ i,i<m→Ls listed i
  ·exact mf _ listed a w hI dU
  ·have hex:∃ i,i<m∧¬ Ls listed i:=Classical.byContradiction fun hh=>dU fun i hi=>Classical.byContradiction fun hn=>hh ⟨i,hi,hn⟩
   obtain ⟨i0,rP,o7⟩:=hex
   refine ⟨fun hr=>?_,fun i hi=>?_⟩
   ·obtain ⟨i,hi⟩:=ja hI.sz hc.ac ⟨i0,by have:=hc.le;omega,o7⟩
    rw [hr] at hi;cases hi
   ·have oT:i<m:=Nat.lt_of_not_le fun hm=>o7 (pE hc hI.sz hI.dc hi hm i0 (by omega))
    obtain ⟨o,ho,hn,lB⟩:=(dA hI.sz).1 hi
    obtain ⟨tx,Ku,R,QH,fO,hs1,hs2⟩:=hp.at_ i o (dT i o oT ho)
    obtain ⟨d,R',hd,fw,qZ⟩:=qW.2.2 i o (dT i o oT ho)
    rw [QH] at qZ;cases qZ
    have lA:∀ (j:Nat),fk o j=true→Ls listed j:=fun j hw=>by
     obtain ⟨e,he,hb,pq⟩:=dq hw
     rw [← pq];exact lB e he hb
    have Bk:∀ (j t:Nat) (oj:Oper),j<i→(l.take m)[j]? = some oj→oj.dst=some t→t∈o.looksAt l.toArray→Ls listed j:=by
     intro j t oj hj iE iy ht
     obtain ⟨gX,lQ⟩:=fu j oj iE
     exact lA j ((di (ly hc hj oT lQ ho) iy hd).2 (.inl ht))
    have hT:∀ t∈o.looksAt l.toArray,∀ v,cF tx t=some v→a.tmps[t]? = some v:=by
     intro t ht v hv
     rcases hs1 t v hv with ⟨j,oj,hj,iE,iy,ju⟩ | ⟨uX,mu⟩
     ·obtain ⟨u,hu,nb⟩:=hI.new j oj (fu j oj iE).2 (Bk j t oj hj iE iy ht) t _ iy ju
      rw [hu,show u=v from nb]
     ·rw [hI.AP t fun j oj hj jr iy=>?_]
      ·exact h0 t v mu
      ·have gX:j<m:=Nat.lt_of_not_le fun hm=>hI.hi j hm jr
       rcases Nat.lt_trichotomy j i with h | h | h
       ·exact uX j oj h (dT j oj gX hj) iy
       ·subst h;exact hn jr
       ·have hw:=(di (ly hc h gX ho hj) hd iy).2 (.inr ht)
        obtain ⟨e,he,hb,pq⟩:=dq hw
        have:=hI.dc j oj hj jr e he hb
        rw [pq] at this
        exact hn this
    have u0:∀ t v,cF tx t=some v→t<c.nt:=by
     intro t v hv
     rcases hs1 t v hv with ⟨j,oj,_,iE,iy,_⟩ | ⟨_,mu⟩
     ·obtain ⟨d',_,vK,ze,_⟩:=qW.2.2 j oj iE
      rw [iy] at vK;cases vK
      exact ze
     ·have:=h0 t v mu
      rw [← Ih]
      exact (Array.getElem?_eq_some_iff.1 this).1
    obtain ⟨a',kF,iW,_⟩:=om hI.size u0 hT
    have Qe:zH (o.looksAt l.toArray) Ku a' w:=by
     intro t Rt hm ht
     rcases hs2 t Rt hm with ⟨j,oj,hj,iE,iy,ju⟩ | au
     ·obtain ⟨v,hv,nb⟩:=hI.new j oj (fu j oj iE).2 (Bk j t oj hj iE iy ht) t _ iy ju
      exact ⟨v,by rw [iW t ht];exact hv,nb⟩
     ·cases au
    have hq:=fO a' w kF Qe hI.mem.kX
    have BY:mH o=true:=hc.op o (List.mem_of_getElem? ho)
    have hex:=im (o:=o) (ops:=l.toArray) BY iW
    rw [gM iW] at hq
    have gH:∀ v w',aG [] w w'→R.p v w'→wpAnyIn (FR r) 0 P .any l.toArray Q fuel (listed.setIfInBounds i true) (a.put o.dst v) w':=fun v w' hk hv=>
     ih _ _ _ (A3 hc hc.le hI hi oT ho hd fw QH (fun j oj hj iE=>let ⟨e,_,he,_⟩:=qW.2.2 j oj (dT j oj hj iE);⟨e,he⟩) hk hv)
    unfold wpOpIn
    rw [show l.toArray[i]? = some o from by simpa using ho]
    simp only []
    split
    ·rename_i hw
     rw [if_pos hw] at hq
     refine ⟨dH _ _ _ _ _,?_⟩
     rw [Oper.semAt_eq _ _ _ (fun cc he=>by simp [mH,he] at BY),← hex]
     unfold wx at hq
     revert hq
     generalize (execOp a'.eval o).run P w=res
     intro hq
     match res,hq with
     | .ok (.value v) w',⟨hk,hv⟩=>exact gH v w' hk hv
     | .ok (.enter f args) w', ⟨e, cn⟩ =>
      subst e
      refine ⟨by simp [FR,Fence.wide],(gV cn).mono fun e vQ h=>?_⟩
      obtain ⟨v,rfl,hk,hv⟩:=h
      exact gH v vQ hk hv
    ·rename_i hw
     rw [if_neg hw] at hq
     exact ⟨fun _ _=>trivial,gH undef w (.refl _ _) hq⟩
theorem yl {id:Nat} (pM:P.follows .mixedOrders=true) (iQ:xg l m=true) (hp:r8 P c hs l.toArray (l.take m) sl [] S jc ke)
  (tail:∀ a w,St c D jc hs a w→Dp ke a w→WL P r l.toArray Q (l.drop m) a w):Tr c D sl hs (WP P r (.region id l.toArray true) Q):=fun a w a7=>by
 unfold WP
 refine wpIn_region_any pM ?_
 refine Pv (uB iQ) hp a7.cM a7.size tail l.toArray.size _ a _ ⟨by simp,?_,?_,?_,a7.defers,a7.size,fun t _=>rfl,?_,List.range l.length,List.nodup_range,?_,by simp⟩
 ·exact fun k o _ hL=>absurd hL (eL _ _)
 ·exact fun k _ hL=>eL _ _ hL
 ·exact a7.mem.drew
 ·exact fun j o _ hL=>absurd hL (eL _ _)
 ·exact fun i=>⟨fun h=>⟨by simpa using h,eL _ _⟩,fun h=>by simpa using h.1⟩
end
end Go.SL
namespace Go.SL
open Go
def leq:Value→Value→Option Bool
 | .int k a,.int k' b=>if k=k' then some (decide (a=b)) else none
 | .string a,.string b=>some (decide (a=b))
 | .bool a,.bool b=>some (a==b)
 | _,_=>none
def vM:List Value→List Value→Option Bool
 | [],[]=>some true
 | x :: xs, y :: ys => match leq x y, vM xs ys with
  | some p,some q=>some (p&&q)
  | _,_=>none
 | _,_=>none
def HR:Option TypeDesc→Bool
 | some (.int _) | some .string | some .bool=>true
 | _=>false
section
variable {P:Program} {w:World}
theorem D7 {d:Nat} {t:TypeId} {x y:Value} {b:Bool} (hl:HR (P.underlying t)=true) (hk:∀ k,P.underlying t=some (.int k)→∃ a,x=.int k a) (hs:P.underlying t=some .string→∃ a,x=.string a) (hb:P.underlying t=some .bool→∃ a,x=.bool a)
  (h:leq x y=some b):(Op.equalIn (d+1) t x y).run P w=.ok b w:=by
 cases hu:P.underlying t with
 | none=>rw [hu] at hl;cases hl
 | some D =>
  rw [hu] at hl
  cases D with
  | int k =>
   obtain ⟨a,rfl⟩:=hk k hu
   cases y <;> simp only [leq] at h <;> try cases h
   rename_i k' b'
   split at h
   ·rename_i e;subst e;cases h
    rw [run_equalIn_int w d t k k a b' hu];congr 1
   ·cases h
  | string =>
   obtain ⟨a,rfl⟩:=hs hu
   cases y <;> simp only [leq,Option.some.injEq] at h <;> try cases h
   rw [run_equalIn_string w d t a _ hu,tw]
  | bool =>
   obtain ⟨a,rfl⟩:=hb hu
   cases y <;> simp only [leq,Option.some.injEq] at h <;> try cases h
   rw [run_equalIn_bool' w d t a _ hu]
  | _=>cases hl
end
def uO (D:Option TypeDesc) (x:Value):Bool:=
 match D,x with
 | some (.int k),.int k' _=>decide (k=k')
 | some .string,.string _=>true
 | some .bool,.bool _=>true
 | _,_=>false
def px (P:Program) (g:TypeId→Option (List TypeId)) (acc:Option (List TypeId)) (f:Field):Option (List TypeId):=
 match acc,g f.type,P.info? f.type with
 | some a,some m,some i=>if f.offset=a.length∧f.name ≠ "_" ∧ i.size=m.length then some (a++m) else none
 | _,_,_=>none
theorem pP (P:Program) (g:TypeId→Option (List TypeId)):∀ (fl:List Field),fl.foldl (px P g) none=none
 | []=>rfl
 | f::fl=>by simp only [List.foldl_cons,px];exact pP P g fl
theorem xH (P:Program) (g:TypeId→Option (List TypeId)):∀ (fl:List Field) (A ts:List TypeId),fl.foldl (px P g) (some A)=some ts→∃ rest,ts=A++rest
 | [],A,ts,h=>⟨[],by simpa using h.symm⟩
 | f :: fl, A, ts, h => by
  simp only [List.foldl_cons] at h
  cases hs:px P g (some A) f with
  | none=>rw [hs,pP] at h;cases h
  | some B =>
   rw [hs] at h
   obtain ⟨r,hr⟩:=xH P g fl B ts h
   unfold px at hs
   split at hs
   ·rename_i a m i e1 _ _
    cases e1
    split at hs
    ·cases hs;exact ⟨m++r,by rw [hr];simp⟩
    ·cases hs
   ·cases hs
theorem C0 {P:Program} {g:TypeId→Option (List TypeId)} {a B:List TypeId} {f:Field} (hs:px P g (some a) f=some B) :
  ∃ m i,g f.type=some m∧P.info? f.type=some i∧f.offset=a.length∧f.name ≠ "_" ∧ i.size=m.length∧B=a++m:=by
 unfold px at hs
 split at hs
 ·rename_i a' m i e1 e2 e3
  cases e1
  split at hs
  ·rename_i h;cases hs;exact ⟨m,i,e2,e3,h.1,h.2.1,h.2.2,rfl⟩
  ·cases hs
 ·cases hs
theorem zp:∀ {xs ys:List Value} {b:Bool},vM xs ys=some b→xs.length=ys.length
 | [],[],_,_=>rfl
 | [],_::_,_,h=>by simp [vM] at h
 | _::_,[],_,h=>by simp [vM] at h
 | x :: xs, y :: ys, b, h => by
  simp only [vM] at h
  split at h
  ·rename_i p q hp hq;simp [zp hq]
  ·cases h
def kl (P:Program):Nat→TypeId→Option (List TypeId)
 | 0,_=>none
 | d + 1, t =>
  match P.underlying t with
  | some (.int _) | some .string | some .bool=>some [t]
  | some (.struct fs) =>
   if P.stoodInHeld t then none else
   fs.toList.foldl (px P (kl P d)) (some [])
  | some (.array n e) => match kl P d e, P.info? e with
   | some m,some i=>if i.size=m.length then some ((List.replicate n m).flatten) else none
   | _,_=>none
  | _=>none
def rH (P:Program):List TypeId→List Value→Bool
 | [],[]=>true
 | t::ts,x::xs=>uO (P.underlying t) x&&rH P ts xs
 | _,_=>false
section
variable {P:Program}
theorem mI:∀ {ts:List TypeId} {xs:List Value},rH P ts xs=true→xs.length=ts.length
 | [],[],_=>rfl
 | [],_::_,h=>by cases h
 | _::_,[],h=>by cases h
 | t :: ts, x :: xs, h => by
  simp only [rH,Bool.and_eq_true] at h
  simp [mI h.2]
theorem mJ:∀ {ts us:List TypeId} {xs:List Value},rH P (ts++us) xs=true→rH P ts (xs.take ts.length)=true∧rH P us (xs.drop ts.length)=true
 | [],us,xs,h=>by simpa [rH] using h
 | t::ts,us,[],h=>by simp [rH] at h
 | t :: ts, us, x :: xs, h => by
  simp only [Zb,rH,Bool.and_eq_true] at h
  have:=mJ h.2
  simp [rH,h.1,this]
theorem pS:∀ {n:Nat} {xs ys:List Value} {b:Bool},n≤xs.length→vM xs ys=some b→∃ p q,vM (xs.take n) (ys.take n)=some p∧vM (xs.drop n) (ys.drop n)=some q∧b=(p&&q)
 | 0,xs,ys,b,_,h=>⟨true,b,by simp [vM],by simpa using h,by simp⟩
 | n+1,[],ys,b,hn,h=>by simp at hn
 | n+1,x::xs,[],b,_,h=>by simp [vM] at h
 | n + 1, x :: xs, y :: ys, b, hn, h => by
  simp only [vM] at h
  split at h
  ·rename_i p q hp hq
   cases h
   obtain ⟨p',q',h1,h2,e⟩:=pS (n:=n) (by simpa using hn) hq
   exact ⟨p&&p',q',by simp [vM,hp,h1],by simpa using h2,by rw [e,Bool.and_assoc]⟩
  ·cases h
theorem sB {d:Nat} {t:TypeId} {m:List TypeId} (h:kl P d t=some m):∃ D,P.underlying t=some D∧(j5 D=false→m.length=1):=by
 cases d with
 | zero=>cases h
 | succ d =>
  unfold kl at h
  cases hu:P.underlying t with
  | none=>rw [hu] at h;cases h
  | some D =>
   refine ⟨D,rfl,fun hD=>?_⟩
   rw [hu] at h
   cases D with
   | int k=>cases h;rfl
   | string=>cases h;rfl
   | bool=>cases h;rfl
   | struct fs=>cases hD
   | array n e=>cases hD
   | _=>cases h
theorem tF {t:TypeId} {D:TypeDesc} {i:TypeInfo} {n o:Nat} {zs:List Value} {w:World} (hu:P.underlying t=some D) (hi:P.info? t=some i) (hn:i.size=n) (h1:j5 D=false→n=1) (hz:o+n≤zs.length) :
  ∃ v,(part t zs.toArray o).run P w=.ok v w∧(j5 D=true→v=.agg ((zs.drop o).take n).toArray)∧(j5 D=false→(zs.drop o).take n=[v]):=by
 have hag:(isAgg t).run P w=.ok (j5 D) w:=by
  unfold isAgg;rw [Sem.run_bind,aV hu,Result.andThen_ok];cases D <;> rfl
 unfold part
 rw [Sem.run_bind,hag,Result.andThen_ok]
 cases hD:j5 D with
 | true =>
  refine ⟨.agg (zs.toArray.extract o (o+n)),by simp [sizeOf,fB hi,hn],fun _=>?_,fun h=>by cases h⟩
  congr 1
  simp [List.extract_eq_take_drop]
 | false =>
  have e:=h1 hD
  subst e
  refine ⟨zs[o]'(by omega),by simp [show o<zs.length from by omega],fun h=>(by cases h),fun _=>?_⟩
  rw [List.drop_eq_getElem_cons (by omega),List.take_succ_cons,Ze]
theorem CM (d k:Nat):∀ (t:TypeId) (ts:List TypeId),kl P d t=some ts→∀ (xs ys:List Value) (b:Bool) (w:World),rH P ts xs=true→vM xs ys=some b →
  ∀ x y,(j5 ((P.underlying t).getD .bool)=true→x=.agg xs.toArray∧y=.agg ys.toArray)→(j5 ((P.underlying t).getD .bool)=false→xs=[x]∧ys=[y])→(Op.equalIn (d+k) t x y).run P w=.ok b w:=by
 induction d with
 | zero=>intro t ts h;cases h
 | succ d ih =>
  intro t ts h xs ys b w dB heq x y h1 h2
  rw [show d+1+k=(d+k)+1 from by omega]
  have Ik:∀ (hl:HR (P.underlying t)=true) (SJ:ts=[t]) (X4:j5 ((P.underlying t).getD .bool)=false),(Op.equalIn (d+k+1) t x y).run P w=.ok b w:=by
   intro hl SJ X4
   obtain ⟨rfl,rfl⟩:=h2 X4
   subst SJ
   simp only [rH,Bool.and_true] at dB
   have hq:leq x y=some b:=by
    simp only [vM] at heq
    split at heq
    ·rename_i p q hp vI;cases vI;cases heq;simpa using hp
    ·cases heq
   refine D7 hl (fun kk hu=>?_) (fun hu=>?_) (fun hu=>?_) hq <;> rw [hu] at dB <;> cases x <;> simp_all [uO]
  unfold kl at h
  split at h
  ·rename_i kk hu;exact Ik (by rw [hu];rfl) (Option.some.inj h).symm (by rw [hu];rfl)
  ·rename_i hu;exact Ik (by rw [hu];rfl) (Option.some.inj h).symm (by rw [hu];rfl)
  ·rename_i hu;exact Ik (by rw [hu];rfl) (Option.some.inj h).symm (by rw [hu];rfl)
  ·rename_i fs hu
   split at h
   ·cases h
   ·rename_i a7
    obtain ⟨rfl,rfl⟩:=h1 (by rw [hu];rfl)
    have hf:P.fieldsOf t=fs:=by simp [Program.fieldsOf,hu]
    rw [run_equalIn_struct w (d+k) t _ _ (by rw [hf];exact hu) (by simpa using a7),hf]
    -- zK fields,one after zK other
    have key:∀ (fl:List Field) (acc:List TypeId),fl.foldl (px P (kl P d)) (some acc)=some ts→∀ c,vM (xs.drop acc.length) (ys.drop acc.length)=some c→acc.length≤xs.length→(Op.eqFields (d+k) xs.toArray ys.toArray fl).run P w=.ok c w:=by
     intro fl
     induction fl with
     | nil =>
      intro acc ha c hc _
      simp only [List.foldl_nil,Option.some.injEq] at ha
      have hlen:=mI dB
      rw [ha,← hlen,List.drop_length] at hc
      have:c=true:=by
       cases hy:ys.drop xs.length with
       | nil=>rw [hy] at hc;simpa [vM] using hc.symm
       | cons=>rw [hy] at hc;simp [vM] at hc
      simp [Op.eqFields,this]
     | cons f fl ihf =>
      intro acc ha c hc hle
      simp only [List.foldl_cons] at ha
      cases hB:px P (kl P d) (some acc) f with
      | none=>rw [hB,pP] at ha;cases ha
      | some B =>
       rw [hB] at ha
       obtain ⟨m,i,hm,hi,ho,hn,hsz,rfl⟩:=C0 hB
       -- ts=acc++m++..
       have km:∃ rest,ts=acc++m++rest:=xH P _ fl _ _ ha
       obtain ⟨rest,SJ⟩:=km
       have hlen:=mI dB
       have We:rH P m ((xs.drop acc.length).take m.length)=true:=by
        rw [SJ,Zh] at dB
        exact (mJ (mJ dB).2).1
       have UN:acc.length+m.length≤xs.length:=by rw [hlen,SJ];simp
       obtain ⟨p,q,hp,hq,rfl⟩:=pS (n:=m.length) (by simp;omega) hc
       have hly:acc.length+m.length≤ys.length:=by have:=zp heq;omega
       obtain ⟨Df,Mn,ij⟩:=sB hm
       obtain ⟨vx,rx,ax,bx⟩:=tF (w:=w) Mn hi hsz ij UN
       obtain ⟨vy,ry,ay,XD⟩:=tF (w:=w) Mn hi hsz ij hly
       rw [← ho] at rx ry
       have hr:=ih f.type m hm _ _ p w We hp vx vy (by rw [Mn];exact fun hA=>⟨ax hA,ay hA⟩) (by rw [Mn];exact fun hA=>⟨bx hA,XD hA⟩)
       have S0:=ihf (acc++m) ha q (by simpa [List.drop_drop] using hq) (by simp;omega)
       simp only [Op.eqFields,ne_eq,hn,not_false_eq_true,if_true,Sem.run_bind,rx,Result.andThen_ok,ry,hr]
       cases p
       ·simp
       ·simpa using S0
    exact key fs.toList [] h b (by simpa using heq) (by simp)
  ·rename_i n e hu
   split at h
   ·rename_i m i hm hi
    split at h
    ·rename_i hsz
     obtain ⟨rfl,rfl⟩:=h1 (by rw [hu];rfl)
     simp only [Option.some.injEq] at h
     subst h
     have hlen:=mI dB
     have Wm:xs.length=ys.length:=zp heq
     have hL:xs.length=n*m.length:=by rw [hlen];simp
     have VP:(sizeOf e).run P w=.ok m.length w:=by simp [sizeOf,fB hi,hsz]
     obtain ⟨De,Mn,ij⟩:=sB hm
     have WS:∀ (c j:Nat) (p:Bool),j+c=n→vM (xs.drop (j*m.length)) (ys.drop (j*m.length))=some p→rH P ((List.replicate c m).flatten) (xs.drop (j*m.length))=true →
       ((forIn (List.range' j c) ((none, ()) : Option Bool × Unit) fun i r => (do
        let a ← part e xs.toArray (i*m.length)
        let b ← part e ys.toArray (i*m.length)
        let r' ← Op.equalIn (d+k) e a b
        if (!r')=true then pure (ForInStep.done (some false,())) else pure (ForInStep.yield (none,()))):Sem (Option Bool×Unit)).run P w)=.ok (bif p then none else some false,()) w:=by
      intro c
      induction c with
      | zero =>
       intro j p hj hp _
       have hz:xs.drop (j*m.length)=[]:=by apply List.drop_of_length_le;rw [hL,show j=n from by omega];exact Nat.le_refl _
       have HZ:ys.drop (j*m.length)=[]:=by apply List.drop_of_length_le;rw [← Wm,hL,show j=n from by omega];exact Nat.le_refl _
       rw [hz,HZ] at hp
       simp only [vM,Option.some.injEq] at hp
       subst hp
       simp
      | succ c ihc =>
       intro j p hj hp Ta
       have sH:j*m.length+m.length≤xs.length:=by
        rw [hL,← Nat.succ_mul];exact Nat.mul_le_mul_right _ (by omega)
       obtain ⟨vx,rx,ax,bx⟩:=tF (w:=w) Mn hi hsz ij sH
       obtain ⟨vy,ry,ay,XD⟩:=tF (w:=w) Mn hi hsz ij (show j*m.length+m.length≤ys.length by omega)
       obtain ⟨p1,p2,zM,Mt,rfl⟩:=pS (n:=m.length) (by simp;omega) hp
       rw [List.replicate_succ,List.flatten_cons] at Ta
       have ho:=mJ Ta
       have hr:=ih e m hm _ _ p1 w ho.1 zM vx vy (by rw [Mn];exact fun hA=>⟨ax hA,ay hA⟩) (by rw [Mn];exact fun hA=>⟨bx hA,XD hA⟩)
       simp only [List.range'_succ,List.forIn_cons,Sem.run_bind,rx,ry,hr,Result.andThen_ok]
       cases p1
       ·simp
       ·have gH:=ihc (j+1) p2 (by omega) (by rw [Nat.succ_mul,← List.drop_drop,← List.drop_drop];exact Mt) (by rw [Nat.succ_mul,← List.drop_drop];exact ho.2)
        simp only [Bool.not_true,Bool.false_eq_true,if_false,Sem.run_pure,Result.andThen_ok,Bool.true_and]
        exact gH
     have hf:=WS n 0 b (by omega) (by simpa using heq) (by simpa using dB)
     simp only [Op.equalIn,Sem.run_bind,aV hu,Result.andThen_ok,VP]
     rw [Std.Legacy.Range.forIn_eq_forIn_range']
     simp only [Std.Legacy.Range.size,Nat.sub_zero,Nat.add_sub_cancel,Nat.div_one]
     rw [hf]
     cases b <;> simp
    ·cases h
   ·cases h
  ·cases h
class zJ (P:Program) (t:TypeId) (ts:outParam (List TypeId)):Prop where
 eq:kl P 20 t=some ts
 agg:j5 ((P.underlying t).getD .bool)=true
 guard:P.eqGuardType P.depth t=false
variable {c:Cx} {sl:aI} {hs:List a8} {dst:Option Tmp} {ty:TypeId} {pos:String} {af:Array Edge} {g:Option (Nat×Bool)}
theorem qA {t:TypeId} {ts:List TypeId} [h:zJ P t ts] {xs ys:List Value} {b:Bool} (dB:rH P ts xs=true) (heq:vM xs ys=some b) (w:World):(Op.equalIn 10000 t (.agg xs.toArray) (.agg ys.toArray)).run P w=.ok b w:=
 CM 20 9980 t ts h.eq xs ys b w dB heq _ _ (fun _=>⟨rfl,rfl⟩) (fun hn=>by rw [h.agg] at hn;cases hn)
theorem tB {t u:TypeId} {ts:List TypeId} [h:zJ P t ts] {x y:Operand} {xs ys:List Value} {b:Bool} (hx:Is sl x (.agg xs.toArray)) (hy:Is sl y (.agg ys.toArray)) (dB:rH P ts xs=true) (heq:vM xs ys=some b) :
  cL P c sl hs ⟨dst,.binOp .eql t x y u,ty,pos,af,g⟩ (.bool b):=
 iB hx hy fun w=>by
  rw [Sem.run_bind,run_eqGuard_agg w _ _ _ _ _ _ h.guard,Result.andThen_ok,run_eql_struct,qA dB heq];rfl
theorem tA {t u:TypeId} {ts:List TypeId} [h:zJ P t ts] {x y:Operand} {xs ys:List Value} {b:Bool} (hx:Is sl x (.agg xs.toArray)) (hy:Is sl y (.agg ys.toArray)) (dB:rH P ts xs=true) (heq:vM xs ys=some b) :
  cL P c sl hs ⟨dst,.binOp .neq t x y u,ty,pos,af,g⟩ (.bool (!b)):=
 iB hx hy fun w=>by
  rw [Sem.run_bind,run_eqGuard_agg w _ _ _ _ _ _ h.guard,Result.andThen_ok,run_neq_struct,qA dB heq];rfl
theorem lz:rH P [] []=true:=rfl
theorem jH {t:TypeId} {k:IntKind} {ts:List TypeId} {n:Int} {xs:List Value} [h:iH P t (.int k)] (hr:rH P ts xs=true):rH P (t::ts) (.int k n::xs)=true:=by
 simp [rH,uO,h.eq,hr]
theorem eZ {t:TypeId} {ts:List TypeId} {s:ByteArray} {xs:List Value} [h:iH P t .string] (hr:rH P ts xs=true):rH P (t::ts) (.string s::xs)=true:=by
 simp [rH,uO,h.eq,hr]
theorem Hy {t:TypeId} {ts:List TypeId} {b:Bool} {xs:List Value} [h:iH P t .bool] (hr:rH P ts xs=true):rH P (t::ts) (.bool b::xs)=true:=by
 simp [rH,uO,h.eq,hr]
end
end Go.SL
namespace Go.SL
open Go
def ev (sl:aI):Operand→Option Value
 | .tmp t=>cF sl t
 | .const v=>some v
 | .global g=>some (.pointer (some ⟨g,0,none⟩))
 | .func f=>some (.func (.func f) #[] #[])
theorem Is.of {sl:aI} {x:Operand} {v:Value} (h:ev sl x=some v):Is sl x v:=fun a ha=>by
 cases x with
 | tmp t=>exact ha.eval h
 | const u=>exact Option.some.inj h
 | global g=>exact Option.some.inj h
 | func f=>exact Option.some.inj h
theorem Is.bE {sl:aI} {x:Operand} {c:Bool} {v:Value} (hc:c=true) (h:ev sl x=some (SL.gv c v)):Is sl x v:=(tO hc (v:=v)) ▸ Is.of h
class Rh (P:Program):Prop where
 eq:P.follows .mixedOrders=true
section
variable {P:Program} {r:Option Nat} {c:Cx} {D:List Nat} {sl:aI} {rl:eE} {hs hs':List a8} {Q:Exit→Act→World→Prop} {ops:Array Oper} {m d:Nat} {dst:Option Tmp} {op:Op} {ty:TypeId} {pos:String} {af:Array Edge} {g:Option (Nat×Bool)} {rest:List Oper}
def kB (P:Program) (r:Option Nat) (c:Cx) (D:List Nat) (hs:List a8) (ops:Array Oper) (Q:Exit→Act→World→Prop) (m:Nat) (l:List Oper) (sl:aI) (rl:eE):Prop:=
 ∃ S jc ke,r8 P c hs ops (l.take m) sl rl S jc ke∧∀ a w,St c D jc hs a w→Dp ke a w→WL P r ops Q (l.drop m) a w
theorem dP {id:Nat} {l:List Oper} (m:Nat) [pM:Rh P] (iQ:xg l m=true) (k:kB P r c D hs l.toArray Q m l sl []):Tr c D sl hs (WP P r (.region id l.toArray true) Q):=by
 obtain ⟨S,jc,ke,hp,ht⟩:=k
 exact yl pM.eq iQ hp ht
theorem dY {l:List Oper} (k:Tr c D sl hs (WL P r ops Q l)):kB P r c D hs ops Q 0 l sl rl:=
 ⟨[],sl,rl,.nil,fun a w a7 _=>k a w a7⟩
theorem oZ {o:Oper} {V:Value} (ho:o.dst=some d) (hd:Nat.blt d c.nt=true) (h:sQ P c hs ops sl rl o (.val V)) (k:kB P r c D hs ops Q m rest ((d,V)::sl) rl):kB P r c D hs ops Q (m+1) (o::rest) sl rl:=by
 obtain ⟨S,jc,ke,hp,ht⟩:=k
 exact ⟨_,_,_,.val ho (by simpa [Nat.blt_eq] using hd) h hp,ht⟩
theorem nF {o:Oper} {R:Rel} (hg:o.guard=none) (h:∀ a w,bK sl a→zH (o.looksAt ops) rl a w→Mem c hs w→wx P o a w R):sQ P c hs ops sl rl o R:=fun a w h1 h2 h3=>by
 rw [if_pos (by simp [Region.wanted,hg])]
 exact h a w h1 h2 h3
theorem qF {o:Oper} {V:Value} (hr:cL P c sl hs o V) {a:Act} {w:World} (h1:bK sl a) (h3:Mem c hs w):wx P o a w (.val V):=by
 unfold wx
 rw [hr.2 a w h1 h3]
 exact ⟨.refl _ _,rfl⟩
theorem rF {o:Oper} {f:FuncId} {args:List Value} {V:Value} (hr:ln P sl o f args) {a:Act} {w:World} (h1:bK sl a) (hc:aj P f args w V):wx P o a w (.val V):=by
 unfold wx
 rw [hr.2 a w h1]
 exact ⟨rfl,hc.mono fun e w' ⟨he,hk⟩=>⟨V,he,hk,rfl⟩⟩
theorem aH {V:Value} (hr:cL P c sl hs ⟨some d,op,ty,pos,af,none⟩ V) (hd:Nat.blt d c.nt=true) (k:kB P r c D hs ops Q m rest ((d,V)::sl) rl) :
  kB P r c D hs ops Q (m+1) (⟨some d,op,ty,pos,af,none⟩::rest) sl rl:=
 oZ rfl hd (nF rfl fun _ _ h1 _ h3=>qF hr h1 h3) k
theorem fc {f:FuncId} {args:List Value} {V:Value} (hr:ln P sl ⟨some d,op,ty,pos,af,none⟩ f args) (hd:Nat.blt d c.nt=true) (hc:∀ w,Mem c hs w→aj P f args w V) (k:kB P r c D hs ops Q m rest ((d,V)::sl) rl) :
  kB P r c D hs ops Q (m+1) (⟨some d,op,ty,pos,af,none⟩::rest) sl rl:=
 oZ rfl hd (nF rfl fun _ w h1 _ h3=>rF hr h1 (hc w h3)) k
theorem nG {o:Oper} {V:Value} {j gs:Nat} {want c0 q:Bool} (hg:o.guard=some (j,want)) (hj:((ops[j]?).bind (·.dst))=some gs) (hq:cF sl gs=some (gv c0 (.bool q)))
  (h:(c0&&(q==want))=true→∀ a w,bK sl a→Mem c hs w→wx P o a w (.val V)):sQ P c hs ops sl rl o (.val (gv (c0&&(q==want)) V)):=fun a w h1 _ h3=>by
 rw [kC hg hj h1 hq]
 by_cases hc:(c0&&(q==want))=true
 ·rw [if_pos hc,tO hc]
  exact h hc a w h1 h3
 ·rw [if_neg hc,ve (by simpa using hc)]
  rfl
theorem BK {V:Value} {j gs:Nat} {want c0 q:Bool} (hj:((ops[j]?).bind (·.dst))=some gs) (hq:cF sl gs=some (gv c0 (.bool q)))
  (hr:(c0&&(q==want))=true→cL P c sl hs ⟨some d,op,ty,pos,af,some (j,want)⟩ V) (hd:Nat.blt d c.nt=true) (k:kB P r c D hs ops Q m rest ((d,gv (c0&&(q==want)) V)::sl) rl) :
  kB P r c D hs ops Q (m+1) (⟨some d,op,ty,pos,af,some (j,want)⟩::rest) sl rl:=
 oZ rfl hd (nG rfl hj hq fun hc _ _ h1 h3=>qF (hr hc) h1 h3) k
theorem FZ {V:Value} {j gs:Nat} {want q:Bool} (hj:((ops[j]?).bind (·.dst))=some gs) (hq:cF sl gs=some (.bool q))
  (hr:(q==want)=true→cL P c sl hs ⟨some d,op,ty,pos,af,some (j,want)⟩ V) (hd:Nat.blt d c.nt=true) (k:kB P r c D hs ops Q m rest ((d,gv (q==want) V)::sl) rl) :
  kB P r c D hs ops Q (m+1) (⟨some d,op,ty,pos,af,some (j,want)⟩::rest) sl rl:=
 BK (c0:=true) hj (by rw [hq];rfl) (by simpa using hr) hd (by simpa using k)
theorem r7 {f:FuncId} {args:List Value} {V:Value} {j gs:Nat} {want c0 q:Bool} (hj:((ops[j]?).bind (·.dst))=some gs) (hq:cF sl gs=some (gv c0 (.bool q)))
  (hr:(c0&&(q==want))=true→ln P sl ⟨some d,op,ty,pos,af,some (j,want)⟩ f args) (hd:Nat.blt d c.nt=true) (hc:(c0&&(q==want))=true→∀ w,Mem c hs w→aj P f args w V) (k:kB P r c D hs ops Q m rest ((d,gv (c0&&(q==want)) V)::sl) rl) :
  kB P r c D hs ops Q (m+1) (⟨some d,op,ty,pos,af,some (j,want)⟩::rest) sl rl:=
 oZ rfl hd (nG rfl hj hq fun h _ w h1 h3=>rF (hr h) h1 (hc h w h3)) k
theorem mV {f:FuncId} {args:List Value} {V:Value} {j gs:Nat} {want q:Bool} (hj:((ops[j]?).bind (·.dst))=some gs) (hq:cF sl gs=some (.bool q))
  (hr:(q==want)=true→ln P sl ⟨some d,op,ty,pos,af,some (j,want)⟩ f args) (hd:Nat.blt d c.nt=true) (hc:(q==want)=true→∀ w,Mem c hs w→aj P f args w V) (k:kB P r c D hs ops Q m rest ((d,gv (q==want) V)::sl) rl) :
  kB P r c D hs ops Q (m+1) (⟨some d,op,ty,pos,af,some (j,want)⟩::rest) sl rl:=
 r7 (c0:=true) hj (by rw [hq];rfl) (by simpa using hr) hd (by simpa using hc) (by simpa using k)
theorem lW {f:FuncId} {args:List Value} {V:Value} {j gs:Nat} {want c0 q:Bool} (hj:((ops[j]?).bind (·.dst))=some gs) (hq:cF sl gs=some (gv c0 (.bool q)))
  (hr:(c0&&(q==want))=true→ln P sl ⟨some d,op,ty,pos,af,some (j,want)⟩ f args) (hd:Nat.blt d c.nt=true) (hc:(c0&&(q==want))=true→∀ w,Mem c hs w→aj P f args w V)
  (k:Tr c D ((d,gv (c0&&(q==want)) V)::sl) hs (WL P r ops Q rest)):Tr c D sl hs (WL P r ops Q (⟨some d,op,ty,pos,af,some (j,want)⟩::rest)):=fun a w a7=>by
 unfold WL
 rw [kC rfl hj a7.cM hq]
 by_cases h:(c0&&(q==want))=true
 ·rw [if_pos h]
  rw [tO h] at k
  refine ⟨dH _ _ _ _ _,?_⟩
  rw [Oper.semAt_eq _ _ _ (hr h).1,(hr h).2 a w a7.cM]
  exact ⟨by simp [FR,Fence.wide],(gV (hc h w a7.qL)).mono fun e w' ⟨he,hk⟩=>by
   subst he
   exact k _ _ ((a7.put (by simpa [Nat.blt_eq] using hd) V).heap (a7.mem.qP hk))⟩
 ·rw [if_neg h]
  rw [ve (by simpa using h)] at k
  exact k _ _ (a7.put (by simpa [Nat.blt_eq] using hd) undef)
theorem kK {f:FuncId} {args:List Value} {V:Value} {j gs:Nat} {want q:Bool} (hj:((ops[j]?).bind (·.dst))=some gs) (hq:cF sl gs=some (.bool q))
  (hr:(q==want)=true→ln P sl ⟨some d,op,ty,pos,af,some (j,want)⟩ f args) (hd:Nat.blt d c.nt=true) (hc:(q==want)=true→∀ w,Mem c hs w→aj P f args w V)
  (k:Tr c D ((d,gv (q==want) V)::sl) hs (WL P r ops Q rest)):Tr c D sl hs (WL P r ops Q (⟨some d,op,ty,pos,af,some (j,want)⟩::rest)):=
 lW (c0:=true) hj (by rw [hq];rfl) (by simpa using hr) hd (by simpa using hc) (by simpa using k)
def Cs (V:Nat→Value) (ob:Obj):Rel:=⟨fun v w=>∃ b,v=V b∧w.heap[b]? = some ob,fun ⟨b,e,h⟩ hk=>⟨b,e,by rw [hk.block b (jQ h) (by simp)];exact h⟩⟩
theorem Az {fn:Func} {t:Tmp} (h:fn.results=#[.tmp t]) {sl:aI} {v:Value} (hv:cF sl t=some v) {a:Act} (ha:bK sl a) (w:World):(results fn a.tmps).run P w=.ok v w:=by
 have:=ha t v hv
 simp [results,h,Array.getD_eq_getD_getElem?,this]
theorem Ay {fn:Func} {t u:Tmp} (h:fn.results=#[.tmp t,.tmp u]) {sl:aI} {v x:Value} (hv:cF sl t=some v) (hx:cF sl u=some x) {a:Act} (ha:bK sl a) (w:World):(results fn a.tmps).run P w=.ok (.tuple #[v,x]) w:=by
 have h1:=ha t v hv
 have h2:=ha u x hx
 simp [results,h,Array.getD_eq_getD_getElem?,h1,h2]
theorem AA {fn:Func} (h:fn.results=#[]) {a:Act} (w:World):(results fn a.tmps).run P w=.ok (.tuple #[]) w:=by
 simp [results,h]
def Ends (P:Program) (fn:Func) (c:Cx) (sl:aI) (hs:List a8) (v:Value):Prop:=∀ a w,bK sl a→Mem c hs w→(results fn a.tmps).run P w=.ok v w
theorem dp {fn:Func} {t:Tmp} {v:Value} (h:fn.results=#[.tmp t]) (hv:cF sl t=some v):Ends P fn c sl hs v:=fun _ w ha _=>Az h hv ha w
theorem fF {fn:Func} {t u:Tmp} {v x:Value} (h:fn.results=#[.tmp t,.tmp u]) (hv:cF sl t=some v) (hx:cF sl u=some x):Ends P fn c sl hs (.tuple #[v,x]):=fun _ w ha _=>Ay h hv hx ha w
theorem py {fn:Func} (h:fn.results=#[]):Ends P fn c sl hs (.tuple #[]):=fun _ w _ _=>AA h w
theorem QR {fn:Func} {t:Tmp} {T:TypeId} {b o n:Nat} {v:Value} [Ty P T false n] (h:fn.results=#[.cell t T]) (hp:cF sl t=some (.pointer (some ⟨b,o,none⟩))) (hv:At c hs b o v):Ends P fn c sl hs v:=fun a w ha hm=>by
 have h1:=ha t _ hp
 simp [results,h,Array.getD_eq_getD_getElem?,h1,asAddr,si (hv w hm)]
theorem MS {fn:Func} {t:Tmp} {T:TypeId} {b o n:Nat} {vs:List Value} [Ty P T true n] (h:fn.results=#[.cell t T]) (hp:cF sl t=some (.pointer (some ⟨b,o,none⟩))) (hv:eF c hs b o vs) (hl:vs.length=n):Ends P fn c sl hs (.agg vs.toArray):=fun a w ha hm=>by
 have h1:=ha t _ hp
 simp [results,h,Array.getD_eq_getD_getElem?,h1,asAddr,nM hl (fun j v h=>hv.get j v h w hm)]
def OO (P:Program) (c:Cx) (hs:List a8) (T:TypeId) (b o:Nat) (v:Value):Prop:=∀ w,Mem c hs w→(loadVar T ⟨b,o,none⟩).run P w=.ok v w
theorem HK {T:TypeId} {b o n:Nat} {vs:List Value} [Ty P T true n] (hv:eF c hs b o vs) (hl:vs.length=n):OO P c hs T b o (.agg vs.toArray):=fun w hm=>nM hl (fun j v h=>hv.get j v h w hm)
inductive RV (P:Program) (c:Cx) (sl:aI) (hs:List a8):ResultVar→Value→Prop
 | tmp {t:Tmp} {v:Value} (h:cF sl t=some v):RV P c sl hs (.tmp t) v
 | cell {t:Tmp} {T:TypeId} {b o:Nat} {v:Value} (h:cF sl t=some (.pointer (some ⟨b,o,none⟩))) (hl:OO P c hs T b o v):RV P c sl hs (.cell t T) v
inductive Gf (P:Program) (c:Cx) (sl:aI) (hs:List a8):List ResultVar→List Value→Prop
 | nil:Gf P c sl hs [] []
 | cons {x:ResultVar} {xs:List ResultVar} {v:Value} {vs:List Value} (h:RV P c sl hs x v) (t:Gf P c sl hs xs vs):Gf P c sl hs (x::xs) (v::vs)
def Ap (tmps:Array Value):ResultVar→Sem Value
 | .tmp t=>pure (tmps.getD t undef)
 | .cell a t=>do loadVar t (← asAddr (tmps.getD a undef))
theorem Lo {xs:List ResultVar} {vs:List Value} (h:Gf P c sl hs xs vs) {a:Act} {w:World} (ha:bK sl a) (hm:Mem c hs w):(xs.mapM (Ap a.tmps)).run P w=.ok vs w:=by
 induction h with
 | nil=>simp
 | cons h _ ih =>
  cases h with
  | tmp h=>simp [Ap,Array.getD_eq_getD_getElem?,ha _ _ h,ih]
  | cell h hl=>simp [Ap,Array.getD_eq_getD_getElem?,ha _ _ h,asAddr,hl w hm,ih]
theorem OC {fn:Func} {xs:List ResultVar} {vs:List Value} (hx:fn.results=xs.toArray) (h:Gf P c sl hs xs vs) (hl:vs.length≠1):Ends P fn c sl hs (.tuple vs.toArray):=fun a w ha hm=>by
 have:=Lo h ha hm
 have h2:(Array.mapM (Ap a.tmps) xs.toArray).run P w=.ok vs.toArray w:=by
  rw [List.mapM_toArray]
  simp [this]
 unfold results
 rw [hx]
 change Sem.run P (Array.mapM (Ap a.tmps) xs.toArray >>= fun vs=>pure (if h:vs.size=1 then vs[0] else Value.tuple vs)) w=_
 rw [Sem.run_bind,h2,Result.andThen_ok,Sem.run_pure]
 rw [dif_neg (by simpa using hl)]
theorem K1 {fn:Func} {v:Value} (Fz:c.md=[]) (he:Ends P fn c sl hs v) :
  Tr c [] sl hs (bodyPostM (FR r) 0 P fn (fun e w'=>e=.returned v∧aG [] c.w0 w') .ret):=fun a w a7=>by
 have hm:=a7.qL
 show LeavesInM (FR r) 0 P fn a.tmps _ a.defers .returning w
 rw [a7.defers]
 exact ⟨v,he a w a7.cM hm,rfl,by rw [← Fz];exact hm.keeps⟩
theorem oJ {fn:Func} {v v':Value} (Fz:c.md=[]) (he:Ends P fn c sl hs v') (hv:v'=v) :
  Tr c [] sl hs (bodyPostM (FR r) 0 P fn (fun e w'=>e=.returned v∧aG [] c.w0 w') .ret):=hv ▸ K1 Fz he
theorem qN {fn:Func} {v:Value} {R:Ending→World→Prop}:∀ (D:List Nat) (w:World) (a:Act),a.defers=D.map mark→bK sl a→Mem c (hs++l8 D) w→Ends P fn c sl hs v →
  (∀ w',Mem c hs w'→R (.returned v) w')→LeavesInM (FR r) 0 P fn a.tmps R (D.map mark) .returning w
 | [],w,a,_,ha,hm,he,hR=>⟨v,he a w ha (by simpa [l8] using hm),hR w (by simpa [l8] using hm)⟩
 | b :: D, w, a, _, ha, hm, he, hR => by
  have dT:Take (hs++l8 (b::D)) (bA b (.deferred (some []))) (hs++l8 D):=by
   clear hm he hR
   induction hs with
   | nil=>exact .here
   | cons A hs ih=>exact .there ih
  have lP:=hm.take dT
  have hb:w.heap[b]? = some (.deferred (some [])):=lP.bA .here
  refine ⟨by simp,.inl ⟨b,w.putObj b (.deferred none),rfl,run_takeDeferred hb,?_⟩⟩
  have hk:aG [b] w (w.putObj b (.deferred none)):=⟨rfl,rfl,rfl,Nat.le_refl _,by simp,fun k _ hn=>World.putObj_heap_other (by simpa using hn)⟩
  have UL:Mem c (hs++l8 D) (w.putObj b (.deferred none)):=(Mem.store lP hk (World.putObj_heap_same (jQ (w:=w) hb))).vh
  exact qN D _ { a with defers:=D.map mark } rfl ha UL he hR
theorem aM {fn:Func} {v:Value} {R:Ending→World→Prop} (he:Ends P fn c sl hs v) (hR:∀ w',Mem c hs w'→R (.returned v) w') :
  Tr c D sl hs (bodyPostM (FR r) 0 P fn R .ret):=fun a w a7=>by
 show LeavesInM (FR r) 0 P fn a.tmps R a.defers .returning w
 rw [a7.defers]
 exact qN D w a a7.defers a7.cM a7.mem he hR
theorem aN {fn:Func} {v:Value} {R:Ending→World→Prop} (he:Ends P fn c sl hs v) (hR:∀ w',Mem c hs w'→R (.returned v) w') :
  Tr c D sl hs (bodyPostM (FR r) 0 P fn R .normal):=aM (r:=r) he hR
theorem ah {f:FuncId} {fn:Func} {code:Code} {args:List Value} {w:World} {V:Value} (hf:P.funcs[f]? = some fn) (hb:fn.body=some code) (hl:Nat.ble args.length fn.ntmps=true)
  (h:Tr ⟨w,[],fn.ntmps⟩ [] (jl 0 args) [] (WP P none code (bodyPostM (FR none) 0 P fn (fun e w'=>e=.returned V∧aG [] w w')))):aj P f args w V:=
 oB (hs0:=[]) hf hb (by simpa using hl) ⟨[],List.nodup_nil,rfl,fun _ h=>by cases h⟩ h
theorem aQ {f:FuncId} {fn:Func} {code:Code} {args:List Value} {w:World} {ι:Type} {Φ:ι→Prop} {val:ι→Value} {own:ι→List a8} (hf:P.funcs[f]? = some fn) (hb:fn.body=some code) (hl:Nat.ble args.length fn.ntmps=true)
  (h:Tr ⟨w,[],fn.ntmps⟩ [] (jl 0 args) [] (WP P none code (bodyPostM (FR none) 0 P fn (fun e w'=>∃ x,e=.returned (val x)∧Φ x∧aG [] w w'∧∃ fp:List Nat,fp.Nodup∧bY (hp w') (own x) fp∧∀ b∈fp,b∈([]:List Nat)∨w.heap.size≤b)))) :
  bd P f args w [] Φ val own:=
 oB (hs0:=[]) hf hb (by simpa using hl) ⟨[],List.nodup_nil,rfl,fun _ h=>by cases h⟩ h
theorem dV {f:FuncId} {fn:Func} {code:Code} {args:List Value} {w:World} {rS:List Nat} {As:List a8} {ι:Type} {Φ:ι→Prop} {val:ι→Value} {own:ι→List a8} (hf:P.funcs[f]? = some fn) (hb:fn.body=some code) (hl:Nat.ble args.length fn.ntmps=true)
  (hn:rS.Nodup) (hs0:bY (hp w) As rS)
  (h:Tr ⟨w,rS,fn.ntmps⟩ [] (jl 0 args) As (WP P none code (bodyPostM (FR none) 0 P fn (fun e w'=>∃ x,e=.returned (val x)∧Φ x∧aG rS w w'∧∃ fp:List Nat,fp.Nodup∧bY (hp w') (own x) fp∧∀ b∈fp,b∈rS∨w.heap.size≤b)))) :
  bd P f args w rS Φ val own:=
 oB hf hb (by simpa using hl) ⟨rS,hn,hs0,fun _ h=>h⟩ h
theorem aB {ι:Type} {Φ:ι→Prop} {val:ι→Value} {own:ι→List a8} (x:ι) (hx:Φ x) {As:List a8} (ht:bo hs (own x) As) {w':World} (hm:Mem c hs w') {v:Value} (hv:v=val x) :
  ∃ x,Ending.returned v=.returned (val x)∧Φ x∧aG c.md c.w0 w'∧∃ fp:List Nat,fp.Nodup∧bY (hp w') (own x) fp∧∀ b∈fp,b∈c.md∨c.w0.heap.size≤b:=by
 have h2:=(hm.iZ ht).kX
 obtain ⟨k,fp,hn,ie,hb⟩:=h2
 exact ⟨x,by rw [hv],hx,k,fp,hn,ie,fun b dy=>(hb b dy).symm⟩
end
end Go.SL
