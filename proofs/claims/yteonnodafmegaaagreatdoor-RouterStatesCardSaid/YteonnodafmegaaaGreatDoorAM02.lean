/- Parts of the proof: P5i P5j P5k P5l P5m P5n P5o GkMem GkAny GkReg GkEq GkPlan. -/
import Derived.Test.YteonnodafmegaaaGreatDoorAM01
import Derived.Laws.StructEq
set_option linter.unusedSectionVars false
set_option linter.unusedVariables false
set_option linter.unusedSimpArgs false
namespace Go.Proofs.A1
open Go Go.SL
theorem HC {po:List Po} {g f:Po→Bool}:(po.filter g).filter f=po.filter fun p=>g p&&f p:=by
 rw [List.filter_filter]
 refine List.filter_congr fun p _=>?_
 rw [Bool.and_comm]
theorem Ms {r:Ro} {po:List Po} (hn:pt r) (h:iL r po) {g f:Po→Bool} (hg:∀ p∈po,p.ou∈cK r→g p=true)
  (PQ:∀ p∈po.filter g,p.ou∈cm r→f p=true) (Nv:∀ p∈po.filter g,∀ q∈po.filter g,f q=true→q.lv=p.lv→q.ip=p.ou→f p=true) (VX:∀ p∈po.filter g,f p=true→p.ou∈cm r∨∃ q∈po.filter g,f q=true∧q.lv=p.lv∧q.ip=p.ou) :
  iL r ((po.filter g).filter f)∧(∀ v y,y∈cm r→(∀ p∈po,p.lv=v→p.ou=y→g p=true)→dY ((po.filter g).filter f) v y=dY po v y∧qh ((po.filter g).filter f) v (cz r) y=qh po v (cz r) y) ∧
  (∀ v y,(∀ p∈po,p.lv=v→p.ou=y→g p=false)→dY ((po.filter g).filter f) v y=none):=by
 have h1:=iL.one h.qp
 have hm:∀ p,p∈po.filter g↔p∈po∧g p=true:=fun p=>List.mem_filter
 have hk:∀ {p:Po},(g p&&f p)=true↔g p=true∧f p=true:=fun {p}=>Bool.and_eq_true _ _ ▸ Iff.rfl
 rw [HC]
 have fy:∀ q∈po,(g q&&f q)=true→∀ p∈po,p.lv=q.lv→p.ou=q.ip→(g p&&f p)=true:=by
  intro q hq VC p hp hv ho
  obtain ⟨LZ,xA⟩:=hk.1 VC
  have ht:p.ou∈cK r:=by
   rcases h.vR q hq with hs | ht
   ·rcases h.out p hp with hd | hd
    ·exact absurd hd (by rw [ho];exact hn.sd _ hs)
    ·exact hd
   ·rw [ho];exact ht
  have bL:=hg p hp ht
  exact hk.2 ⟨bL,Nv p ((hm p).2 ⟨hp,bL⟩) q ((hm q).2 ⟨hq,LZ⟩) xA hv.symm ho.symm⟩
 refine ⟨iL.filter hn h _ (fun p hp ht q hq VC hv hi=>fy q hq VC p hp hv.symm hi.symm) (fun p hp ht hkp=>?_),fun v y hy a7=>?_,fun v y C2=>?_⟩
 ·obtain ⟨zZ,L4⟩:=hk.1 hkp
  rcases VX p ((hm p).2 ⟨hp,zZ⟩) L4 with hd | ⟨q,hq,xA,Sb,Ve⟩
  ·exact absurd ht (hn.dt _ hd)
  ·exact ⟨q,((hm q).1 hq).1,hk.2 ⟨((hm q).1 hq).2,xA⟩,Sb,Ve⟩
 ·have dR:∀ p∈po,p.lv=v→p.ou=y→(g p&&f p)=true:=fun p hp Kj qg=>by
   have bL:=a7 p hp Kj qg
   exact hk.2 ⟨bL,PQ p ((hm p).2 ⟨hp,bL⟩) (by rw [qg];exact hy)⟩
  refine ⟨?_,?_⟩
  ·cases hi:dY po v y with
   | none=>exact gO.2 fun p hp=>gO.1 hi p (List.mem_filter.1 hp).1
   | some u =>
    obtain ⟨q,hq,Ki,Nl,rfl⟩:=eV hi
    have:=mH (h1.filter fun p=>g p&&f p) (List.mem_filter.2 ⟨hq,dR q hq Ki Nl⟩)
    rwa [Ki,Nl] at this
  ·unfold qh gl
   rw [vd (f:=fun p=>g p&&f p) h1 fy dR]
 ·refine gO.2 fun p hp e=>?_
  obtain ⟨zZ,L4⟩:=List.mem_filter.1 hp
  have:=C2 p zZ e.1 e.2
  rw [(hk.1 L4).1] at this
  cases this
end Go.Proofs.A1
namespace Go.Proofs.A1
open Go Go.SL
structure Jb where
 v:Int
 s:ByteArray
 d:ByteArray
def rm (r:Ro) (W:List Po→Jb→Option (List Nat)):List Po→List Jb→Option (List Po)
 | po,[]=>some po
 | po, j :: l => match W po j with
  | none=>none
  | some p=>rm r W (kT r po j.v j.s p j.d) l
theorem yE {r:Ro} {W:List Po→Jb→Option (List Nat)} (hn:pt r) (hd:(cK r).Nodup) (hW:∀ po j p,W po j=some p→(fo r po j.v j.s).ok p∧(fo r po j.v j.s).fin p=jU r j.d) :
  ∀ (l:List Jb) (po oH:List Po),iL r po→(∀ j∈l,(0≤j.v∧j.v<r.lv)∧j.s∈cz r∧j.d∈cm r∧dY po j.v j.d=none)→l.Pairwise (fun a b=>¬(b.v=a.v∧b.d=a.d))→rm r W po l=some oH →
  iL r oH∧(∀ j∈l,qh oH j.v (cz r) j.d=j.s)∧∀ v y,y∈cm r→(∀ j∈l,¬(v=j.v∧y=j.d))→qh oH v (cz r) y=qh po v (cz r) y∧dY oH v y=dY po v y
 | [], po, oH, hv, _, _, hr => by
  rw [rm] at hr
  cases hr
  exact ⟨hv,fun j hj=>absurd hj List.not_mem_nil,fun _ _ _ _=>⟨rfl,rfl⟩⟩
 | j :: l, po, oH, hv, hj, hp, hr => by
  rw [rm] at hr
  cases hw:W po j with
  | none=>rw [hw] at hr;cases hr
  | some p =>
   rw [hw] at hr
   obtain ⟨zi,hs,lO,vU⟩:=hj j List.mem_cons_self
   obtain ⟨eK,l6⟩:=hW po j p hw
   obtain ⟨hV,hc,ho⟩:=GL hn hd zi hv hs lO vU eK l6
   obtain ⟨zZ,L4⟩:=List.pairwise_cons.1 hp
   obtain ⟨k1,k2,k3⟩:=yE hn hd hW l _ oH hV (fun x hx=>by
    obtain ⟨a1,a2,a3,a4⟩:=hj x (List.mem_cons_of_mem _ hx)
    exact ⟨a1,a2,a3,by rw [(ho x.v x.d a3 (zZ x hx)).2];exact a4⟩) L4 hr
   refine ⟨k1,fun x hx=>?_,fun v y hy hne=>?_⟩
   ·rcases List.mem_cons.1 hx with rfl | hx
    ·rw [(k3 x.v x.d lO fun z hz e=>zZ z hz ⟨e.1.symm,e.2.symm⟩).1]
     exact hc
    ·exact k2 x hx
   ·obtain ⟨b1,b2⟩:=k3 v y hy fun z hz=>hne z (List.mem_cons_of_mem _ hz)
    obtain ⟨c1,c2⟩:=ho v y hy (hne j List.mem_cons_self)
    exact ⟨b1.trans c1,b2.trans c2⟩
end Go.Proofs.A1
namespace Go.Proofs.A1
open Go Go.SL
def sF {α:Type} (lt:α→α→Bool):α→List α→α
 | b,[]=>b
 | b,x::l=>sF lt (if lt x b then x else b) l
theorem oh {α:Type} {lt:α→α→Bool} (Pm:∀ {a b c},lt a b=true→lt b c=true→lt a c=true) (QG:∀ {a b},a≠b→lt a b=true∨lt b a=true) (VK:∀ a,lt a a=false) :
  ∀ (l:List α) (b:α),sF lt b l∈b::l∧∀ q∈b::l,lt q (sF lt b l)=false
 | [],b=>⟨List.mem_cons_self,fun q hq=>by
   rcases List.mem_cons.1 hq with rfl | hq
   ·exact VK _
   ·exact absurd hq List.not_mem_nil⟩
 | x :: l, b => by
  rw [sF]
  by_cases hx:lt x b=true
  ·rw [if_pos hx]
   obtain ⟨h1,h2⟩:=oh (lt:=lt) Pm QG VK l x
   refine ⟨List.mem_cons_of_mem _ h1,fun q hq=>?_⟩
   rcases List.mem_cons.1 hq with rfl | hq
   ·cases hb:lt q (sF lt x l) with
    | false=>rfl
    | true =>
     have:=Pm hx hb
     rw [h2 x List.mem_cons_self] at this
     exact this.symm
   ·exact h2 q hq
  ·rw [if_neg hx]
   obtain ⟨h1,h2⟩:=oh (lt:=lt) Pm QG VK l b
   refine ⟨?_,fun q hq=>?_⟩
   ·rcases List.mem_cons.1 h1 with h | h
    ·rw [h];exact List.mem_cons_self
    ·exact List.mem_cons_of_mem _ (List.mem_cons_of_mem _ h)
   ·rcases List.mem_cons.1 hq with rfl | hq
    ·exact h2 q List.mem_cons_self
    ·rcases List.mem_cons.1 hq with rfl | hq
     ·cases hb:lt q (sF lt b l) with
      | false=>rfl
      | true =>
       by_cases he:q=b
       ·subst he
        rw [h2 q List.mem_cons_self] at hb
        exact hb.symm
       ·have:=Pm ((QG he).resolve_left hx) hb
        rw [h2 b List.mem_cons_self] at this
        exact this.symm
     ·exact h2 q (List.mem_cons_of_mem _ hq)
theorem Wn.Qj {N:Wn} {d:Int} {a:List Nat} {l:List (List Nat)} (h:N.all d (N.n+1) []=a::l):N.least d (sF N.lt a l):=by
 obtain ⟨h1,h2⟩:=oh (lt:=N.lt) (fun {_ _ _}=>N.lt_trans) (fun {_ _}=>N.Ba) N.lt_irrefl l a
 rw [← h] at h1 h2
 obtain ⟨k1,k2⟩:=Wn.yX N.ru h1
 refine ⟨k1,k2,fun q hq hf=>h2 q ?_⟩
 exact Wn.zR (p:=[]) (r:=q) hq hf (Nat.lt_succ_of_le (Wn.uv hq))
theorem Wn.all_none {N:Wn} {d:Int} (h:N.all d (N.n+1) []=[]) (p:List Nat) (hp:N.ok p):N.fin p≠d:=fun hf=>by
 have:=Wn.zR (p:=[]) (r:=p) (k:=N.n+1) hp hf (Nat.lt_succ_of_le (Wn.uv hp))
 rw [h] at this
 exact absurd this List.not_mem_nil
end Go.Proofs.A1
namespace Go.Proofs.A1
open Go Go.SL
end Go.Proofs.A1
namespace Go.Proofs.A1
open Go Go.SL
end Go.Proofs.A1
namespace Go.Proofs.A1
open Go Go.SL
inductive Wn.Rc (N:Wn):Int→Prop
 | Dp:Wn.Rc N N.Dp
 | ca {i:Nat}:i<N.n→N.ca i=true→Wn.Rc N (N.to i)
 | fe {i:Nat}:i<N.n→N.fe i=true→Wn.Rc N (N.fr i)→Wn.Rc N (N.to i)
theorem wJ {p:List Nat} {k:Nat} (h:k<p.length):p.take (k+1)=p.take k++[p[k]]:=by
 rw [List.take_succ_eq_append_getElem h]
theorem Wn.DX {N:Wn} {p:List Nat} (h:N.ok p):∀ k,k≤p.length→N.Rc (N.fin (p.take k))
 | 0,_=>by rw [List.take_zero];exact .Dp
 | k + 1, hk => by
  have ih:=Wn.DX h k (by omega)
  have hs:=h k (by omega)
  rw [wJ (by omega),Wn.l8]
  have aN:=Wn.oE hs
  unfold Wn.step at hs
  simp only [Bool.and_eq_true,Bool.or_eq_true,decide_eq_true_eq] at hs
  rcases hs.2.2 with ⟨_,hc⟩ | ⟨hf,he⟩
  ·exact .ca aN hc
  ·exact .fe aN hf (he ▸ ih)
theorem Wn.Rk {N:Wn} {p:List Nat} (h:N.ok p):N.Rc (N.fin p):=by
 have:=Wn.DX h p.length (Nat.le_refl _)
 rwa [List.take_length] at this
theorem Wn.Ry {N:Wn} {m:Int} (h:N.Rc m):∃ p,N.ok p∧N.fin p=m:=by
 induction h with
 | Dp=>exact ⟨[],N.ru,rfl⟩
 | @ca i hi hc =>
  refine ⟨[]++[i],Wn.j9.2 ⟨N.ru,?_⟩,Wn.l8 _ _ _⟩
  unfold Wn.step
  simp [hi,hc]
 | @fe i hi hf _ ih =>
  obtain ⟨p,hp,he⟩:=ih
  by_cases hm:i∈p
  ·obtain ⟨k,hk,rfl⟩:=List.getElem_of_mem hm
   exact ⟨p.take (k+1),Wn.D5 hp _,by rw [wJ hk,Wn.l8]⟩
  ·refine ⟨p++[i],Wn.j9.2 ⟨hp,?_⟩,Wn.l8 _ _ _⟩
   unfold Wn.step
   simp [hi,hf,he,hm]
def Wn.TA (N:Wn) (S:Int→Prop):Prop:=S N.Dp∧∀ i,i<N.n→(N.ca i=true∨N.fe i=true∧S (N.fr i))→S (N.to i)
theorem Wn.Rl {N:Wn} {S:Int→Prop} (h:N.TA S) {m:Int} (hm:N.Rc m):S m:=by
 induction hm with
 | Dp=>exact h.1
 | ca hi hc=>exact h.2 _ hi (.inl hc)
 | fe hi hf _ ih=>exact h.2 _ hi (.inr ⟨hf,ih⟩)
theorem Wn.Ld {N:Wn} {S:Int→Prop} (h:N.TA S) (hS:∀ m,S m→N.Rc m) (m:Int):S m↔N.Rc m:=⟨hS m,Wn.Rl h⟩
end Go.Proofs.A1
namespace Go.Proofs.A1
open Go Go.SL
theorem IW {po:List Po} {v:Int} {o:ByteArray}:iT po v o=true↔∃ p∈po,p.lv=v∧p.ou=o:=by
 unfold iT
 constructor
 ·intro h
  obtain ⟨i,hi⟩:=Option.isSome_iff_exists.1 h
  obtain ⟨p,hp,h1,h2,_⟩:=eV hi
  exact ⟨p,hp,h1,h2⟩
 ·rintro ⟨p,hp,h1,h2⟩
  cases hq:dY po v o with
  | some _=>rfl
  | none=>exact absurd ⟨h1,h2⟩ (gO.1 hq p hp)
theorem MJ {po qo:List Po} (h:po.Perm qo) (v:Int) (o:ByteArray):iT po v o=iT qo v o:=by
 rw [Bool.eq_iff_iff,IW,IW]
 exact ⟨fun ⟨p,hp,e⟩=>⟨p,h.mem_iff.1 hp,e⟩,fun ⟨p,hp,e⟩=>⟨p,h.mem_iff.2 hp,e⟩⟩
def pY (r:Ro) (v:Int):List Po→ByteArray→List Nat→List Po×ByteArray
 | po,x,[]=>(po,x)
 | po,x,i::p=>pY r v (if iT po v (gy r i) then po else po++[⟨v,gy r i,x⟩]) (gy r i) p
theorem tN {r:Ro} {v:Int}:∀ (q:List Nat) (po qo:List Po) (x:ByteArray),po.Perm qo→(kR r v po x q).1.Perm (pY r v qo x q).1∧(kR r v po x q).2=(pY r v qo x q).2
 | [],po,qo,x,h=>⟨h,rfl⟩
 | i :: q, po, qo, x, h => by
  rw [kR,pY,MJ h v (gy r i)]
  by_cases hb:iT qo v (gy r i)=true
  ·rw [if_pos hb,if_pos hb]
   exact tN q po qo _ h
  ·rw [if_neg hb,if_neg hb]
   exact tN q _ _ _ ((oK r _ po).trans ((h.cons _).trans (List.perm_append_singleton _ _).symm))
theorem set_perm {r:Ro} {po:List Po} {v:Int} {s d:ByteArray} {p:List Nat}:(kT r po v s p d).Perm ((pY r v po s p).1++[⟨v,d,(pY r v po s p).2⟩]):=by
 obtain ⟨h1,h2⟩:=tN (r:=r) (v:=v) p po po s (List.Perm.refl _)
 unfold kT
 rw [h2]
 exact (oK r _ _).trans ((h1.cons _).trans (List.perm_append_singleton _ _).symm)
theorem GK {r:Ro} {po S:List Po} {v:Int} {s d:ByteArray} {p:List Nat} (hv:(kT r po v s p d).Pairwise (fun a b=>pb r a b=true)) (hS:S.Perm ((pY r v po s p).1++[⟨v,d,(pY r v po s p).2⟩])) (hs:S.Pairwise (fun a b=>¬ pb r b a=true)):S=kT r po v s p d:=by
 have hp:(kT r po v s p d).Perm S:=set_perm.trans hS.symm
 have hk:S.Pairwise (fun a b=>pb r a b=true∨pb r b a=true):=(List.Perm.pairwise_iff (fun {_ _} h=>h.symm) hp).1 (hv.imp fun h=>.inl h)
 have a7:S.Pairwise (fun a b=>pb r a b=true):=(List.Pairwise.and hk hs).imp fun h=>h.1.resolve_right h.2
 exact nr (fun a b h=>Fi a b h) a7 hv hp.symm
end Go.Proofs.A1
namespace Go.SL
open Go
def qe (P:Program) (c:Cx) (sl:aG) (hs:List ba) (o:Oper) (V:Nat→Value) (ob:Obj):Prop:=
 (∀ d,o.op≠.defer d)∧∀ a w,bK sl a→Mem c hs w→(execOp a.eval o).run P w=.ok (.value (V w.heap.size)) (w.alloc ob)
section
variable {P:Program} {r:Option Nat} {c:Cx} {D:List Nat} {sl:aG} {hs hs':List ba} {ops:Array Oper} {Q:Exit→Act→World→Prop} {d:Nat} {dst:Option Tmp} {op:Op} {ty:TypeId} {pos:String} {af:Array Edge} {g:Option (Nat×Bool)} {rest:List Oper}
theorem bb {V:Nat→Value} {ob:Obj}
  (hr:qe P c sl hs ⟨some d,op,ty,pos,af,none⟩ V ob) (hd:Nat.blt d c.nt=true) (k:∀ b,c.w0.heap.size≤b→Tr c D ((d,V b)::sl) (bD b ob::hs) (WL P r ops Q rest)) :
  Tr c D sl hs (WL P r ops Q (⟨some d,op,ty,pos,af,none⟩::rest)):=fun a w a7=>by
 refine lP rfl ⟨dE _ _ _ _ _,?_⟩
 rw [Oper.semAt_eq _ _ _ hr.1,hr.2 a w a7.cT a7.qI]
 have h1:=(a7.put (by simpa [Nat.blt_eq] using hd) (V w.heap.size))
 exact k w.heap.size a7.qI.keeps.size _ _ (h1.heap (a7.mem.alloc ob))
theorem OD {t:TypeId} {x:Operand} {v:Value} {cs:List Value} (hx:Is sl x v) (hc:v.cells=cs.toArray):qe P c sl hs ⟨dst,.box t x,ty,pos,af,g⟩ (fun b=>.pointer (some ⟨b,0,none⟩)) (.cells cs.toArray t):=
 ⟨by simp,fun a w ha _=>by simp [execOp,hx a ha,Instr.box,newVar,newRow,hc]⟩
theorem uk {t:TypeId} {z:Value} {cs:List Value} [lu P t z] (hc:z.cells=cs.toArray):qe P c sl hs ⟨dst,.alloc t,ty,pos,af,g⟩ (fun b=>.pointer (some ⟨b,0,none⟩)) (.cells cs.toArray t):=
 ⟨by simp,fun a w _ _=>by simp [execOp,Instr.alloc,gV (t:=t) (v:=z),newVar,newRow,hc]⟩
theorem Cu {t:TypeId}:qe P c sl hs ⟨dst,.makeMap t none,ty,pos,af,g⟩ (fun b=>.map (some b)) (.map #[] 0):=
 ⟨by simp,fun a w _ _=>by simp [execOp,Instr.makeMap]⟩
theorem lE {t:TypeId} {n:Nat} {parts:Array (Nat×Operand)} {ps:Array (Nat×Value)} {V:Nat→Value} {ob:Obj}
  (hp:∀ a,bK sl a→(parts.map fun (i,x)=>(i,a.eval x))=ps) (hb:∀ w,(Instr.buildSlice t n ps).run P w=.ok (V w.heap.size) (w.alloc ob)) :
  qe P c sl hs ⟨dst,.buildSlice t n parts,ty,pos,af,g⟩ V ob:=
 ⟨by simp,fun a w ha _=>by simp only [execOp,hp a ha,Sem.run_bind,hb w,Result.andThen_ok,Sem.run_pure]⟩
def uu (vs:List Value):Array (Nat×Value):=(vs.zipIdx.map fun (v,i)=>(i,v)).toArray
theorem xL:∀ (vs:List Value) (k:Nat) (acc:List Value),(∀ v∈vs,v.oneCell'=true)→k+vs.length≤acc.length →
  Instr.fill (fun i=>some (i*1,1)) acc.toArray ((vs.zipIdx k).map fun (v,i)=>(i,v))=some (acc.take k++vs++acc.drop (k+vs.length)).toArray
 | [],k,acc,_,_=>by simp [Instr.fill]
 | v :: vs, k, acc, h1, h2 => by
  have hv:=h1 v (by simp)
  have hc:v.cells=#[v]:=by cases v <;> simp_all [Value.cells,Value.oneCell']
  simp only [List.length_cons] at h2
  have e:Array.foldl (fun cs (x:Value×Nat)=>cs.setIfInBounds (k*1+x.2) x.1) acc.toArray #[v].zipIdx=(acc.set k v).toArray:=by
   simp
  simp only [List.zipIdx_cons,List.map_cons,Instr.fill,hc]
  rw [if_neg (by simp;omega)]
  simp only [e]
  rw [xL vs (k+1) (acc.set k v) (fun u hu=>h1 u (by simp [hu])) (by simp;omega)]
  congr 1
  have hk:k<acc.length:=by omega
  simp only [List.length_cons,List.append_assoc,List.cons_append]
  rw [List.take_set,List.drop_set_of_lt (by omega)]
  rw [show k+1+vs.length=k+(vs.length+1) from by omega]
  congr 1
  rw [List.take_succ_eq_append_getElem hk]
  rw [List.set_append_right _ _ (by simp;omega)]
  simp [Nat.min_eq_left (Nat.le_of_lt hk)]
theorem uj {t e:TypeId} {n:Nat} {z:Value} [hu:iA P t (.slice e)] [Ty P e false 1] [lu P e z] {vs:List Value} (hl:vs.length=n) (hn:n≤1000) (hz:z.oneCell'=true) (hv:∀ v∈vs,v.oneCell'=true) (w:World) :
  (Instr.buildSlice t n (uu vs)).run P w=.ok (.slice (some ⟨w.heap.size,0,none⟩) n n) (w.alloc (.cells vs.toArray e)):=by
 have hzc:z.cells=#[z]:=by cases z <;> simp_all [Value.cells,Value.oneCell']
 unfold Instr.buildSlice
 simp only [Sem.run_bind,aT hu.eq,Result.andThen_ok,fF (t:=e) (agg:=false) (n:=1),Nat.mul_one]
 rw [if_neg (by omega)]
 have hf:∀ (zz:Array Value),zz.size=n→Instr.fill (fun i=>some (i,1)) zz (uu vs).toList=some vs.toArray:=by
  intro zz TO
  have:=xL vs 0 zz.toList hv (by simp [hl,TO])
  simp only [Array.toArray_toList,Nat.mul_one] at this
  simp only [uu]
  rw [this]
  simp [hl,TO]
 by_cases h0:n=0
 ·subst h0
  simp only [if_true,Sem.run_bind,Sem.run_pure,Result.andThen_ok]
  rw [hf _ (by simp)]
  simp [newRow]
 ·rw [if_neg h0]
  simp only [Sem.run_bind,gV (t:=e) (v:=z),Result.andThen_ok,Sem.run_pure,hzc]
  rw [hf _ (by simp)]
  simp [newRow]
def setCells:List Value→Nat→List Value→List Value
 | cs,_,[]=>cs
 | cs,o,v::vs=>setCells (cs.set o v) (o+1) vs
theorem jN:∀ (vs:List Value) (cs:List Value) (o:Nat),(setCells cs o vs).length=cs.length
 | [],_,_=>rfl
 | v::vs,cs,o=>by simp [setCells,jN vs]
def setBlock (w:World) (b:Nat) (ob:Obj):World:={ w with heap:=w.heap.setIfInBounds b ob }
theorem aF.setBlock (w:World) (b:Nat) (ob:Obj):aF [b] w (setBlock w b ob):=
 ⟨rfl,rfl,rfl,Nat.le_refl _,by simp [SL.setBlock],fun k hk hm=>by
  have:b≠k:=fun e=>hm (by simp [e])
  simp [SL.setBlock,Array.getElem?_setIfInBounds_ne this]⟩
theorem lC {w:World} {b:Nat} {ob:Obj} (h:b<w.heap.size):(setBlock w b ob).heap[b]? = some ob:=by simp [setBlock,h]
theorem sT {w:World} {b:Nat} {cs:Array Value} {E:TypeId} (h:w.heap[b]? = some (.cells cs E (0,0))) (o:Nat):w.frozen? ⟨b,o,none⟩=false:=by
 simp [World.frozen?,h]
theorem vN {w:World} {b:Nat} {cs:List Value} {E:TypeId} (h:w.heap[b]? = some (.cells cs.toArray E (0,0))) (o:Nat) (v:Value):w.setCell ⟨b,o,none⟩ v=setBlock w b (.cells (cs.set o v).toArray E (0,0)):=by
 unfold World.setCell setBlock
 congr 1
 apply Array.ext_getElem?
 intro k
 rw [Array.getElem?_modify]
 by_cases hk:b=k
 ·subst hk
  have:=jG (w:=w) h
  rw [if_pos rfl,h,Array.getElem?_setIfInBounds_self_of_lt this]
  simp
 ·rw [if_neg hk,Array.getElem?_setIfInBounds_ne hk]
theorem iC {b o:Nat} {E:TypeId}:∀ (vs:List Value) (i:Nat) (cs:List Value) (w:World),w.heap[b]? = some (.cells cs.toArray E (0,0))→(∀ v∈vs,v.oneCell'=true)→o+i+vs.length≤cs.length →
  ∃ w',(storeCells ⟨b,o,none⟩ vs i).run P w=.ok () w'∧aF [b] w w'∧w'.heap[b]? = some (.cells (setCells cs (o+i) vs).toArray E (0,0))
 | [],i,cs,w,h,_,_=>⟨w,rfl,.refl _ _,h⟩
 | v :: vs, i, cs, w, h, h1, h2 => by
  simp only [List.length_cons] at h2
  have aN:=jG (w:=w) h
  have a7:(store (Addr.add ⟨b,o,none⟩ i) v).run P w=.ok () (setBlock w b (.cells (cs.set (o+i) v).toArray E (0,0))):=by
   rw [eA,run_store P w _ v .plain (h1 v (by simp)),cell_of_block h]
   have:(cs.toArray)[o+i]? = some (cs[o+i]'(by omega)):=by simp
   rw [this]
   simp only [sT h,Bool.false_eq_true,if_false,vN h]
  obtain ⟨w',h3,h4,h5⟩:=iC (o:=o) vs (i+1) (cs.set (o+i) v) (setBlock w b (.cells (cs.set (o+i) v).toArray E (0,0))) (lC aN) (fun u hu=>h1 u (by simp [hu])) (by simp;omega)
  refine ⟨w',?_,(aF.setBlock w b _).trans h4,by rw [h5];rfl⟩
  simp only [storeCells,Sem.run_bind,a7,Result.andThen_ok,h3]
theorem AL {t:TypeId} {agg:Bool} {n:Nat} [Ty P t agg n] {b o:Nat} {E:TypeId} {v:Value} {vs cs:List Value} {w:World} (h:w.heap[b]? = some (.cells cs.toArray E (0,0))) (hv:v.cells=vs.toArray) (hl:vs.length=n)
  (h1:∀ u∈vs,u.oneCell'=true) (h2:o+n≤cs.length) :
  ∃ w',(storeVar t ⟨b,o,none⟩ v).run P w=.ok () w'∧aF [b] w w'∧w'.heap[b]? = some (.cells (setCells cs o vs).toArray E (0,0)):=by
 obtain ⟨w',h3,h4,h5⟩:=iC (P:=P) (o:=o) vs 0 cs w h h1 (by omega)
 refine ⟨w',?_,h4,h5⟩
 unfold storeVar
 rw [Sem.run_bind,fF (t:=t) (agg:=agg) (n:=n),Result.andThen_ok,if_neg (by simp [hv,hl])]
 simpa [hv] using h3
theorem ao {t:TypeId} {agg:Bool} {n:Nat} [Ty P t agg n] {x y:Operand} {b o:Nat} {E:TypeId} {v:Value} {vs cs NT:List Value} (hx:Is sl x (.pointer (some ⟨b,o,none⟩))) (hy:Is sl y v)
  (ht:Take hs (bD b (.cells cs.toArray E (0,0))) hs') (hv:v.cells=vs.toArray) (hl:vs.length=n) (h1:∀ u∈vs,u.oneCell'=true) (h2:o+n≤cs.length) (he:setCells cs o vs=NT)
  (k:Tr c D sl (bD b (.cells NT.toArray E (0,0))::hs') (WL P r ops Q rest)) :
  Tr c D sl hs (WL P r ops Q (⟨none,.store t x y,ty,pos,af,none⟩::rest)):=fun a w a7=>by
 subst he
 have hm:=a7.mem.take (ht.append _)
 obtain ⟨w',h3,h4,h5⟩:=AL (P:=P) (t:=t) (o:=o) (hm.bD .here) hv hl h1 h2
 refine lP rfl ⟨dE _ _ _ _ _,?_⟩
 rw [Oper.semAt_eq _ _ _ (by simp)]
 have:(execOp a.eval ⟨none,.store t x y,ty,pos,af,none⟩).run P w=.ok .skip w':=by
  simp [execOp,hx a a7.cT,hy a a7.cT,Instr.storeAt,Instr.sureAddr,h3]
 rw [this]
 exact k _ _ (a7.heap (Mem.store hm h4 h5))
theorem Bw (off:Nat):∀ (vs:List Value) (k:Nat) (cs:List Value),(vs.zipIdx k).foldl (fun (cs:Array Value) (x:Value×Nat)=>cs.setIfInBounds (off+x.2) x.1) cs.toArray=(setCells cs (off+k) vs).toArray
 | [],_,_=>rfl
 | v :: vs, k, cs => by
  simp only [List.zipIdx_cons,List.foldl_cons,List.setIfInBounds_toArray,setCells]
  exact Bw off vs (k+1) (cs.set (off+k) v)
def sC (places:List (Nat×Nat)):List Value→List (Nat×Value)→Option (List Value)
 | cs,[]=>some cs
 | cs, (i, v) :: rest =>
  match places[i]? with
  | some (off,size)=>if v.cells.size=size∧off+size≤cs.length then sC places (setCells cs off v.cells.toList) rest else none
  | none=>none
theorem fill_eq {places:List (Nat×Nat)} {f:Nat→Option (Nat×Nat)} (hf:∀ i x,places[i]? = some x→f i=some x):∀ (ps:List (Nat×Value)) (cs NT:List Value),sC places cs ps=some NT→Instr.fill f cs.toArray ps=some NT.toArray
 | [],cs,NT,h=>by simp only [sC,Option.some.injEq] at h;simp [Instr.fill,h]
 | (i, v) :: rest, cs, NT, h => by
  unfold sC at h
  split at h
  ·rename_i off size hp
   split at h
   ·rename_i hc
    have h2:=fill_eq hf rest _ _ h
    unfold Instr.fill
    simp only [hf i _ hp]
    rw [if_neg (by simp [hc.1];omega)]
    rw [← h2]
    congr 1
    have:=Bw off v.cells.toList 0 cs
    simp only [Nat.add_zero] at this
    rw [← this,← Array.foldl_toList]
    simp
   ·cases h
  ·cases h
def xS (P:Program) (t:TypeId):Option (List (Nat×Nat)×List Value):=
 match P.underlying t,P.info? t with
 | some (.struct fs), some i => match i.zero, fs.toList.mapM (fun f => (P.info? f.type).map fun j => (f.offset, j.size)) with
  | some z,some ps=>some (ps,z.cells.toList)
  | _,_=>none
 | some (.array n e), some i => match i.zero, P.info? e with
  | some z,some j=>some ((List.range n).map (fun k=>(k*j.size,j.size)),z.cells.toList)
  | _,_=>none
 | _,_=>none
class BZ (P:Program) (t:TypeId) (ps:outParam (List (Nat×Nat))) (z:outParam (List Value)):Prop where
 eq:xS P t=some (ps,z)
theorem uz {w:World}:∀ (fs:List Field) (ps:List (Nat×Nat)),fs.mapM (fun f=>(P.info? f.type).map fun j=>(f.offset,j.size))=some ps →
  (fs.mapM (fun (f:Field)=>(do pure (f.offset,← sizeOf f.type):Sem (Nat×Nat)))).run P w=.ok ps w
 | [],ps,h=>by simp at h;simp [h]
 | f :: fs, ps, h => by
  simp only [List.mapM_cons,Option.bind_eq_bind,Option.bind_eq_some_iff,Option.map_eq_some_iff,Option.pure_def,Option.some.injEq] at h
  obtain ⟨_,⟨j,hj,rfl⟩,qs,hq,rfl⟩:=h
  have:=uz (w:=w) fs qs hq
  have hsz:(sizeOf f.type).run P w=.ok j.size w:=by simp [sizeOf,fv hj]
  rw [List.mapM_cons]
  simp only [Sem.run_bind,hsz,Result.andThen_ok,Sem.run_pure,this]
theorem E9 {t:TypeId} {places:List (Nat×Nat)} {z cs:List Value} [h:BZ P t places z] {ps:List (Nat×Value)} (hf:sC places z ps=some cs) (w:World):(Instr.build t ps.toArray).run P w=.ok (.agg cs.toArray) w:=by
 have h0:=h.eq
 unfold xS at h0
 split at h0
 ·rename_i fs i hu hi
  split at h0
  ·rename_i zz qs hz hq
   simp only [Option.some.injEq,Prod.mk.injEq] at h0
   obtain ⟨rfl,rfl⟩:=h0
   have h1:(zeroValue t).run P w=.ok zz w:=by simp [zeroValue,fv hi,hz]
   have h2:(fs.mapM (fun (f:Field)=>(do pure (f.offset,← sizeOf f.type):Sem (Nat×Nat)))).run P w=.ok qs.toArray w:=by
    have:=uz (P:=P) (w:=w) fs.toList qs hq
    rw [← Array.toArray_toList (xs:=fs),List.mapM_toArray,Sem.run_map,this]
    rfl
   have h3:=fill_eq (f:=fun i=>qs.toArray[i]?) (fun i x hx=>by simpa using hx) ps zz.cells.toList cs hf
   unfold Instr.build
   simp only [Sem.run_bind,h1,Result.andThen_ok,aT hu,h2]
   simp only [Array.toArray_toList] at h3
   rw [h3]
   rfl
  ·cases h0
 ·rename_i n e i hu hi
  split at h0
  ·rename_i zz j hz hj
   simp only [Option.some.injEq,Prod.mk.injEq] at h0
   obtain ⟨rfl,rfl⟩:=h0
   have h1:(zeroValue t).run P w=.ok zz w:=by simp [zeroValue,fv hi,hz]
   have h2:(sizeOf e).run P w=.ok j.size w:=by simp [sizeOf,fv hj]
   have h3:=fill_eq (f:=fun i=>some (i*j.size,j.size)) (fun i x hx=>by
    rw [List.getElem?_map] at hx
    obtain ⟨y,hy,rfl⟩:=Option.map_eq_some_iff.1 hx
    have:=List.getElem?_eq_some_iff.1 hy
    obtain ⟨aN,he⟩:=this
    simp at he
    rw [he]) ps zz.cells.toList cs hf
   unfold Instr.build
   simp only [Sem.run_bind,h1,Result.andThen_ok,aT hu,h2]
   simp only [Array.toArray_toList] at h3
   rw [h3]
   rfl
  ·cases h0
 ·cases h0
inductive vn (sl:aG):List (Nat×Operand)→List (Nat×Value)→Prop
 | nil:vn sl [] []
 | cons {i:Nat} {x:Operand} {xs:List (Nat×Operand)} {v:Value} {vs:List (Nat×Value)} (h:Is sl x v) (t:vn sl xs vs):vn sl ((i,x)::xs) ((i,v)::vs)
theorem vn.map {xs:List (Nat×Operand)} {vs:List (Nat×Value)} (h:vn sl xs vs) {a:Act} (ha:bK sl a):(xs.map fun (i,x)=>(i,a.eval x))=vs:=by
 induction h with
 | nil=>rfl
 | cons h _ ih=>simp [h a ha];simpa using ih
theorem aS {t:TypeId} {xs:List (Nat×Operand)} {ps:List (Nat×Value)} {places:List (Nat×Nat)} {z cs:List Value} [BZ P t places z] (hp:vn sl xs ps) (hf:sC places z ps=some cs) :
  cX P c sl hs ⟨dst,.build t xs.toArray,ty,pos,af,g⟩ (.agg cs.toArray):=
 GV (ps:=ps.toArray) (fun a ha=>by simp [← hp.map ha]) (fun w=>E9 hf w)
inductive rV (sl:aG):Nat→List (Nat×Operand)→List Value→Prop
 | nil {i:Nat}:rV sl i [] []
 | cons {i:Nat} {x:Operand} {xs:List (Nat×Operand)} {v:Value} {vs:List Value} (h:Is sl x v) (t:rV sl (i+1) xs vs):rV sl i ((i,x)::xs) (v::vs)
theorem rV.map {i:Nat} {xs:List (Nat×Operand)} {vs:List Value} (h:rV sl i xs vs) {a:Act} (ha:bK sl a):(xs.map fun (i,x)=>(i,a.eval x))=(vs.zipIdx i).map fun (v,i)=>(i,v):=by
 induction h with
 | nil=>rfl
 | cons h _ ih=>simp [h a ha];simpa using ih
theorem aA {t e:TypeId} {n:Nat} {z:Value} {xs:List (Nat×Operand)} {vs:List Value} [hu:iA P t (.slice e)] [Ty P e false 1] [lu P e z] (hp:rV sl 0 xs vs)
  (hl:vs.length=n) (hn:Nat.ble n 1000=true) (hz:z.oneCell'=true) (h1:vs.all Value.oneCell'=true) :
  qe P c sl hs ⟨dst,.buildSlice t n xs.toArray,ty,pos,af,g⟩ (fun b=>.slice (some ⟨b,0,none⟩) n n) (.cells vs.toArray e):=
 lE (ps:=uu vs) (fun a ha=>by simp only [uu,← hp.map ha];simp) (fun w=>uj hl (by simpa using hn) hz (by simpa [List.all_eq_true] using h1) w)
class bP (P:Program) (f:FuncId):Prop where
 eq:((P.funcs[f]?).map fun fn=>(fn.name == "runtime.NumGoroutine" || fn.body.isNone))=some false
theorem r5 {f:FuncId} [h:bP P f] (args:Array Value) (w:World):(callFunc f args).run P w=.ok (.enter f args) w:=by
 have:=h.eq
 cases hf:P.funcs[f]? with
 | none=>rw [hf] at this;cases this
 | some fn =>
  rw [hf] at this
  simp only [Option.map_some,Option.some.injEq,Bool.or_eq_false_iff] at this
  obtain ⟨h1,h2⟩:=this
  simp only [callFunc,Sem.run_bind,run_program,Result.andThen_ok,hf,h1,h2]
  rfl
inductive FY (sl:aG):List Operand→List Value→Prop
 | nil:FY sl [] []
 | cons {x:Operand} {xs:List Operand} {v:Value} {vs:List Value} (h:Is sl x v) (t:FY sl xs vs):FY sl (x::xs) (v::vs)
theorem FY.map {sl:aG} {xs:List Operand} {vs:List Value} (h:FY sl xs vs) {a:Act} (ha:bK sl a):xs.map a.eval=vs:=by
 induction h with
 | nil=>rfl
 | cons h _ ih=>simp [h a ha,ih]
def k7 (P:Program) (sl:aG) (o:Oper) (f:FuncId) (args:List Value):Prop:=
 (∀ d,o.op≠.defer d)∧∀ a w,bK sl a→(execOp a.eval o).run P w=.ok (.enter f args.toArray) w
theorem bh {x:Operand} {xs:List Operand} {ts:Array TypeId} {f:FuncId} {first vs cap args:List Value} (hx:Is sl x (.func (.func f) first.toArray cap.toArray)) (ha:FY sl xs vs) (hb:bP P f) (he:first++vs++cap=args) :
  k7 P sl ⟨dst,.call ⟨.value x,xs.toArray,ts⟩,ty,pos,af,g⟩ f args:=
 ⟨by simp,fun a w hs=>by
  subst he
  have h1:=ha.map hs
  simp only [execOp,resolve,hx a hs,Deferred.ofValue,Sem.run_bind,Sem.run_pure,Result.andThen_ok,invoke,List.map_toArray,h1,List.append_toArray]
  exact r5 (h:=hb) _ _⟩
theorem bn {f:Fn} {xs ys:List Operand} {vs us:List Value} (h1:FY sl xs vs) (h2:FY sl ys us) :
  cX P c sl hs ⟨dst,.makeFunc f xs.toArray ys.toArray,ty,pos,af,g⟩ (.func f vs.toArray us.toArray):=
 AR (fun a ha=>by simp [h1.map ha]) (fun a ha=>by simp [h2.map ha])
def bd (P:Program) (f:FuncId) (args:List Value) (w:World) (md:List Nat) {ι:Type} (Φ:ι→Prop) (val:ι→Value) (own:ι→List ba):Prop:=
 Calls P f args.toArray w fun e w'=>∃ x,e=.returned (val x)∧Φ x∧aF md w w'∧∃ fp:List Nat,fp.Nodup∧bY (hp w') (own x) fp∧∀ b∈fp,b∈md∨w.heap.size≤b
def aj (P:Program) (f:FuncId) (args:List Value) (w:World) (V:Value):Prop:=
 Calls P f args.toArray w fun e w'=>e=.returned V∧aF [] w w'
theorem gQ {n:Nat} {f:FuncId} {args:Array Value} {w:World} {R:Ending→World→Prop} (h:Calls P f args w R):CallsIn (FR r) n P f args w R:=
 (callsIn_wide (n:=n)).2 h
theorem ye {o:Oper} {f:FuncId} {args:List Value} {R:Ending→World→Prop} {a:Act} {w:World} (hg:o.guard=none) (hr:k7 P sl o f args) (hs:bK sl a) (hc:Calls P f args.toArray w R)
  (k:∀ e w',R e w'→∃ v,e=.returned v∧WL P r ops Q rest (a.put o.dst v) w'):WL P r ops Q (o::rest) a w:=by
 refine lP hg ⟨dE _ _ _ _ _,?_⟩
 rw [Oper.semAt_eq _ _ _ hr.1,hr.2 a w hs]
 refine ⟨by simp [FR,Fence.wide],(gQ hc).mono fun e w' h=>?_⟩
 obtain ⟨v,rfl,hk⟩:=k e w' h
 exact hk
theorem ag {f:FuncId} {args:List Value} {V:Value} (hr:k7 P sl ⟨some d,op,ty,pos,af,none⟩ f args) (hd:Nat.blt d c.nt=true) (hc:∀ w,Mem c hs w→aj P f args w V)
  (k:Tr c D ((d,V)::sl) hs (WL P r ops Q rest)):Tr c D sl hs (WL P r ops Q (⟨some d,op,ty,pos,af,none⟩::rest)):=fun a w a7=>
 ye rfl hr a7.cT (hc w a7.qI) fun e w' ⟨he,hk⟩=>⟨V,he,k _ _ ((a7.put (by simpa [Nat.blt_eq] using hd) V).heap (a7.mem.qL hk))⟩
inductive bj:List ba→List ba→List ba→Prop
 | nil {hs:List ba}:bj hs [] hs
 | cons {hs h1 h2:List ba} {A:ba} {As:List ba} (h:Take hs A h1) (t:bj h1 As h2):bj hs (A::As) h2
theorem bY.iQ {h:Nat→Option Obj} {hs As hs':List ba} (ht:bj hs As hs'):∀ {fp:List Nat},bY h hs fp→∃ f1 f2,bY h As f1∧bY h hs' f2∧fp.Perm (f1++f2):=by
 induction ht with
 | nil=>intro fp hf;exact ⟨[],fp,rfl,hf,.refl _⟩
 | cons h _ ih =>
  intro fp hf
  obtain ⟨f1,f2,h1,h2,hp⟩:=hf.take h
  obtain ⟨g1,g2,h3,h4,hq⟩:=ih h2
  exact ⟨f1++g1,g2,⟨f1,g1,rfl,h1,h3⟩,h4,hp.trans (by rw [List.append_assoc];exact hq.append_left f1)⟩
theorem Mem.iQ {As:List ba} {w:World} (h:Mem c hs w) (ht:bj hs As hs'):Mem c (As++hs') w:=by
 obtain ⟨k,fp,hn,hs,hb⟩:=h
 obtain ⟨f1,f2,h1,h2,hp⟩:=hs.iQ ht
 exact ⟨k,f1++f2,hp.nodup_iff.1 hn,bY.append_iff.2 ⟨f1,f2,rfl,h1,h2⟩,fun b dw=>hb b (hp.mem_iff.2 dw)⟩
theorem bj.append {As:List ba} (h:bj hs As hs') (m:List ba):bj (hs++m) As (hs'++m):=by
 induction h with
 | nil=>exact .nil
 | cons h _ ih=>exact .cons (h.append m) ih
theorem Mem.ND {As Bs:List ba} {w w':World} (hm:Mem c (As++hs') w)
  (hs0:∀ fp,fp.Nodup→bY (hp w) As fp→aF fp w w'∧∃ kX:List Nat,kX.Nodup∧bY (hp w') Bs kX∧∀ b∈kX,b∈fp∨w.heap.size≤b):Mem c (Bs++hs') w':=Mem.change hm hs0
theorem iX {f:FuncId} {args:List Value} {As:List ba} {ι:Type} {Φ:ι→Prop} {val:ι→Value} {own:ι→List ba} (hr:k7 P sl ⟨some d,op,ty,pos,af,none⟩ f args) (hd:Nat.blt d c.nt=true) (ht:bj hs As hs')
  (hc:∀ w fp,Mem c hs w→fp.Nodup→bY (hp w) As fp→bd P f args w fp Φ val own)
  (k:∀ x,Φ x→Tr c D ((d,val x)::sl) (own x++hs') (WL P r ops Q rest)):Tr c D sl hs (WL P r ops Q (⟨some d,op,ty,pos,af,none⟩::rest)):=fun a w a7=>by
 have hm:=a7.mem.iQ (ht.append (lX D))
 obtain ⟨kk,fp,hn,gZ,hb⟩:=hm
 obtain ⟨f1,f2,rfl,h1,h2⟩:=bY.append_iff.1 gZ
 refine ye rfl hr a7.cT (hc w f1 a7.qI (List.nodup_append.1 hn).1 h1) fun e w' ⟨x,he,hx,hk,kX,tC,hs',xE⟩=>⟨val x,he,k x hx _ _ ((a7.put (by simpa [Nat.blt_eq] using hd) (val x)).heap ?_)⟩
 obtain ⟨n1,n2,n12⟩:=List.nodup_append.1 hn
 have aN:∀ b∈f2,b<w.heap.size:=fun b dw=>let ⟨o,ho⟩:=h2.own b dw;jG ho
 rw [List.append_assoc]
 refine ⟨?_,kX++f2,?_,bY.append_iff.2 ⟨kX,f2,rfl,hs',h2.loc fun b dw=>?_⟩,?_⟩
 ·refine ⟨hk.os.trans kk.os,hk.tape.trans kk.tape,hk.output.trans kk.output,Nat.le_trans kk.dr hk.dr,Nat.le_trans kk.size hk.size,fun b dw hm=>?_⟩
  rw [← kk.block b dw hm]
  refine hk.block b (Nat.lt_of_lt_of_le dw kk.size) (fun hf=>?_)
  rcases hb b (List.mem_append_left _ hf) with h | h
  ·omega
  ·exact hm h
 ·refine List.nodup_append.2 ⟨tC,n2,fun x hx y hy e=>?_⟩
  subst e
  rcases xE x hx with h | h
  ·exact n12 x h x hy rfl
  ·have:=aN x hy;omega
 ·exact hk.block b (aN b dw) (fun hf=>n12 b hf b dw rfl)
 ·intro b dw
  rcases List.mem_append.1 dw with h | h
  ·rcases xE b h with h | h
   ·exact hb b (List.mem_append_left _ h)
   ·exact .inl (Nat.le_trans kk.size h)
  ·exact hb b (List.mem_append_right _ h)
def jh:Nat→List Value→aG
 | _,[]=>[]
 | i,v::vs=>(i,v)::jh (i+1) vs
theorem o7:∀ (vs:List Value) (i t:Nat) (v:Value),cI (jh i vs) t=some v→∃ j,t=i+j∧vs[j]? = some v
 | [],_,_,_,h=>by simp [jh,cI] at h
 | u :: us, i, t, v, h => by
  by_cases hit:i=t
  ·subst hit
   rw [jh,fu] at h
   exact ⟨0,rfl,by simpa using h⟩
  ·rw [jh,fq hit] at h
   obtain ⟨j,e,hj⟩:=o7 us (i+1) t v h
   exact ⟨j+1,by omega,by simpa using hj⟩
theorem og {f:FuncId} {fn:Func} {code:Code} {args:List Value} {w:World} {md:List Nat} {hs0:List ba} {R:Ending→World→Prop} (hf:P.funcs[f]? = some fn) (hb:fn.body=some code) (hl:args.length≤fn.ntmps)
  (h0:∃ fp:List Nat,fp.Nodup∧bY (hp w) hs0 fp∧∀ b∈fp,b∈md)
  (h:Tr ⟨w,md,fn.ntmps⟩ [] (jh 0 args) hs0 (WP P none code (bodyPostM (FR none) 0 P fn R))):Calls P f args.toArray w R:=by
 have hc:=callsIn_of_wp_marks (F:=FR none) (n:=0) (P:=P) (f:=f) (R:=R) (w:=w) (args:=args.toArray) hf hb trivial
  (h { tmps:=args.toArray++Array.replicate (fn.ntmps-args.toArray.size) undef,defers:=[] } w ⟨⟨.refl _ _,?_⟩,?_,?_,rfl⟩)
 ·exact (callsIn_wide (n:=0)).1 hc
 ·obtain ⟨fp,hn,gZ,hm⟩:=h0
  exact ⟨fp,hn,by simpa [lX] using gZ,fun b dw=>.inr (hm b dw)⟩
 ·intro t v hv
  obtain ⟨j,e,hj⟩:=o7 args 0 t v hv
  have:t=j:=by omega
  subst this
  obtain ⟨aN,ml⟩:=List.getElem?_eq_some_iff.1 hj
  simp [Array.getElem?_append,aN,ml]
 ·simp;omega
end
end Go.SL
namespace Go.SL
open Go
structure Rel where
 p:Value→World→Prop
 st:∀ {v:Value} {w w':World},p v w→aF [] w w'→p v w'
def Rel.val (V:Value):Rel:=⟨fun v _=>v=V,fun h _=>h⟩
abbrev eB:=List (Nat×Rel)
def zU (T:List Nat) (rl:eB) (a:Act) (w:World):Prop:=∀ d R,(d,R)∈rl→d∈T→∃ v,a.tmps[d]? = some v∧R.p v w
def we (P:Program) (o:Oper) (a:Act) (w:World) (R:Rel):Prop:=
 match (execOp a.eval o).run P w with
 | .ok (.value v) w'=>aF [] w w'∧R.p v w'
 | .ok (.enter f args) w'=>w'=w∧Calls P f args w (fun e vH=>∃ v,e=.returned v∧aF [] w vH∧R.p v vH)
 | _=>False
def sG (P:Program) (c:Cx) (hs:List ba) (ops:Array Oper) (sl:aG) (rl:eB) (o:Oper) (R:Rel):Prop:=
 ∀ a w,bK sl a→zU (o.looksAt ops) rl a w→Mem c hs w→if Region.wanted o (yielded ops a.tmps) then we P o a w R else R.p undef w
def Kn (e:Edge):Bool:=Region.binds .any e
def mC (o:Oper):Bool:=match o.op with | .select ..=>false | .defer _=>false | _=>true
def e9 (o:Oper) (i:Nat):Bool:=o.after.toList.any fun e=>Kn e&&Nat.beq e.on i
def has (l:List Nat) (t:Nat):Bool:=l.any (Nat.beq t)
theorem Ej {l:List Nat} {t:Nat}:has l t=true↔t∈l:=by
 simp [has,List.any_eq_true]
def pD (ops:Array Oper) (x y:Oper) (i:Nat):Bool:=
 match x.dst,y.dst with
 | some d,some e=>!Nat.beq d e&&((!has (y.looksAt ops) d&&!has (x.looksAt ops) e)||e9 y i)
 | _,_=>false
def j8 (ops:Array Oper):List Oper→Nat→Bool
 | [],_=>true
 | x::r,i=>r.all (fun y=>pD ops x y i)&&j8 ops r (i+1)
def sY:List Oper→Nat→Bool
 | [],_=>true
 | o::r,k=>o.after.toList.all (fun e=>!Kn e||Nat.blt e.on k)&&sY r (k+1)
def pG (acc:List Nat) (o:Oper):Nat:=o.after.toList.foldl (fun s e=>if Kn e then s ||| 2 ^ e.on ||| acc.getD e.on 0 else s) 0
def ic:List Oper→List Nat→List Nat
 | [],acc=>acc
 | o::r,acc=>ic r (acc++[pG acc o])
def yq (ms:List Nat):List Nat→Bool
 | []=>true
 | k::r=>(List.range k).all (fun i=>(ms.getD k 0).testBit i)&&yq ms r
def wY (l:List Oper) (m:Nat):Bool:=
 l.all mC&&sY l 0&&j8 l.toArray (l.take m) 0&&(l.take m).all (fun o=>o.dst.isSome)&&yq (ic l []) (List.range' m (l.length-m))&&Nat.ble m l.length
theorem jv {l:List Oper}:∀ {s:Nat},sY l s=true→∀ {k:Nat} {o:Oper},l[k]? = some o→∀ e∈o.after,Kn e=true→e.on<s+k:=by
 induction l with
 | nil=>intro s _ k o h;simp at h
 | cons x r ih =>
  intro s h k o hk e he hb
  simp only [sY,Bool.and_eq_true,List.all_eq_true] at h
  cases k with
  | zero =>
   simp at hk;subst hk
   have:=h.1 e (by simpa using he)
   simpa [hb,Nat.blt_eq] using this
  | succ k =>
   have:=ih h.2 (k:=k) (by simpa using hk) e he hb
   omega
theorem qJ:∀ (l:List Oper) (acc:List Nat),∃ t,ic l acc=acc++t∧t.length=l.length
 | [],acc=>⟨[],by simp [ic]⟩
 | o :: r, acc => by
  obtain ⟨t,h,hl⟩:=qJ r (acc++[pG acc o])
  exact ⟨pG acc o::t,by simp [ic,h],by simp [hl]⟩
theorem uy:∀ (l:List Oper) (acc:List Nat) (k:Nat) (o:Oper),l[k]? = some o→(ic l acc).getD (acc.length+k) 0=pG ((ic l acc).take (acc.length+k)) o
 | [],_,_,_,h=>by simp at h
 | x :: r, acc, k, o, h => by
  obtain ⟨t,ht,hl⟩:=qJ r (acc++[pG acc x])
  cases k with
  | zero =>
   simp at h;subst h
   simp [ic,ht]
  | succ k =>
   have:=uy r (acc++[pG acc x]) k o (by simpa using h)
   simp only [List.length_append,List.length_cons,List.length_nil] at this
   rw [show acc.length+(k+1)=acc.length+(0+1)+k from by omega]
   exact this
theorem r9 (acc:List Nat) (i:Nat):∀ (es:List Edge) (s:Nat),(es.foldl (fun s e=>if Kn e then s ||| 2 ^ e.on ||| acc.getD e.on 0 else s) s).testBit i=true →
  s.testBit i=true∨∃ e∈es,Kn e=true∧(i=e.on∨(acc.getD e.on 0).testBit i=true)
 | [],s,h=>.inl h
 | e :: es, s, h => by
  simp only [List.foldl_cons] at h
  rcases r9 acc i es _ h with h | ⟨e',F1,hb,h⟩
  ·by_cases hb:Kn e=true
   ·simp only [hb,if_true,Nat.testBit_or,Bool.or_eq_true,Nat.testBit_two_pow,decide_eq_true_eq] at h
    rcases h with (h | h) | h
    ·exact .inl h
    ·exact .inr ⟨e,by simp,hb,.inl h.symm⟩
    ·exact .inr ⟨e,by simp,hb,.inr h⟩
   ·simp only [hb] at h
    exact .inl h
  ·exact .inr ⟨e',by simp [F1],hb,h⟩
def DC (l:List Oper) (L:Nat→Prop):Prop:=∀ k o,l[k]? = some o→L k→∀ e∈o.after,Kn e=true→L e.on
theorem gK {l:List Oper} {L:Nat→Prop} (zn:DC l L) (SR:sY l 0=true):∀ (k:Nat),k<l.length→L k→∀ i,((ic l []).getD k 0).testBit i=true→L i:=by
 intro k
 induction k using Nat.strongRecOn with
 | _ k ih =>
  intro hk hL i hi
  have ho:l[k]? = some l[k]:=List.getElem?_eq_getElem hk
  have hm:=uy l [] k _ ho
  simp only [List.length_nil,Nat.zero_add] at hm
  rw [hm] at hi
  unfold pG at hi
  rcases r9 _ i _ 0 hi with h | ⟨e,he,hb,h⟩
  ·simp at h
  ·have F1:e∈l[k].after:=by simpa using he
   have aN:e.on<k:=by have:=jv SR ho e F1 hb;omega
   have XA:=zn k _ ho hL e F1 hb
   rcases h with h | h
   ·rw [h];exact XA
   ·refine ih e.on aN (by omega) XA i ?_
    have:((ic l []).take k).getD e.on 0=(ic l []).getD e.on 0:=by
     simp [List.getD_eq_getElem?_getD,aN]
    rwa [this] at h
theorem mB {ops:Array Oper} {l:List Oper}:∀ {s:Nat},j8 ops l s=true→∀ {i j:Nat} {x y:Oper},i<j→l[i]? = some x→l[j]? = some y→pD ops x y (s+i)=true:=by
 induction l with
 | nil=>intro s _ i j x y _ h;simp at h
 | cons o r ih =>
  intro s h i j x y xD hx hy
  simp only [j8,Bool.and_eq_true,List.all_eq_true] at h
  cases j with
  | zero=>omega
  | succ j =>
   cases i with
   | zero =>
    simp at hx;subst hx
    exact h.1 y (List.mem_of_getElem? (by simpa using hy))
   | succ i =>
    have:=ih h.2 (i:=i) (j:=j) (by omega) (by simpa using hx) (by simpa using hy)
    rwa [show s+1+i=s+(i+1) from by omega] at this
theorem nX {sl:aG} {T:List Nat} {a:Act} {nt:Nat} (hn:a.tmps.size=nt) (hk:∀ t v,cI sl t=some v→t<nt) (hT:∀ t∈T,∀ v,cI sl t=some v→a.tmps[t]? = some v) :
  ∃ a':Act,bK sl a'∧(∀ t∈T,a'.tmps[t]? = a.tmps[t]?)∧a'.tmps.size=nt:=by
 refine ⟨⟨Array.ofFn (n:=nt) fun t=>if (t:Nat)∈T then a.tmps.getD t undef else (cI sl t).getD undef,a.defers⟩,?_,?_,by simp⟩
 ·intro t v hv
  have aN:=hk t v hv
  simp only [Array.getElem?_ofFn,aN,dif_pos]
  by_cases ht:t∈T
  ·have:=hT t ht v hv
   simp [ht,Array.getD_eq_getD_getElem?,this]
  ·simp [ht,hv]
 ·intro t ht
  by_cases aN:t<nt
  ·have:a.tmps[t]? = some (a.tmps[t]'(by omega)):=Array.getElem?_eq_getElem (by omega)
   simp [ht,aN,Array.getD_eq_getD_getElem?,this]
  ·rw [Array.getElem?_eq_none (by simp;omega),Array.getElem?_eq_none (by omega)]
theorem zB {a a':Act} {x:Operand} (h:∀ t,x=.tmp t→a'.tmps[t]? = a.tmps[t]?):a'.eval x=a.eval x:=by
 cases x with
 | tmp t=>simp [Act.eval,Array.getD_eq_getD_getElem?,h t rfl]
 | _=>rfl
theorem hP {o:Oper} {ops:Array Oper} {a a':Act} (ho:mC o=true) (h:∀ t∈o.looksAt ops,a'.tmps[t]? = a.tmps[t]?):execOp a'.eval o=execOp a.eval o:=by
 refine execOp_congr o (fun cs b he=>by simp [mC,he] at ho) fun x hx=>zB fun t ht=>h t ?_
 subst ht
 unfold Oper.looksAt
 refine List.mem_append_left _ ?_
 simp only [List.mem_filterMap]
 exact ⟨_,by simpa using hx,rfl⟩
theorem gD {o:Oper} {ops:Array Oper} {a a':Act} (h:∀ t∈o.looksAt ops,a'.tmps[t]? = a.tmps[t]?):Region.wanted o (yielded ops a'.tmps)=Region.wanted o (yielded ops a.tmps):=by
 unfold Region.wanted
 cases hg:o.guard with
 | none=>rfl
 | some gw =>
  obtain ⟨j,want⟩:=gw
  simp only []
  have:yielded ops a'.tmps j=yielded ops a.tmps j:=by
   unfold yielded
   cases hd:(ops[j]?).bind (·.dst) with
   | none=>rfl
   | some d =>
    have:=h d (by unfold Oper.looksAt;exact List.mem_append_right _ (by simp [hg,hd]))
    simp [this]
  rw [this]
inductive rU (P:Program) (c:Cx) (hs:List ba) (ops:Array Oper):List Oper→aG→eB→List Rel→aG→eB→Prop
 | nil {sl:aG} {rl:eB}:rU P c hs ops [] sl rl [] sl rl
 | val {o:Oper} {l:List Oper} {sl iU:aG} {rl j6:eB} {d:Nat} {V:Value} {S:List Rel} (hd:o.dst=some d) (fy:d<c.nt) (h:sG P c hs ops sl rl o (.val V)) (t:rU P c hs ops l ((d,V)::sl) rl S iU j6) :
   rU P c hs ops (o::l) sl rl (.val V::S) iU j6
 | rel {o:Oper} {l:List Oper} {sl iU:aG} {rl j6:eB} {d:Nat} {R:Rel} {S:List Rel} (hd:o.dst=some d) (fy:d<c.nt) (hn:cI sl d=none) (h:sG P c hs ops sl rl o R) (t:rU P c hs ops l sl ((d,R)::rl) S iU j6) :
   rU P c hs ops (o::l) sl rl (R::S) iU j6
theorem rU.at_ {P:Program} {c:Cx} {hs:List ba} {ops:Array Oper} {l:List Oper} {sl iU:aG} {rl j6:eB} {S:List Rel} (h:rU P c hs ops l sl rl S iU j6) :
  ∀ (i : Nat) (o : Oper), l[i]? = some o → ∃ tg Ka R, S[i]? = some R ∧ sG P c hs ops tg Ka o R ∧
   (∀ t v,cI tg t=some v→(∃ (j:Nat) (oj:Oper),j<i∧l[j]? = some oj∧oj.dst=some t∧S[j]? = some (.val v))∨((∀ (j:Nat) (oj:Oper),j<i→l[j]? = some oj→oj.dst≠some t)∧cI sl t=some v)) ∧
   (∀ t Rt,(t,Rt)∈Ka→(∃ (j:Nat) (oj:Oper),j<i∧l[j]? = some oj∧oj.dst=some t∧S[j]? = some Rt)∨(t,Rt)∈rl):=by
 induction h with
 | nil=>intro i o h;simp at h
 | @val o0 l sl iU rl j6 d V S hd fy a7 t ih =>
  intro i o ho
  cases i with
  | zero =>
   simp at ho;subst ho
   exact ⟨sl,rl,.val V,rfl,a7,fun t v hv=>.inr ⟨fun j _ hj=>by omega,hv⟩,fun t Rt hm=>.inr hm⟩
  | succ i =>
   obtain ⟨tg,Ka,R,hR,hs',h1,h2⟩:=ih i o (by simpa using ho)
   refine ⟨tg,Ka,R,by simpa using hR,hs',fun t v hv=>?_,fun t Rt hm=>?_⟩
   ·rcases h1 t v hv with ⟨j,oj,hj,iw,ig,jo⟩ | ⟨uN,ml⟩
    ·exact .inl ⟨j+1,oj,by omega,by simpa using iw,ig,by simpa using jo⟩
    ·by_cases vV:d=t
     ·subst vV
      rw [fu] at ml
      cases ml
      exact .inl ⟨0,o0,by omega,rfl,hd,rfl⟩
     ·rw [fq vV] at ml
      refine .inr ⟨fun j oj hj iw=>?_,ml⟩
      cases j with
      | zero=>simp at iw;subst iw;rw [hd];simp [vV]
      | succ j=>exact uN j oj (by omega) (by simpa using iw)
   ·rcases h2 t Rt hm with ⟨j,oj,hj,iw,ig,jo⟩ | az
    ·exact .inl ⟨j+1,oj,by omega,by simpa using iw,ig,by simpa using jo⟩
    ·exact .inr az
 | @rel o0 l sl iU rl j6 d R0 S hd fy hn a7 t ih =>
  intro i o ho
  cases i with
  | zero =>
   simp at ho;subst ho
   exact ⟨sl,rl,R0,rfl,a7,fun t v hv=>.inr ⟨fun j _ hj=>by omega,hv⟩,fun t Rt hm=>.inr hm⟩
  | succ i =>
   obtain ⟨tg,Ka,R,hR,hs',h1,h2⟩:=ih i o (by simpa using ho)
   refine ⟨tg,Ka,R,by simpa using hR,hs',fun t v hv=>?_,fun t Rt hm=>?_⟩
   ·rcases h1 t v hv with ⟨j,oj,hj,iw,ig,jo⟩ | ⟨uN,ml⟩
    ·exact .inl ⟨j+1,oj,by omega,by simpa using iw,ig,by simpa using jo⟩
    ·have vV:d≠t:=fun e=>by subst e;rw [hn] at ml;cases ml
     refine .inr ⟨fun j oj hj iw=>?_,ml⟩
     cases j with
     | zero=>simp at iw;subst iw;rw [hd];simp [vV]
     | succ j=>exact uN j oj (by omega) (by simpa using iw)
   ·rcases h2 t Rt hm with ⟨j,oj,hj,iw,ig,jo⟩ | az
    ·exact .inl ⟨j+1,oj,by omega,by simpa using iw,ig,by simpa using jo⟩
    ·rcases List.mem_cons.1 az with e | PE
     ·cases e
      exact .inl ⟨0,o0,by omega,rfl,hd,rfl⟩
     ·exact .inr PE
theorem rU.end_ {P:Program} {c:Cx} {hs:List ba} {ops:Array Oper} {l:List Oper} {sl iU:aG} {rl j6:eB} {S:List Rel} (h:rU P c hs ops l sl rl S iU j6) :
   (∀ t v,cI iU t=some v→(∃ (j:Nat) (oj:Oper),l[j]? = some oj∧oj.dst=some t∧S[j]? = some (.val v))∨((∀ (j:Nat) (oj:Oper),l[j]? = some oj→oj.dst≠some t)∧cI sl t=some v)) ∧
   (∀ t Rt,(t,Rt)∈j6→(∃ (j:Nat) (oj:Oper),l[j]? = some oj∧oj.dst=some t∧S[j]? = some Rt)∨(t,Rt)∈rl) ∧
   (∀ (j:Nat) (oj:Oper),l[j]? = some oj→∃ d R,oj.dst=some d∧d<c.nt∧S[j]? = some R):=by
 induction h with
 | nil=>exact ⟨fun t v hv=>.inr ⟨fun j oj h=>by simp at h,hv⟩,fun t Rt hm=>.inr hm,fun j oj h=>by simp at h⟩
 | @val o0 l sl iU rl j6 d V S hd fy a7 t ih =>
  obtain ⟨h1,h2,h3⟩:=ih
  refine ⟨fun t v hv=>?_,fun t Rt hm=>?_,fun j oj hj=>?_⟩
  ·rcases h1 t v hv with ⟨j,oj,iw,ig,jo⟩ | ⟨uN,ml⟩
   ·exact .inl ⟨j+1,oj,by simpa using iw,ig,by simpa using jo⟩
   ·by_cases vV:d=t
    ·subst vV
     rw [fu] at ml
     cases ml
     exact .inl ⟨0,o0,rfl,hd,rfl⟩
    ·rw [fq vV] at ml
     refine .inr ⟨fun j oj iw=>?_,ml⟩
     cases j with
     | zero=>simp at iw;subst iw;rw [hd];simp [vV]
     | succ j=>exact uN j oj (by simpa using iw)
  ·rcases h2 t Rt hm with ⟨j,oj,iw,ig,jo⟩ | az
   ·exact .inl ⟨j+1,oj,by simpa using iw,ig,by simpa using jo⟩
   ·exact .inr az
  ·cases j with
   | zero=>simp at hj;subst hj;exact ⟨d,_,hd,fy,rfl⟩
   | succ j=>obtain ⟨d',R',h⟩:=h3 j oj (by simpa using hj);exact ⟨d',R',by simpa using h⟩
 | @rel o0 l sl iU rl j6 d R0 S hd fy hn a7 t ih =>
  obtain ⟨h1,h2,h3⟩:=ih
  refine ⟨fun t v hv=>?_,fun t Rt hm=>?_,fun j oj hj=>?_⟩
  ·rcases h1 t v hv with ⟨j,oj,iw,ig,jo⟩ | ⟨uN,ml⟩
   ·exact .inl ⟨j+1,oj,by simpa using iw,ig,by simpa using jo⟩
   ·have vV:d≠t:=fun e=>by subst e;rw [hn] at ml;cases ml
    refine .inr ⟨fun j oj iw=>?_,ml⟩
    cases j with
    | zero=>simp at iw;subst iw;rw [hd];simp [vV]
    | succ j=>exact uN j oj (by simpa using iw)
  ·rcases h2 t Rt hm with ⟨j,oj,iw,ig,jo⟩ | az
   ·exact .inl ⟨j+1,oj,by simpa using iw,ig,by simpa using jo⟩
   ·rcases List.mem_cons.1 az with e | PE
    ·cases e
     exact .inl ⟨0,o0,rfl,hd,rfl⟩
    ·exact .inr PE
  ·cases j with
   | zero=>simp at hj;subst hj;exact ⟨d,_,hd,fy,rfl⟩
   | succ j=>obtain ⟨d',R',h⟩:=h3 j oj (by simpa using hj);exact ⟨d',R',by simpa using h⟩
end Go.SL
namespace Go.SL
open Go
section
variable {P:Program} {r:Option Nat} {c:Cx} {D:List Nat} {sl iU:aG} {j6:eB} {hs:List ba} {Q:Exit→Act→World→Prop} {l:List Oper} {m:Nat} {S:List Rel}
def Ls (listed:Array Bool) (i:Nat):Prop:=listed.getD i false=true
theorem eJ (n i:Nat):¬ Ls (Array.replicate n false) i:=by
 unfold Ls
 rw [Array.getD_eq_getD_getElem?,Array.getElem?_replicate]
 split <;> simp
theorem cj {listed:Array Bool} {i j:Nat} (hi:i<listed.size):Ls (listed.setIfInBounds i true) j↔(j=i∨Ls listed j):=by
 unfold Ls
 by_cases h:i=j
 ·subst h
  simp [Array.getD_eq_getD_getElem?,hi]
 ·have h':¬ j=i:=fun e=>h e.symm
  simp [Array.getD_eq_getD_getElem?,Array.getElem?_setIfInBounds_ne h,h']
theorem Em {listed:Array Bool} {i:Nat} (hi:i<listed.size):listed.getD i true=false↔¬ Ls listed i:=by
 unfold Ls
 simp [Array.getD_eq_getD_getElem?,hi]
theorem dz {listed:Array Bool} (hsz:listed.size=l.length) {i:Nat}:i∈Region.ready .any l.toArray listed↔∃ o,l[i]? = some o∧¬ Ls listed i∧∀ e∈o.after,Kn e=true→Ls listed e.on:=by
 rw [mem_ready]
 constructor
 ·rintro ⟨h1,o,ho,h2⟩
  have Ei:l[i]? = some o:=by simpa using ho
  have hi:i<listed.size:=by rw [hsz];exact (List.getElem?_eq_some_iff.1 Ei).1
  exact ⟨o,Ei,(Em hi).1 h1,h2⟩
 ·rintro ⟨o,ho,h1,h2⟩
  have hi:i<listed.size:=by rw [hsz];exact (List.getElem?_eq_some_iff.1 ho).1
  exact ⟨(Em hi).2 h1,o,by simpa using ho,h2⟩
theorem iR {listed:Array Bool} (hsz:listed.size=l.length) (SR:sY l 0=true) (h:∃ i,i<l.length∧¬ Ls listed i):∃ i,i∈Region.ready .any l.toArray listed:=by
 obtain ⟨i,hi,hn⟩:=h
 induction i using Nat.strongRecOn with
 | _ i ih =>
  by_cases dR:∀ j,j<i→Ls listed j
  ·refine ⟨i,(dz hsz).2 ⟨l[i],List.getElem?_eq_getElem hi,hn,fun e he hb=>dR _ ?_⟩⟩
   have:=jv SR (List.getElem?_eq_getElem hi) e he hb
   omega
  ·have:∃ j,j<i∧¬ Ls listed j:=by
    apply Classical.byContradiction
    intro hc
    exact dR fun j hj=>Classical.byContradiction fun tC=>hc ⟨j,hj,tC⟩
   obtain ⟨j,hj,hnj⟩:=this
   exact ih j hj (by omega) hnj
theorem rX {ms:List Nat}:∀ {ks:List Nat},yq ms ks=true→∀ k∈ks,∀ i,i<k→(ms.getD k 0).testBit i=true
 | [],_,k,hk=>by cases hk
 | x :: ks, h, k, hk => by
  simp only [yq,Bool.and_eq_true,List.all_eq_true,List.mem_range] at h
  rcases List.mem_cons.1 hk with e | hk
  ·subst e;exact h.1
  ·exact rX h.2 k hk
structure Qx (l:List Oper) (m:Nat):Prop where
 op:∀ o∈l,mC o=true
 ac:sY l 0=true
 AY:j8 l.toArray (l.take m) 0=true
 tail:∀ k,m≤k→k<l.length→∀ i,i<k→((ic l []).getD k 0).testBit i=true
 le:m≤l.length
theorem uo (h:wY l m=true):Qx l m:=by
 simp only [wY,Bool.and_eq_true,List.all_eq_true] at h
 obtain ⟨⟨⟨⟨⟨h1,h2⟩,h3⟩,_⟩,h5⟩,h6⟩:=h
 refine ⟨h1,h2,h3,fun k hk aN=>rX h5 k ?_,by simpa using h6⟩
 rw [List.mem_range'_1]
 omega
theorem pB (hc:Qx l m) {listed:Array Bool} (hsz:listed.size=l.length) (zn:DC l (Ls listed)) {i:Nat} (hi:i∈Region.ready .any l.toArray listed) (hm:m≤i):∀ j,j<i→Ls listed j:=by
 intro j hj
 obtain ⟨o,ho,hn,hd⟩:=(dz hsz).1 hi
 have aN:i<l.length:=(List.getElem?_eq_some_iff.1 ho).1
 have C3:DC l (fun k=>k=i∨Ls listed k):=by
  intro k ok hk hL e he hb
  rcases hL with e' | hL
  ·subst e'
   rw [ho] at hk;cases hk
   exact .inr (hd e he hb)
  ·exact .inr (zn k ok hk hL e he hb)
 rcases gK C3 hc.ac i aN (.inl rfl) j (hc.tail i hm aN j hj) with h | h
 ·omega
 ·exact h
theorem Cb {o:Oper} {rest:List Oper} {i:Nat} {ops:Array Oper} {K:Act→World→Prop} {a:Act} {w:World} (hi:ops[i]? = some o) (hK:∀ a w,WL P r ops Q rest a w→K a w) (h:WL P r ops Q (o::rest) a w):wpOpIn (FR r) 0 P ops Q i K a w:=by
 unfold wpOpIn
 simp only [hi]
 unfold WL at h
 split
 ·rename_i hw
  rw [if_pos hw] at h
  exact Oper.wpIn_mono hK h
 ·rename_i hw
  rw [if_neg hw] at h
  exact ⟨fun _ _=>trivial,hK _ _ h⟩
theorem CE (hc:Qx l m):∀ (fuel k:Nat) (listed:Array Bool) (a:Act) (w:World),m≤k→k+fuel=l.length→listed.size=l.length→(∀ i,i<l.length→(Ls listed i↔i<k)) →
  WL P r l.toArray Q (l.drop k) a w→wpAnyIn (FR r) 0 P .any l.toArray Q fuel listed a w
 | 0, k, listed, a, w, _, hk, hsz, hL, h => by
  refine ⟨?_,by rw [List.drop_of_length_le (by omega)] at h;exact h⟩
  apply List.eq_nil_iff_forall_not_mem.2
  intro i hi
  obtain ⟨o,ho,hn,_⟩:=(dz hsz).1 hi
  have aN:=(List.getElem?_eq_some_iff.1 ho).1
  exact hn ((hL i aN).2 (by omega))
 | fuel + 1, k, listed, a, w, Kk, hk, hsz, hL, h => by
  have zn:DC l (Ls listed):=fun k' o' Ei Im e he hb=>by
   have aN:=(List.getElem?_eq_some_iff.1 Ei).1
   have:=jv hc.ac Ei e he hb
   exact (hL e.on (by omega)).2 (by have:=(hL k' aN).1 Im;omega)
  have L6:k<l.length:=by omega
  refine ⟨fun h0=>?_,fun i hi=>?_⟩
  ·obtain ⟨i,hi⟩:=iR hsz hc.ac ⟨k,L6,fun hh=>by have:=(hL k L6).1 hh;omega⟩
   rw [h0] at hi;cases hi
  ·obtain ⟨o,ho,hn,_⟩:=(dz hsz).1 hi
   have aN:=(List.getElem?_eq_some_iff.1 ho).1
   have PI:k≤i:=Nat.le_of_not_lt fun hh=>hn ((hL i aN).2 hh)
   have:i=k:=by
    rcases Nat.lt_or_ge k i with hh | hh
    ·have:=(hL k L6).1 (pB hc hsz zn hi (by omega) k hh)
     omega
    ·omega
   subst this
   rw [List.drop_eq_getElem_cons aN] at h
   have Ei:l[i]=o:=by rw [List.getElem?_eq_getElem aN] at ho;exact Option.some.inj ho
   rw [Ei] at h
   refine Cb (by simpa using ho) (fun a' w' h'=>CE hc fuel (i+1) _ a' w' (by omega) (by omega) (by simpa using hsz) (fun j hj=>?_) h') h
   rw [cj (by omega)]
   have:=hL j hj
   constructor
   ·rintro (e | hh)
    ·omega
    ·have:=this.1 hh;omega
   ·intro hh
    by_cases e:j=i
    ·exact .inl e
    ·exact .inr (this.2 (by omega))
structure Inv1 (c:Cx) (D:List Nat) (hs:List ba) (l:List Oper) (m:Nat) (S:List Rel) (a0:Act) (fuel:Nat) (listed:Array Bool) (a:Act) (w:World):Prop where
 sz:listed.size=l.length
 dc:DC l (Ls listed)
 hi:∀ k,m≤k→¬ Ls listed k
 mem:Mem c (hs++lX D) w
 defers:a.defers=D.map mark
 size:a.tmps.size=c.nt
 A2:∀ t,(∀ (j:Nat) (o:Oper),l[j]? = some o→Ls listed j→o.dst≠some t)→a.tmps[t]? = a0.tmps[t]?
 new:∀ (j:Nat) (o:Oper),l[j]? = some o→Ls listed j→∀ d R,o.dst=some d→S[j]? = some R→∃ v,a.tmps[d]? = some v∧R.p v w
 left:∃ U:List Nat,U.Nodup∧(∀ i,i∈U↔i<l.length∧¬ Ls listed i)∧U.length=fuel
theorem lh (hc:Qx l m) {i j:Nat} {x y:Oper} (xD:i<j) (hj:j<m) (hx:l[i]? = some x) (hy:l[j]? = some y):pD l.toArray x y i=true:=by
 have:=mB hc.AY (i:=i) (j:=j) xD (by rw [List.getElem?_take,if_pos (by omega)];exact hx) (by rw [List.getElem?_take,if_pos hj];exact hy)
 simpa using this
theorem di {ops:Array Oper} {x y:Oper} {i d e:Nat} (h:pD ops x y i=true) (hx:x.dst=some d) (hy:y.dst=some e):d≠e∧((d∈y.looksAt ops∨e∈x.looksAt ops)→e9 y i=true):=by
 simp only [pD,hx,hy,Bool.and_eq_true,Bool.not_eq_true',Bool.or_eq_true] at h
 obtain ⟨h1,h2⟩:=h
 refine ⟨fun e'=>by subst e';simp at h1,fun h3=>?_⟩
 rcases h2 with ⟨h4,h5⟩ | h2
 ·rcases h3 with h3 | h3
  ·rw [Ej.2 h3] at h4;cases h4
  ·rw [Ej.2 h3] at h5;cases h5
 ·exact h2
theorem dp {o:Oper} {i:Nat} (h:e9 o i=true):∃ e∈o.after,Kn e=true∧e.on=i:=by
 simp only [e9,List.any_eq_true,Bool.and_eq_true] at h
 obtain ⟨e,he,hb,pe⟩:=h
 exact ⟨e,by simpa using he,hb,Nat.eq_of_beq_eq_true pe⟩
theorem Be (hc:Qx l m) (hl:m≤l.length) {a0 a:Act} {w w':World} {fuel i d:Nat} {listed:Array Bool} {o:Oper} {R:Rel} {v:Value} (hI:Inv1 c D hs l m S a0 (fuel+1) listed a w)
  (hi:i∈Region.ready .any l.toArray listed) (oM:i<m) (ho:l[i]? = some o) (hd:o.dst=some d) (fy:d<c.nt) (qU:S[i]? = some R)
  (VY:∀ (j:Nat) (oj:Oper),j<m→l[j]? = some oj→∃ e,oj.dst=some e) (hk:aF [] w w') (hv:R.p v w'):Inv1 c D hs l m S a0 fuel (listed.setIfInBounds i true) (a.put o.dst v) w':=by
 obtain ⟨o',Ei,hn,ln⟩:=(dz hI.sz).1 hi
 rw [ho] at Ei;cases Ei
 have iK:i<listed.size:=by rw [hI.sz];omega
 have _:=VY
 have pf:∀ (j:Nat) (oj:Oper) (e:Nat),l[j]? = some oj→j<m→j≠i→oj.dst=some e→e≠d:=by
  intro j oj e hj gR hne he
  rcases Nat.lt_or_ge j i with h | h
  ·exact (di (lh hc h oM hj ho) he hd).1
  ·exact fun e'=>(di (lh hc (show i<j by omega) gR ho hj) hd he).1 e'.symm
 rw [hd]
 refine ⟨by simpa using hI.sz,?_,?_,hI.mem.qL hk,hI.defers,by simpa [Act.put] using hI.size,?_,?_,?_⟩
 ·intro k ok re hL e he hb
  rw [cj iK] at hL ⊢
  rcases hL with e' | hL
  ·subst e'
   rw [ho] at re;cases re
   exact .inr (ln e he hb)
  ·exact .inr (hI.dc k ok re hL e he hb)
 ·intro k re hL
  rw [cj iK] at hL
  rcases hL with e | hL
  ·omega
  ·exact hI.hi k re hL
 ·intro t ht
  have h1:d≠t:=fun e=>by subst e;exact ht i o ho ((cj iK).2 (.inl rfl)) hd
  simp only [Act.put,Array.getElem?_setIfInBounds_ne h1]
  exact hI.A2 t fun j oj hj hL=>ht j oj hj ((cj iK).2 (.inr hL))
 ·intro j oj hj hL e Rj he Wi
  rw [cj iK] at hL
  by_cases mR:j=i
  ·subst mR
   rw [ho] at hj;cases hj
   rw [hd] at he;cases he
   rw [qU] at Wi;cases Wi
   exact ⟨v,by simp [Act.put,hI.size,fy],hv⟩
  ·have Ab:=hL.resolve_left mR
   obtain ⟨u,hu,hp⟩:=hI.new j oj hj Ab e Rj he Wi
   have gR:j<m:=Nat.lt_of_not_le fun h=>hI.hi j h Ab
   have hne:e≠d:=pf j oj e hj gR mR he
   refine ⟨u,?_,Rj.st hp hk⟩
   simp only [Act.put,Array.getElem?_setIfInBounds_ne (Ne.symm hne)]
   exact hu
 ·obtain ⟨U,vW,pM,rH⟩:=hI.left
  have PK:i∈U:=(pM i).2 ⟨by omega,hn⟩
  refine ⟨U.erase i,vW.erase i,fun j=>?_,by rw [List.length_erase_of_mem PK,rH];rfl⟩
  rw [vW.mem_erase_iff,pM j,cj iK]
  constructor
  ·rintro ⟨h1,h2,h3⟩
   exact ⟨h2,fun h=>h.elim h1 h3⟩
  ·rintro ⟨h1,h2⟩
   exact ⟨fun e=>h2 (.inl e),h1,fun h=>h2 (.inr h)⟩
def Du (rl:eB) (a:Act) (w:World):Prop:=∀ d R,(d,R)∈rl→∃ v,a.tmps[d]? = some v∧R.p v w
theorem OP (hc:Qx l m) (hp:rU P c hs l.toArray (l.take m) sl [] S iU j6) {a0:Act} (h0:bK sl a0) (H3:a0.tmps.size=c.nt)
  (tail:∀ a w,St c D iU hs a w→Du j6 a w→WL P r l.toArray Q (l.drop m) a w) :
  ∀ (fuel:Nat) (listed:Array Bool) (a:Act) (w:World),Inv1 c D hs l m S a0 fuel listed a w→wpAnyIn (FR r) 0 P .any l.toArray Q fuel listed a w:=by
 have qR:=hp.end_
 have dQ:∀ (j:Nat) (o:Oper),j<m→l[j]? = some o→(l.take m)[j]? = some o:=fun j o hj ho=>by rw [List.getElem?_take,if_pos hj];exact ho
 have fh:∀ (j:Nat) (o:Oper),(l.take m)[j]? = some o→j<m∧l[j]? = some o:=fun j o ho=>by
  rw [List.getElem?_take] at ho
  split at ho
  ·exact ⟨by assumption,ho⟩
  ·cases ho
 have l6:∀ fuel listed a w,Inv1 c D hs l m S a0 fuel listed a w→(∀ i,i<m→Ls listed i)→wpAnyIn (FR r) 0 P .any l.toArray Q fuel listed a w:=by
  intro fuel listed a w hI dR
  have hL:∀ i,i<l.length→(Ls listed i↔i<m):=fun i _=>⟨fun h=>Nat.lt_of_not_le fun hm=>hI.hi i hm h,dR i⟩
  obtain ⟨U,vW,pM,rH⟩:=hI.left
  have gP:U.Perm (List.range' m (l.length-m)):=by
   rw [List.perm_ext_iff_of_nodup vW (List.nodup_range')]
   intro i
   rw [pM i,List.mem_range'_1]
   constructor
   ·rintro ⟨h1,h2⟩
    exact ⟨Nat.le_of_not_lt fun h=>h2 (dR i h),by omega⟩
   ·rintro ⟨h1,h2⟩
    exact ⟨by omega,hI.hi i h1⟩
  have hlen:fuel=l.length-m:=by rw [← rH,gP.length_eq,List.length_range']
  refine CE hc fuel m listed a w (Nat.le_refl _) (by have:=hc.le;omega) hI.sz hL (tail a w ⟨hI.mem,?_,hI.size,hI.defers⟩ ?_)
  ·intro t v hv
   rcases qR.1 t v hv with ⟨j,oj,hj,ig,jo⟩ | ⟨uN,ml⟩
   ·obtain ⟨gR,lI⟩:=fh j oj hj
    obtain ⟨u,hu,mQ⟩:=hI.new j oj lI (dR j gR) t _ ig jo
    rw [hu,show u=v from mQ]
   ·rw [hI.A2 t fun j oj hj jl=>uN j oj (dQ j oj (Nat.lt_of_not_le fun hm=>hI.hi j hm jl) hj)]
    exact h0 t v ml
  ·intro d R hm
   rcases qR.2.1 d R hm with ⟨j,oj,hj,ig,jo⟩ | az
   ·obtain ⟨gR,lI⟩:=fh j oj hj
    exact hI.new j oj lI (dR j gR) d R ig jo
   ·cases az
 intro fuel
 induction fuel with
 | zero =>
  intro listed a w hI
  obtain ⟨U,_,pM,rH⟩:=hI.left
  have hU:U=[]:=List.length_eq_zero_iff.1 rH
  refine l6 0 listed a w hI fun i hi=>Classical.byContradiction fun hn=>?_
  have:=(pM i).2 ⟨by have:=hc.le;omega,hn⟩
  rw [hU] at this;cases this
 | succ fuel ih =>
  intro listed a w hI
  by_cases dR:∀ i,i<m→Ls listed i
  ·exact l6 _ listed a w hI dR
  ·have hex:∃ i,i<m∧¬ Ls listed i:=Classical.byContradiction fun hh=>dR fun i hi=>Classical.byContradiction fun hn=>hh ⟨i,hi,hn⟩
   obtain ⟨i0,vT,oX⟩:=hex
   refine ⟨fun hr=>?_,fun i hi=>?_⟩
   ·obtain ⟨i,hi⟩:=iR hI.sz hc.ac ⟨i0,by have:=hc.le;omega,oX⟩
    rw [hr] at hi;cases hi
   ·have oM:i<m:=Nat.lt_of_not_le fun hm=>oX (pB hc hI.sz hI.dc hi hm i0 (by omega))
    obtain ⟨o,ho,hn,ln⟩:=(dz hI.sz).1 hi
    obtain ⟨tg,Ka,R,P0,fJ,hs1,hs2⟩:=hp.at_ i o (dQ i o oM ho)
    obtain ⟨d,R',hd,fy,qU⟩:=qR.2.2 i o (dQ i o oM ho)
    rw [P0] at qU;cases qU
    have lk:∀ (j:Nat),e9 o j=true→Ls listed j:=fun j hw=>by
     obtain ⟨e,he,hb,pe⟩:=dp hw
     rw [← pe];exact ln e he hb
    have Br:∀ (j t:Nat) (oj:Oper),j<i→(l.take m)[j]? = some oj→oj.dst=some t→t∈o.looksAt l.toArray→Ls listed j:=by
     intro j t oj hj iw ig ht
     obtain ⟨gR,lI⟩:=fh j oj iw
     exact lk j ((di (lh hc hj oM lI ho) ig hd).2 (.inl ht))
    have hT:∀ t∈o.looksAt l.toArray,∀ v,cI tg t=some v→a.tmps[t]? = some v:=by
     intro t ht v hv
     rcases hs1 t v hv with ⟨j,oj,hj,iw,ig,jo⟩ | ⟨uN,ml⟩
     ·obtain ⟨u,hu,mQ⟩:=hI.new j oj (fh j oj iw).2 (Br j t oj hj iw ig ht) t _ ig jo
      rw [hu,show u=v from mQ]
     ·rw [hI.A2 t fun j oj hj jl ig=>?_]
      ·exact h0 t v ml
      ·have gR:j<m:=Nat.lt_of_not_le fun hm=>hI.hi j hm jl
       rcases Nat.lt_trichotomy j i with h | h | h
       ·exact uN j oj h (dQ j oj gR hj) ig
       ·subst h;exact hn jl
       ·have hw:=(di (lh hc h gR ho hj) hd ig).2 (.inr ht)
        obtain ⟨e,he,hb,pe⟩:=dp hw
        have:=hI.dc j oj hj jl e he hb
        rw [pe] at this
        exact hn this
    have uQ:∀ t v,cI tg t=some v→t<c.nt:=by
     intro t v hv
     rcases hs1 t v hv with ⟨j,oj,_,iw,ig,_⟩ | ⟨_,ml⟩
     ·obtain ⟨d',_,vA,zm,_⟩:=qR.2.2 j oj iw
      rw [ig] at vA;cases vA
      exact zm
     ·have:=h0 t v ml
      rw [← H3]
      exact (Array.getElem?_eq_some_iff.1 this).1
    obtain ⟨a',lo,je,_⟩:=nX hI.size uQ hT
    have Pv:zU (o.looksAt l.toArray) Ka a' w:=by
     intro t Rt hm ht
     rcases hs2 t Rt hm with ⟨j,oj,hj,iw,ig,jo⟩ | az
     ·obtain ⟨v,hv,mQ⟩:=hI.new j oj (fh j oj iw).2 (Br j t oj hj iw ig ht) t _ ig jo
      exact ⟨v,by rw [je t ht];exact hv,mQ⟩
     ·cases az
    have hq:=fJ a' w lo Pv hI.mem.kL
    have B2:mC o=true:=hc.op o (List.mem_of_getElem? ho)
    have hex:=hP (o:=o) (ops:=l.toArray) B2 je
    rw [gD je] at hq
    have gr:∀ v w',aF [] w w'→R.p v w'→wpAnyIn (FR r) 0 P .any l.toArray Q fuel (listed.setIfInBounds i true) (a.put o.dst v) w':=fun v w' hk hv=>
     ih _ _ _ (Be hc hc.le hI hi oM ho hd fy P0 (fun j oj hj iw=>let ⟨e,_,he,_⟩:=qR.2.2 j oj (dQ j oj hj iw);⟨e,he⟩) hk hv)
    unfold wpOpIn
    rw [show l.toArray[i]? = some o from by simpa using ho]
    simp only []
    split
    ·rename_i hw
     rw [if_pos hw] at hq
     refine ⟨dE _ _ _ _ _,?_⟩
     rw [Oper.semAt_eq _ _ _ (fun cc he=>by simp [mC,he] at B2),← hex]
     unfold we at hq
     revert hq
     generalize (execOp a'.eval o).run P w=res
     intro hq
     match res,hq with
     | .ok (.value v) w',⟨hk,hv⟩=>exact gr v w' hk hv
     | .ok (.enter f args) w', ⟨e, ch⟩ =>
      subst e
      refine ⟨by simp [FR,Fence.wide],(gQ ch).mono fun e vH h=>?_⟩
      obtain ⟨v,rfl,hk,hv⟩:=h
      exact gr v vH hk hv
    ·rename_i hw
     rw [if_neg hw] at hq
     exact ⟨fun _ _=>trivial,gr undef w (.refl _ _) hq⟩
theorem yo {id:Nat} (pJ:P.follows .mixedOrders=true) (jd:wY l m=true) (hp:rU P c hs l.toArray (l.take m) sl [] S iU j6)
  (tail:∀ a w,St c D iU hs a w→Du j6 a w→WL P r l.toArray Q (l.drop m) a w):Tr c D sl hs (WP P r (.region id l.toArray true) Q):=fun a w a7=>by
 unfold WP
 refine wpIn_region_any pJ ?_
 refine OP (uo jd) hp a7.cT a7.size tail l.toArray.size _ a _ ⟨by simp,?_,?_,?_,a7.defers,a7.size,fun t _=>rfl,?_,List.range l.length,List.nodup_range,?_,by simp⟩
 ·exact fun k o _ hL=>absurd hL (eJ _ _)
 ·exact fun k _ hL=>eJ _ _ hL
 ·exact a7.mem.drew
 ·exact fun j o _ hL=>absurd hL (eJ _ _)
 ·exact fun i=>⟨fun h=>⟨by simpa using h,eJ _ _⟩,fun h=>by simpa using h.1⟩
end
end Go.SL
namespace Go.SL
open Go
def leq:Value→Value→Option Bool
 | .int k a,.int k' b=>if k=k' then some (decide (a=b)) else none
 | .string a,.string b=>some (decide (a=b))
 | .bool a,.bool b=>some (a==b)
 | _,_=>none
def vE:List Value→List Value→Option Bool
 | [],[]=>some true
 | x :: xs, y :: ys => match leq x y, vE xs ys with
  | some p,some q=>some (p&&q)
  | _,_=>none
 | _,_=>none
def HF:Option TypeDesc→Bool
 | some (.int _) | some .string | some .bool=>true
 | _=>false
section
variable {P:Program} {w:World}
theorem Ea {d:Nat} {t:TypeId} {x y:Value} {b:Bool} (hl:HF (P.underlying t)=true) (hk:∀ k,P.underlying t=some (.int k)→∃ a,x=.int k a) (hs:P.underlying t=some .string→∃ a,x=.string a) (hb:P.underlying t=some .bool→∃ a,x=.bool a)
  (h:leq x y=some b):(Op.equalIn (d+1) t x y).run P w=.ok b w:=by
 cases hu:P.underlying t with
 | none=>rw [hu] at hl;cases hl
 | some D =>
  rw [hu] at hl
  cases D with
  | int k =>
   obtain ⟨a,rfl⟩:=hk k hu
   cases y <;> simp only [leq] at h <;> try cases h
   rename_i k' b'
   split at h
   ·rename_i e;subst e;cases h
    rw [run_equalIn_int w d t k k a b' hu];congr 1
   ·cases h
  | string =>
   obtain ⟨a,rfl⟩:=hs hu
   cases y <;> simp only [leq,Option.some.injEq] at h <;> try cases h
   rw [run_equalIn_string w d t a _ hu,tf]
  | bool =>
   obtain ⟨a,rfl⟩:=hb hu
   cases y <;> simp only [leq,Option.some.injEq] at h <;> try cases h
   rw [run_equalIn_bool' w d t a _ hu]
  | _=>cases hl
end
def uD (D:Option TypeDesc) (x:Value):Bool:=
 match D,x with
 | some (.int k),.int k' _=>decide (k=k')
 | some .string,.string _=>true
 | some .bool,.bool _=>true
 | _,_=>false
def ph (P:Program) (g:TypeId→Option (List TypeId)) (acc:Option (List TypeId)) (f:Field):Option (List TypeId):=
 match acc,g f.type,P.info? f.type with
 | some a,some m,some i=>if f.offset=a.length∧f.name ≠ "_" ∧ i.size=m.length then some (a++m) else none
 | _,_,_=>none
theorem pO (P:Program) (g:TypeId→Option (List TypeId)):∀ (fl:List Field),fl.foldl (ph P g) none=none
 | []=>rfl
 | f::fl=>by simp only [List.foldl_cons,ph];exact pO P g fl
theorem xI (P:Program) (g:TypeId→Option (List TypeId)):∀ (fl:List Field) (A ts:List TypeId),fl.foldl (ph P g) (some A)=some ts→∃ rest,ts=A++rest
 | [],A,ts,h=>⟨[],by simpa using h.symm⟩
 | f :: fl, A, ts, h => by
  simp only [List.foldl_cons] at h
  cases hs:ph P g (some A) f with
  | none=>rw [hs,pO] at h;cases h
  | some B =>
   rw [hs] at h
   obtain ⟨r,hr⟩:=xI P g fl B ts h
   unfold ph at hs
   split at hs
   ·rename_i a m i e1 _ _
    cases e1
    split at hs
    ·cases hs;exact ⟨m++r,by rw [hr];simp⟩
    ·cases hs
   ·cases hs
theorem C5 {P:Program} {g:TypeId→Option (List TypeId)} {a B:List TypeId} {f:Field} (hs:ph P g (some a) f=some B) :
  ∃ m i,g f.type=some m∧P.info? f.type=some i∧f.offset=a.length∧f.name ≠ "_" ∧ i.size=m.length∧B=a++m:=by
 unfold ph at hs
 split at hs
 ·rename_i a' m i e1 e2 e3
  cases e1
  split at hs
  ·rename_i h;cases hs;exact ⟨m,i,e2,e3,h.1,h.2.1,h.2.2,rfl⟩
  ·cases hs
 ·cases hs
theorem zC:∀ {xs ys:List Value} {b:Bool},vE xs ys=some b→xs.length=ys.length
 | [],[],_,_=>rfl
 | [],_::_,_,h=>by simp [vE] at h
 | _::_,[],_,h=>by simp [vE] at h
 | x :: xs, y :: ys, b, h => by
  simp only [vE] at h
  split at h
  ·rename_i p q hp hq;simp [zC hq]
  ·cases h
def ka (P:Program):Nat→TypeId→Option (List TypeId)
 | 0,_=>none
 | d + 1, t =>
  match P.underlying t with
  | some (.int _) | some .string | some .bool=>some [t]
  | some (.struct fs) =>
   if P.stoodInHeld t then none else
   fs.toList.foldl (ph P (ka P d)) (some [])
  | some (.array n e) => match ka P d e, P.info? e with
   | some m,some i=>if i.size=m.length then some ((List.replicate n m).flatten) else none
   | _,_=>none
  | _=>none
def rz (P:Program):List TypeId→List Value→Bool
 | [],[]=>true
 | t::ts,x::xs=>uD (P.underlying t) x&&rz P ts xs
 | _,_=>false
section
variable {P:Program}
theorem mD:∀ {ts:List TypeId} {xs:List Value},rz P ts xs=true→xs.length=ts.length
 | [],[],_=>rfl
 | [],_::_,h=>by cases h
 | _::_,[],h=>by cases h
 | t :: ts, x :: xs, h => by
  simp only [rz,Bool.and_eq_true] at h
  simp [mD h.2]
theorem mE:∀ {ts us:List TypeId} {xs:List Value},rz P (ts++us) xs=true→rz P ts (xs.take ts.length)=true∧rz P us (xs.drop ts.length)=true
 | [],us,xs,h=>by simpa [rz] using h
 | t::ts,us,[],h=>by simp [rz] at h
 | t :: ts, us, x :: xs, h => by
  simp only [List.cons_append,rz,Bool.and_eq_true] at h
  have:=mE h.2
  simp [rz,h.1,this]
theorem pR:∀ {n:Nat} {xs ys:List Value} {b:Bool},n≤xs.length→vE xs ys=some b→∃ p q,vE (xs.take n) (ys.take n)=some p∧vE (xs.drop n) (ys.drop n)=some q∧b=(p&&q)
 | 0,xs,ys,b,_,h=>⟨true,b,by simp [vE],by simpa using h,by simp⟩
 | n+1,[],ys,b,hn,h=>by simp at hn
 | n+1,x::xs,[],b,_,h=>by simp [vE] at h
 | n + 1, x :: xs, y :: ys, b, hn, h => by
  simp only [vE] at h
  split at h
  ·rename_i p q hp hq
   cases h
   obtain ⟨p',q',h1,h2,e⟩:=pR (n:=n) (by simpa using hn) hq
   exact ⟨p&&p',q',by simp [vE,hp,h1],by simpa using h2,by rw [e,Bool.and_assoc]⟩
  ·cases h
theorem sh {d:Nat} {t:TypeId} {m:List TypeId} (h:ka P d t=some m):∃ D,P.underlying t=some D∧(jQ D=false→m.length=1):=by
 cases d with
 | zero=>cases h
 | succ d =>
  unfold ka at h
  cases hu:P.underlying t with
  | none=>rw [hu] at h;cases h
  | some D =>
   refine ⟨D,rfl,fun hD=>?_⟩
   rw [hu] at h
   cases D with
   | int k=>cases h;rfl
   | string=>cases h;rfl
   | bool=>cases h;rfl
   | struct fs=>cases hD
   | array n e=>cases hD
   | _=>cases h
theorem tt {t:TypeId} {D:TypeDesc} {i:TypeInfo} {n o:Nat} {zs:List Value} {w:World} (hu:P.underlying t=some D) (hi:P.info? t=some i) (hn:i.size=n) (h1:jQ D=false→n=1) (hz:o+n≤zs.length) :
  ∃ v,(part t zs.toArray o).run P w=.ok v w∧(jQ D=true→v=.agg ((zs.drop o).take n).toArray)∧(jQ D=false→(zs.drop o).take n=[v]):=by
 have hag:(isAgg t).run P w=.ok (jQ D) w:=by
  unfold isAgg;rw [Sem.run_bind,aT hu,Result.andThen_ok];cases D <;> rfl
 unfold part
 rw [Sem.run_bind,hag,Result.andThen_ok]
 cases hD:jQ D with
 | true =>
  refine ⟨.agg (zs.toArray.extract o (o+n)),by simp [sizeOf,fv hi,hn],fun _=>?_,fun h=>by cases h⟩
  congr 1
  simp [List.extract_eq_take_drop]
 | false =>
  have e:=h1 hD
  subst e
  refine ⟨zs[o]'(by omega),by simp [show o<zs.length from by omega],fun h=>(by cases h),fun _=>?_⟩
  rw [List.drop_eq_getElem_cons (by omega),List.take_succ_cons,List.take_zero]
theorem CP (d k:Nat):∀ (t:TypeId) (ts:List TypeId),ka P d t=some ts→∀ (xs ys:List Value) (b:Bool) (w:World),rz P ts xs=true→vE xs ys=some b →
  ∀ x y,(jQ ((P.underlying t).getD .bool)=true→x=.agg xs.toArray∧y=.agg ys.toArray)→(jQ ((P.underlying t).getD .bool)=false→xs=[x]∧ys=[y])→(Op.equalIn (d+k) t x y).run P w=.ok b w:=by
 induction d with
 | zero=>intro t ts h;cases h
 | succ d ih =>
  intro t ts h xs ys b w eK heq x y h1 h2
  rw [show d+1+k=(d+k)+1 from by omega]
  have H6:∀ (hl:HF (P.underlying t)=true) (RS:ts=[t]) (W8:jQ ((P.underlying t).getD .bool)=false),(Op.equalIn (d+k+1) t x y).run P w=.ok b w:=by
   intro hl RS W8
   obtain ⟨rfl,rfl⟩:=h2 W8
   subst RS
   simp only [rz,Bool.and_true] at eK
   have hq:leq x y=some b:=by
    simp only [vE] at heq
    split at heq
    ·rename_i p q hp vw;cases vw;cases heq;simpa using hp
    ·cases heq
   refine Ea hl (fun kk hu=>?_) (fun hu=>?_) (fun hu=>?_) hq <;> rw [hu] at eK <;> cases x <;> simp_all [uD]
  unfold ka at h
  split at h
  ·rename_i kk hu;exact H6 (by rw [hu];rfl) (Option.some.inj h).symm (by rw [hu];rfl)
  ·rename_i hu;exact H6 (by rw [hu];rfl) (Option.some.inj h).symm (by rw [hu];rfl)
  ·rename_i hu;exact H6 (by rw [hu];rfl) (Option.some.inj h).symm (by rw [hu];rfl)
  ·rename_i fs hu
   split at h
   ·cases h
   ·rename_i a7
    obtain ⟨rfl,rfl⟩:=h1 (by rw [hu];rfl)
    have hf:P.fieldsOf t=fs:=by simp [Program.fieldsOf,hu]
    rw [run_equalIn_struct w (d+k) t _ _ (by rw [hf];exact hu) (by simpa using a7),hf]
    -- zX fields,one after zX other
    have key:∀ (fl:List Field) (acc:List TypeId),fl.foldl (ph P (ka P d)) (some acc)=some ts→∀ c,vE (xs.drop acc.length) (ys.drop acc.length)=some c→acc.length≤xs.length→(Op.eqFields (d+k) xs.toArray ys.toArray fl).run P w=.ok c w:=by
     intro fl
     induction fl with
     | nil =>
      intro acc ha c hc _
      simp only [List.foldl_nil,Option.some.injEq] at ha
      have hlen:=mD eK
      rw [ha,← hlen,List.drop_length] at hc
      have:c=true:=by
       cases hy:ys.drop xs.length with
       | nil=>rw [hy] at hc;simpa [vE] using hc.symm
       | cons=>rw [hy] at hc;simp [vE] at hc
      simp [Op.eqFields,this]
     | cons f fl ihf =>
      intro acc ha c hc hle
      simp only [List.foldl_cons] at ha
      cases hB:ph P (ka P d) (some acc) f with
      | none=>rw [hB,pO] at ha;cases ha
      | some B =>
       rw [hB] at ha
       obtain ⟨m,i,hm,hi,ho,hn,hsz,rfl⟩:=C5 hB
       -- ts=acc++m++..
       have kc:∃ rest,ts=acc++m++rest:=xI P _ fl _ _ ha
       obtain ⟨rest,RS⟩:=kc
       have hlen:=mD eK
       have Vo:rz P m ((xs.drop acc.length).take m.length)=true:=by
        rw [RS,List.append_assoc] at eK
        exact (mE (mE eK).2).1
       have TZ:acc.length+m.length≤xs.length:=by rw [hlen,RS];simp
       obtain ⟨p,q,hp,hq,rfl⟩:=pR (n:=m.length) (by simp;omega) hc
       have hly:acc.length+m.length≤ys.length:=by have:=zC heq;omega
       obtain ⟨Df,LU,iD⟩:=sh hm
       obtain ⟨vx,rx,ax,bx⟩:=tt (w:=w) LU hi hsz iD TZ
       obtain ⟨vy,ry,ay,WB⟩:=tt (w:=w) LU hi hsz iD hly
       rw [← ho] at rx ry
       have hr:=ih f.type m hm _ _ p w Vo hp vx vy (by rw [LU];exact fun hA=>⟨ax hA,ay hA⟩) (by rw [LU];exact fun hA=>⟨bx hA,WB hA⟩)
       have R8:=ihf (acc++m) ha q (by simpa [List.drop_drop] using hq) (by simp;omega)
       simp only [Op.eqFields,ne_eq,hn,not_false_eq_true,if_true,Sem.run_bind,rx,Result.andThen_ok,ry,hr]
       cases p
       ·simp
       ·simpa using R8
    exact key fs.toList [] h b (by simpa using heq) (by simp)
  ·rename_i n e hu
   split at h
   ·rename_i m i hm hi
    split at h
    ·rename_i hsz
     obtain ⟨rfl,rfl⟩:=h1 (by rw [hu];rfl)
     simp only [Option.some.injEq] at h
     subst h
     have hlen:=mD eK
     have Vw:xs.length=ys.length:=zC heq
     have hL:xs.length=n*m.length:=by rw [hlen];simp
     have U1:(sizeOf e).run P w=.ok m.length w:=by simp [sizeOf,fv hi,hsz]
     obtain ⟨De,LU,iD⟩:=sh hm
     have VV:∀ (c j:Nat) (p:Bool),j+c=n→vE (xs.drop (j*m.length)) (ys.drop (j*m.length))=some p→rz P ((List.replicate c m).flatten) (xs.drop (j*m.length))=true →
       ((forIn (List.range' j c) ((none, ()) : Option Bool × Unit) fun i r => (do
        let a ← part e xs.toArray (i*m.length)
        let b ← part e ys.toArray (i*m.length)
        let r' ← Op.equalIn (d+k) e a b
        if (!r')=true then pure (ForInStep.done (some false,())) else pure (ForInStep.yield (none,()))):Sem (Option Bool×Unit)).run P w)=.ok (bif p then none else some false,()) w:=by
      intro c
      induction c with
      | zero =>
       intro j p hj hp _
       have hz:xs.drop (j*m.length)=[]:=by apply List.drop_of_length_le;rw [hL,show j=n from by omega];exact Nat.le_refl _
       have HN:ys.drop (j*m.length)=[]:=by apply List.drop_of_length_le;rw [← Vw,hL,show j=n from by omega];exact Nat.le_refl _
       rw [hz,HN] at hp
       simp only [vE,Option.some.injEq] at hp
       subst hp
       simp
      | succ c ihc =>
       intro j p hj hp Si
       have sy:j*m.length+m.length≤xs.length:=by
        rw [hL,← Nat.succ_mul];exact Nat.mul_le_mul_right _ (by omega)
       obtain ⟨vx,rx,ax,bx⟩:=tt (w:=w) LU hi hsz iD sy
       obtain ⟨vy,ry,ay,WB⟩:=tt (w:=w) LU hi hsz iD (show j*m.length+m.length≤ys.length by omega)
       obtain ⟨p1,p2,zZ,L4,rfl⟩:=pR (n:=m.length) (by simp;omega) hp
       rw [List.replicate_succ,List.flatten_cons] at Si
       have ho:=mE Si
       have hr:=ih e m hm _ _ p1 w ho.1 zZ vx vy (by rw [LU];exact fun hA=>⟨ax hA,ay hA⟩) (by rw [LU];exact fun hA=>⟨bx hA,WB hA⟩)
       simp only [List.range'_succ,List.forIn_cons,Sem.run_bind,rx,ry,hr,Result.andThen_ok]
       cases p1
       ·simp
       ·have gr:=ihc (j+1) p2 (by omega) (by rw [Nat.succ_mul,← List.drop_drop,← List.drop_drop];exact L4) (by rw [Nat.succ_mul,← List.drop_drop];exact ho.2)
        simp only [Bool.not_true,Bool.false_eq_true,if_false,Sem.run_pure,Result.andThen_ok,Bool.true_and]
        exact gr
     have hf:=VV n 0 b (by omega) (by simpa using heq) (by simpa using eK)
     simp only [Op.equalIn,Sem.run_bind,aT hu,Result.andThen_ok,U1]
     rw [Std.Legacy.Range.forIn_eq_forIn_range']
     simp only [Std.Legacy.Range.size,Nat.sub_zero,Nat.add_sub_cancel,Nat.div_one]
     rw [hf]
     cases b <;> simp
    ·cases h
   ·cases h
  ·cases h
class zW (P:Program) (t:TypeId) (ts:outParam (List TypeId)):Prop where
 eq:ka P 20 t=some ts
 agg:jQ ((P.underlying t).getD .bool)=true
 guard:P.eqGuardType P.depth t=false
variable {c:Cx} {sl:aG} {hs:List ba} {dst:Option Tmp} {ty:TypeId} {pos:String} {af:Array Edge} {g:Option (Nat×Bool)}
theorem qx {t:TypeId} {ts:List TypeId} [h:zW P t ts] {xs ys:List Value} {b:Bool} (eK:rz P ts xs=true) (heq:vE xs ys=some b) (w:World):(Op.equalIn 10000 t (.agg xs.toArray) (.agg ys.toArray)).run P w=.ok b w:=
 CP 20 9980 t ts h.eq xs ys b w eK heq _ _ (fun _=>⟨rfl,rfl⟩) (fun hn=>by rw [h.agg] at hn;cases hn)
theorem tl {t u:TypeId} {ts:List TypeId} [h:zW P t ts] {x y:Operand} {xs ys:List Value} {b:Bool} (hx:Is sl x (.agg xs.toArray)) (hy:Is sl y (.agg ys.toArray)) (eK:rz P ts xs=true) (heq:vE xs ys=some b) :
  cX P c sl hs ⟨dst,.binOp .eql t x y u,ty,pos,af,g⟩ (.bool b):=
 ir hx hy fun w=>by
  rw [Sem.run_bind,run_eqGuard_agg w _ _ _ _ _ _ h.guard,Result.andThen_ok,run_eql_struct,qx eK heq];rfl
theorem tj {t u:TypeId} {ts:List TypeId} [h:zW P t ts] {x y:Operand} {xs ys:List Value} {b:Bool} (hx:Is sl x (.agg xs.toArray)) (hy:Is sl y (.agg ys.toArray)) (eK:rz P ts xs=true) (heq:vE xs ys=some b) :
  cX P c sl hs ⟨dst,.binOp .neq t x y u,ty,pos,af,g⟩ (.bool (!b)):=
 ir hx hy fun w=>by
  rw [Sem.run_bind,run_eqGuard_agg w _ _ _ _ _ _ h.guard,Result.andThen_ok,run_neq_struct,qx eK heq];rfl
theorem lj:rz P [] []=true:=rfl
theorem jA {t:TypeId} {k:IntKind} {ts:List TypeId} {n:Int} {xs:List Value} [h:iA P t (.int k)] (hr:rz P ts xs=true):rz P (t::ts) (.int k n::xs)=true:=by
 simp [rz,uD,h.eq,hr]
theorem eU {t:TypeId} {ts:List TypeId} {s:ByteArray} {xs:List Value} [h:iA P t .string] (hr:rz P ts xs=true):rz P (t::ts) (.string s::xs)=true:=by
 simp [rz,uD,h.eq,hr]
theorem Hn {t:TypeId} {ts:List TypeId} {b:Bool} {xs:List Value} [h:iA P t .bool] (hr:rz P ts xs=true):rz P (t::ts) (.bool b::xs)=true:=by
 simp [rz,uD,h.eq,hr]
end
end Go.SL
namespace Go.SL
open Go
def ev (sl:aG):Operand→Option Value
 | .tmp t=>cI sl t
 | .const v=>some v
 | .global g=>some (.pointer (some ⟨g,0,none⟩))
 | .func f=>some (.func (.func f) #[] #[])
theorem Is.of {sl:aG} {x:Operand} {v:Value} (h:ev sl x=some v):Is sl x v:=fun a ha=>by
 cases x with
 | tmp t=>exact ha.eval h
 | const u=>exact Option.some.inj h
 | global g=>exact Option.some.inj h
 | func f=>exact Option.some.inj h
theorem Is.cA {sl:aG} {x:Operand} {c:Bool} {v:Value} (hc:c=true) (h:ev sl x=some (SL.gv c v)):Is sl x v:=(tE hc (v:=v)) ▸ Is.of h
class Qv (P:Program):Prop where
 eq:P.follows .mixedOrders=true
section
variable {P:Program} {r:Option Nat} {c:Cx} {D:List Nat} {sl:aG} {rl:eB} {hs hs':List ba} {Q:Exit→Act→World→Prop} {ops:Array Oper} {m d:Nat} {dst:Option Tmp} {op:Op} {ty:TypeId} {pos:String} {af:Array Edge} {g:Option (Nat×Bool)} {rest:List Oper}
def km (P:Program) (r:Option Nat) (c:Cx) (D:List Nat) (hs:List ba) (ops:Array Oper) (Q:Exit→Act→World→Prop) (m:Nat) (l:List Oper) (sl:aG) (rl:eB):Prop:=
 ∃ S iU j6,rU P c hs ops (l.take m) sl rl S iU j6∧∀ a w,St c D iU hs a w→Du j6 a w→WL P r ops Q (l.drop m) a w
theorem dN {id:Nat} {l:List Oper} (m:Nat) [pJ:Qv P] (jd:wY l m=true) (k:km P r c D hs l.toArray Q m l sl []):Tr c D sl hs (WP P r (.region id l.toArray true) Q):=by
 obtain ⟨S,iU,j6,hp,ht⟩:=k
 exact yo pJ.eq jd hp ht
theorem dW {l:List Oper} (k:Tr c D sl hs (WL P r ops Q l)):km P r c D hs ops Q 0 l sl rl:=
 ⟨[],sl,rl,.nil,fun a w a7 _=>k a w a7⟩
theorem oT {o:Oper} {V:Value} (ho:o.dst=some d) (hd:Nat.blt d c.nt=true) (h:sG P c hs ops sl rl o (.val V)) (k:km P r c D hs ops Q m rest ((d,V)::sl) rl):km P r c D hs ops Q (m+1) (o::rest) sl rl:=by
 obtain ⟨S,iU,j6,hp,ht⟩:=k
 exact ⟨_,_,_,.val ho (by simpa [Nat.blt_eq] using hd) h hp,ht⟩
theorem ns {o:Oper} {R:Rel} (hg:o.guard=none) (h:∀ a w,bK sl a→zU (o.looksAt ops) rl a w→Mem c hs w→we P o a w R):sG P c hs ops sl rl o R:=fun a w h1 h2 h3=>by
 rw [if_pos (by simp [Region.wanted,hg])]
 exact h a w h1 h2 h3
theorem qC {o:Oper} {V:Value} (hr:cX P c sl hs o V) {a:Act} {w:World} (h1:bK sl a) (h3:Mem c hs w):we P o a w (.val V):=by
 unfold we
 rw [hr.2 a w h1 h3]
 exact ⟨.refl _ _,rfl⟩
theorem rr {o:Oper} {f:FuncId} {args:List Value} {V:Value} (hr:k7 P sl o f args) {a:Act} {w:World} (h1:bK sl a) (hc:aj P f args w V):we P o a w (.val V):=by
 unfold we
 rw [hr.2 a w h1]
 exact ⟨rfl,hc.mono fun e w' ⟨he,hk⟩=>⟨V,he,hk,rfl⟩⟩
theorem aH {V:Value} (hr:cX P c sl hs ⟨some d,op,ty,pos,af,none⟩ V) (hd:Nat.blt d c.nt=true) (k:km P r c D hs ops Q m rest ((d,V)::sl) rl) :
  km P r c D hs ops Q (m+1) (⟨some d,op,ty,pos,af,none⟩::rest) sl rl:=
 oT rfl hd (ns rfl fun _ _ h1 _ h3=>qC hr h1 h3) k
theorem eZ {f:FuncId} {args:List Value} {V:Value} (hr:k7 P sl ⟨some d,op,ty,pos,af,none⟩ f args) (hd:Nat.blt d c.nt=true) (hc:∀ w,Mem c hs w→aj P f args w V) (k:km P r c D hs ops Q m rest ((d,V)::sl) rl) :
  km P r c D hs ops Q (m+1) (⟨some d,op,ty,pos,af,none⟩::rest) sl rl:=
 oT rfl hd (ns rfl fun _ w h1 _ h3=>rr hr h1 (hc w h3)) k
theorem nu {o:Oper} {V:Value} {j gs:Nat} {want c0 q:Bool} (hg:o.guard=some (j,want)) (hj:((ops[j]?).bind (·.dst))=some gs) (hq:cI sl gs=some (gv c0 (.bool q)))
  (h:(c0&&(q==want))=true→∀ a w,bK sl a→Mem c hs w→we P o a w (.val V)):sG P c hs ops sl rl o (.val (gv (c0&&(q==want)) V)):=fun a w h1 _ h3=>by
 rw [ko hg hj h1 hq]
 by_cases hc:(c0&&(q==want))=true
 ·rw [if_pos hc,tE hc]
  exact h hc a w h1 h3
 ·rw [if_neg hc,uW (by simpa using hc)]
  rfl
theorem BS {V:Value} {j gs:Nat} {want c0 q:Bool} (hj:((ops[j]?).bind (·.dst))=some gs) (hq:cI sl gs=some (gv c0 (.bool q)))
  (hr:(c0&&(q==want))=true→cX P c sl hs ⟨some d,op,ty,pos,af,some (j,want)⟩ V) (hd:Nat.blt d c.nt=true) (k:km P r c D hs ops Q m rest ((d,gv (c0&&(q==want)) V)::sl) rl) :
  km P r c D hs ops Q (m+1) (⟨some d,op,ty,pos,af,some (j,want)⟩::rest) sl rl:=
 oT rfl hd (nu rfl hj hq fun hc _ _ h1 h3=>qC (hr hc) h1 h3) k
theorem FV {V:Value} {j gs:Nat} {want q:Bool} (hj:((ops[j]?).bind (·.dst))=some gs) (hq:cI sl gs=some (.bool q))
  (hr:(q==want)=true→cX P c sl hs ⟨some d,op,ty,pos,af,some (j,want)⟩ V) (hd:Nat.blt d c.nt=true) (k:km P r c D hs ops Q m rest ((d,gv (q==want) V)::sl) rl) :
  km P r c D hs ops Q (m+1) (⟨some d,op,ty,pos,af,some (j,want)⟩::rest) sl rl:=
 BS (c0:=true) hj (by rw [hq];rfl) (by simpa using hr) hd (by simpa using k)
theorem rT {f:FuncId} {args:List Value} {V:Value} {j gs:Nat} {want c0 q:Bool} (hj:((ops[j]?).bind (·.dst))=some gs) (hq:cI sl gs=some (gv c0 (.bool q)))
  (hr:(c0&&(q==want))=true→k7 P sl ⟨some d,op,ty,pos,af,some (j,want)⟩ f args) (hd:Nat.blt d c.nt=true) (hc:(c0&&(q==want))=true→∀ w,Mem c hs w→aj P f args w V) (k:km P r c D hs ops Q m rest ((d,gv (c0&&(q==want)) V)::sl) rl) :
  km P r c D hs ops Q (m+1) (⟨some d,op,ty,pos,af,some (j,want)⟩::rest) sl rl:=
 oT rfl hd (nu rfl hj hq fun h _ w h1 h3=>rr (hr h) h1 (hc h w h3)) k
theorem vj {f:FuncId} {args:List Value} {V:Value} {j gs:Nat} {want q:Bool} (hj:((ops[j]?).bind (·.dst))=some gs) (hq:cI sl gs=some (.bool q))
  (hr:(q==want)=true→k7 P sl ⟨some d,op,ty,pos,af,some (j,want)⟩ f args) (hd:Nat.blt d c.nt=true) (hc:(q==want)=true→∀ w,Mem c hs w→aj P f args w V) (k:km P r c D hs ops Q m rest ((d,gv (q==want) V)::sl) rl) :
  km P r c D hs ops Q (m+1) (⟨some d,op,ty,pos,af,some (j,want)⟩::rest) sl rl:=
 rT (c0:=true) hj (by rw [hq];rfl) (by simpa using hr) hd (by simpa using hc) (by simpa using k)
theorem wE {f:FuncId} {args:List Value} {V:Value} {j gs:Nat} {want c0 q:Bool} (hj:((ops[j]?).bind (·.dst))=some gs) (hq:cI sl gs=some (gv c0 (.bool q)))
  (hr:(c0&&(q==want))=true→k7 P sl ⟨some d,op,ty,pos,af,some (j,want)⟩ f args) (hd:Nat.blt d c.nt=true) (hc:(c0&&(q==want))=true→∀ w,Mem c hs w→aj P f args w V)
  (k:Tr c D ((d,gv (c0&&(q==want)) V)::sl) hs (WL P r ops Q rest)):Tr c D sl hs (WL P r ops Q (⟨some d,op,ty,pos,af,some (j,want)⟩::rest)):=fun a w a7=>by
 unfold WL
 rw [ko rfl hj a7.cT hq]
 by_cases h:(c0&&(q==want))=true
 ·rw [if_pos h]
  rw [tE h] at k
  refine ⟨dE _ _ _ _ _,?_⟩
  rw [Oper.semAt_eq _ _ _ (hr h).1,(hr h).2 a w a7.cT]
  exact ⟨by simp [FR,Fence.wide],(gQ (hc h w a7.qI)).mono fun e w' ⟨he,hk⟩=>by
   subst he
   exact k _ _ ((a7.put (by simpa [Nat.blt_eq] using hd) V).heap (a7.mem.qL hk))⟩
 ·rw [if_neg h]
  rw [uW (by simpa using h)] at k
  exact k _ _ (a7.put (by simpa [Nat.blt_eq] using hd) undef)
theorem mq {f:FuncId} {args:List Value} {V:Value} {j gs:Nat} {want q:Bool} (hj:((ops[j]?).bind (·.dst))=some gs) (hq:cI sl gs=some (.bool q))
  (hr:(q==want)=true→k7 P sl ⟨some d,op,ty,pos,af,some (j,want)⟩ f args) (hd:Nat.blt d c.nt=true) (hc:(q==want)=true→∀ w,Mem c hs w→aj P f args w V)
  (k:Tr c D ((d,gv (q==want) V)::sl) hs (WL P r ops Q rest)):Tr c D sl hs (WL P r ops Q (⟨some d,op,ty,pos,af,some (j,want)⟩::rest)):=
 wE (c0:=true) hj (by rw [hq];rfl) (by simpa using hr) hd (by simpa using hc) (by simpa using k)
def Cy (V:Nat→Value) (ob:Obj):Rel:=⟨fun v w=>∃ b,v=V b∧w.heap[b]? = some ob,fun ⟨b,e,h⟩ hk=>⟨b,e,by rw [hk.block b (jG h) (by simp)];exact h⟩⟩
theorem AN {fn:Func} {t:Tmp} (h:fn.results=#[.tmp t]) {sl:aG} {v:Value} (hv:cI sl t=some v) {a:Act} (ha:bK sl a) (w:World):(results fn a.tmps).run P w=.ok v w:=by
 have:=ha t v hv
 simp [results,h,Array.getD_eq_getD_getElem?,this]
theorem AM {fn:Func} {t u:Tmp} (h:fn.results=#[.tmp t,.tmp u]) {sl:aG} {v x:Value} (hv:cI sl t=some v) (hx:cI sl u=some x) {a:Act} (ha:bK sl a) (w:World):(results fn a.tmps).run P w=.ok (.tuple #[v,x]) w:=by
 have h1:=ha t v hv
 have h2:=ha u x hx
 simp [results,h,Array.getD_eq_getD_getElem?,h1,h2]
theorem AO {fn:Func} (h:fn.results=#[]) {a:Act} (w:World):(results fn a.tmps).run P w=.ok (.tuple #[]) w:=by
 simp [results,h]
def Ends (P:Program) (fn:Func) (c:Cx) (sl:aG) (hs:List ba) (v:Value):Prop:=∀ a w,bK sl a→Mem c hs w→(results fn a.tmps).run P w=.ok v w
theorem dj {fn:Func} {t:Tmp} {v:Value} (h:fn.results=#[.tmp t]) (hv:cI sl t=some v):Ends P fn c sl hs v:=fun _ w ha _=>AN h hv ha w
theorem fL {fn:Func} {t u:Tmp} {v x:Value} (h:fn.results=#[.tmp t,.tmp u]) (hv:cI sl t=some v) (hx:cI sl u=some x):Ends P fn c sl hs (.tuple #[v,x]):=fun _ w ha _=>AM h hv hx ha w
theorem pj {fn:Func} (h:fn.results=#[]):Ends P fn c sl hs (.tuple #[]):=fun _ w _ _=>AO h w
theorem P9 {fn:Func} {t:Tmp} {T:TypeId} {b o n:Nat} {v:Value} [Ty P T false n] (h:fn.results=#[.cell t T]) (hp:cI sl t=some (.pointer (some ⟨b,o,none⟩))) (hv:At c hs b o v):Ends P fn c sl hs v:=fun a w ha hm=>by
 have h1:=ha t _ hp
 simp [results,h,Array.getD_eq_getD_getElem?,h1,asAddr,rZ (hv w hm)]
theorem Mq {fn:Func} {t:Tmp} {T:TypeId} {b o n:Nat} {vs:List Value} [Ty P T true n] (h:fn.results=#[.cell t T]) (hp:cI sl t=some (.pointer (some ⟨b,o,none⟩))) (hv:eG c hs b o vs) (hl:vs.length=n):Ends P fn c sl hs (.agg vs.toArray):=fun a w ha hm=>by
 have h1:=ha t _ hp
 simp [results,h,Array.getD_eq_getD_getElem?,h1,asAddr,nE hl (fun j v h=>hv.get j v h w hm)]
def N8 (P:Program) (c:Cx) (hs:List ba) (T:TypeId) (b o:Nat) (v:Value):Prop:=∀ w,Mem c hs w→(loadVar T ⟨b,o,none⟩).run P w=.ok v w
theorem Hz {T:TypeId} {b o n:Nat} {vs:List Value} [Ty P T true n] (hv:eG c hs b o vs) (hl:vs.length=n):N8 P c hs T b o (.agg vs.toArray):=fun w hm=>nE hl (fun j v h=>hv.get j v h w hm)
inductive RV (P:Program) (c:Cx) (sl:aG) (hs:List ba):ResultVar→Value→Prop
 | tmp {t:Tmp} {v:Value} (h:cI sl t=some v):RV P c sl hs (.tmp t) v
 | cell {t:Tmp} {T:TypeId} {b o:Nat} {v:Value} (h:cI sl t=some (.pointer (some ⟨b,o,none⟩))) (hl:N8 P c hs T b o v):RV P c sl hs (.cell t T) v
inductive F4 (P:Program) (c:Cx) (sl:aG) (hs:List ba):List ResultVar→List Value→Prop
 | nil:F4 P c sl hs [] []
 | cons {x:ResultVar} {xs:List ResultVar} {v:Value} {vs:List Value} (h:RV P c sl hs x v) (t:F4 P c sl hs xs vs):F4 P c sl hs (x::xs) (v::vs)
def AH (tmps:Array Value):ResultVar→Sem Value
 | .tmp t=>pure (tmps.getD t undef)
 | .cell a t=>do loadVar t (← asAddr (tmps.getD a undef))
theorem K4 {xs:List ResultVar} {vs:List Value} (h:F4 P c sl hs xs vs) {a:Act} {w:World} (ha:bK sl a) (hm:Mem c hs w):(xs.mapM (AH a.tmps)).run P w=.ok vs w:=by
 induction h with
 | nil=>simp
 | cons h _ ih =>
  cases h with
  | tmp h=>simp [AH,Array.getD_eq_getD_getElem?,ha _ _ h,ih]
  | cell h hl=>simp [AH,Array.getD_eq_getD_getElem?,ha _ _ h,asAddr,hl w hm,ih]
theorem NR {fn:Func} {xs:List ResultVar} {vs:List Value} (hx:fn.results=xs.toArray) (h:F4 P c sl hs xs vs) (hl:vs.length≠1):Ends P fn c sl hs (.tuple vs.toArray):=fun a w ha hm=>by
 have:=K4 h ha hm
 have h2:(Array.mapM (AH a.tmps) xs.toArray).run P w=.ok vs.toArray w:=by
  rw [List.mapM_toArray]
  simp [this]
 unfold results
 rw [hx]
 change Sem.run P (Array.mapM (AH a.tmps) xs.toArray >>= fun vs=>pure (if h:vs.size=1 then vs[0] else Value.tuple vs)) w=_
 rw [Sem.run_bind,h2,Result.andThen_ok,Sem.run_pure]
 rw [dif_neg (by simpa using hl)]
theorem KF {fn:Func} {v:Value} (Fw:c.md=[]) (he:Ends P fn c sl hs v) :
  Tr c [] sl hs (bodyPostM (FR r) 0 P fn (fun e w'=>e=.returned v∧aF [] c.w0 w') .ret):=fun a w a7=>by
 have hm:=a7.qI
 show LeavesInM (FR r) 0 P fn a.tmps _ a.defers .returning w
 rw [a7.defers]
 exact ⟨v,he a w a7.cT hm,rfl,by rw [← Fw];exact hm.keeps⟩
theorem oB {fn:Func} {v v':Value} (Fw:c.md=[]) (he:Ends P fn c sl hs v') (hv:v'=v) :
  Tr c [] sl hs (bodyPostM (FR r) 0 P fn (fun e w'=>e=.returned v∧aF [] c.w0 w') .ret):=hv ▸ KF Fw he
theorem qK {fn:Func} {v:Value} {R:Ending→World→Prop}:∀ (D:List Nat) (w:World) (a:Act),a.defers=D.map mark→bK sl a→Mem c (hs++lX D) w→Ends P fn c sl hs v →
  (∀ w',Mem c hs w'→R (.returned v) w')→LeavesInM (FR r) 0 P fn a.tmps R (D.map mark) .returning w
 | [],w,a,_,ha,hm,he,hR=>⟨v,he a w ha (by simpa [lX] using hm),hR w (by simpa [lX] using hm)⟩
 | b :: D, w, a, _, ha, hm, he, hR => by
  have dQ:Take (hs++lX (b::D)) (bD b (.deferred (some []))) (hs++lX D):=by
   clear hm he hR
   induction hs with
   | nil=>exact .here
   | cons A hs ih=>exact .there ih
  have lH:=hm.take dQ
  have hb:w.heap[b]? = some (.deferred (some [])):=lH.bD .here
  refine ⟨by simp,.inl ⟨b,w.putObj b (.deferred none),rfl,run_takeDeferred hb,?_⟩⟩
  have hk:aF [b] w (w.putObj b (.deferred none)):=⟨rfl,rfl,rfl,Nat.le_refl _,by simp,fun k _ hn=>World.putObj_heap_other (by simpa using hn)⟩
  have TX:Mem c (hs++lX D) (w.putObj b (.deferred none)):=(Mem.store lH hk (World.putObj_heap_same (jG (w:=w) hb))).u0
  exact qK D _ { a with defers:=D.map mark } rfl ha TX he hR
theorem aO {fn:Func} {v:Value} {R:Ending→World→Prop} (he:Ends P fn c sl hs v) (hR:∀ w',Mem c hs w'→R (.returned v) w') :
  Tr c D sl hs (bodyPostM (FR r) 0 P fn R .ret):=fun a w a7=>by
 show LeavesInM (FR r) 0 P fn a.tmps R a.defers .returning w
 rw [a7.defers]
 exact qK D w a a7.defers a7.cT a7.mem he hR
theorem aP {fn:Func} {v:Value} {R:Ending→World→Prop} (he:Ends P fn c sl hs v) (hR:∀ w',Mem c hs w'→R (.returned v) w') :
  Tr c D sl hs (bodyPostM (FR r) 0 P fn R .normal):=aO (r:=r) he hR
theorem ah {f:FuncId} {fn:Func} {code:Code} {args:List Value} {w:World} {V:Value} (hf:P.funcs[f]? = some fn) (hb:fn.body=some code) (hl:Nat.ble args.length fn.ntmps=true)
  (h:Tr ⟨w,[],fn.ntmps⟩ [] (jh 0 args) [] (WP P none code (bodyPostM (FR none) 0 P fn (fun e w'=>e=.returned V∧aF [] w w')))):aj P f args w V:=
 og (hs0:=[]) hf hb (by simpa using hl) ⟨[],List.nodup_nil,rfl,fun _ h=>by cases h⟩ h
theorem aR {f:FuncId} {fn:Func} {code:Code} {args:List Value} {w:World} {ι:Type} {Φ:ι→Prop} {val:ι→Value} {own:ι→List ba} (hf:P.funcs[f]? = some fn) (hb:fn.body=some code) (hl:Nat.ble args.length fn.ntmps=true)
  (h:Tr ⟨w,[],fn.ntmps⟩ [] (jh 0 args) [] (WP P none code (bodyPostM (FR none) 0 P fn (fun e w'=>∃ x,e=.returned (val x)∧Φ x∧aF [] w w'∧∃ fp:List Nat,fp.Nodup∧bY (hp w') (own x) fp∧∀ b∈fp,b∈([]:List Nat)∨w.heap.size≤b)))) :
  bd P f args w [] Φ val own:=
 og (hs0:=[]) hf hb (by simpa using hl) ⟨[],List.nodup_nil,rfl,fun _ h=>by cases h⟩ h
theorem dS {f:FuncId} {fn:Func} {code:Code} {args:List Value} {w:World} {rJ:List Nat} {As:List ba} {ι:Type} {Φ:ι→Prop} {val:ι→Value} {own:ι→List ba} (hf:P.funcs[f]? = some fn) (hb:fn.body=some code) (hl:Nat.ble args.length fn.ntmps=true)
  (hn:rJ.Nodup) (hs0:bY (hp w) As rJ)
  (h:Tr ⟨w,rJ,fn.ntmps⟩ [] (jh 0 args) As (WP P none code (bodyPostM (FR none) 0 P fn (fun e w'=>∃ x,e=.returned (val x)∧Φ x∧aF rJ w w'∧∃ fp:List Nat,fp.Nodup∧bY (hp w') (own x) fp∧∀ b∈fp,b∈rJ∨w.heap.size≤b)))) :
  bd P f args w rJ Φ val own:=
 og hf hb (by simpa using hl) ⟨rJ,hn,hs0,fun _ h=>h⟩ h
theorem aB {ι:Type} {Φ:ι→Prop} {val:ι→Value} {own:ι→List ba} (x:ι) (hx:Φ x) {As:List ba} (ht:bj hs (own x) As) {w':World} (hm:Mem c hs w') {v:Value} (hv:v=val x) :
  ∃ x,Ending.returned v=.returned (val x)∧Φ x∧aF c.md c.w0 w'∧∃ fp:List Nat,fp.Nodup∧bY (hp w') (own x) fp∧∀ b∈fp,b∈c.md∨c.w0.heap.size≤b:=by
 have h2:=(hm.iQ ht).kL
 obtain ⟨k,fp,hn,gZ,hb⟩:=h2
 exact ⟨x,by rw [hv],hx,k,fp,hn,gZ,fun b dw=>(hb b dw).symm⟩
end
end Go.SL
