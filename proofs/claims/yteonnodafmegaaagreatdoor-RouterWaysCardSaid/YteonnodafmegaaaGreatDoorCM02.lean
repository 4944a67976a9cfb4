/- Parts of the proof: P5i P5j P5k P5l P5m P5n P5o GkMem GkAny GkReg GkEq GkPlan. -/
import Derived.Test.YteonnodafmegaaaGreatDoorCM01
import Derived.Laws.StructEq
set_option linter.unusedSectionVars false
set_option linter.unusedVariables false
set_option linter.unusedSimpArgs false
namespace Go.Proofs.A1
open Go Go.SL
theorem IP {po:List Po} {g f:Po->Bool}:(po.filter g).filter f=po.filter fun p=>g p&&f p:=by
 rw [List.filter_filter];refine List.filter_congr fun p _=>?_;rw [Bool.and_comm]
theorem N0 {r:Ro} {po:List Po} (hn:qh r) (h:jl r po) {g f:Po->Bool} (hg:∀ p∈po,p.ou∈cd r->g p=true)
  (Pd:∀ p∈po.filter g,p.ou∈cz r->f p=true) (Gr:∀ p∈po.filter g,∀ q∈po.filter g,f q=true->q.lv=p.lv->q.ip=p.ou->f p=true) (Uz:∀ p∈po.filter g,f p=true->p.ou∈cz r\/∃ q∈po.filter g,f q=true/\q.lv=p.lv/\q.ip=p.ou) :
  jl r ((po.filter g).filter f)/\(∀ v y,y∈cz r->(∀ p∈po,p.lv=v->p.ou=y->g p=true)->ep ((po.filter g).filter f) v y=ep po v y/\pZ ((po.filter g).filter f) v (ct r) y=pZ po v (ct r) y) /\
  (∀ v y,(∀ p∈po,p.lv=v->p.ou=y->g p=false)->ep ((po.filter g).filter f) v y=none):=by
 have h1:=jl.one h.rr;have hm:∀ p,p∈po.filter g↔p∈po/\g p=true:=fun p=>List.mem_filter
 have hk:∀ {p:Po},(g p&&f p)=true↔g p=true/\f p=true:=fun {p}=>Bool.and_eq_true _ _ ▸ Iff.rfl
 rw [IP];have fH:∀ q∈po,(g q&&f q)=true->∀ p∈po,p.lv=q.lv->p.ou=q.ip->(g p&&f p)=true:=by
  intro q hq XC p hp hv ho;obtain ⟨Nt,yO⟩:=hk.1 XC;have ht:p.ou∈cd r:=by
   rcases h.xw q hq with hs | ht
   ·rcases h.out p hp with hd | hd
    ·exact absurd hd (by rw [ho];exact hn.sd _ hs)
    ·exact hd
   ·rw [ho];exact ht
  have br:=hg p hp ht;exact hk.2 ⟨br,Gr p ((hm p).2 ⟨hp,br⟩) q ((hm q).2 ⟨hq,Nt⟩) yO hv.symm ho.symm⟩
 refine ⟨jl.filter hn h _ (fun p hp ht q hq XC hv hi=>fH q hq XC p hp hv.symm hi.symm) (fun p hp ht hkp=>?_),fun v y hy a7=>?_,fun v y DE=>?_⟩
 ·obtain ⟨AN,Nu⟩:=hk.1 hkp;rcases Uz p ((hm p).2 ⟨hp,AN⟩) Nu with hd | ⟨q,hq,yO,T7,Xi⟩
  ·exact absurd ht (hn.dt _ hd)
  ·exact ⟨q,((hm q).1 hq).1,hk.2 ⟨((hm q).1 hq).2,yO⟩,T7,Xi⟩
 ·have dC:∀ p∈po,p.lv=v->p.ou=y->(g p&&f p)=true:=fun p hp LC rh=>by
   have br:=a7 p hp LC rh;exact hk.2 ⟨br,Pd p ((hm p).2 ⟨hp,br⟩) (by rw [rh];exact hy)⟩
  refine ⟨?_,?_⟩
  ·cases hi:ep po v y with
   | none=>exact iE.2 fun p hp=>iE.1 hi p (List.mem_filter.1 hp).1
   | some u =>
    obtain ⟨q,hq,LB,O4,rfl⟩:=fC hi;have:=nE (h1.filter fun p=>g p&&f p) (List.mem_filter.2 ⟨hq,dC q hq LB O4⟩)
    rwa [LB,O4] at this
  ·unfold pZ ib;rw [wF (f:=fun p=>g p&&f p) h1 fH dC]
 ·refine iE.2 fun p hp e=>?_;obtain ⟨AN,Nu⟩:=List.mem_filter.1 hp;have:=DE p AN e.1 e.2;rw [(hk.1 Nu).1] at this;cases this
structure Jb where
 v:Int
 s:ByteArray
 d:ByteArray
def sA (r:Ro) (W:List Po->Jb->Option (List Nat)):List Po->List Jb->Option (List Po)
 | po,[]=>some po
 | po, j :: l => match W po j with
  | none=>none
  | some p=>sA r W (lJ r po j.v j.s p j.d) l
theorem zH {r:Ro} {W:List Po->Jb->Option (List Nat)} (hn:qh r) (hd:(cd r).Nodup) (hW:∀ po j p,W po j=some p->(dE r po j.v j.s).ok p/\(dE r po j.v j.s).fin p=j9 r j.d) :
  ∀ (l:List Jb) (po pR:List Po),jl r po->(∀ j∈l,(0<=j.v/\j.v<r.lv)/\j.s∈ct r/\j.d∈cz r/\ep po j.v j.d=none)->l.Pairwise (fun a b=>¬(b.v=a.v/\b.d=a.d))->sA r W po l=some pR ->
  jl r pR/\(∀ j∈l,pZ pR j.v (ct r) j.d=j.s)/\∀ v y,y∈cz r->(∀ j∈l,¬(v=j.v/\y=j.d))->pZ pR v (ct r) y=pZ po v (ct r) y/\ep pR v y=ep po v y
 | [], po, pR, hv, _, _, hr => by
  rw [sA] at hr;cases hr;exact ⟨hv,fun j hj=>absurd hj List.not_mem_nil,fun _ _ _ _=>⟨I,I⟩⟩
 | j :: l, po, pR, hv, hj, hp, hr => by
  rw [sA] at hr;cases hw:W po j with
  | none=>rw [hw] at hr;cases hr
  | some p =>
   rw [hw] at hr;obtain ⟨BZ,hs,lM,pX⟩:=hj j List.mem_cons_self;obtain ⟨dU,lk⟩:=hW po j p hw;obtain ⟨hV,hc,ho⟩:=HP hn hd BZ hv hs lM pX dU lk;obtain ⟨AN,Nu⟩:=List.pairwise_cons.1 hp;obtain ⟨k1,k2,k3⟩:=zH hn hd hW l _ pR hV (fun x hx=>by
    obtain ⟨a1,a2,a3,a4⟩:=hj x (List.mem_cons_of_mem _ hx);exact ⟨a1,a2,a3,by rw [(ho x.v x.d a3 (AN x hx)).2];exact a4⟩) Nu hr
   refine ⟨k1,fun x hx=>?_,fun v y hy hne=>?_⟩
   ·rcases List.mem_cons.1 hx with rfl | hx
    ·rw [(k3 x.v x.d lM fun z hz e=>AN z hz ⟨e.1.symm,e.2.symm⟩).1]
     exact hc
    ·exact k2 x hx
   ·obtain ⟨b1,b2⟩:=k3 v y hy fun z hz=>hne z (List.mem_cons_of_mem _ hz);obtain ⟨c1,c2⟩:=ho v y hy (hne j List.mem_cons_self);exact ⟨b1.trans c1,b2.trans c2⟩
def jM {α:Type} (lt:α->α->Bool):α->List α->α
 | b,[]=>b
 | b,x::l=>jM lt (if lt x b then x else b) l
theorem l9 {α:Type} {lt:α->α->Bool} (Q0:∀ {a b c},lt a b=true->lt b c=true->lt a c=true) (SA:∀ {a b},a≠b->lt a b=true\/lt b a=true) (XL:∀ a,lt a a=false) :
  ∀ (l:List α) (b:α),jM lt b l∈b::l/\∀ q∈b::l,lt q (jM lt b l)=false
 | [],b=>⟨List.mem_cons_self,fun q hq=>by
   rcases List.mem_cons.1 hq with rfl | hq
   ·exact XL _
   ·exact absurd hq List.not_mem_nil⟩
 | x :: l, b => by
  rw [jM];by_cases hx:lt x b=true
  ·rw [if_pos hx];obtain ⟨h1,h2⟩:=l9 (lt:=lt) Q0 SA XL l x;refine ⟨List.mem_cons_of_mem _ h1,fun q hq=>?_⟩;rcases List.mem_cons.1 hq with rfl | hq
   ·cases hb:lt q (jM lt x l) with
    | false=>rfl
    | true =>
     have:=Q0 hx hb;rw [h2 x List.mem_cons_self] at this;exact this.symm
   ·exact h2 q hq
  ·rw [if_neg hx];obtain ⟨h1,h2⟩:=l9 (lt:=lt) Q0 SA XL l b;refine ⟨?_,fun q hq=>?_⟩
   ·rcases List.mem_cons.1 h1 with h | h
    ·rw [h];exact List.mem_cons_self
    ·exact List.mem_cons_of_mem _ (List.mem_cons_of_mem _ h)
   ·rcases List.mem_cons.1 hq with rfl | hq
    ·exact h2 q List.mem_cons_self
    ·rcases List.mem_cons.1 hq with rfl | hq
     ·cases hb:lt q (jM lt b l) with
      | false=>rfl
      | true =>
       by_cases he:q=b
       ·subst he;rw [h2 q List.mem_cons_self] at hb;exact hb.symm
       ·have:=Q0 ((SA he).resolve_left hx) hb;rw [h2 b List.mem_cons_self] at this;exact this.symm
     ·exact h2 q (List.mem_cons_of_mem _ hq)
theorem Wn.Sa {N:Wn} {d:Int} {a:List Nat} {l:List (List Nat)} (h:N.all d (N.n+1) []=a::l):N.least d (jM N.lt a l):=by
 obtain ⟨h1,h2⟩:=l9 (lt:=N.lt) (fun {_ _ _}=>N.lt_trans) (fun {_ _}=>N.vE) N.lt_irrefl l a;rw [<- h] at h1 h2;obtain ⟨k1,k2⟩:=Wn.uM N.ny h1;refine ⟨k1,k2,fun q hq hf=>h2 q ?_⟩;exact Wn.AH (p:=[]) (r:=q) hq hf (Nat.lt_succ_of_le (Wn.sH hq))
theorem Wn.all_none {N:Wn} {d:Int} (h:N.all d (N.n+1) []=[]) (p:List Nat) (hp:N.ok p):N.fin p≠d:=fun hf=>by
 have:=Wn.AH (p:=[]) (r:=p) (k:=N.n+1) hp hf (Nat.lt_succ_of_le (Wn.sH hp));rw [h] at this;exact absurd this List.not_mem_nil
def Gc (f:ByteArray->Int):List ByteArray->List ByteArray->Bool
 | x::a,y::b=>if x=y then Gc f a b else decide (f x<f y)
 | _,_=>false
theorem yJ {r:Ro} (hd:(cd r).Nodup):∀ {a b:List Nat},(∀ i∈a,i<r.ti.length)->(∀ i∈b,i<r.ti.length)->a.length=b.length->Gc (bd (cd r)) (a.map (dG r)) (b.map (dG r))=lexB a b
 | [],[],_,_,_=>rfl
 | i :: a, j :: b, ha, hb, hl => by
  have hi:=ha i List.mem_cons_self;have hj:=hb j List.mem_cons_self;have ih:=yJ hd (fun x hx=>ha x (List.mem_cons_of_mem _ hx)) (fun x hx=>hb x (List.mem_cons_of_mem _ hx)) (by simpa using hl) (a:=a) (b:=b)
  rw [List.map_cons,List.map_cons,Gc,lexB,ih];by_cases h:i=j
  ·subst h;rw [if_pos I];simp
  ·rw [if_neg fun e=>h (uv hd hi hj e),rZ hd hi,rZ hd hj]
   by_cases aL:i<j
   ·simp [aL]
   ·simp [aL,h]
def xF (po:List Po) (v:Int) (l:List ByteArray):Nat:=l.countP fun x=>!gC po v x
theorem yT {r:Ro} {po:List Po} {v:Int} {s:ByteArray} (p:List Nat):xF po v (p.map (dG r))=(dE r po v s).rY p:=by
 unfold xF Wn.rY;rw [List.countP_map]
 rfl
def WT (r:Ro) (po:List Po) (v:Int) (a b:List ByteArray):Bool:=
 if xF po v a≠xF po v b then decide (xF po v a<xF po v b) else if a.length≠b.length then decide (a.length<b.length) else Gc (bd (cd r)) a b
theorem IG {r:Ro} {po:List Po} {v:Int} {s:ByteArray} (hd:(cd r).Nodup) {a b:List Nat} (ha:∀ i∈a,i<r.ti.length) (hb:∀ i∈b,i<r.ti.length):WT r po v (a.map (dG r)) (b.map (dG r))=(dE r po v s).lt a b:=by
 unfold WT Wn.lt;rw [yT (s:=s) a,yT (s:=s) b,Zd,Zd];by_cases h1:(dE r po v s).rY a=(dE r po v s).rY b
 ·rw [if_neg (by simp [h1])];by_cases h2:a.length=b.length
  ·rw [if_neg (by simp [h2]),yJ hd ha hb h2];simp [h1,h2]
  ·rw [if_pos h2];simp [h1,h2]
 ·rw [if_pos h1];simp [h1]
def Lg (r:Ro) (po:List Po) (v:Int) (s:ByteArray):Bool->Int->List ByteArray->Option Int
 | _,m,[]=>some m
 | b,m,x::l=>if (b&&(gC po v x&&decide (pZ po v (ct r) x=s)))||(!gC po v x&&decide (j9 r x=m)) then Lg r po v s false (jR r x) l else none
theorem Hd {r:Ro} {po:List Po} {v:Int} {s:ByteArray} (hn:qh r) (hd:(cd r).Nodup) {m:Int}:∀ (q u:List Nat),(dE r po v s).ok u->(u++q).Nodup->(∀ i∈q,i<r.ti.length) ->
  (Lg r po v s u.isEmpty ((dE r po v s).fin u) (q.map (dG r))=some m↔(dE r po v s).ok (u++q)/\(dE r po v s).fin (u++q)=m)
 | [], u, hu, _, _ => by
  rw [List.append_nil];show some _=some _↔_;rw [Option.some.injEq];exact ⟨fun h=>⟨hu,h⟩,fun h=>h.2⟩
 | i :: q, u, hu, jf, hq => by
  have hi:=hq i List.mem_cons_self;have e:u++i::q=(u++[i])++q:=by simp
  have XI:i ∉ u:=fun h=>by
   have:=(List.nodup_append.1 jf).2.2 i h i List.mem_cons_self;exact this I
  have hc:u.contains i=false:=by
   cases hx:u.contains i with
   | false=>rfl
   | true=>exact absurd (List.contains_iff_mem.1 hx) XI
  have eI:(dE r po v s).step u i=((u.isEmpty&&(gC po v (dG r i)&&decide (pZ po v (ct r) (dG r i)=s)))||(!gC po v (dG r i)&&decide (j9 r (dG r i)=(dE r po v s).fin u))):=by
   unfold Wn.step;rw [hc,uI hn hd hi];have:decide (i<(dE r po v s).n)=true:=decide_eq_true hi;rw [this];rfl
  rw [List.map_cons,Lg,<- eI];by_cases hs:(dE r po v s).step u i=true
  ·rw [if_pos hs,e];have QZ:=Wn.ji.2 ⟨hu,hs⟩;have ih:=Hd hn hd (m:=m) q (u++[i]) QZ (by rw [<- e];exact jf) fun x hx=>hq x (List.mem_cons_of_mem _ hx)
   rw [Wn.lx] at ih;have he:(u++[i]).isEmpty=false:=by simp
   rw [he] at ih;rw [rQ hn hd hi];exact ih
  ·rw [if_neg hs];refine ⟨fun h=>(by cases h),fun h=>?_⟩;rw [e] at h;exact absurd (Wn.ji.1 (Wn.vv h.1 (List.prefix_append (u++[i]) q))).2 hs
theorem TI {r:Ro} {po:List Po} {v:Int} {s:ByteArray} (hn:qh r) (hd:(cd r).Nodup) {m:Int} {q:List Nat} (jf:q.Nodup) (hq:∀ i∈q,i<r.ti.length) :
  Lg r po v s true (jR r s) (q.map (dG r))=some m↔(dE r po v s).ok q/\(dE r po v s).fin q=m:=
 Hd hn hd q [] (Wn.ny _) jf hq
inductive Wn.Rc (N:Wn):Int->Prop
 | D5:Wn.Rc N N.D5
 | ca {i:Nat}:i<N.n->N.ca i=true->Wn.Rc N (N.to i)
 | fe {i:Nat}:i<N.n->N.fe i=true->Wn.Rc N (N.fr i)->Wn.Rc N (N.to i)
theorem yh {p:List Nat} {k:Nat} (h:k<p.length):p.take (k+1)=p.take k++[p[k]]:=by
 rw [List.take_succ_eq_append_getElem h]
theorem Wn.EE {N:Wn} {p:List Nat} (h:N.ok p):∀ k,k<=p.length->N.Rc (N.fin (p.take k))
 | 0,_=>by rw [Ze];exact .D5
 | k + 1, hk => by
  have ih:=Wn.EE h k (by omega);have hs:=h k (by omega);rw [yh (by omega),Wn.lx];have aL:=Wn.pN hs;unfold Wn.step at hs;simp only [Bool.and_eq_true,Bool.or_eq_true,decide_eq_true_eq] at hs;rcases hs.2.2 with ⟨_,hc⟩ | ⟨hf,he⟩
  ·exact .ca aL hc
  ·exact .fe aL hf (he ▸ ih)
theorem Wn.Tp {N:Wn} {p:List Nat} (h:N.ok p):N.Rc (N.fin p):=by
 have:=Wn.EE h p.length (Nat.le_refl _);rwa [List.take_length] at this
theorem Wn.TD {N:Wn} {m:Int} (h:N.Rc m):∃ p,N.ok p/\N.fin p=m:=by
 induction h with
 | D5=>exact ⟨[],N.ny,rfl⟩
 | @ca i hi hc =>
  refine ⟨[]++[i],Wn.ji.2 ⟨N.ny,?_⟩,Wn.lx _ _ _⟩;unfold Wn.step;simp [hi,hc]
 | @fe i hi hf _ ih =>
  obtain ⟨p,hp,he⟩:=ih;by_cases hm:i∈p
  ·obtain ⟨k,hk,rfl⟩:=List.getElem_of_mem hm;exact ⟨p.take (k+1),Wn.EL hp _,by rw [yh hk,Wn.lx]⟩
  ·refine ⟨p++[i],Wn.ji.2 ⟨hp,?_⟩,Wn.lx _ _ _⟩;unfold Wn.step;simp [hi,hf,he,hm]
def Wn.Vp (N:Wn) (S:Int->Prop):Prop:=S N.D5/\∀ i,i<N.n->(N.ca i=true\/N.fe i=true/\S (N.fr i))->S (N.to i)
theorem Wn.Tq {N:Wn} {S:Int->Prop} (h:N.Vp S) {m:Int} (hm:N.Rc m):S m:=by
 induction hm with
 | D5=>exact h.1
 | ca hi hc=>exact h.2 _ hi (.inl hc)
 | fe hi hf _ ih=>exact h.2 _ hi (.inr ⟨hf,ih⟩)
theorem Wn.ME {N:Wn} {S:Int->Prop} (h:N.Vp S) (hS:∀ m,S m->N.Rc m) (m:Int):S m↔N.Rc m:=⟨hS m,Wn.Tq h⟩
theorem KV {po:List Po} {v:Int} {o:ByteArray}:gC po v o=true↔∃ p∈po,p.lv=v/\p.ou=o:=by
 unfold gC;constructor
 ·intro h;obtain ⟨i,hi⟩:=Option.isSome_iff_exists.1 h;obtain ⟨p,hp,h1,h2,_⟩:=fC hi;exact ⟨p,hp,h1,h2⟩
 ·rintro ⟨p,hp,h1,h2⟩;cases hq:ep po v o with
  | some _=>rfl
  | none=>exact absurd ⟨h1,h2⟩ (iE.1 hq p hp)
theorem Oo {po qo:List Po} (h:po.Perm qo) (v:Int) (o:ByteArray):gC po v o=gC qo v o:=by
 rw [Bool.eq_iff_iff,KV,KV];exact ⟨fun ⟨p,hp,e⟩=>⟨p,h.mem_iff.1 hp,e⟩,fun ⟨p,hp,e⟩=>⟨p,h.mem_iff.2 hp,e⟩⟩
def q6 (r:Ro) (v:Int):List Po->ByteArray->List Nat->List Po×ByteArray
 | po,x,[]=>(po,x)
 | po,x,i::p=>q6 r v (if gC po v (dG r i) then po else po++[⟨v,dG r i,x⟩]) (dG r i) p
theorem uY {r:Ro} {v:Int}:∀ (q:List Nat) (po qo:List Po) (x:ByteArray),po.Perm qo->(lI r v po x q).1.Perm (q6 r v qo x q).1/\(lI r v po x q).2=(q6 r v qo x q).2
 | [],po,qo,x,h=>⟨h,rfl⟩
 | i :: q, po, qo, x, h => by
  rw [lI,q6,Oo h v (dG r i)];by_cases hb:gC qo v (dG r i)=true
  ·rw [if_pos hb,if_pos hb];exact uY q po qo _ h
  ·rw [if_neg hb,if_neg hb];exact uY q _ _ _ ((pT r _ po).trans ((h.cons _).trans (List.perm_append_singleton _ _).symm))
theorem set_perm {r:Ro} {po:List Po} {v:Int} {s d:ByteArray} {p:List Nat}:(lJ r po v s p d).Perm ((q6 r v po s p).1++[⟨v,d,(q6 r v po s p).2⟩]):=by
 obtain ⟨h1,h2⟩:=uY (r:=r) (v:=v) p po po s (List.Perm.refl _);unfold lJ;rw [h2];exact (pT r _ _).trans ((h1.cons _).trans (List.perm_append_singleton _ _).symm)
theorem HO {r:Ro} {po S:List Po} {v:Int} {s d:ByteArray} {p:List Nat} (hv:(lJ r po v s p d).Pairwise (fun a b=>qy r a b=true)) (hS:S.Perm ((q6 r v po s p).1++[⟨v,d,(q6 r v po s p).2⟩])) (hs:S.Pairwise (fun a b=>¬ qy r b a=true)):S=lJ r po v s p d:=by
 have hp:(lJ r po v s p d).Perm S:=set_perm.trans hS.symm;have hk:S.Pairwise (fun a b=>qy r a b=true\/qy r b a=true):=(List.Perm.pairwise_iff (fun {_ _} h=>h.symm) hp).1 (hv.imp fun h=>.inl h)
 have a7:S.Pairwise (fun a b=>qy r a b=true):=(List.Pairwise.and hk hs).imp fun h=>h.1.resolve_right h.2
 exact oE (fun a b h=>F9 a b h) a7 hv hp.symm
end Go.Proofs.A1
namespace Go.SL
open Go
def qp (P:Program) (c:Cx) (sl:aI) (hs:List a8) (o:Oper) (V:Nat->Value) (ob:Obj):Prop:=
 (∀ d,o.op≠.defer d)/\∀ a w,bS sl a->Mem c hs w->(execOp a.eval o).run P w=.ok (.value (V w.heap.size)) (w.alloc ob)
section
variable {P:Program} {r:Option Nat} {c:Cx} {D:List Nat} {sl:aI} {hs hs':List a8} {ops:Array Oper} {Q:Exit->Act->World->Prop} {d:Nat} {dst:Option Tmp} {op:Op} {ty:TypeId} {pos:String} {af:Array Edge} {g:Option (Nat×Bool)} {rest:List Oper}
theorem bb {V:Nat->Value} {ob:Obj}
  (hr:qp P c sl hs ⟨some d,op,ty,pos,af,none⟩ V ob) (hd:Nat.blt d c.nt=true) (k:∀ b,c.w0.heap.size<=b->Tr c D ((d,V b)::sl) (bC b ob::hs) (WL P r ops Q rest)) :
  Tr c D sl hs (WL P r ops Q (⟨some d,op,ty,pos,af,none⟩::rest)):=fun a w a7=>by
 refine mH I ⟨dO _ _ _ _ _,?_⟩;rw [Oper.semAt_eq _ _ _ hr.1,hr.2 a w a7.cP a7.qP];have h1:=(a7.put (by simpa [Nat.blt_eq] using hd) (V w.heap.size));exact k w.heap.size a7.qP.keeps.size _ _ (h1.heap (a7.mem.alloc ob))
theorem HZ {t:TypeId} {x:Operand} {v:Value} {cs:List Value} (hx:Is sl x v) (hc:v.cells=cs.toArray):qp P c sl hs ⟨dst,.box t x,ty,pos,af,g⟩ (fun b=>.pointer (some ⟨b,0,none⟩)) (.cells cs.toArray t):=
 ⟨by simp,fun a w ha _=>by simp [execOp,hx a ha,Instr.box,newVar,newRow,hc]⟩
theorem oM {t:TypeId} {z:Value} {cs:List Value} [lQ P t z] (hc:z.cells=cs.toArray):qp P c sl hs ⟨dst,.alloc t,ty,pos,af,g⟩ (fun b=>.pointer (some ⟨b,0,none⟩)) (.cells cs.toArray t):=
 ⟨by simp,fun a w _ _=>by simp [execOp,Instr.alloc,iM (t:=t) (v:=z),newVar,newRow,hc]⟩
theorem C1 {t:TypeId}:qp P c sl hs ⟨dst,.makeMap t none,ty,pos,af,g⟩ (fun b=>.map (some b)) (.map #[] 0):=
 ⟨by simp,fun a w _ _=>by simp [execOp,Instr.makeMap]⟩
theorem mo {t:TypeId} {n:Nat} {parts:Array (Nat×Operand)} {ps:Array (Nat×Value)} {V:Nat->Value} {ob:Obj}
  (hp:∀ a,bS sl a->(parts.map fun (i,x)=>(i,a.eval x))=ps) (hb:∀ w,(Instr.buildSlice t n ps).run P w=.ok (V w.heap.size) (w.alloc ob)) :
  qp P c sl hs ⟨dst,.buildSlice t n parts,ty,pos,af,g⟩ V ob:=
 ⟨by simp,fun a w ha _=>by simp only [execOp,hp a ha,Sem.run_bind,hb w,Result.andThen_ok,Sem.run_pure]⟩
def vu (vs:List Value):Array (Nat×Value):=(vs.zipIdx.map fun (v,i)=>(i,v)).toArray
theorem yX:∀ (vs:List Value) (k:Nat) (acc:List Value),(∀ v∈vs,v.oneCell'=true)->k+vs.length<=acc.length ->
  Instr.fill (fun i=>some (i*1,1)) acc.toArray ((vs.zipIdx k).map fun (v,i)=>(i,v))=some (acc.take k++vs++acc.drop (k+vs.length)).toArray
 | [],k,acc,_,_=>by simp [Instr.fill]
 | v :: vs, k, acc, h1, h2 => by
  have hv:=h1 v (by simp);have hc:v.cells=#[v]:=by cases v <;> simp_all [Value.cells,Value.oneCell']
  simp only [List.length_cons] at h2;have e:Array.foldl (fun cs (x:Value×Nat)=>cs.setIfInBounds (k*1+x.2) x.1) acc.toArray #[v].zipIdx=(acc.set k v).toArray:=by
   simp
  simp only [List.zipIdx_cons,List.map_cons,Instr.fill,hc];rw [if_neg (by simp;omega)];simp only [e];rw [yX vs (k+1) (acc.set k v) (fun u hu=>h1 u (by simp [hu])) (by simp;omega)]
  congr 1;have hk:k<acc.length:=by omega
  simp only [List.length_cons,Zh,Zb];rw [List.take_set,List.drop_set_of_lt (by omega)];rw [show k+1+vs.length=k+(vs.length+1) from by omega];congr 1;rw [List.take_succ_eq_append_getElem hk];rw [List.set_append_right _ _ (by simp;omega)];simp [Nat.min_eq_left (Nat.le_of_lt hk)]
theorem vn {t e:TypeId} {n:Nat} {z:Value} [hu:iU P t (.slice e)] [Ty P e false 1] [lQ P e z] {vs:List Value} (hl:vs.length=n) (hn:n<=1000) (hz:z.oneCell'=true) (hv:∀ v∈vs,v.oneCell'=true) (w:World) :
  (Instr.buildSlice t n (vu vs)).run P w=.ok (.slice (some ⟨w.heap.size,0,none⟩) n n) (w.alloc (.cells vs.toArray e)):=by
 have hzc:z.cells=#[z]:=by cases z <;> simp_all [Value.cells,Value.oneCell']
 unfold Instr.buildSlice;simp only [Sem.run_bind,aU hu.eq,Result.andThen_ok,gr (t:=e) (agg:=false) (n:=1),Nat.mul_one];rw [if_neg (by omega)];have hf:∀ (zz:Array Value),zz.size=n->Instr.fill (fun i=>some (i,1)) zz (vu vs).toList=some vs.toArray:=by
  intro zz VE;have:=yX vs 0 zz.toList hv (by simp [hl,VE]);simp only [Array.toArray_toList,Nat.mul_one] at this;simp only [vu];rw [this];simp [hl,VE]
 by_cases h0:n=0
 ·subst h0;simp only [if_true,Sem.run_bind,Sem.run_pure,Result.andThen_ok];rw [hf _ (by simp)];simp [newRow]
 ·rw [if_neg h0];simp only [Sem.run_bind,iM (t:=e) (v:=z),Result.andThen_ok,Sem.run_pure,hzc];rw [hf _ (by simp)];simp [newRow]
def setCells:List Value->Nat->List Value->List Value
 | cs,_,[]=>cs
 | cs,o,v::vs=>setCells (cs.set o v) (o+1) vs
theorem kC:∀ (vs:List Value) (cs:List Value) (o:Nat),(setCells cs o vs).length=cs.length
 | [],_,_=>rfl
 | v::vs,cs,o=>by simp [setCells,kC vs]
def setBlock (w:World) (b:Nat) (ob:Obj):World:={ w with heap:=w.heap.setIfInBounds b ob }
theorem aD.setBlock (w:World) (b:Nat) (ob:Obj):aD [b] w (setBlock w b ob):=
 ⟨I,I,I,Nat.le_refl _,by simp [SL.setBlock],fun k hk hm=>by
  have:b≠k:=fun e=>hm (by simp [e])
  simp [SL.setBlock,Array.getElem?_setIfInBounds_ne this]⟩
theorem mj {w:World} {b:Nat} {ob:Obj} (h:b<w.heap.size):(setBlock w b ob).heap[b]? = some ob:=by simp [setBlock,h]
theorem uj {w:World} {b:Nat} {cs:Array Value} {E:TypeId} (h:w.heap[b]? = some (.cells cs E (0,0))) (o:Nat):w.frozen? ⟨b,o,none⟩=false:=by
 simp [World.frozen?,h]
theorem xo {w:World} {b:Nat} {cs:List Value} {E:TypeId} (h:w.heap[b]? = some (.cells cs.toArray E (0,0))) (o:Nat) (v:Value):w.setCell ⟨b,o,none⟩ v=setBlock w b (.cells (cs.set o v).toArray E (0,0)):=by
 unfold World.setCell setBlock;congr 1;apply Array.ext_getElem?;intro k;rw [Array.getElem?_modify];by_cases hk:b=k
 ·subst hk;have:=ki (w:=w) h;rw [if_pos I,h,Array.getElem?_setIfInBounds_self_of_lt this];simp
 ·rw [if_neg hk,Array.getElem?_setIfInBounds_ne hk]
theorem je {b o:Nat} {E:TypeId}:∀ (vs:List Value) (i:Nat) (cs:List Value) (w:World),w.heap[b]? = some (.cells cs.toArray E (0,0))->(∀ v∈vs,v.oneCell'=true)->o+i+vs.length<=cs.length ->
  ∃ w',(storeCells ⟨b,o,none⟩ vs i).run P w=.ok () w'/\aD [b] w w'/\w'.heap[b]? = some (.cells (setCells cs (o+i) vs).toArray E (0,0))
 | [],i,cs,w,h,_,_=>⟨w,rfl,.refl _ _,h⟩
 | v :: vs, i, cs, w, h, h1, h2 => by
  simp only [List.length_cons] at h2;have aL:=ki (w:=w) h;have a7:(store (Addr.add ⟨b,o,none⟩ i) v).run P w=.ok () (setBlock w b (.cells (cs.set (o+i) v).toArray E (0,0))):=by
   rw [ez,run_store P w _ v .plain (h1 v (by simp)),cell_of_block h];have:(cs.toArray)[o+i]? = some (cs[o+i]'(by omega)):=by simp
   rw [this];simp only [uj h,Bool.false_eq_true,if_false,xo h]
  obtain ⟨w',h3,h4,h5⟩:=je (o:=o) vs (i+1) (cs.set (o+i) v) (setBlock w b (.cells (cs.set (o+i) v).toArray E (0,0))) (mj aL) (fun u hu=>h1 u (by simp [hu])) (by simp;omega);refine ⟨w',?_,(aD.setBlock w b _).trans h4,by rw [h5];rfl⟩;simp only [storeCells,Sem.run_bind,a7,Result.andThen_ok,h3]
theorem Bn {t:TypeId} {agg:Bool} {n:Nat} [Ty P t agg n] {b o:Nat} {E:TypeId} {v:Value} {vs cs:List Value} {w:World} (h:w.heap[b]? = some (.cells cs.toArray E (0,0))) (hv:v.cells=vs.toArray) (hl:vs.length=n)
  (h1:∀ u∈vs,u.oneCell'=true) (h2:o+n<=cs.length) :
  ∃ w',(storeVar t ⟨b,o,none⟩ v).run P w=.ok () w'/\aD [b] w w'/\w'.heap[b]? = some (.cells (setCells cs o vs).toArray E (0,0)):=by
 obtain ⟨w',h3,h4,h5⟩:=je (P:=P) (o:=o) vs 0 cs w h h1 (by omega);refine ⟨w',?_,h4,h5⟩;unfold storeVar;rw [Sem.run_bind,gr (t:=t) (agg:=agg) (n:=n),Result.andThen_ok,if_neg (by simp [hv,hl])];simpa [hv] using h3
theorem au {t:TypeId} {agg:Bool} {n:Nat} [Ty P t agg n] {x y:Operand} {b o:Nat} {E:TypeId} {v:Value} {vs cs PD:List Value} (hx:Is sl x (.pointer (some ⟨b,o,none⟩))) (hy:Is sl y v)
  (ht:Take hs (bC b (.cells cs.toArray E (0,0))) hs') (hv:v.cells=vs.toArray) (hl:vs.length=n) (h1:∀ u∈vs,u.oneCell'=true) (h2:o+n<=cs.length) (he:setCells cs o vs=PD)
  (k:Tr c D sl (bC b (.cells PD.toArray E (0,0))::hs') (WL P r ops Q rest)) :
  Tr c D sl hs (WL P r ops Q (⟨none,.store t x y,ty,pos,af,none⟩::rest)):=fun a w a7=>by
 subst he;have hm:=a7.mem.take (ht.append _);obtain ⟨w',h3,h4,h5⟩:=Bn (P:=P) (t:=t) (o:=o) (hm.bC .here) hv hl h1 h2;refine mH I ⟨dO _ _ _ _ _,?_⟩;rw [Oper.semAt_eq _ _ _ (by simp)];have:(execOp a.eval ⟨none,.store t x y,ty,pos,af,none⟩).run P w=.ok .skip w':=by
  simp [execOp,hx a a7.cP,hy a a7.cP,Instr.storeAt,Instr.sureAddr,h3]
 rw [this];exact k _ _ (a7.heap (Mem.store hm h4 h5))
theorem B6 (off:Nat):∀ (vs:List Value) (k:Nat) (cs:List Value),(vs.zipIdx k).foldl (fun (cs:Array Value) (x:Value×Nat)=>cs.setIfInBounds (off+x.2) x.1) cs.toArray=(setCells cs (off+k) vs).toArray
 | [],_,_=>rfl
 | v :: vs, k, cs => by
  simp only [List.zipIdx_cons,List.foldl_cons,List.setIfInBounds_toArray,setCells];exact B6 off vs (k+1) (cs.set (off+k) v)
def tU (places:List (Nat×Nat)):List Value->List (Nat×Value)->Option (List Value)
 | cs,[]=>some cs
 | cs, (i, v) :: rest =>
  match places[i]? with
  | some (off,size)=>if v.cells.size=size/\off+size<=cs.length then tU places (setCells cs off v.cells.toList) rest else none
  | none=>none
theorem fill_eq {places:List (Nat×Nat)} {f:Nat->Option (Nat×Nat)} (hf:∀ i x,places[i]? = some x->f i=some x):∀ (ps:List (Nat×Value)) (cs PD:List Value),tU places cs ps=some PD->Instr.fill f cs.toArray ps=some PD.toArray
 | [],cs,PD,h=>by simp only [tU,Option.some.injEq] at h;simp [Instr.fill,h]
 | (i, v) :: rest, cs, PD, h => by
  unfold tU at h;split at h
  ·rename_i off size hp;split at h
   ·rename_i hc;have h2:=fill_eq hf rest _ _ h;unfold Instr.fill;simp only [hf i _ hp];rw [if_neg (by simp [hc.1];omega)];rw [<- h2];congr 1;have:=B6 off v.cells.toList 0 cs;simp only [Nat.add_zero] at this;rw [<- this,<- Array.foldl_toList];simp
   ·cases h
  ·cases h
def y9 (P:Program) (t:TypeId):Option (List (Nat×Nat)×List Value):=
 match P.underlying t,P.info? t with
 | some (.struct fs), some i => match i.zero, fs.toList.mapM (fun f => (P.info? f.type).map fun j => (f.offset, j.size)) with
  | some z,some ps=>some (ps,z.cells.toList)
  | _,_=>none
 | some (.array n e), some i => match i.zero, P.info? e with
  | some z,some j=>some ((List.range n).map (fun k=>(k*j.size,j.size)),z.cells.toList)
  | _,_=>none
 | _,_=>none
class Cz (P:Program) (t:TypeId) (ps:outParam (List (Nat×Nat))) (z:outParam (List Value)):Prop where
 eq:y9 P t=some (ps,z)
theorem vC {w:World}:∀ (fs:List Field) (ps:List (Nat×Nat)),fs.mapM (fun f=>(P.info? f.type).map fun j=>(f.offset,j.size))=some ps ->
  (fs.mapM (fun (f:Field)=>(do pure (f.offset,<- sizeOf f.type):Sem (Nat×Nat)))).run P w=.ok ps w
 | [],ps,h=>by simp at h;simp [h]
 | f :: fs, ps, h => by
  simp only [List.mapM_cons,Option.bind_eq_bind,Option.bind_eq_some_iff,Option.map_eq_some_iff,Option.pure_def,Option.some.injEq] at h;obtain ⟨_,⟨j,hj,rfl⟩,qs,hq,rfl⟩:=h;have:=vC (w:=w) fs qs hq;have hsz:(sizeOf f.type).run P w=.ok j.size w:=by simp [sizeOf,fS hj]
  rw [List.mapM_cons];simp only [Sem.run_bind,hsz,Result.andThen_ok,Sem.run_pure,this]
theorem F0 {t:TypeId} {places:List (Nat×Nat)} {z cs:List Value} [h:Cz P t places z] {ps:List (Nat×Value)} (hf:tU places z ps=some cs) (w:World):(Instr.build t ps.toArray).run P w=.ok (.agg cs.toArray) w:=by
 have h0:=h.eq;unfold y9 at h0;split at h0
 ·rename_i fs i hu hi;split at h0
  ·rename_i zz qs hz hq;simp only [Option.some.injEq,Prod.mk.injEq] at h0;obtain ⟨rfl,rfl⟩:=h0;have h1:(zeroValue t).run P w=.ok zz w:=by simp [zeroValue,fS hi,hz]
   have h2:(fs.mapM (fun (f:Field)=>(do pure (f.offset,<- sizeOf f.type):Sem (Nat×Nat)))).run P w=.ok qs.toArray w:=by
    have:=vC (P:=P) (w:=w) fs.toList qs hq;rw [<- Array.toArray_toList (xs:=fs),List.mapM_toArray,Sem.run_map,this]
    rfl
   have h3:=fill_eq (f:=fun i=>qs.toArray[i]?) (fun i x hx=>by simpa using hx) ps zz.cells.toList cs hf
   unfold Instr.build;simp only [Sem.run_bind,h1,Result.andThen_ok,aU hu,h2];simp only [Array.toArray_toList] at h3;rw [h3]
   rfl
  ·cases h0
 ·rename_i n e i hu hi;split at h0
  ·rename_i zz j hz hj;simp only [Option.some.injEq,Prod.mk.injEq] at h0;obtain ⟨rfl,rfl⟩:=h0;have h1:(zeroValue t).run P w=.ok zz w:=by simp [zeroValue,fS hi,hz]
   have h2:(sizeOf e).run P w=.ok j.size w:=by simp [sizeOf,fS hj]
   have h3:=fill_eq (f:=fun i=>some (i*j.size,j.size)) (fun i x hx=>by
    rw [List.getElem?_map] at hx;obtain ⟨y,hy,rfl⟩:=Option.map_eq_some_iff.1 hx;have:=List.getElem?_eq_some_iff.1 hy;obtain ⟨aL,he⟩:=this;simp at he;rw [he]) ps zz.cells.toList cs hf
   unfold Instr.build;simp only [Sem.run_bind,h1,Result.andThen_ok,aU hu,h2];simp only [Array.toArray_toList] at h3;rw [h3]
   rfl
  ·cases h0
 ·cases h0
inductive wN (sl:aI):List (Nat×Operand)->List (Nat×Value)->Prop
 | nil:wN sl [] []
 | cons {i:Nat} {x:Operand} {xs:List (Nat×Operand)} {v:Value} {vs:List (Nat×Value)} (h:Is sl x v) (t:wN sl xs vs):wN sl ((i,x)::xs) ((i,v)::vs)
theorem wN.map {xs:List (Nat×Operand)} {vs:List (Nat×Value)} (h:wN sl xs vs) {a:Act} (ha:bS sl a):(xs.map fun (i,x)=>(i,a.eval x))=vs:=by
 induction h with
 | nil=>rfl
 | cons h _ ih=>simp [h a ha];simpa using ih
theorem aT {t:TypeId} {xs:List (Nat×Operand)} {ps:List (Nat×Value)} {places:List (Nat×Nat)} {z cs:List Value} [Cz P t places z] (hp:wN sl xs ps) (hf:tU places z ps=some cs) :
  cQ P c sl hs ⟨dst,.build t xs.toArray,ty,pos,af,g⟩ (.agg cs.toArray):=
 HY (ps:=ps.toArray) (fun a ha=>by simp [<- hp.map ha]) (fun w=>F0 hf w)
inductive tj (sl:aI):Nat->List (Nat×Operand)->List Value->Prop
 | nil {i:Nat}:tj sl i [] []
 | cons {i:Nat} {x:Operand} {xs:List (Nat×Operand)} {v:Value} {vs:List Value} (h:Is sl x v) (t:tj sl (i+1) xs vs):tj sl i ((i,x)::xs) (v::vs)
theorem tj.map {i:Nat} {xs:List (Nat×Operand)} {vs:List Value} (h:tj sl i xs vs) {a:Act} (ha:bS sl a):(xs.map fun (i,x)=>(i,a.eval x))=(vs.zipIdx i).map fun (v,i)=>(i,v):=by
 induction h with
 | nil=>rfl
 | cons h _ ih=>simp [h a ha];simpa using ih
theorem aB {t e:TypeId} {n:Nat} {z:Value} {xs:List (Nat×Operand)} {vs:List Value} [hu:iU P t (.slice e)] [Ty P e false 1] [lQ P e z] (hp:tj sl 0 xs vs)
  (hl:vs.length=n) (hn:Nat.ble n 1000=true) (hz:z.oneCell'=true) (h1:vs.all Value.oneCell'=true) :
  qp P c sl hs ⟨dst,.buildSlice t n xs.toArray,ty,pos,af,g⟩ (fun b=>.slice (some ⟨b,0,none⟩) n n) (.cells vs.toArray e):=
 mo (ps:=vu vs) (fun a ha=>by simp only [vu,<- hp.map ha];simp) (fun w=>vn hl (by simpa using hn) hz (by simpa [List.all_eq_true] using h1) w)
class bU (P:Program) (f:FuncId):Prop where
 eq:((P.funcs[f]?).map fun fn=>(fn.name == "runtime.NumGoroutine" || fn.body.isNone))=some false
theorem tu {f:FuncId} [h:bU P f] (args:Array Value) (w:World):(callFunc f args).run P w=.ok (.enter f args) w:=by
 have:=h.eq;cases hf:P.funcs[f]? with
 | none=>rw [hf] at this;cases this
 | some fn =>
  rw [hf] at this;simp only [Option.map_some,Option.some.injEq,Bool.or_eq_false_iff] at this;obtain ⟨h1,h2⟩:=this;simp only [callFunc,Sem.run_bind,run_program,Result.andThen_ok,hf,h1,h2]
  rfl
inductive GR (sl:aI):List Operand->List Value->Prop
 | nil:GR sl [] []
 | cons {x:Operand} {xs:List Operand} {v:Value} {vs:List Value} (h:Is sl x v) (t:GR sl xs vs):GR sl (x::xs) (v::vs)
theorem GR.map {sl:aI} {xs:List Operand} {vs:List Value} (h:GR sl xs vs) {a:Act} (ha:bS sl a):xs.map a.eval=vs:=by
 induction h with
 | nil=>rfl
 | cons h _ ih=>simp [h a ha,ih]
def lR (P:Program) (sl:aI) (o:Oper) (f:FuncId) (args:List Value):Prop:=
 (∀ d,o.op≠.defer d)/\∀ a w,bS sl a->(execOp a.eval o).run P w=.ok (.enter f args.toArray) w
theorem bj {x:Operand} {xs:List Operand} {ts:Array TypeId} {f:FuncId} {first vs cap args:List Value} (hx:Is sl x (.func (.func f) first.toArray cap.toArray)) (ha:GR sl xs vs) (hb:bU P f) (he:first++vs++cap=args) :
  lR P sl ⟨dst,.call ⟨.value x,xs.toArray,ts⟩,ty,pos,af,g⟩ f args:=
 ⟨by simp,fun a w hs=>by
  subst he;have h1:=ha.map hs;simp only [execOp,resolve,hx a hs,Deferred.ofValue,Sem.run_bind,Sem.run_pure,Result.andThen_ok,invoke,List.map_toArray,h1,List.append_toArray];exact tu (h:=hb) _ _⟩
theorem bo {f:Fn} {xs ys:List Operand} {vs us:List Value} (h1:GR sl xs vs) (h2:GR sl ys us) :
  cQ P c sl hs ⟨dst,.makeFunc f xs.toArray ys.toArray,ty,pos,af,g⟩ (.func f vs.toArray us.toArray):=
 Bu (fun a ha=>by simp [h1.map ha]) (fun a ha=>by simp [h2.map ha])
def bh (P:Program) (f:FuncId) (args:List Value) (w:World) (md:List Nat) {ι:Type} (Φ:ι->Prop) (val:ι->Value) (own:ι->List a8):Prop:=
 Calls P f args.toArray w fun e w'=>∃ x,e=.returned (val x)/\Φ x/\aD md w w'/\∃ fp:List Nat,fp.Nodup/\ch (hp w') (own x) fp/\∀ b∈fp,b∈md\/w.heap.size<=b
def aj (P:Program) (f:FuncId) (args:List Value) (w:World) (V:Value):Prop:=
 Calls P f args.toArray w fun e w'=>e=.returned V/\aD [] w w'
theorem gT {n:Nat} {f:FuncId} {args:Array Value} {w:World} {R:Ending->World->Prop} (h:Calls P f args w R):CallsIn (FR r) n P f args w R:=
 (callsIn_wide (n:=n)).2 h
theorem zl {o:Oper} {f:FuncId} {args:List Value} {R:Ending->World->Prop} {a:Act} {w:World} (hg:o.guard=none) (hr:lR P sl o f args) (hs:bS sl a) (hc:Calls P f args.toArray w R)
  (k:∀ e w',R e w'->∃ v,e=.returned v/\WL P r ops Q rest (a.put o.dst v) w'):WL P r ops Q (o::rest) a w:=by
 refine mH hg ⟨dO _ _ _ _ _,?_⟩;rw [Oper.semAt_eq _ _ _ hr.1,hr.2 a w hs];refine ⟨by simp [FR,Fence.wide],(gT hc).mono fun e w' h=>?_⟩;obtain ⟨v,rfl,hk⟩:=k e w' h;exact hk
theorem ai {f:FuncId} {args:List Value} {V:Value} (hr:lR P sl ⟨some d,op,ty,pos,af,none⟩ f args) (hd:Nat.blt d c.nt=true) (hc:∀ w,Mem c hs w->aj P f args w V)
  (k:Tr c D ((d,V)::sl) hs (WL P r ops Q rest)):Tr c D sl hs (WL P r ops Q (⟨some d,op,ty,pos,af,none⟩::rest)):=fun a w a7=>
 zl I hr a7.cP (hc w a7.qP) fun e w' ⟨he,hk⟩=>⟨V,he,k _ _ ((a7.put (by simpa [Nat.blt_eq] using hd) V).heap (a7.mem.rN hk))⟩
inductive bn:List a8->List a8->List a8->Prop
 | nil {hs:List a8}:bn hs [] hs
 | cons {hs h1 h2:List a8} {A:a8} {As:List a8} (h:Take hs A h1) (t:bn h1 As h2):bn hs (A::As) h2
theorem ch.jd {h:Nat->Option Obj} {hs As hs':List a8} (ht:bn hs As hs'):∀ {fp:List Nat},ch h hs fp->∃ f1 f2,ch h As f1/\ch h hs' f2/\fp.Perm (f1++f2):=by
 induction ht with
 | nil=>intro fp hf;exact ⟨[],fp,rfl,hf,.refl _⟩
 | cons h _ ih =>
  intro fp hf;obtain ⟨f1,f2,h1,h2,hp⟩:=hf.take h;obtain ⟨g1,g2,h3,h4,hq⟩:=ih h2;exact ⟨f1++g1,g2,⟨f1,g1,I,h1,h3⟩,h4,hp.trans (by rw [Zh];exact hq.append_left f1)⟩
theorem Mem.jd {As:List a8} {w:World} (h:Mem c hs w) (ht:bn hs As hs'):Mem c (As++hs') w:=by
 obtain ⟨k,fp,hn,hs,hb⟩:=h;obtain ⟨f1,f2,h1,h2,hp⟩:=hs.jd ht;exact ⟨k,f1++f2,hp.nodup_iff.1 hn,ch.append_iff.2 ⟨f1,f2,I,h1,h2⟩,fun b dD=>hb b (hp.mem_iff.2 dD)⟩
theorem bn.append {As:List a8} (h:bn hs As hs') (m:List a8):bn (hs++m) As (hs'++m):=by
 induction h with
 | nil=>exact .nil
 | cons h _ ih=>exact .cons (h.append m) ih
theorem Mem.Pn {As Bs:List a8} {w w':World} (hm:Mem c (As++hs') w)
  (hs0:∀ fp,fp.Nodup->ch (hp w) As fp->aD fp w w'/\∃ lN:List Nat,lN.Nodup/\ch (hp w') Bs lN/\∀ b∈lN,b∈fp\/w.heap.size<=b):Mem c (Bs++hs') w':=Mem.change hm hs0
theorem jh {f:FuncId} {args:List Value} {As:List a8} {ι:Type} {Φ:ι->Prop} {val:ι->Value} {own:ι->List a8} (hr:lR P sl ⟨some d,op,ty,pos,af,none⟩ f args) (hd:Nat.blt d c.nt=true) (ht:bn hs As hs')
  (hc:∀ w fp,Mem c hs w->fp.Nodup->ch (hp w) As fp->bh P f args w fp Φ val own)
  (k:∀ x,Φ x->Tr c D ((d,val x)::sl) (own x++hs') (WL P r ops Q rest)):Tr c D sl hs (WL P r ops Q (⟨some d,op,ty,pos,af,none⟩::rest)):=fun a w a7=>by
 have hm:=a7.mem.jd (ht.append (mC D));obtain ⟨kk,fp,hn,gQ,hb⟩:=hm;obtain ⟨f1,f2,rfl,h1,h2⟩:=ch.append_iff.1 gQ;refine zl I hr a7.cP (hc w f1 a7.qP (List.nodup_append.1 hn).1 h1) fun e w' ⟨x,he,hx,hk,lN,tK,hs',yS⟩=>⟨val x,he,k x hx _ _ ((a7.put (by simpa [Nat.blt_eq] using hd) (val x)).heap ?_)⟩;obtain ⟨n1,n2,n12⟩:=List.nodup_append.1 hn;have aL:∀ b∈f2,b<w.heap.size:=fun b dD=>let ⟨o,ho⟩:=h2.own b dD;ki ho
 rw [Zh];refine ⟨?_,lN++f2,?_,ch.append_iff.2 ⟨lN,f2,I,hs',h2.loc fun b dD=>?_⟩,?_⟩
 ·refine ⟨hk.os.trans kk.os,hk.tape.trans kk.tape,hk.output.trans kk.output,Nat.le_trans kk.dr hk.dr,Nat.le_trans kk.size hk.size,fun b dD hm=>?_⟩;rw [<- kk.block b dD hm];refine hk.block b (Nat.lt_of_lt_of_le dD kk.size) (fun hf=>?_);rcases hb b (List.mem_append_left _ hf) with h | h
  ·omega
  ·exact hm h
 ·refine List.nodup_append.2 ⟨tK,n2,fun x hx y hy e=>?_⟩;subst e;rcases yS x hx with h | h
  ·exact n12 x h x hy I
  ·have:=aL x hy;omega
 ·exact hk.block b (aL b dD) (fun hf=>n12 b hf b dD I)
 ·intro b dD;rcases List.mem_append.1 dD with h | h
  ·rcases yS b h with h | h
   ·exact hb b (List.mem_append_left _ h)
   ·exact .inl (Nat.le_trans kk.size h)
  ·exact hb b (List.mem_append_right _ h)
def jO:Nat->List Value->aI
 | _,[]=>[]
 | i,v::vs=>(i,v)::jO (i+1) vs
theorem qv:∀ (vs:List Value) (i t:Nat) (v:Value),cJ (jO i vs) t=some v->∃ j,t=i+j/\vs[j]? = some v
 | [],_,_,_,h=>by simp [jO,cJ] at h
 | u :: us, i, t, v, h => by
  by_cases hit:i=t
  ·subst hit;rw [jO,fR] at h;exact ⟨0,I,by simpa using h⟩
  ·rw [jO,fQ hit] at h;obtain ⟨j,e,hj⟩:=qv us (i+1) t v h;exact ⟨j+1,by omega,by simpa using hj⟩
theorem py {f:FuncId} {fn:Func} {code:Code} {args:List Value} {w:World} {md:List Nat} {hs0:List a8} {R:Ending->World->Prop} (hf:P.funcs[f]? = some fn) (hb:fn.body=some code) (hl:args.length<=fn.ntmps)
  (h0:∃ fp:List Nat,fp.Nodup/\ch (hp w) hs0 fp/\∀ b∈fp,b∈md)
  (h:Tr ⟨w,md,fn.ntmps⟩ [] (jO 0 args) hs0 (WP P none code (bodyPostM (FR none) 0 P fn R))):Calls P f args.toArray w R:=by
 have hc:=callsIn_of_wp_marks (F:=FR none) (n:=0) (P:=P) (f:=f) (R:=R) (w:=w) (args:=args.toArray) hf hb trivial
  (h { tmps:=args.toArray++Array.replicate (fn.ntmps-args.toArray.size) undef,defers:=[] } w ⟨⟨.refl _ _,?_⟩,?_,?_,I⟩)
 ·exact (callsIn_wide (n:=0)).1 hc
 ·obtain ⟨fp,hn,gQ,hm⟩:=h0;exact ⟨fp,hn,by simpa [mC] using gQ,fun b dD=>.inr (hm b dD)⟩
 ·intro t v hv;obtain ⟨j,e,hj⟩:=qv args 0 t v hv;have:t=j:=by omega
  subst this;obtain ⟨aL,nn⟩:=List.getElem?_eq_some_iff.1 hj;simp [Array.getElem?_append,aL,nn]
 ·simp;omega
end
end Go.SL
namespace Go.SL
open Go
structure Rel where
 p:Value->World->Prop
 st:∀ {v:Value} {w w':World},p v w->aD [] w w'->p v w'
def Rel.val (V:Value):Rel:=⟨fun v _=>v=V,fun h _=>h⟩
abbrev eT:=List (Nat×Rel)
def AK (T:List Nat) (rl:eT) (a:Act) (w:World):Prop:=∀ d R,(d,R)∈rl->d∈T->∃ v,a.tmps[d]? = some v/\R.p v w
def xL (P:Program) (o:Oper) (a:Act) (w:World) (R:Rel):Prop:=
 match (execOp a.eval o).run P w with
 | .ok (.value v) w'=>aD [] w w'/\R.p v w'
 | .ok (.enter f args) w'=>w'=w/\Calls P f args w (fun e uZ=>∃ v,e=.returned v/\aD [] w uZ/\R.p v uZ)
 | _=>False
def tY (P:Program) (c:Cx) (hs:List a8) (ops:Array Oper) (sl:aI) (rl:eT) (o:Oper) (R:Rel):Prop:=
 ∀ a w,bS sl a->AK (o.looksAt ops) rl a w->Mem c hs w->if Region.wanted o (yielded ops a.tmps) then xL P o a w R else R.p undef w
def LH (e:Edge):Bool:=Region.binds .any e
def mu (o:Oper):Bool:=match o.op with | .select ..=>false | .defer _=>false | _=>true
def eL (o:Oper) (i:Nat):Bool:=o.after.toList.any fun e=>LH e&&Nat.beq e.on i
def has (l:List Nat) (t:Nat):Bool:=l.any (Nat.beq t)
theorem E3 {l:List Nat} {t:Nat}:has l t=true↔t∈l:=by
 simp [has,List.any_eq_true]
def qM (ops:Array Oper) (x y:Oper) (i:Nat):Bool:=
 match x.dst,y.dst with
 | some d,some e=>!Nat.beq d e&&((!has (y.looksAt ops) d&&!has (x.looksAt ops) e)||eL y i)
 | _,_=>false
def kQ (ops:Array Oper):List Oper->Nat->Bool
 | [],_=>true
 | x::r,i=>r.all (fun y=>qM ops x y i)&&kQ ops r (i+1)
def uo:List Oper->Nat->Bool
 | [],_=>true
 | o::r,k=>o.after.toList.all (fun e=>!LH e||Nat.blt e.on k)&&uo r (k+1)
def qQ (acc:List Nat) (o:Oper):Nat:=o.after.toList.foldl (fun s e=>if LH e then s ||| 2 ^ e.on ||| acc.getD e.on 0 else s) 0
def iz:List Oper->List Nat->List Nat
 | [],acc=>acc
 | o::r,acc=>iz r (acc++[qQ acc o])
def zw (ms:List Nat):List Nat->Bool
 | []=>true
 | k::r=>(List.range k).all (fun i=>(ms.getD k 0).testBit i)&&zw ms r
def yw (l:List Oper) (m:Nat):Bool:=
 l.all mu&&uo l 0&&kQ l.toArray (l.take m) 0&&(l.take m).all (fun o=>o.dst.isSome)&&zw (iz l []) (List.range' m (l.length-m))&&Nat.ble m l.length
theorem iR {l:List Oper}:∀ {s:Nat},uo l s=true->∀ {k:Nat} {o:Oper},l[k]? = some o->∀ e∈o.after,LH e=true->e.on<s+k:=by
 induction l with
 | nil=>intro s _ k o h;simp at h
 | cons x r ih =>
  intro s h k o hk e he hb;simp only [uo,Bool.and_eq_true,List.all_eq_true] at h;cases k with
  | zero =>
   simp at hk;subst hk;have:=h.1 e (by simpa using he);simpa [hb,Nat.blt_eq] using this
  | succ k =>
   have:=ih h.2 (k:=k) (by simpa using hk) e he hb;omega
theorem rL:∀ (l:List Oper) (acc:List Nat),∃ t,iz l acc=acc++t/\t.length=l.length
 | [],acc=>⟨[],by simp [iz]⟩
 | o :: r, acc => by
  obtain ⟨t,h,hl⟩:=rL r (acc++[qQ acc o]);exact ⟨qQ acc o::t,by simp [iz,h],by simp [hl]⟩
theorem vB:∀ (l:List Oper) (acc:List Nat) (k:Nat) (o:Oper),l[k]? = some o->(iz l acc).getD (acc.length+k) 0=qQ ((iz l acc).take (acc.length+k)) o
 | [],_,_,_,h=>by simp at h
 | x :: r, acc, k, o, h => by
  obtain ⟨t,ht,hl⟩:=rL r (acc++[qQ acc x]);cases k with
  | zero =>
   simp at h;subst h;simp [iz,ht]
  | succ k =>
   have:=vB r (acc++[qQ acc x]) k o (by simpa using h);simp only [Zg,List.length_cons,List.length_nil] at this;rw [show acc.length+(k+1)=acc.length+(0+1)+k from by omega];exact this
theorem tz (acc:List Nat) (i:Nat):∀ (es:List Edge) (s:Nat),(es.foldl (fun s e=>if LH e then s ||| 2 ^ e.on ||| acc.getD e.on 0 else s) s).testBit i=true ->
  s.testBit i=true\/∃ e∈es,LH e=true/\(i=e.on\/(acc.getD e.on 0).testBit i=true)
 | [],s,h=>.inl h
 | e :: es, s, h => by
  simp only [List.foldl_cons] at h;rcases tz acc i es _ h with h | ⟨e',GZ,hb,h⟩
  ·by_cases hb:LH e=true
   ·simp only [hb,if_true,Nat.testBit_or,Bool.or_eq_true,Nat.testBit_two_pow,decide_eq_true_eq] at h;rcases h with (h | h) | h
    ·exact .inl h
    ·exact .inr ⟨e,by simp,hb,.inl h.symm⟩
    ·exact .inr ⟨e,by simp,hb,.inr h⟩
   ·simp only [hb] at h;exact .inl h
  ·exact .inr ⟨e',by simp [GZ],hb,h⟩
def DC (l:List Oper) (L:Nat->Prop):Prop:=∀ k o,l[k]? = some o->L k->∀ e∈o.after,LH e=true->L e.on
theorem gF {l:List Oper} {L:Nat->Prop} (xC:DC l L) (SN:uo l 0=true):∀ (k:Nat),k<l.length->L k->∀ i,((iz l []).getD k 0).testBit i=true->L i:=by
 intro k
 induction k using Nat.strongRecOn with
 | _ k ih =>
  intro hk hL i hi;have ho:l[k]? = some l[k]:=Zc hk;have hm:=vB l [] k _ ho;simp only [List.length_nil,Nat.zero_add] at hm;rw [hm] at hi;unfold qQ at hi;rcases tz _ i _ 0 hi with h | ⟨e,he,hb,h⟩
  ·simp at h
  ·have GZ:e∈l[k].after:=by simpa using he
   have aL:e.on<k:=by have:=iR SN ho e GZ hb;omega
   have ZQ:=xC k _ ho hL e GZ hb;rcases h with h | h
   ·rw [h];exact ZQ
   ·refine ih e.on aL (by omega) ZQ i ?_;have:((iz l []).take k).getD e.on 0=(iz l []).getD e.on 0:=by
     simp [List.getD_eq_getElem?_getD,aL]
    rwa [this] at h
theorem nw {ops:Array Oper} {l:List Oper}:∀ {s:Nat},kQ ops l s=true->∀ {i j:Nat} {x y:Oper},i<j->l[i]? = some x->l[j]? = some y->qM ops x y (s+i)=true:=by
 induction l with
 | nil=>intro s _ i j x y _ h;simp at h
 | cons o r ih =>
  intro s h i j x y yR hx hy;simp only [kQ,Bool.and_eq_true,List.all_eq_true] at h;cases j with
  | zero=>omega
  | succ j =>
   cases i with
   | zero =>
    simp at hx;subst hx;exact h.1 y (List.mem_of_getElem? (by simpa using hy))
   | succ i =>
    have:=ih h.2 (i:=i) (j:=j) (by omega) (by simpa using hx) (by simpa using hy);rwa [show s+1+i=s+(i+1) from by omega] at this
theorem mW {sl:aI} {T:List Nat} {a:Act} {nt:Nat} (hn:a.tmps.size=nt) (hk:∀ t v,cJ sl t=some v->t<nt) (hT:∀ t∈T,∀ v,cJ sl t=some v->a.tmps[t]? = some v) :
  ∃ a':Act,bS sl a'/\(∀ t∈T,a'.tmps[t]? = a.tmps[t]?)/\a'.tmps.size=nt:=by
 refine ⟨⟨Array.ofFn (n:=nt) fun t=>if (t:Nat)∈T then a.tmps.getD t undef else (cJ sl t).getD undef,a.defers⟩,?_,?_,by simp⟩
 ·intro t v hv;have aL:=hk t v hv;simp only [Array.getElem?_ofFn,aL,dif_pos];by_cases ht:t∈T
  ·have:=hT t ht v hv;simp [ht,Array.getD_eq_getD_getElem?,this]
  ·simp [ht,hv]
 ·intro t ht;by_cases aL:t<nt
  ·have:a.tmps[t]? = some (a.tmps[t]'(by omega)):=Array.getElem?_eq_getElem (by omega);simp [ht,aL,Array.getD_eq_getD_getElem?,this]
  ·rw [Array.getElem?_eq_none (by simp;omega),Array.getElem?_eq_none (by omega)]
theorem Aq {a a':Act} {x:Operand} (h:∀ t,x=.tmp t->a'.tmps[t]? = a.tmps[t]?):a'.eval x=a.eval x:=by
 cases x with
 | tmp t=>simp [Act.eval,Array.getD_eq_getD_getElem?,h t rfl]
 | _=>rfl
theorem gR {o:Oper} {ops:Array Oper} {a a':Act} (ho:mu o=true) (h:∀ t∈o.looksAt ops,a'.tmps[t]? = a.tmps[t]?):execOp a'.eval o=execOp a.eval o:=by
 refine execOp_congr o (fun cs b he=>by simp [mu,he] at ho) fun x hx=>Aq fun t ht=>h t ?_;subst ht;unfold Oper.looksAt;refine List.mem_append_left _ ?_;simp only [List.mem_filterMap];exact ⟨_,by simpa using hx,I⟩
theorem gn {o:Oper} {ops:Array Oper} {a a':Act} (h:∀ t∈o.looksAt ops,a'.tmps[t]? = a.tmps[t]?):Region.wanted o (yielded ops a'.tmps)=Region.wanted o (yielded ops a.tmps):=by
 unfold Region.wanted;cases hg:o.guard with
 | none=>rfl
 | some gw =>
  obtain ⟨j,want⟩:=gw;simp only [];have:yielded ops a'.tmps j=yielded ops a.tmps j:=by
   unfold yielded;cases hd:(ops[j]?).bind (·.dst) with
   | none=>rfl
   | some d =>
    have:=h d (by unfold Oper.looksAt;exact List.mem_append_right _ (by simp [hg,hd]));simp [this]
  rw [this]
inductive th (P:Program) (c:Cx) (hs:List a8) (ops:Array Oper):List Oper->aI->eT->List Rel->aI->eT->Prop
 | nil {sl:aI} {rl:eT}:th P c hs ops [] sl rl [] sl rl
 | val {o:Oper} {l:List Oper} {sl jy:aI} {rl kO:eT} {d:Nat} {V:Value} {S:List Rel} (hd:o.dst=some d) (fH:d<c.nt) (h:tY P c hs ops sl rl o (.val V)) (t:th P c hs ops l ((d,V)::sl) rl S jy kO) :
   th P c hs ops (o::l) sl rl (.val V::S) jy kO
 | rel {o:Oper} {l:List Oper} {sl jy:aI} {rl kO:eT} {d:Nat} {R:Rel} {S:List Rel} (hd:o.dst=some d) (fH:d<c.nt) (hn:cJ sl d=none) (h:tY P c hs ops sl rl o R) (t:th P c hs ops l sl ((d,R)::rl) S jy kO) :
   th P c hs ops (o::l) sl rl (R::S) jy kO
theorem th.at_ {P:Program} {c:Cx} {hs:List a8} {ops:Array Oper} {l:List Oper} {sl jy:aI} {rl kO:eT} {S:List Rel} (h:th P c hs ops l sl rl S jy kO) :
  ∀ (i : Nat) (o : Oper), l[i]? = some o -> ∃ uz Lm R, S[i]? = some R /\ tY P c hs ops uz Lm o R /\
   (∀ t v,cJ uz t=some v->(∃ (j:Nat) (oj:Oper),j<i/\l[j]? = some oj/\oj.dst=some t/\S[j]? = some (.val v))\/((∀ (j:Nat) (oj:Oper),j<i->l[j]? = some oj->oj.dst≠some t)/\cJ sl t=some v)) /\
   (∀ t Rt,(t,Rt)∈Lm->(∃ (j:Nat) (oj:Oper),j<i/\l[j]? = some oj/\oj.dst=some t/\S[j]? = some Rt)\/(t,Rt)∈rl):=by
 induction h with
 | nil=>intro i o h;simp at h
 | @val o0 l sl jy rl kO d V S hd fH a7 t ih =>
  intro i o ho;cases i with
  | zero =>
   simp at ho;subst ho;exact ⟨sl,rl,.val V,I,a7,fun t v hv=>.inr ⟨fun j _ hj=>by omega,hv⟩,fun t Rt hm=>.inr hm⟩
  | succ i =>
   obtain ⟨uz,Lm,R,hR,hs',h1,h2⟩:=ih i o (by simpa using ho);refine ⟨uz,Lm,R,by simpa using hR,hs',fun t v hv=>?_,fun t Rt hm=>?_⟩
   ·rcases h1 t v hv with ⟨j,oj,hj,iZ,iF,jA⟩ | ⟨vP,nn⟩
    ·exact .inl ⟨j+1,oj,by omega,by simpa using iZ,iF,by simpa using jA⟩
    ·by_cases xB:d=t
     ·subst xB;rw [fR] at nn;cases nn;exact .inl ⟨0,o0,by omega,I,hd,I⟩
     ·rw [fQ xB] at nn;refine .inr ⟨fun j oj hj iZ=>?_,nn⟩;cases j with
      | zero=>simp at iZ;subst iZ;rw [hd];simp [xB]
      | succ j=>exact vP j oj (by omega) (by simpa using iZ)
   ·rcases h2 t Rt hm with ⟨j,oj,hj,iZ,iF,jA⟩ | aq
    ·exact .inl ⟨j+1,oj,by omega,by simpa using iZ,iF,by simpa using jA⟩
    ·exact .inr aq
 | @rel o0 l sl jy rl kO d R0 S hd fH hn a7 t ih =>
  intro i o ho;cases i with
  | zero =>
   simp at ho;subst ho;exact ⟨sl,rl,R0,I,a7,fun t v hv=>.inr ⟨fun j _ hj=>by omega,hv⟩,fun t Rt hm=>.inr hm⟩
  | succ i =>
   obtain ⟨uz,Lm,R,hR,hs',h1,h2⟩:=ih i o (by simpa using ho);refine ⟨uz,Lm,R,by simpa using hR,hs',fun t v hv=>?_,fun t Rt hm=>?_⟩
   ·rcases h1 t v hv with ⟨j,oj,hj,iZ,iF,jA⟩ | ⟨vP,nn⟩
    ·exact .inl ⟨j+1,oj,by omega,by simpa using iZ,iF,by simpa using jA⟩
    ·have xB:d≠t:=fun e=>by subst e;rw [hn] at nn;cases nn
     refine .inr ⟨fun j oj hj iZ=>?_,nn⟩;cases j with
     | zero=>simp at iZ;subst iZ;rw [hd];simp [xB]
     | succ j=>exact vP j oj (by omega) (by simpa using iZ)
   ·rcases h2 t Rt hm with ⟨j,oj,hj,iZ,iF,jA⟩ | aq
    ·exact .inl ⟨j+1,oj,by omega,by simpa using iZ,iF,by simpa using jA⟩
    ·rcases List.mem_cons.1 aq with e | Ri
     ·cases e;exact .inl ⟨0,o0,by omega,I,hd,I⟩
     ·exact .inr Ri
theorem th.end_ {P:Program} {c:Cx} {hs:List a8} {ops:Array Oper} {l:List Oper} {sl jy:aI} {rl kO:eT} {S:List Rel} (h:th P c hs ops l sl rl S jy kO) :
   (∀ t v,cJ jy t=some v->(∃ (j:Nat) (oj:Oper),l[j]? = some oj/\oj.dst=some t/\S[j]? = some (.val v))\/((∀ (j:Nat) (oj:Oper),l[j]? = some oj->oj.dst≠some t)/\cJ sl t=some v)) /\
   (∀ t Rt,(t,Rt)∈kO->(∃ (j:Nat) (oj:Oper),l[j]? = some oj/\oj.dst=some t/\S[j]? = some Rt)\/(t,Rt)∈rl) /\
   (∀ (j:Nat) (oj:Oper),l[j]? = some oj->∃ d R,oj.dst=some d/\d<c.nt/\S[j]? = some R):=by
 induction h with
 | nil=>exact ⟨fun t v hv=>.inr ⟨fun j oj h=>by simp at h,hv⟩,fun t Rt hm=>.inr hm,fun j oj h=>by simp at h⟩
 | @val o0 l sl jy rl kO d V S hd fH a7 t ih =>
  obtain ⟨h1,h2,h3⟩:=ih;refine ⟨fun t v hv=>?_,fun t Rt hm=>?_,fun j oj hj=>?_⟩
  ·rcases h1 t v hv with ⟨j,oj,iZ,iF,jA⟩ | ⟨vP,nn⟩
   ·exact .inl ⟨j+1,oj,by simpa using iZ,iF,by simpa using jA⟩
   ·by_cases xB:d=t
    ·subst xB;rw [fR] at nn;cases nn;exact .inl ⟨0,o0,I,hd,I⟩
    ·rw [fQ xB] at nn;refine .inr ⟨fun j oj iZ=>?_,nn⟩;cases j with
     | zero=>simp at iZ;subst iZ;rw [hd];simp [xB]
     | succ j=>exact vP j oj (by simpa using iZ)
  ·rcases h2 t Rt hm with ⟨j,oj,iZ,iF,jA⟩ | aq
   ·exact .inl ⟨j+1,oj,by simpa using iZ,iF,by simpa using jA⟩
   ·exact .inr aq
  ·cases j with
   | zero=>simp at hj;subst hj;exact ⟨d,_,hd,fH,rfl⟩
   | succ j=>obtain ⟨d',R',h⟩:=h3 j oj (by simpa using hj);exact ⟨d',R',by simpa using h⟩
 | @rel o0 l sl jy rl kO d R0 S hd fH hn a7 t ih =>
  obtain ⟨h1,h2,h3⟩:=ih;refine ⟨fun t v hv=>?_,fun t Rt hm=>?_,fun j oj hj=>?_⟩
  ·rcases h1 t v hv with ⟨j,oj,iZ,iF,jA⟩ | ⟨vP,nn⟩
   ·exact .inl ⟨j+1,oj,by simpa using iZ,iF,by simpa using jA⟩
   ·have xB:d≠t:=fun e=>by subst e;rw [hn] at nn;cases nn
    refine .inr ⟨fun j oj iZ=>?_,nn⟩;cases j with
    | zero=>simp at iZ;subst iZ;rw [hd];simp [xB]
    | succ j=>exact vP j oj (by simpa using iZ)
  ·rcases h2 t Rt hm with ⟨j,oj,iZ,iF,jA⟩ | aq
   ·exact .inl ⟨j+1,oj,by simpa using iZ,iF,by simpa using jA⟩
   ·rcases List.mem_cons.1 aq with e | Ri
    ·cases e;exact .inl ⟨0,o0,I,hd,I⟩
    ·exact .inr Ri
  ·cases j with
   | zero=>simp at hj;subst hj;exact ⟨d,_,hd,fH,rfl⟩
   | succ j=>obtain ⟨d',R',h⟩:=h3 j oj (by simpa using hj);exact ⟨d',R',by simpa using h⟩
end Go.SL
namespace Go.SL
open Go
section
variable {P:Program} {r:Option Nat} {c:Cx} {D:List Nat} {sl jy:aI} {kO:eT} {hs:List a8} {Q:Exit->Act->World->Prop} {l:List Oper} {m:Nat} {S:List Rel}
def Ls (listed:Array Bool) (i:Nat):Prop:=listed.getD i false=true
theorem ei (n i:Nat):¬ Ls (Array.replicate n false) i:=by
 unfold Ls;rw [Array.getD_eq_getD_getElem?,Array.getElem?_replicate];split <;> simp
theorem bP {listed:Array Bool} {i j:Nat} (hi:i<listed.size):Ls (listed.setIfInBounds i true) j↔(j=i\/Ls listed j):=by
 unfold Ls;by_cases h:i=j
 ·subst h;simp [Array.getD_eq_getD_getElem?,hi]
 ·have h':¬ j=i:=fun e=>h e.symm
  simp [Array.getD_eq_getD_getElem?,Array.getElem?_setIfInBounds_ne h,h']
theorem E6 {listed:Array Bool} {i:Nat} (hi:i<listed.size):listed.getD i true=false↔¬ Ls listed i:=by
 unfold Ls;simp [Array.getD_eq_getD_getElem?,hi]
theorem dz {listed:Array Bool} (hsz:listed.size=l.length) {i:Nat}:i∈Region.ready .any l.toArray listed↔∃ o,l[i]? = some o/\¬ Ls listed i/\∀ e∈o.after,LH e=true->Ls listed e.on:=by
 rw [mem_ready];constructor
 ·rintro ⟨h1,o,ho,h2⟩;have E0:l[i]? = some o:=by simpa using ho
  have hi:i<listed.size:=by rw [hsz];exact (List.getElem?_eq_some_iff.1 E0).1
  exact ⟨o,E0,(E6 hi).1 h1,h2⟩
 ·rintro ⟨o,ho,h1,h2⟩;have hi:i<listed.size:=by rw [hsz];exact (List.getElem?_eq_some_iff.1 ho).1
  exact ⟨(E6 hi).2 h1,o,by simpa using ho,h2⟩
theorem iA {listed:Array Bool} (hsz:listed.size=l.length) (SN:uo l 0=true) (h:∃ i,i<l.length/\¬ Ls listed i):∃ i,i∈Region.ready .any l.toArray listed:=by
 obtain ⟨i,hi,hn⟩:=h
 induction i using Nat.strongRecOn with
 | _ i ih =>
  by_cases dC:∀ j,j<i->Ls listed j
  ·refine ⟨i,(dz hsz).2 ⟨l[i],Zc hi,hn,fun e he hb=>dC _ ?_⟩⟩;have:=iR SN (Zc hi) e he hb;omega
  ·have:∃ j,j<i/\¬ Ls listed j:=by
    apply Classical.byContradiction;intro hc;exact dC fun j hj=>Classical.byContradiction fun tK=>hc ⟨j,hj,tK⟩
   obtain ⟨j,hj,hnj⟩:=this;exact ih j hj (by omega) hnj
theorem tp {ms:List Nat}:∀ {ks:List Nat},zw ms ks=true->∀ k∈ks,∀ i,i<k->(ms.getD k 0).testBit i=true
 | [],_,k,hk=>by cases hk
 | x :: ks, h, k, hk => by
  simp only [zw,Bool.and_eq_true,List.all_eq_true,List.mem_range] at h;rcases List.mem_cons.1 hk with e | hk
  ·subst e;exact h.1
  ·exact tp h.2 k hk
structure Sp (l:List Oper) (m:Nat):Prop where
 op:∀ o∈l,mu o=true
 ac:uo l 0=true
 BA:kQ l.toArray (l.take m) 0=true
 tail:∀ k,m<=k->k<l.length->∀ i,i<k->((iz l []).getD k 0).testBit i=true
 le:m<=l.length
theorem vp (h:yw l m=true):Sp l m:=by
 simp only [yw,Bool.and_eq_true,List.all_eq_true] at h;obtain ⟨⟨⟨⟨⟨h1,h2⟩,h3⟩,_⟩,h5⟩,h6⟩:=h;refine ⟨h1,h2,h3,fun k hk aL=>tp h5 k ?_,by simpa using h6⟩;rw [List.mem_range'_1];omega
theorem qK (hc:Sp l m) {listed:Array Bool} (hsz:listed.size=l.length) (xC:DC l (Ls listed)) {i:Nat} (hi:i∈Region.ready .any l.toArray listed) (hm:m<=i):∀ j,j<i->Ls listed j:=by
 intro j hj;obtain ⟨o,ho,hn,hd⟩:=(dz hsz).1 hi;have aL:i<l.length:=(List.getElem?_eq_some_iff.1 ho).1;have DF:DC l (fun k=>k=i\/Ls listed k):=by
  intro k ok hk hL e he hb;rcases hL with e' | hL
  ·subst e';rw [ho] at hk;cases hk;exact .inr (hd e he hb)
  ·exact .inr (xC k ok hk hL e he hb)
 rcases gF DF hc.ac i aL (.inl rfl) j (hc.tail i hm aL j hj) with h | h
 ·omega
 ·exact h
theorem CK {o:Oper} {rest:List Oper} {i:Nat} {ops:Array Oper} {K:Act->World->Prop} {a:Act} {w:World} (hi:ops[i]? = some o) (hK:∀ a w,WL P r ops Q rest a w->K a w) (h:WL P r ops Q (o::rest) a w):wpOpIn (FR r) 0 P ops Q i K a w:=by
 unfold wpOpIn;simp only [hi];unfold WL at h;split
 ·rename_i hw;rw [if_pos hw] at h;exact Oper.wpIn_mono hK h
 ·rename_i hw;rw [if_neg hw] at h;exact ⟨fun _ _=>trivial,hK _ _ h⟩
theorem Dc (hc:Sp l m):∀ (fuel k:Nat) (listed:Array Bool) (a:Act) (w:World),m<=k->k+fuel=l.length->listed.size=l.length->(∀ i,i<l.length->(Ls listed i↔i<k)) ->
  WL P r l.toArray Q (l.drop k) a w->wpAnyIn (FR r) 0 P .any l.toArray Q fuel listed a w
 | 0, k, listed, a, w, _, hk, hsz, hL, h => by
  refine ⟨?_,by rw [List.drop_of_length_le (by omega)] at h;exact h⟩;apply List.eq_nil_iff_forall_not_mem.2;intro i hi;obtain ⟨o,ho,hn,_⟩:=(dz hsz).1 hi;have aL:=(List.getElem?_eq_some_iff.1 ho).1;exact hn ((hL i aL).2 (by omega))
 | fuel + 1, k, listed, a, w, E1, hk, hsz, hL, h => by
  have xC:DC l (Ls listed):=fun k' o' E0 Kj e he hb=>by
   have aL:=(List.getElem?_eq_some_iff.1 E0).1;have:=iR hc.ac E0 e he hb;exact (hL e.on (by omega)).2 (by have:=(hL k' aL).1 Kj;omega)
  have Ny:k<l.length:=by omega
  refine ⟨fun h0=>?_,fun i hi=>?_⟩
  ·obtain ⟨i,hi⟩:=iA hsz hc.ac ⟨k,Ny,fun hh=>by have:=(hL k Ny).1 hh;omega⟩;rw [h0] at hi;cases hi
  ·obtain ⟨o,ho,hn,_⟩:=(dz hsz).1 hi;have aL:=(List.getElem?_eq_some_iff.1 ho).1;have JZ:k<=i:=Nat.le_of_not_lt fun hh=>hn ((hL i aL).2 hh)
   have:i=k:=by
    rcases Nat.lt_or_ge k i with hh | hh
    ·have:=(hL k Ny).1 (qK hc hsz xC hi (by omega) k hh);omega
    ·omega
   subst this;rw [List.drop_eq_getElem_cons aL] at h;have E0:l[i]=o:=by rw [Zc aL] at ho;exact Option.some.inj ho
   rw [E0] at h;refine CK (by simpa using ho) (fun a' w' h'=>Dc hc fuel (i+1) _ a' w' (by omega) (by omega) (by simpa using hsz) (fun j hj=>?_) h') h;rw [bP (by omega)];have:=hL j hj;constructor
   ·rintro (e | hh)
    ·omega
    ·have:=this.1 hh;omega
   ·intro hh;by_cases e:j=i
    ·exact .inl e
    ·exact .inr (this.2 (by omega))
structure Inv1 (c:Cx) (D:List Nat) (hs:List a8) (l:List Oper) (m:Nat) (S:List Rel) (a0:Act) (fuel:Nat) (listed:Array Bool) (a:Act) (w:World):Prop where
 sz:listed.size=l.length
 dc:DC l (Ls listed)
 hi:∀ k,m<=k->¬ Ls listed k
 mem:Mem c (hs++mC D) w
 defers:a.defers=D.map mark
 size:a.tmps.size=c.nt
 yF:∀ t,(∀ (j:Nat) (o:Oper),l[j]? = some o->Ls listed j->o.dst≠some t)->a.tmps[t]? = a0.tmps[t]?
 new:∀ (j:Nat) (o:Oper),l[j]? = some o->Ls listed j->∀ d R,o.dst=some d->S[j]? = some R->∃ v,a.tmps[d]? = some v/\R.p v w
 left:∃ U:List Nat,U.Nodup/\(∀ i,i∈U↔i<l.length/\¬ Ls listed i)/\U.length=fuel
theorem lY (hc:Sp l m) {i j:Nat} {x y:Oper} (yR:i<j) (hj:j<m) (hx:l[i]? = some x) (hy:l[j]? = some y):qM l.toArray x y i=true:=by
 have:=nw hc.BA (i:=i) (j:=j) yR (by rw [List.getElem?_take,if_pos (by omega)];exact hx) (by rw [List.getElem?_take,if_pos hj];exact hy);simpa using this
theorem cO {ops:Array Oper} {x y:Oper} {i d e:Nat} (h:qM ops x y i=true) (hx:x.dst=some d) (hy:y.dst=some e):d≠e/\((d∈y.looksAt ops\/e∈x.looksAt ops)->eL y i=true):=by
 simp only [qM,hx,hy,Bool.and_eq_true,Bool.not_eq_true',Bool.or_eq_true] at h;obtain ⟨h1,h2⟩:=h;refine ⟨fun e'=>by subst e';simp at h1,fun h3=>?_⟩;rcases h2 with ⟨h4,h5⟩ | h2
 ·rcases h3 with h3 | h3
  ·rw [E3.2 h3] at h4;cases h4
  ·rw [E3.2 h3] at h5;cases h5
 ·exact h2
theorem cH {o:Oper} {i:Nat} (h:eL o i=true):∃ e∈o.after,LH e=true/\e.on=i:=by
 simp only [eL,List.any_eq_true,Bool.and_eq_true] at h;obtain ⟨e,he,hb,mU⟩:=h;exact ⟨e,by simpa using he,hb,Nat.eq_of_beq_eq_true mU⟩
theorem BM (hc:Sp l m) (hl:m<=l.length) {a0 a:Act} {w w':World} {fuel i d:Nat} {listed:Array Bool} {o:Oper} {R:Rel} {v:Value} (hI:Inv1 c D hs l m S a0 (fuel+1) listed a w)
  (hi:i∈Region.ready .any l.toArray listed) (mz:i<m) (ho:l[i]? = some o) (hd:o.dst=some d) (fH:d<c.nt) (qB:S[i]? = some R)
  (X1:∀ (j:Nat) (oj:Oper),j<m->l[j]? = some oj->∃ e,oj.dst=some e) (hk:aD [] w w') (hv:R.p v w'):Inv1 c D hs l m S a0 fuel (listed.setIfInBounds i true) (a.put o.dst v) w':=by
 obtain ⟨o',E0,hn,ko⟩:=(dz hI.sz).1 hi;rw [ho] at E0;cases E0;have il:i<listed.size:=by rw [hI.sz];omega
 have _:=X1;have nR:∀ (j:Nat) (oj:Oper) (e:Nat),l[j]? = some oj->j<m->j≠i->oj.dst=some e->e≠d:=by
  intro j oj e hj gm hne he;rcases Nat.lt_or_ge j i with h | h
  ·exact (cO (lY hc h mz hj ho) he hd).1
  ·exact fun e'=>(cO (lY hc (show i<j by omega) gm ho hj) hd he).1 e'.symm
 rw [hd];refine ⟨by simpa using hI.sz,?_,?_,hI.mem.rN hk,hI.defers,by simpa [Act.put] using hI.size,?_,?_,?_⟩
 ·intro k ok pV hL e he hb;rw [bP il] at hL ⊢;rcases hL with e' | hL
  ·subst e';rw [ho] at pV;cases pV;exact .inr (ko e he hb)
  ·exact .inr (hI.dc k ok pV hL e he hb)
 ·intro k pV hL;rw [bP il] at hL;rcases hL with e | hL
  ·omega
  ·exact hI.hi k pV hL
 ·intro t ht;have h1:d≠t:=fun e=>by subst e;exact ht i o ho ((bP il).2 (.inl rfl)) hd
  simp only [Act.put,Array.getElem?_setIfInBounds_ne h1];exact hI.yF t fun j oj hj hL=>ht j oj hj ((bP il).2 (.inr hL))
 ·intro j oj hj hL e Rj he Yq;rw [bP il] at hL;by_cases kT:j=i
  ·subst kT;rw [ho] at hj;cases hj;rw [hd] at he;cases he;rw [qB] at Yq;cases Yq;exact ⟨v,by simp [Act.put,hI.size,fH],hv⟩
  ·have w7:=hL.resolve_left kT;obtain ⟨u,hu,hp⟩:=hI.new j oj hj w7 e Rj he Yq;have gm:j<m:=Nat.lt_of_not_le fun h=>hI.hi j h w7
   have hne:e≠d:=nR j oj e hj gm kT he;refine ⟨u,?_,Rj.st hp hk⟩;simp only [Act.put,Array.getElem?_setIfInBounds_ne (Ne.symm hne)];exact hu
 ·obtain ⟨U,tS,nX,qm⟩:=hI.left;have NA:i∈U:=(nX i).2 ⟨by omega,hn⟩;refine ⟨U.erase i,tS.erase i,fun j=>?_,by rw [List.length_erase_of_mem NA,qm];rfl⟩;rw [tS.mem_erase_iff,nX j,bP il];constructor
  ·rintro ⟨h1,h2,h3⟩;exact ⟨h2,fun h=>h.elim h1 h3⟩
  ·rintro ⟨h1,h2⟩;exact ⟨fun e=>h2 (.inl e),h1,fun h=>h2 (.inr h)⟩
def Eb (rl:eT) (a:Act) (w:World):Prop:=∀ d R,(d,R)∈rl->∃ v,a.tmps[d]? = some v/\R.p v w
theorem Qu (hc:Sp l m) (hp:th P c hs l.toArray (l.take m) sl [] S jy kO) {a0:Act} (h0:bS sl a0) (Gm:a0.tmps.size=c.nt)
  (tail:∀ a w,St c D jy hs a w->Eb kO a w->WL P r l.toArray Q (l.drop m) a w) :
  ∀ (fuel:Nat) (listed:Array Bool) (a:Act) (w:World),Inv1 c D hs l m S a0 fuel listed a w->wpAnyIn (FR r) 0 P .any l.toArray Q fuel listed a w:=by
 have rW:=hp.end_;have dI:∀ (j:Nat) (o:Oper),j<m->l[j]? = some o->(l.take m)[j]? = some o:=fun j o hj ho=>by rw [List.getElem?_take,if_pos hj];exact ho
 have eZ:∀ (j:Nat) (o:Oper),(l.take m)[j]? = some o->j<m/\l[j]? = some o:=fun j o ho=>by
  rw [List.getElem?_take] at ho;split at ho
  ·exact ⟨by assumption,ho⟩
  ·cases ho
 have lk:∀ fuel listed a w,Inv1 c D hs l m S a0 fuel listed a w->(∀ i,i<m->Ls listed i)->wpAnyIn (FR r) 0 P .any l.toArray Q fuel listed a w:=by
  intro fuel listed a w hI dC;have hL:∀ i,i<l.length->(Ls listed i↔i<m):=fun i _=>⟨fun h=>Nat.lt_of_not_le fun hm=>hI.hi i hm h,dC i⟩
  obtain ⟨U,tS,nX,qm⟩:=hI.left;have gZ:U.Perm (List.range' m (l.length-m)):=by
   rw [List.perm_ext_iff_of_nodup tS (List.nodup_range')];intro i;rw [nX i,List.mem_range'_1];constructor
   ·rintro ⟨h1,h2⟩;exact ⟨Nat.le_of_not_lt fun h=>h2 (dC i h),by omega⟩
   ·rintro ⟨h1,h2⟩;exact ⟨by omega,hI.hi i h1⟩
  have hlen:fuel=l.length-m:=by rw [<- qm,gZ.length_eq,List.length_range']
  refine Dc hc fuel m listed a w (Nat.le_refl _) (by have:=hc.le;omega) hI.sz hL (tail a w ⟨hI.mem,?_,hI.size,hI.defers⟩ ?_)
  ·intro t v hv;rcases rW.1 t v hv with ⟨j,oj,hj,iF,jA⟩ | ⟨vP,nn⟩
   ·obtain ⟨gm,kH⟩:=eZ j oj hj;obtain ⟨u,hu,nQ⟩:=hI.new j oj kH (dC j gm) t _ iF jA;rw [hu,show u=v from nQ]
   ·rw [hI.yF t fun j oj hj iG=>vP j oj (dI j oj (Nat.lt_of_not_le fun hm=>hI.hi j hm iG) hj)]
    exact h0 t v nn
  ·intro d R hm;rcases rW.2.1 d R hm with ⟨j,oj,hj,iF,jA⟩ | aq
   ·obtain ⟨gm,kH⟩:=eZ j oj hj;exact hI.new j oj kH (dC j gm) d R iF jA
   ·cases aq
 intro fuel
 induction fuel with
 | zero =>
  intro listed a w hI;obtain ⟨U,_,nX,qm⟩:=hI.left;have hU:U=[]:=List.length_eq_zero_iff.1 qm;refine lk 0 listed a w hI fun i hi=>Classical.byContradiction fun hn=>?_;have:=(nX i).2 ⟨by have:=hc.le;omega,hn⟩;rw [hU] at this;cases this
 | succ fuel ih =>
  intro listed a w hI;by_cases dC:∀ i,i<m->Ls listed i
  ·exact lk _ listed a w hI dC
  ·have hex:∃ i,i<m/\¬ Ls listed i:=Classical.byContradiction fun hh=>dC fun i hi=>Classical.byContradiction fun hn=>hh ⟨i,hi,hn⟩
   obtain ⟨i0,pW,mV⟩:=hex;refine ⟨fun hr=>?_,fun i hi=>?_⟩
   ·obtain ⟨i,hi⟩:=iA hI.sz hc.ac ⟨i0,by have:=hc.le;omega,mV⟩;rw [hr] at hi;cases hi
   ·have mz:i<m:=Nat.lt_of_not_le fun hm=>mV (qK hc hI.sz hI.dc hi hm i0 (by omega))
    obtain ⟨o,ho,hn,ko⟩:=(dz hI.sz).1 hi;obtain ⟨uz,Lm,R,RI,eI,hs1,hs2⟩:=hp.at_ i o (dI i o mz ho);obtain ⟨d,R',hd,fH,qB⟩:=rW.2.2 i o (dI i o mz ho);rw [RI] at qB;cases qB;have jJ:∀ (j:Nat),eL o j=true->Ls listed j:=fun j hw=>by
     obtain ⟨e,he,hb,mU⟩:=cH hw;rw [<- mU];exact ko e he hb
    have B3:∀ (j t:Nat) (oj:Oper),j<i->(l.take m)[j]? = some oj->oj.dst=some t->t∈o.looksAt l.toArray->Ls listed j:=by
     intro j t oj hj iZ iF ht;obtain ⟨gm,kH⟩:=eZ j oj iZ;exact jJ j ((cO (lY hc hj mz kH ho) iF hd).2 (.inl ht))
    have hT:∀ t∈o.looksAt l.toArray,∀ v,cJ uz t=some v->a.tmps[t]? = some v:=by
     intro t ht v hv;rcases hs1 t v hv with ⟨j,oj,hj,iZ,iF,jA⟩ | ⟨vP,nn⟩
     ·obtain ⟨u,hu,nQ⟩:=hI.new j oj (eZ j oj iZ).2 (B3 j t oj hj iZ iF ht) t _ iF jA;rw [hu,show u=v from nQ]
     ·rw [hI.yF t fun j oj hj iG iF=>?_]
      ·exact h0 t v nn
      ·have gm:j<m:=Nat.lt_of_not_le fun hm=>hI.hi j hm iG
       rcases Nat.lt_trichotomy j i with h | h | h
       ·exact vP j oj h (dI j oj gm hj) iF
       ·subst h;exact hn iG
       ·have hw:=(cO (lY hc h gm ho hj) hd iF).2 (.inr ht);obtain ⟨e,he,hb,mU⟩:=cH hw;have:=hI.dc j oj hj iG e he hb;rw [mU] at this;exact hn this
    have sR:∀ t v,cJ uz t=some v->t<c.nt:=by
     intro t v hv;rcases hs1 t v hv with ⟨j,oj,_,iZ,iF,_⟩ | ⟨_,nn⟩
     ·obtain ⟨d',_,ug,vW,_⟩:=rW.2.2 j oj iZ;rw [iF] at ug;cases ug;exact vW
     ·have:=h0 t v nn;rw [<- Gm];exact (Array.getElem?_eq_some_iff.1 this).1
    obtain ⟨a',kK,iT,_⟩:=mW hI.size sR hT;have Q6:AK (o.looksAt l.toArray) Lm a' w:=by
     intro t Rt hm ht;rcases hs2 t Rt hm with ⟨j,oj,hj,iZ,iF,jA⟩ | aq
     ·obtain ⟨v,hv,nQ⟩:=hI.new j oj (eZ j oj iZ).2 (B3 j t oj hj iZ iF ht) t _ iF jA;exact ⟨v,by rw [iT t ht];exact hv,nQ⟩
     ·cases aq
    have hq:=eI a' w kK Q6 hI.mem.lA;have Ah:mu o=true:=hc.op o (List.mem_of_getElem? ho);have hex:=gR (o:=o) (ops:=l.toArray) Ah iT;rw [gn iT] at hq;have fT:∀ v w',aD [] w w'->R.p v w'->wpAnyIn (FR r) 0 P .any l.toArray Q fuel (listed.setIfInBounds i true) (a.put o.dst v) w':=fun v w' hk hv=>
     ih _ _ _ (BM hc hc.le hI hi mz ho hd fH RI (fun j oj hj iZ=>let ⟨e,_,he,_⟩:=rW.2.2 j oj (dI j oj hj iZ);⟨e,he⟩) hk hv)
    unfold wpOpIn;rw [show l.toArray[i]? = some o from by simpa using ho];simp only [];split
    ·rename_i hw;rw [if_pos hw] at hq;refine ⟨dO _ _ _ _ _,?_⟩;rw [Oper.semAt_eq _ _ _ (fun cc he=>by simp [mu,he] at Ah),<- hex]
     unfold xL at hq
     revert hq
     generalize (execOp a'.eval o).run P w=res;intro hq
     match res,hq with
     | .ok (.value v) w',⟨hk,hv⟩=>exact fT v w' hk hv
     | .ok (.enter f args) w', ⟨e, cn⟩ =>
      subst e;refine ⟨by simp [FR,Fence.wide],(gT cn).mono fun e uZ h=>?_⟩;obtain ⟨v,rfl,hk,hv⟩:=h;exact fT v uZ hk hv
    ·rename_i hw;rw [if_neg hw] at hq;exact ⟨fun _ _=>trivial,fT undef w (.refl _ _) hq⟩
theorem zu {id:Nat} (pf:P.follows .mixedOrders=true) (jk:yw l m=true) (hp:th P c hs l.toArray (l.take m) sl [] S jy kO)
  (tail:∀ a w,St c D jy hs a w->Eb kO a w->WL P r l.toArray Q (l.drop m) a w):Tr c D sl hs (WP P r (.region id l.toArray true) Q):=fun a w a7=>by
 unfold WP;refine wpIn_region_any pf ?_;refine Qu (vp jk) hp a7.cP a7.size tail l.toArray.size _ a _ ⟨by simp,?_,?_,?_,a7.defers,a7.size,fun t _=>rfl,?_,List.range l.length,List.nodup_range,?_,by simp⟩
 ·exact fun k o _ hL=>absurd hL (ei _ _)
 ·exact fun k _ hL=>ei _ _ hL
 ·exact a7.mem.drew
 ·exact fun j o _ hL=>absurd hL (ei _ _)
 ·exact fun i=>⟨fun h=>⟨by simpa using h,ei _ _⟩,fun h=>by simpa using h.1⟩
end
end Go.SL
namespace Go.SL
open Go
def leq:Value->Value->Option Bool
 | .int k a,.int k' b=>if k=k' then some (decide (a=b)) else none
 | .string a,.string b=>some (decide (a=b))
 | .bool a,.bool b=>some (a==b)
 | _,_=>none
def w9:List Value->List Value->Option Bool
 | [],[]=>some true
 | x :: xs, y :: ys => match leq x y, w9 xs ys with
  | some p,some q=>some (p&&q)
  | _,_=>none
 | _,_=>none
def IT:Option TypeDesc->Bool
 | some (.int _) | some .string | some .bool=>true
 | _=>false
section
variable {P:Program} {w:World}
theorem ES {d:Nat} {t:TypeId} {x y:Value} {b:Bool} (hl:IT (P.underlying t)=true) (hk:∀ k,P.underlying t=some (.int k)->∃ a,x=.int k a) (hs:P.underlying t=some .string->∃ a,x=.string a) (hb:P.underlying t=some .bool->∃ a,x=.bool a)
  (h:leq x y=some b):(Op.equalIn (d+1) t x y).run P w=.ok b w:=by
 cases hu:P.underlying t with
 | none=>rw [hu] at hl;cases hl
 | some D =>
  rw [hu] at hl;cases D with
  | int k =>
   obtain ⟨a,rfl⟩:=hk k hu;cases y <;> simp only [leq] at h <;> try cases h
   rename_i k' b';split at h
   ·rename_i e;subst e;cases h;rw [run_equalIn_int w d t k k a b' hu];congr 1
   ·cases h
  | string =>
   obtain ⟨a,rfl⟩:=hs hu;cases y <;> simp only [leq,Option.some.injEq] at h <;> try cases h
   rw [run_equalIn_string w d t a _ hu,uy]
  | bool =>
   obtain ⟨a,rfl⟩:=hb hu;cases y <;> simp only [leq,Option.some.injEq] at h <;> try cases h
   rw [run_equalIn_bool' w d t a _ hu]
  | _=>cases hl
end
def vH (D:Option TypeDesc) (x:Value):Bool:=
 match D,x with
 | some (.int k),.int k' _=>decide (k=k')
 | some .string,.string _=>true
 | some .bool,.bool _=>true
 | _,_=>false
def qC (P:Program) (g:TypeId->Option (List TypeId)) (acc:Option (List TypeId)) (f:Field):Option (List TypeId):=
 match acc,g f.type,P.info? f.type with
 | some a,some m,some i=>if f.offset=a.length/\f.name ≠ "_" /\ i.size=m.length then some (a++m) else none
 | _,_,_=>none
theorem qU (P:Program) (g:TypeId->Option (List TypeId)):∀ (fl:List Field),fl.foldl (qC P g) none=none
 | []=>rfl
 | f::fl=>by simp only [List.foldl_cons,qC];exact qU P g fl
theorem yU (P:Program) (g:TypeId->Option (List TypeId)):∀ (fl:List Field) (A ts:List TypeId),fl.foldl (qC P g) (some A)=some ts->∃ rest,ts=A++rest
 | [],A,ts,h=>⟨[],by simpa using h.symm⟩
 | f :: fl, A, ts, h => by
  simp only [List.foldl_cons] at h;cases hs:qC P g (some A) f with
  | none=>rw [hs,qU] at h;cases h
  | some B =>
   rw [hs] at h;obtain ⟨r,hr⟩:=yU P g fl B ts h;unfold qC at hs;split at hs
   ·rename_i a m i e1 _ _;cases e1;split at hs
    ·cases hs;exact ⟨m++r,by rw [hr];simp⟩
    ·cases hs
   ·cases hs
theorem DJ {P:Program} {g:TypeId->Option (List TypeId)} {a B:List TypeId} {f:Field} (hs:qC P g (some a) f=some B) :
  ∃ m i,g f.type=some m/\P.info? f.type=some i/\f.offset=a.length/\f.name ≠ "_" /\ i.size=m.length/\B=a++m:=by
 unfold qC at hs;split at hs
 ·rename_i a' m i e1 e2 e3;cases e1;split at hs
  ·rename_i h;cases hs;exact ⟨m,i,e2,e3,h.1,h.2.1,h.2.2,I⟩
  ·cases hs
 ·cases hs
theorem Ar:∀ {xs ys:List Value} {b:Bool},w9 xs ys=some b->xs.length=ys.length
 | [],[],_,_=>rfl
 | [],_::_,_,h=>by simp [w9] at h
 | _::_,[],_,h=>by simp [w9] at h
 | x :: xs, y :: ys, b, h => by
  simp only [w9] at h;split at h
  ·rename_i p q hp hq;simp [Ar hq]
  ·cases h
def kR (P:Program):Nat->TypeId->Option (List TypeId)
 | 0,_=>none
 | d + 1, t =>
  match P.underlying t with
  | some (.int _) | some .string | some .bool=>some [t]
  | some (.struct fs) =>
   if P.stoodInHeld t then none else
   fs.toList.foldl (qC P (kR P d)) (some [])
  | some (.array n e) => match kR P d e, P.info? e with
   | some m,some i=>if i.size=m.length then some ((List.replicate n m).flatten) else none
   | _,_=>none
  | _=>none
def sJ (P:Program):List TypeId->List Value->Bool
 | [],[]=>true
 | t::ts,x::xs=>vH (P.underlying t) x&&sJ P ts xs
 | _,_=>false
section
variable {P:Program}
theorem nA:∀ {ts:List TypeId} {xs:List Value},sJ P ts xs=true->xs.length=ts.length
 | [],[],_=>rfl
 | [],_::_,h=>by cases h
 | _::_,[],h=>by cases h
 | t :: ts, x :: xs, h => by
  simp only [sJ,Bool.and_eq_true] at h;simp [nA h.2]
theorem nB:∀ {ts us:List TypeId} {xs:List Value},sJ P (ts++us) xs=true->sJ P ts (xs.take ts.length)=true/\sJ P us (xs.drop ts.length)=true
 | [],us,xs,h=>by simpa [sJ] using h
 | t::ts,us,[],h=>by simp [sJ] at h
 | t :: ts, us, x :: xs, h => by
  simp only [Zb,sJ,Bool.and_eq_true] at h;have:=nB h.2;simp [sJ,h.1,this]
theorem qX:∀ {n:Nat} {xs ys:List Value} {b:Bool},n<=xs.length->w9 xs ys=some b->∃ p q,w9 (xs.take n) (ys.take n)=some p/\w9 (xs.drop n) (ys.drop n)=some q/\b=(p&&q)
 | 0,xs,ys,b,_,h=>⟨true,b,by simp [w9],by simpa using h,by simp⟩
 | n+1,[],ys,b,hn,h=>by simp at hn
 | n+1,x::xs,[],b,_,h=>by simp [w9] at h
 | n + 1, x :: xs, y :: ys, b, hn, h => by
  simp only [w9] at h;split at h
  ·rename_i p q hp hq;cases h;obtain ⟨p',q',h1,h2,e⟩:=qX (n:=n) (by simpa using hn) hq;exact ⟨p&&p',q',by simp [w9,hp,h1],by simpa using h2,by rw [e,Bool.and_assoc]⟩
  ·cases h
theorem tD {d:Nat} {t:TypeId} {m:List TypeId} (h:kR P d t=some m):∃ D,P.underlying t=some D/\(kF D=false->m.length=1):=by
 cases d with
 | zero=>cases h
 | succ d =>
  unfold kR at h;cases hu:P.underlying t with
  | none=>rw [hu] at h;cases h
  | some D =>
   refine ⟨D,I,fun hD=>?_⟩;rw [hu] at h;cases D with
   | int k=>cases h;rfl
   | string=>cases h;rfl
   | bool=>cases h;rfl
   | struct fs=>cases hD
   | array n e=>cases hD
   | _=>cases h
theorem uH {t:TypeId} {D:TypeDesc} {i:TypeInfo} {n o:Nat} {zs:List Value} {w:World} (hu:P.underlying t=some D) (hi:P.info? t=some i) (hn:i.size=n) (h1:kF D=false->n=1) (hz:o+n<=zs.length) :
  ∃ v,(part t zs.toArray o).run P w=.ok v w/\(kF D=true->v=.agg ((zs.drop o).take n).toArray)/\(kF D=false->(zs.drop o).take n=[v]):=by
 have hag:(isAgg t).run P w=.ok (kF D) w:=by
  unfold isAgg;rw [Sem.run_bind,aU hu,Result.andThen_ok];cases D <;> rfl
 unfold part;rw [Sem.run_bind,hag,Result.andThen_ok];cases hD:kF D with
 | true =>
  refine ⟨.agg (zs.toArray.extract o (o+n)),by simp [sizeOf,fS hi,hn],fun _=>?_,fun h=>by cases h⟩;congr 1;simp [List.extract_eq_take_drop]
 | false =>
  have e:=h1 hD;subst e;refine ⟨zs[o]'(by omega),by simp [show o<zs.length from by omega],fun h=>(by cases h),fun _=>?_⟩;rw [List.drop_eq_getElem_cons (by omega),List.take_succ_cons,Ze]
theorem Ds (d k:Nat):∀ (t:TypeId) (ts:List TypeId),kR P d t=some ts->∀ (xs ys:List Value) (b:Bool) (w:World),sJ P ts xs=true->w9 xs ys=some b ->
  ∀ x y,(kF ((P.underlying t).getD .bool)=true->x=.agg xs.toArray/\y=.agg ys.toArray)->(kF ((P.underlying t).getD .bool)=false->xs=[x]/\ys=[y])->(Op.equalIn (d+k) t x y).run P w=.ok b w:=by
 induction d with
 | zero=>intro t ts h;cases h
 | succ d ih =>
  intro t ts h xs ys b w dU heq x y h1 h2;rw [show d+1+k=(d+k)+1 from by omega];have JV:∀ (hl:IT (P.underlying t)=true) (TR:ts=[t]) (Zl:kF ((P.underlying t).getD .bool)=false),(Op.equalIn (d+k+1) t x y).run P w=.ok b w:=by
   intro hl TR Zl;obtain ⟨rfl,rfl⟩:=h2 Zl;subst TR;simp only [sJ,Bool.and_true] at dU;have hq:leq x y=some b:=by
    simp only [w9] at heq;split at heq
    ·rename_i p q hp tJ;cases tJ;cases heq;simpa using hp
    ·cases heq
   refine ES hl (fun kk hu=>?_) (fun hu=>?_) (fun hu=>?_) hq <;> rw [hu] at dU <;> cases x <;> simp_all [vH]
  unfold kR at h;split at h
  ·rename_i kk hu;exact JV (by rw [hu];rfl) (Option.some.inj h).symm (by rw [hu];rfl)
  ·rename_i hu;exact JV (by rw [hu];rfl) (Option.some.inj h).symm (by rw [hu];rfl)
  ·rename_i hu;exact JV (by rw [hu];rfl) (Option.some.inj h).symm (by rw [hu];rfl)
  ·rename_i fs hu;split at h
   ·cases h
   ·rename_i a7;obtain ⟨rfl,rfl⟩:=h1 (by rw [hu];rfl);have hf:P.fieldsOf t=fs:=by simp [Program.fieldsOf,hu]
    rw [run_equalIn_struct w (d+k) t _ _ (by rw [hf];exact hu) (by simpa using a7),hf]
    -- yf fields,one after yf other
    have key:∀ (fl:List Field) (acc:List TypeId),fl.foldl (qC P (kR P d)) (some acc)=some ts->∀ c,w9 (xs.drop acc.length) (ys.drop acc.length)=some c->acc.length<=xs.length->(Op.eqFields (d+k) xs.toArray ys.toArray fl).run P w=.ok c w:=by
     intro fl
     induction fl with
     | nil =>
      intro acc ha c hc _;simp only [List.foldl_nil,Option.some.injEq] at ha;have hlen:=nA dU;rw [ha,<- hlen,List.drop_length] at hc;have:c=true:=by
       cases hy:ys.drop xs.length with
       | nil=>rw [hy] at hc;simpa [w9] using hc.symm
       | cons=>rw [hy] at hc;simp [w9] at hc
      simp [Op.eqFields,this]
     | cons f fl ihf =>
      intro acc ha c hc hle;simp only [List.foldl_cons] at ha;cases hB:qC P (kR P d) (some acc) f with
      | none=>rw [hB,qU] at ha;cases ha
      | some B =>
       rw [hB] at ha;obtain ⟨m,i,hm,hi,ho,hn,hsz,rfl⟩:=DJ hB
       -- ts=acc++m++..
       have j5:∃ rest,ts=acc++m++rest:=yU P _ fl _ _ ha;obtain ⟨rest,TR⟩:=j5;have hlen:=nA dU;have Xs:sJ P m ((xs.drop acc.length).take m.length)=true:=by
        rw [TR,Zh] at dU;exact (nB (nB dU).2).1
       have VR:acc.length+m.length<=xs.length:=by rw [hlen,TR];simp
       obtain ⟨p,q,hp,hq,rfl⟩:=qX (n:=m.length) (by simp;omega) hc;have hly:acc.length+m.length<=ys.length:=by have:=Ar heq;omega
       obtain ⟨Df,Nn,ir⟩:=tD hm;obtain ⟨vx,rx,ax,bx⟩:=uH (w:=w) Nn hi hsz ir VR;obtain ⟨vy,ry,ay,YL⟩:=uH (w:=w) Nn hi hsz ir hly;rw [<- ho] at rx ry;have hr:=ih f.type m hm _ _ p w Xs hp vx vy (by rw [Nn];exact fun hA=>⟨ax hA,ay hA⟩) (by rw [Nn];exact fun hA=>⟨bx hA,YL hA⟩)
       have T4:=ihf (acc++m) ha q (by simpa [List.drop_drop] using hq) (by simp;omega);simp only [Op.eqFields,ne_eq,hn,not_false_eq_true,if_true,Sem.run_bind,rx,Result.andThen_ok,ry,hr];cases p
       ·simp
       ·simpa using T4
    exact key fs.toList [] h b (by simpa using heq) (by simp)
  ·rename_i n e hu;split at h
   ·rename_i m i hm hi;split at h
    ·rename_i hsz;obtain ⟨rfl,rfl⟩:=h1 (by rw [hu];rfl);simp only [Option.some.injEq] at h;subst h;have hlen:=nA dU;have Xz:xs.length=ys.length:=Ar heq;have hL:xs.length=n*m.length:=by rw [hlen];simp
     have W1:(sizeOf e).run P w=.ok m.length w:=by simp [sizeOf,fS hi,hsz]
     obtain ⟨De,Nn,ir⟩:=tD hm
     have XY:∀ (c j:Nat) (p:Bool),j+c=n->w9 (xs.drop (j*m.length)) (ys.drop (j*m.length))=some p->sJ P ((List.replicate c m).flatten) (xs.drop (j*m.length))=true ->
       ((forIn (List.range' j c) ((none, ()) : Option Bool × Unit) fun i r => (do
        let a <- part e xs.toArray (i*m.length)
        let b <- part e ys.toArray (i*m.length)
        let r' <- Op.equalIn (d+k) e a b
        if (!r')=true then pure (ForInStep.done (some false,())) else pure (ForInStep.yield (none,()))):Sem (Option Bool×Unit)).run P w)=.ok (bif p then none else some false,()) w:=by
      intro c
      induction c with
      | zero =>
       intro j p hj hp _;have hz:xs.drop (j*m.length)=[]:=by apply List.drop_of_length_le;rw [hL,show j=n from by omega];exact Nat.le_refl _
       have I0:ys.drop (j*m.length)=[]:=by apply List.drop_of_length_le;rw [<- Xz,hL,show j=n from by omega];exact Nat.le_refl _
       rw [hz,I0] at hp;simp only [w9,Option.some.injEq] at hp;subst hp;simp
      | succ c ihc =>
       intro j p hj hp Ue;have tR:j*m.length+m.length<=xs.length:=by
        rw [hL,<- Nat.succ_mul];exact Nat.mul_le_mul_right _ (by omega)
       obtain ⟨vx,rx,ax,bx⟩:=uH (w:=w) Nn hi hsz ir tR;obtain ⟨vy,ry,ay,YL⟩:=uH (w:=w) Nn hi hsz ir (show j*m.length+m.length<=ys.length by omega);obtain ⟨p1,p2,AN,Nu,rfl⟩:=qX (n:=m.length) (by simp;omega) hp;rw [List.replicate_succ,List.flatten_cons] at Ue;have ho:=nB Ue;have hr:=ih e m hm _ _ p1 w ho.1 AN vx vy (by rw [Nn];exact fun hA=>⟨ax hA,ay hA⟩) (by rw [Nn];exact fun hA=>⟨bx hA,YL hA⟩)
       simp only [List.range'_succ,List.forIn_cons,Sem.run_bind,rx,ry,hr,Result.andThen_ok];cases p1
       ·simp
       ·have fT:=ihc (j+1) p2 (by omega) (by rw [Nat.succ_mul,<- List.drop_drop,<- List.drop_drop];exact Nu) (by rw [Nat.succ_mul,<- List.drop_drop];exact ho.2);simp only [Bool.not_true,Bool.false_eq_true,if_false,Sem.run_pure,Result.andThen_ok,Bool.true_and];exact fT
     have hf:=XY n 0 b (by omega) (by simpa using heq) (by simpa using dU);simp only [Op.equalIn,Sem.run_bind,aU hu,Result.andThen_ok,W1];rw [Std.Legacy.Range.forIn_eq_forIn_range'];simp only [Std.Legacy.Range.size,Nat.sub_zero,Nat.add_sub_cancel,Nat.div_one];rw [hf];cases b <;> simp
    ·cases h
   ·cases h
  ·cases h
class AL (P:Program) (t:TypeId) (ts:outParam (List TypeId)):Prop where
 eq:kR P 20 t=some ts
 agg:kF ((P.underlying t).getD .bool)=true
 guard:P.eqGuardType P.depth t=false
variable {c:Cx} {sl:aI} {hs:List a8} {dst:Option Tmp} {ty:TypeId} {pos:String} {af:Array Edge} {g:Option (Nat×Bool)}
theorem rC {t:TypeId} {ts:List TypeId} [h:AL P t ts] {xs ys:List Value} {b:Bool} (dU:sJ P ts xs=true) (heq:w9 xs ys=some b) (w:World):(Op.equalIn 10000 t (.agg xs.toArray) (.agg ys.toArray)).run P w=.ok b w:=
 Ds 20 9980 t ts h.eq xs ys b w dU heq _ _ (fun _=>⟨I,I⟩) (fun hn=>by rw [h.agg] at hn;cases hn)
theorem uD {t u:TypeId} {ts:List TypeId} [h:AL P t ts] {x y:Operand} {xs ys:List Value} {b:Bool} (hx:Is sl x (.agg xs.toArray)) (hy:Is sl y (.agg ys.toArray)) (dU:sJ P ts xs=true) (heq:w9 xs ys=some b) :
  cQ P c sl hs ⟨dst,.binOp .eql t x y u,ty,pos,af,g⟩ (.bool b):=
 iW hx hy fun w=>by
  rw [Sem.run_bind,run_eqGuard_agg w _ _ _ _ _ _ h.guard,Result.andThen_ok,run_eql_struct,rC dU heq];rfl
theorem uB {t u:TypeId} {ts:List TypeId} [h:AL P t ts] {x y:Operand} {xs ys:List Value} {b:Bool} (hx:Is sl x (.agg xs.toArray)) (hy:Is sl y (.agg ys.toArray)) (dU:sJ P ts xs=true) (heq:w9 xs ys=some b) :
  cQ P c sl hs ⟨dst,.binOp .neq t x y u,ty,pos,af,g⟩ (.bool (!b)):=
 iW hx hy fun w=>by
  rw [Sem.run_bind,run_eqGuard_agg w _ _ _ _ _ _ h.guard,Result.andThen_ok,run_neq_struct,rC dU heq];rfl
theorem lZ:sJ P [] []=true:=rfl
theorem ka {t:TypeId} {k:IntKind} {ts:List TypeId} {n:Int} {xs:List Value} [h:iU P t (.int k)] (hr:sJ P ts xs=true):sJ P (t::ts) (.int k n::xs)=true:=by
 simp [sJ,vH,h.eq,hr]
theorem fB {t:TypeId} {ts:List TypeId} {s:ByteArray} {xs:List Value} [h:iU P t .string] (hr:sJ P ts xs=true):sJ P (t::ts) (.string s::xs)=true:=by
 simp [sJ,vH,h.eq,hr]
theorem Iw {t:TypeId} {ts:List TypeId} {b:Bool} {xs:List Value} [h:iU P t .bool] (hr:sJ P ts xs=true):sJ P (t::ts) (.bool b::xs)=true:=by
 simp [sJ,vH,h.eq,hr]
end
end Go.SL
namespace Go.SL
open Go
def ev (sl:aI):Operand->Option Value
 | .tmp t=>cJ sl t
 | .const v=>some v
 | .global g=>some (.pointer (some ⟨g,0,none⟩))
 | .func f=>some (.func (.func f) #[] #[])
theorem Is.of {sl:aI} {x:Operand} {v:Value} (h:ev sl x=some v):Is sl x v:=fun a ha=>by
 cases x with
 | tmp t=>exact ha.eval h
 | const u=>exact Option.some.inj h
 | global g=>exact Option.some.inj h
 | func f=>exact Option.some.inj h
theorem Is.bL {sl:aI} {x:Operand} {c:Bool} {v:Value} (hc:c=true) (h:ev sl x=some (SL.gv c v)):Is sl x v:=(uS hc (v:=v)) ▸ Is.of h
class PO (P:Program):Prop where
 eq:P.follows .mixedOrders=true
section
variable {P:Program} {r:Option Nat} {c:Cx} {D:List Nat} {sl:aI} {rl:eT} {hs hs':List a8} {Q:Exit->Act->World->Prop} {ops:Array Oper} {m d:Nat} {dst:Option Tmp} {op:Op} {ty:TypeId} {pos:String} {af:Array Edge} {g:Option (Nat×Bool)} {rest:List Oper}
def k6 (P:Program) (r:Option Nat) (c:Cx) (D:List Nat) (hs:List a8) (ops:Array Oper) (Q:Exit->Act->World->Prop) (m:Nat) (l:List Oper) (sl:aI) (rl:eT):Prop:=
 ∃ S jy kO,th P c hs ops (l.take m) sl rl S jy kO/\∀ a w,St c D jy hs a w->Eb kO a w->WL P r ops Q (l.drop m) a w
theorem cW {id:Nat} {l:List Oper} (m:Nat) [pf:PO P] (jk:yw l m=true) (k:k6 P r c D hs l.toArray Q m l sl []):Tr c D sl hs (WP P r (.region id l.toArray true) Q):=by
 obtain ⟨S,jy,kO,hp,ht⟩:=k;exact zu pf.eq jk hp ht
theorem cZ {l:List Oper} (k:Tr c D sl hs (WL P r ops Q l)):k6 P r c D hs ops Q 0 l sl rl:=
 ⟨[],sl,rl,.nil,fun a w a7 _=>k a w a7⟩
theorem qf {o:Oper} {V:Value} (ho:o.dst=some d) (hd:Nat.blt d c.nt=true) (h:tY P c hs ops sl rl o (.val V)) (k:k6 P r c D hs ops Q m rest ((d,V)::sl) rl):k6 P r c D hs ops Q (m+1) (o::rest) sl rl:=by
 obtain ⟨S,jy,kO,hp,ht⟩:=k;exact ⟨_,_,_,.val ho (by simpa [Nat.blt_eq] using hd) h hp,ht⟩
theorem oF {o:Oper} {R:Rel} (hg:o.guard=none) (h:∀ a w,bS sl a->AK (o.looksAt ops) rl a w->Mem c hs w->xL P o a w R):tY P c hs ops sl rl o R:=fun a w h1 h2 h3=>by
 rw [if_pos (by simp [Region.wanted,hg])];exact h a w h1 h2 h3
theorem rF {o:Oper} {V:Value} (hr:cQ P c sl hs o V) {a:Act} {w:World} (h1:bS sl a) (h3:Mem c hs w):xL P o a w (.val V):=by
 unfold xL;rw [hr.2 a w h1 h3];exact ⟨.refl _ _,I⟩
theorem sG {o:Oper} {f:FuncId} {args:List Value} {V:Value} (hr:lR P sl o f args) {a:Act} {w:World} (h1:bS sl a) (hc:aj P f args w V):xL P o a w (.val V):=by
 unfold xL;rw [hr.2 a w h1];exact ⟨I,hc.mono fun e w' ⟨he,hk⟩=>⟨V,he,hk,I⟩⟩
theorem aA {V:Value} (hr:cQ P c sl hs ⟨some d,op,ty,pos,af,none⟩ V) (hd:Nat.blt d c.nt=true) (k:k6 P r c D hs ops Q m rest ((d,V)::sl) rl) :
  k6 P r c D hs ops Q (m+1) (⟨some d,op,ty,pos,af,none⟩::rest) sl rl:=
 qf I hd (oF I fun _ _ h1 _ h3=>rF hr h1 h3) k
theorem c6 {f:FuncId} {args:List Value} {V:Value} (hr:lR P sl ⟨some d,op,ty,pos,af,none⟩ f args) (hd:Nat.blt d c.nt=true) (hc:∀ w,Mem c hs w->aj P f args w V) (k:k6 P r c D hs ops Q m rest ((d,V)::sl) rl) :
  k6 P r c D hs ops Q (m+1) (⟨some d,op,ty,pos,af,none⟩::rest) sl rl:=
 qf I hd (oF I fun _ w h1 _ h3=>sG hr h1 (hc w h3)) k
theorem oG {o:Oper} {V:Value} {j gs:Nat} {want c0 q:Bool} (hg:o.guard=some (j,want)) (hj:((ops[j]?).bind (·.dst))=some gs) (hq:cJ sl gs=some (gv c0 (.bool q)))
  (h:(c0&&(q==want))=true->∀ a w,bS sl a->Mem c hs w->xL P o a w (.val V)):tY P c hs ops sl rl o (.val (gv (c0&&(q==want)) V)):=fun a w h1 _ h3=>by
 rw [k7 hg hj h1 hq];by_cases hc:(c0&&(q==want))=true
 ·rw [if_pos hc,uS hc];exact h hc a w h1 h3
 ·rw [if_neg hc,wh (by simpa using hc)]
  rfl
theorem Co {V:Value} {j gs:Nat} {want c0 q:Bool} (hj:((ops[j]?).bind (·.dst))=some gs) (hq:cJ sl gs=some (gv c0 (.bool q)))
  (hr:(c0&&(q==want))=true->cQ P c sl hs ⟨some d,op,ty,pos,af,some (j,want)⟩ V) (hd:Nat.blt d c.nt=true) (k:k6 P r c D hs ops Q m rest ((d,gv (c0&&(q==want)) V)::sl) rl) :
  k6 P r c D hs ops Q (m+1) (⟨some d,op,ty,pos,af,some (j,want)⟩::rest) sl rl:=
 qf I hd (oG I hj hq fun hc _ _ h1 h3=>rF (hr hc) h1 h3) k
theorem GO {V:Value} {j gs:Nat} {want q:Bool} (hj:((ops[j]?).bind (·.dst))=some gs) (hq:cJ sl gs=some (.bool q))
  (hr:(q==want)=true->cQ P c sl hs ⟨some d,op,ty,pos,af,some (j,want)⟩ V) (hd:Nat.blt d c.nt=true) (k:k6 P r c D hs ops Q m rest ((d,gv (q==want) V)::sl) rl) :
  k6 P r c D hs ops Q (m+1) (⟨some d,op,ty,pos,af,some (j,want)⟩::rest) sl rl:=
 Co (c0:=true) hj (by rw [hq];rfl) (by simpa using hr) hd (by simpa using k)
theorem tg {f:FuncId} {args:List Value} {V:Value} {j gs:Nat} {want c0 q:Bool} (hj:((ops[j]?).bind (·.dst))=some gs) (hq:cJ sl gs=some (gv c0 (.bool q)))
  (hr:(c0&&(q==want))=true->lR P sl ⟨some d,op,ty,pos,af,some (j,want)⟩ f args) (hd:Nat.blt d c.nt=true) (hc:(c0&&(q==want))=true->∀ w,Mem c hs w->aj P f args w V) (k:k6 P r c D hs ops Q m rest ((d,gv (c0&&(q==want)) V)::sl) rl) :
  k6 P r c D hs ops Q (m+1) (⟨some d,op,ty,pos,af,some (j,want)⟩::rest) sl rl:=
 qf I hd (oG I hj hq fun h _ w h1 h3=>sG (hr h) h1 (hc h w h3)) k
theorem wK {f:FuncId} {args:List Value} {V:Value} {j gs:Nat} {want q:Bool} (hj:((ops[j]?).bind (·.dst))=some gs) (hq:cJ sl gs=some (.bool q))
  (hr:(q==want)=true->lR P sl ⟨some d,op,ty,pos,af,some (j,want)⟩ f args) (hd:Nat.blt d c.nt=true) (hc:(q==want)=true->∀ w,Mem c hs w->aj P f args w V) (k:k6 P r c D hs ops Q m rest ((d,gv (q==want) V)::sl) rl) :
  k6 P r c D hs ops Q (m+1) (⟨some d,op,ty,pos,af,some (j,want)⟩::rest) sl rl:=
 tg (c0:=true) hj (by rw [hq];rfl) (by simpa using hr) hd (by simpa using hc) (by simpa using k)
theorem xZ {f:FuncId} {args:List Value} {V:Value} {j gs:Nat} {want c0 q:Bool} (hj:((ops[j]?).bind (·.dst))=some gs) (hq:cJ sl gs=some (gv c0 (.bool q)))
  (hr:(c0&&(q==want))=true->lR P sl ⟨some d,op,ty,pos,af,some (j,want)⟩ f args) (hd:Nat.blt d c.nt=true) (hc:(c0&&(q==want))=true->∀ w,Mem c hs w->aj P f args w V)
  (k:Tr c D ((d,gv (c0&&(q==want)) V)::sl) hs (WL P r ops Q rest)):Tr c D sl hs (WL P r ops Q (⟨some d,op,ty,pos,af,some (j,want)⟩::rest)):=fun a w a7=>by
 unfold WL;rw [k7 I hj a7.cP hq];by_cases h:(c0&&(q==want))=true
 ·rw [if_pos h];rw [uS h] at k;refine ⟨dO _ _ _ _ _,?_⟩;rw [Oper.semAt_eq _ _ _ (hr h).1,(hr h).2 a w a7.cP];exact ⟨by simp [FR,Fence.wide],(gT (hc h w a7.qP)).mono fun e w' ⟨he,hk⟩=>by
   subst he;exact k _ _ ((a7.put (by simpa [Nat.blt_eq] using hd) V).heap (a7.mem.rN hk))⟩
 ·rw [if_neg h];rw [wh (by simpa using h)] at k;exact k _ _ (a7.put (by simpa [Nat.blt_eq] using hd) undef)
theorem gJ {f:FuncId} {args:List Value} {V:Value} {j gs:Nat} {want q:Bool} (hj:((ops[j]?).bind (·.dst))=some gs) (hq:cJ sl gs=some (.bool q))
  (hr:(q==want)=true->lR P sl ⟨some d,op,ty,pos,af,some (j,want)⟩ f args) (hd:Nat.blt d c.nt=true) (hc:(q==want)=true->∀ w,Mem c hs w->aj P f args w V)
  (k:Tr c D ((d,gv (q==want) V)::sl) hs (WL P r ops Q rest)):Tr c D sl hs (WL P r ops Q (⟨some d,op,ty,pos,af,some (j,want)⟩::rest)):=
 xZ (c0:=true) hj (by rw [hq];rfl) (by simpa using hr) hd (by simpa using hc) (by simpa using k)
def C4 (V:Nat->Value) (ob:Obj):Rel:=⟨fun v w=>∃ b,v=V b/\w.heap[b]? = some ob,fun ⟨b,e,h⟩ hk=>⟨b,e,by rw [hk.block b (ki h) (by simp)];exact h⟩⟩
theorem Bp {fn:Func} {t:Tmp} (h:fn.results=#[.tmp t]) {sl:aI} {v:Value} (hv:cJ sl t=some v) {a:Act} (ha:bS sl a) (w:World):(results fn a.tmps).run P w=.ok v w:=by
 have:=ha t v hv;simp [results,h,Array.getD_eq_getD_getElem?,this]
theorem Bo {fn:Func} {t u:Tmp} (h:fn.results=#[.tmp t,.tmp u]) {sl:aI} {v x:Value} (hv:cJ sl t=some v) (hx:cJ sl u=some x) {a:Act} (ha:bS sl a) (w:World):(results fn a.tmps).run P w=.ok (.tuple #[v,x]) w:=by
 have h1:=ha t v hv;have h2:=ha u x hx;simp [results,h,Array.getD_eq_getD_getElem?,h1,h2]
theorem Bq {fn:Func} (h:fn.results=#[]) {a:Act} (w:World):(results fn a.tmps).run P w=.ok (.tuple #[]) w:=by
 simp [results,h]
def Ends (P:Program) (fn:Func) (c:Cx) (sl:aI) (hs:List a8) (v:Value):Prop:=∀ a w,bS sl a->Mem c hs w->(results fn a.tmps).run P w=.ok v w
theorem dJ {fn:Func} {t:Tmp} {v:Value} (h:fn.results=#[.tmp t]) (hv:cJ sl t=some v):Ends P fn c sl hs v:=fun _ w ha _=>Bp h hv ha w
theorem fW {fn:Func} {t u:Tmp} {v x:Value} (h:fn.results=#[.tmp t,.tmp u]) (hv:cJ sl t=some v) (hx:cJ sl u=some x):Ends P fn c sl hs (.tuple #[v,x]):=fun _ w ha _=>Bo h hv hx ha w
theorem qD {fn:Func} (h:fn.results=#[]):Ends P fn c sl hs (.tuple #[]):=fun _ w _ _=>Bq h w
theorem RX {fn:Func} {t:Tmp} {T:TypeId} {b o n:Nat} {v:Value} [Ty P T false n] (h:fn.results=#[.cell t T]) (hp:cJ sl t=some (.pointer (some ⟨b,o,none⟩))) (hv:At c hs b o v):Ends P fn c sl hs v:=fun a w ha hm=>by
 have h1:=ha t _ hp;simp [results,h,Array.getD_eq_getD_getElem?,h1,asAddr,tt (hv w hm)]
theorem NY {fn:Func} {t:Tmp} {T:TypeId} {b o n:Nat} {vs:List Value} [Ty P T true n] (h:fn.results=#[.cell t T]) (hp:cJ sl t=some (.pointer (some ⟨b,o,none⟩))) (hv:eU c hs b o vs) (hl:vs.length=n):Ends P fn c sl hs (.agg vs.toArray):=fun a w ha hm=>by
 have h1:=ha t _ hp;simp [results,h,Array.getD_eq_getD_getElem?,h1,asAddr,oL hl (fun j v h=>hv.get j v h w hm)]
def PR (P:Program) (c:Cx) (hs:List a8) (T:TypeId) (b o:Nat) (v:Value):Prop:=∀ w,Mem c hs w->(loadVar T ⟨b,o,none⟩).run P w=.ok v w
theorem IJ {T:TypeId} {b o n:Nat} {vs:List Value} [Ty P T true n] (hv:eU c hs b o vs) (hl:vs.length=n):PR P c hs T b o (.agg vs.toArray):=fun w hm=>oL hl (fun j v h=>hv.get j v h w hm)
inductive RV (P:Program) (c:Cx) (sl:aI) (hs:List a8):ResultVar->Value->Prop
 | tmp {t:Tmp} {v:Value} (h:cJ sl t=some v):RV P c sl hs (.tmp t) v
 | cell {t:Tmp} {T:TypeId} {b o:Nat} {v:Value} (h:cJ sl t=some (.pointer (some ⟨b,o,none⟩))) (hl:PR P c hs T b o v):RV P c sl hs (.cell t T) v
inductive G4 (P:Program) (c:Cx) (sl:aI) (hs:List a8):List ResultVar->List Value->Prop
 | nil:G4 P c sl hs [] []
 | cons {x:ResultVar} {xs:List ResultVar} {v:Value} {vs:List Value} (h:RV P c sl hs x v) (t:G4 P c sl hs xs vs):G4 P c sl hs (x::xs) (v::vs)
def Bl (tmps:Array Value):ResultVar->Sem Value
 | .tmp t=>pure (tmps.getD t undef)
 | .cell a t=>do loadVar t (<- asAddr (tmps.getD a undef))
theorem Mw {xs:List ResultVar} {vs:List Value} (h:G4 P c sl hs xs vs) {a:Act} {w:World} (ha:bS sl a) (hm:Mem c hs w):(xs.mapM (Bl a.tmps)).run P w=.ok vs w:=by
 induction h with
 | nil=>simp
 | cons h _ ih =>
  cases h with
  | tmp h=>simp [Bl,Array.getD_eq_getD_getElem?,ha _ _ h,ih]
  | cell h hl=>simp [Bl,Array.getD_eq_getD_getElem?,ha _ _ h,asAddr,hl w hm,ih]
theorem PA {fn:Func} {xs:List ResultVar} {vs:List Value} (hx:fn.results=xs.toArray) (h:G4 P c sl hs xs vs) (hl:vs.length≠1):Ends P fn c sl hs (.tuple vs.toArray):=fun a w ha hm=>by
 have:=Mw h ha hm;have h2:(Array.mapM (Bl a.tmps) xs.toArray).run P w=.ok vs.toArray w:=by
  rw [List.mapM_toArray];simp [this]
 unfold results;rw [hx];change Sem.run P (Array.mapM (Bl a.tmps) xs.toArray >>= fun vs=>pure (if h:vs.size=1 then vs[0] else Value.tuple vs)) w=_
 rw [Sem.run_bind,h2,Result.andThen_ok,Sem.run_pure];rw [dif_neg (by simpa using hl)]
theorem L6 {fn:Func} {v:Value} (Gn:c.md=[]) (he:Ends P fn c sl hs v) :
  Tr c [] sl hs (bodyPostM (FR r) 0 P fn (fun e w'=>e=.returned v/\aD [] c.w0 w') .ret):=fun a w a7=>by
 have hm:=a7.qP;show LeavesInM (FR r) 0 P fn a.tmps _ a.defers .returning w;rw [a7.defers];exact ⟨v,he a w a7.cP hm,I,by rw [<- Gn];exact hm.keeps⟩
theorem pG {fn:Func} {v v':Value} (Gn:c.md=[]) (he:Ends P fn c sl hs v') (hv:v'=v) :
  Tr c [] sl hs (bodyPostM (FR r) 0 P fn (fun e w'=>e=.returned v/\aD [] c.w0 w') .ret):=hv ▸ L6 Gn he
theorem rM {fn:Func} {v:Value} {R:Ending->World->Prop}:∀ (D:List Nat) (w:World) (a:Act),a.defers=D.map mark->bS sl a->Mem c (hs++mC D) w->Ends P fn c sl hs v ->
  (∀ w',Mem c hs w'->R (.returned v) w')->LeavesInM (FR r) 0 P fn a.tmps R (D.map mark) .returning w
 | [],w,a,_,ha,hm,he,hR=>⟨v,he a w ha (by simpa [mC] using hm),hR w (by simpa [mC] using hm)⟩
 | b :: D, w, a, _, ha, hm, he, hR => by
  have dI:Take (hs++mC (b::D)) (bC b (.deferred (some []))) (hs++mC D):=by
   clear hm he hR
   induction hs with
   | nil=>exact .here
   | cons A hs ih=>exact .there ih
  have k9:=hm.take dI;have hb:w.heap[b]? = some (.deferred (some [])):=k9.bC .here;refine ⟨by simp,.inl ⟨b,w.putObj b (.deferred none),I,run_takeDeferred hb,?_⟩⟩;have hk:aD [b] w (w.putObj b (.deferred none)):=⟨I,I,I,Nat.le_refl _,by simp,fun k _ hn=>World.putObj_heap_other (by simpa using hn)⟩
  have VP:Mem c (hs++mC D) (w.putObj b (.deferred none)):=(Mem.store k9 hk (World.putObj_heap_same (ki (w:=w) hb))).wo;exact rM D _ { a with defers:=D.map mark } I ha VP he hR
theorem aN {fn:Func} {v:Value} {R:Ending->World->Prop} (he:Ends P fn c sl hs v) (hR:∀ w',Mem c hs w'->R (.returned v) w') :
  Tr c D sl hs (bodyPostM (FR r) 0 P fn R .ret):=fun a w a7=>by
 show LeavesInM (FR r) 0 P fn a.tmps R a.defers .returning w;rw [a7.defers];exact rM D w a a7.defers a7.cP a7.mem he hR
theorem aO {fn:Func} {v:Value} {R:Ending->World->Prop} (he:Ends P fn c sl hs v) (hR:∀ w',Mem c hs w'->R (.returned v) w') :
  Tr c D sl hs (bodyPostM (FR r) 0 P fn R .normal):=aN (r:=r) he hR
theorem ah {f:FuncId} {fn:Func} {code:Code} {args:List Value} {w:World} {V:Value} (hf:P.funcs[f]? = some fn) (hb:fn.body=some code) (hl:Nat.ble args.length fn.ntmps=true)
  (h:Tr ⟨w,[],fn.ntmps⟩ [] (jO 0 args) [] (WP P none code (bodyPostM (FR none) 0 P fn (fun e w'=>e=.returned V/\aD [] w w')))):aj P f args w V:=
 py (hs0:=[]) hf hb (by simpa using hl) ⟨[],List.nodup_nil,I,fun _ h=>by cases h⟩ h
theorem aR {f:FuncId} {fn:Func} {code:Code} {args:List Value} {w:World} {ι:Type} {Φ:ι->Prop} {val:ι->Value} {own:ι->List a8} (hf:P.funcs[f]? = some fn) (hb:fn.body=some code) (hl:Nat.ble args.length fn.ntmps=true)
  (h:Tr ⟨w,[],fn.ntmps⟩ [] (jO 0 args) [] (WP P none code (bodyPostM (FR none) 0 P fn (fun e w'=>∃ x,e=.returned (val x)/\Φ x/\aD [] w w'/\∃ fp:List Nat,fp.Nodup/\ch (hp w') (own x) fp/\∀ b∈fp,b∈([]:List Nat)\/w.heap.size<=b)))) :
  bh P f args w [] Φ val own:=
 py (hs0:=[]) hf hb (by simpa using hl) ⟨[],List.nodup_nil,I,fun _ h=>by cases h⟩ h
theorem er {f:FuncId} {fn:Func} {code:Code} {args:List Value} {w:World} {oe:List Nat} {As:List a8} {ι:Type} {Φ:ι->Prop} {val:ι->Value} {own:ι->List a8} (hf:P.funcs[f]? = some fn) (hb:fn.body=some code) (hl:Nat.ble args.length fn.ntmps=true)
  (hn:oe.Nodup) (hs0:ch (hp w) As oe)
  (h:Tr ⟨w,oe,fn.ntmps⟩ [] (jO 0 args) As (WP P none code (bodyPostM (FR none) 0 P fn (fun e w'=>∃ x,e=.returned (val x)/\Φ x/\aD oe w w'/\∃ fp:List Nat,fp.Nodup/\ch (hp w') (own x) fp/\∀ b∈fp,b∈oe\/w.heap.size<=b)))) :
  bh P f args w oe Φ val own:=
 py hf hb (by simpa using hl) ⟨oe,hn,hs0,fun _ h=>h⟩ h
theorem aG {ι:Type} {Φ:ι->Prop} {val:ι->Value} {own:ι->List a8} (x:ι) (hx:Φ x) {As:List a8} (ht:bn hs (own x) As) {w':World} (hm:Mem c hs w') {v:Value} (hv:v=val x) :
  ∃ x,Ending.returned v=.returned (val x)/\Φ x/\aD c.md c.w0 w'/\∃ fp:List Nat,fp.Nodup/\ch (hp w') (own x) fp/\∀ b∈fp,b∈c.md\/c.w0.heap.size<=b:=by
 have h2:=(hm.jd ht).lA;obtain ⟨k,fp,hn,gQ,hb⟩:=h2;exact ⟨x,by rw [hv],hx,k,fp,hn,gQ,fun b dD=>(hb b dD).symm⟩
end
end Go.SL
