/- Parts of the proof: KJq GkAppO GkRegK GkRegL GkRegR GkRegS KJ KL KM KNq TryzSort. -/
import Derived.Test.YteonnodafmegaaaGreatDoorBM07
import Derived.Test.YteonnodafmegaaaGreatDoorBM06
import Derived.Test.YteonnodafmegaaaGreatDoorBM04
import Derived.Test.YteonnodafmegaaaGreatDoorBM03
import Derived.Test.YteonnodafmegaaaGreatDoorBM02
import Derived.Shelf.Sort.Plain
import Derived.Ground.NamesProg
import Derived.Ground.Names2Prog
import Derived.Test.YteonnodafmegaaaGreatDoorProg
set_option linter.unusedSectionVars false
set_option linter.unusedVariables false
set_option linter.unusedSimpArgs false
namespace Go.Proofs.A1
open Go Go.SL
def wu (r:Ro) (v:Int) (so:ByteArray):List (Nat×List Nat):=(zT r v so r.ti.length).map (fun i=>(0,[i]))++(fo r v (jL r so) r.ti.length).map (fun i=>(1,[i]))
theorem mD {r:Ro} {so:ByteArray} (h:so∈cm r):jz r so=jL r so:=by
 unfold jz jL;rw [if_pos (dz h)]
theorem pX {r:Ro} (hn:pA r) (h:iR r r.po) (v:Int) (so:ByteArray) (i:Nat):sO r v so i=(fj r r.po v so).ca i:=by
 unfold sO fj
 rw [vr hn h]
theorem pO {r:Ro} (v:Int) (so:ByteArray) (m:Int) (i:Nat):Bo r v m i=(decide ((fj r r.po v so).fr i=m)&&(fj r r.po v so).fe i):=rfl
theorem Jf {r:Ro} {v:Int} {so:ByteArray} {i:Nat} (h:(fj r r.po v so).ca i=true):(fj r r.po v so).fe i=false:=by
 unfold fj at h ⊢
 simp only [Bool.and_eq_true] at h
 simp [h.1]
theorem El (N:Wn) (i:Nat):N.te [i]=if N.fe i then 1 else 0:=by
 unfold Wn.te
 cases h:N.fe i <;> simp [h]
theorem IC (N:Wn) (p:List Nat) {i:Nat} (h:N.fe i=true):N.te (p++[i])=N.te p+1:=by
 unfold Wn.te
 rw [List.countP_append]
 simp [h]
theorem GL (N:Wn) (j:Nat):N.step [] j=(decide (j<N.n)&&(N.ca j||(N.fe j&&decide (N.fr j=N.xS)))):=by
 unfold Wn.step;simp [Wn.MO];rfl
theorem step_cons (N:Wn) {x:List Nat} (h:x≠[]) (j:Nat):N.step x j=(decide (j<N.n)&&(!x.contains j&&(N.fe j&&decide (N.fr j=N.fin x)))):=by
 unfold Wn.step
 cases x with
 | nil=>exact absurd rfl h
 | cons a l=>simp
theorem JV {r:Ro} (hn:pA r) (h:iR r r.po) (v:Int) {so:ByteArray} (hs:so∈cm r) (q:List Nat):q∈(wu r v so).map Prod.snd↔q∈(fj r r.po v so).exts []:=by
 unfold wu Wn.exts Wn.Rs
 rw [List.map_append,List.mem_append,List.map_map,List.map_map]
 simp only [List.mem_map,Za,Function.comp,List.mem_filter,List.mem_range,zT,fo]
 have a7:∀ j,(fj r r.po v so).step [] j=true↔j<r.ti.length∧(sO r v so j=true∨Bo r v (jL r so) j=true):=fun j=>by
  rw [GL,pX hn h,pO v so]
  have e0:(fj r r.po v so).xS=jL r so:=mD hs
  rw [e0]
  simp only [Bool.and_eq_true,Bool.or_eq_true,decide_eq_true_eq]
  constructor
  ·rintro ⟨h1,h2 | ⟨h3,h4⟩⟩
   ·exact ⟨h1,.inl h2⟩
   ·exact ⟨h1,.inr ⟨h4,h3⟩⟩
  ·rintro ⟨h1,h2 | ⟨h3,h4⟩⟩
   ·exact ⟨h1,.inl h2⟩
   ·exact ⟨h1,.inr ⟨h4,h3⟩⟩
 constructor
 ·rintro (⟨j,⟨h1,h2⟩,rfl⟩ | ⟨j,⟨h1,h2⟩,rfl⟩)
  ·exact ⟨j,⟨h1,(a7 j).2 ⟨h1,.inl h2⟩⟩,rfl⟩
  ·exact ⟨j,⟨h1,(a7 j).2 ⟨h1,.inr h2⟩⟩,rfl⟩
 ·rintro ⟨j,⟨h1,h2⟩,rfl⟩
  rcases ((a7 j).1 h2).2 with h3 | h3
  ·exact .inl ⟨j,⟨h1,h3⟩,rfl⟩
  ·exact .inr ⟨j,⟨h1,h3⟩,rfl⟩
theorem Q4 {r:Ro} (hn:pA r) (h:iR r r.po) (v:Int) {so:ByteArray} {x:Nat×List Nat} (hx:x∈wu r v so):x.1=(fj r r.po v so).te x.2:=by
 unfold wu at hx
 rcases List.mem_append.1 hx with hx | hx
 ·obtain ⟨i,hi,rfl⟩:=List.mem_map.1 hx
  have:=(List.mem_filter.1 hi).2
  rw [pX hn h] at this
  rw [El,Jf this];rfl
 ·obtain ⟨i,hi,rfl⟩:=List.mem_map.1 hx
  have:=(List.mem_filter.1 hi).2
  rw [pO v so,Bool.and_eq_true] at this
  rw [El,this.2];rfl
theorem Nn {r:Ro} (hn:pA r) (h:iR r r.po) (v:Int) {so:ByteArray} (h6:r.ti.length≤6):(fj r r.po v so).wt ((wu r v so).map Prod.snd)≤1957:=by
 have e:(wu r v so).map Prod.snd=(zT r v so r.ti.length++fo r v (jL r so) r.ti.length).map (fun i=>([]:List Nat)++[i]):=by
  unfold wu
  rw [List.map_append,List.map_map,List.map_map,List.map_append];rfl
 rw [e,Wn.B5]
 have hl:(zT r v so r.ti.length++fo r v (jL r so) r.ti.length).length≤r.ti.length:=by
  refine kD _ _ ?_ ?_
  ·rw [List.nodup_append]
   refine ⟨List.nodup_range.filter _,List.nodup_range.filter _,?_⟩
   intro a ha b hb e
   subst e
   have h1:=(List.mem_filter.1 ha).2
   have h2:=(List.mem_filter.1 hb).2
   rw [pX hn h] at h1
   rw [pO v so,Bool.and_eq_true] at h2
   rw [Jf h1] at h2
   cases h2.2
  ·intro x hx
   rcases List.mem_append.1 hx with hx | hx <;> exact List.mem_range.1 (List.mem_filter.1 hx).1
 have hN:(fj r r.po v so).n=r.ti.length:=rfl
 rw [hN]
 generalize (zT r v so r.ti.length++fo r v (jL r so) r.ti.length).length=k at hl
 generalize r.ti.length=n at hl h6
 have:∀ n,n≤6→n*pe (n-1)≤1957:=by decide
 exact Nat.le_trans (Nat.mul_le_mul_right _ hl) (by simpa using this n h6)
theorem FK {r:Ro} {v:Int} {so:ByteArray} {x:List Nat} (hx:x≠[]):(fj r r.po v so).exts x=((fo r v ((fj r r.po v so).fin x) r.ti.length).filter fun i=>!x.contains i).map fun i=>x++[i]:=by
 unfold Wn.exts Wn.Rs fo
 rw [List.filter_filter]
 congr 1
 apply List.filter_congr
 intro j hj
 have lQ:=List.mem_range.1 hj
 rw [step_cons _ hx,pO v so]
 have:decide (j<(fj r r.po v so).n)=true:=decide_eq_true lQ
 rw [this,Bool.true_and]
 congr 1
 exact Bool.and_comm _ _
theorem Sx {r:Ro} {v:Int} {so:ByteArray} (p q:List Nat):(fj r r.po v so).lt p q=wl ((fj r r.po v so).te p,p) ((fj r r.po v so).te q,q):=rfl
def j6 (r:Ro) (de:ByteArray):Int:=(r.de.getD (bu (ct r) de).toNat ⟨⟨#[]⟩,0,false⟩).mx
theorem IM {r:Ro} {de:ByteArray} (h:de∈ct r):ka r de=j6 r de:=by
 unfold ka j6;rw [if_pos (dz h)]
structure o8 (N:Wn) (dm:Int) (Q j8:List Wy):Prop where
 sub:∀ x∈Q,x∈j8
 one:∀ x∈j8,x.v.oneCell'=true
 te:∀ x∈Q,x.f=N.te x.p
 inv:N.Inv dm (Q.map Wy.p)
 C3:N.wt (Q.map Wy.p)≤1957
theorem o8.len {N:Wn} {dm:Int} {Q j8:List Wy} (h:o8 N dm Q j8):Q.length≤1957:=by
 have:=N.Gi (Q.map Wy.p)
 rw [Zd] at this
 exact Nat.le_trans this h.C3
theorem o8.begin {r:Ro} (hn:pA r) (hv:iR r r.po) (v:Int) {so de:ByteArray} (hs:so∈cm r) (h6:r.ti.length≤6) (hne:jL r so≠j6 r de) {W:List Wy} (hW:OM (wu r v so) W):o8 (fj r r.po v so) (j6 r de) W W:=by
 have hp:W.map Wy.p=(wu r v so).map Prod.snd:=by rw [← hW.1,List.map_map];rfl
 refine ⟨fun _ h=>h,hW.2,fun x hx=>?_,?_,?_⟩
 ·have:wk x∈wu r v so:=by rw [← hW.1];exact List.mem_map_of_mem hx
  exact Q4 hn hv v this
 ·refine Wn.Fs (by rw [show (fj r r.po v so).xS=jz r so from rfl,mD hs];exact hne) fun q=>?_
  rw [hp];exact JV hn hv v hs q
 ·rw [hp];exact Nn hn hv v h6
theorem o8.perm {N:Wn} {dm:Int} {Q Q' j8:List Wy} (h:o8 N dm Q j8) (hp:Q'.Perm Q):o8 N dm Q' j8:=by
 have hm:=hp.map Wy.p
 refine ⟨fun x hx=>h.sub x (hp.mem_iff.1 hx),h.one,fun x hx=>h.te x (hp.mem_iff.1 hx),⟨fun q hq=>h.inv.ok q (hm.mem_iff.1 hq),fun p h1 h2=>?_⟩,by rw [Wn.Dt hm];exact h.C3⟩
 obtain ⟨q,hq,h3⟩:=h.inv.cover p h1 h2
 exact ⟨q,hm.mem_iff.2 hq,h3⟩
theorem o8.found {r:Ro} {v:Int} {so:ByteArray} {dm:Int} {x:Wy} {R j8:List Wy} (h:o8 (fj r r.po v so) dm (x::R) j8) (hs:(x::R).Pairwise (fun x y=>wl (y.f,y.p) (x.f,x.p)=false)) (hf:(fj r r.po v so).fin x.p=dm):(fj r r.po v so).least dm x.p:=by
 refine Wn.Fq h.inv (by simp) (fun q hq=>?_) hf
 obtain ⟨y,hy,rfl⟩:=List.mem_map.1 hq
 rw [Sx,← h.te x (by simp),← h.te y hy]
 rcases List.mem_cons.1 hy with rfl | hy
 ·exact wA _
 ·exact (List.pairwise_cons.1 hs).1 y hy
theorem o8.next {r:Ro} {v:Int} {so:ByteArray} {dm:Int} {x:Wy} {R W j8 nq:List Wy} (h:o8 (fj r r.po v so) dm (x::R) j8) (hf:(fj r r.po v so).fin x.p≠dm) (iD:∀ y∈R++W,y∈nq) (ij:∀ y∈nq,y.v.oneCell'=true)
  (hW:W.map wk=((fo r v ((fj r r.po v so).fin x.p) r.ti.length).filter fun i=>!x.p.contains i).map fun i=>(x.f+1,x.p++[i])):o8 (fj r r.po v so) dm (R++W) nq∧(fj r r.po v so).wt ((R++W).map Wy.p)<(fj r r.po v so).wt ((x::R).map Wy.p):=by
 have hx:=h.inv.ok x.p (by simp)
 have Yp:W.map Wy.p=(fj r r.po v so).exts x.p:=by
  rw [FK hx.2]
  have:=congrArg (fun l=>l.map Prod.snd) hW
  simp only [List.map_map] at this
  exact this
 have aL:(fj r r.po v so).wt ((R++W).map Wy.p)<(fj r r.po v so).wt ((x::R).map Wy.p):=by
  rw [List.map_append,Yp,Wn.wz,List.map_cons,Wn.wt]
  have:=Wn.KP hx.1
  omega
 refine ⟨⟨iD,ij,fun y hy=>?_,?_,Nat.le_trans (Nat.le_of_lt aL) h.C3⟩,aL⟩
 ·rcases List.mem_append.1 hy with hy | hy
  ·exact h.te y (List.mem_cons_of_mem _ hy)
  ·have h1:wk y∈W.map wk:=List.mem_map_of_mem hy
   rw [hW] at h1
   obtain ⟨i,hi,e⟩:=List.mem_map.1 h1
   have e1:x.f+1=y.f:=congrArg Prod.fst e
   have e2:x.p++[i]=y.p:=congrArg Prod.snd e
   have h2:=(List.mem_filter.1 (List.mem_filter.1 hi).1).2
   rw [pO v so,Bool.and_eq_true] at h2
   rw [← e1,← e2,IC _ _ h2.2,h.te x (by simp)]
 ·rw [List.map_append,Yp]
  refine Wn.HU h.inv (fun q=>?_) hf
  rw [List.map_cons,List.mem_cons]
end Go.Proofs.A1
namespace Go.SL
open Go
theorem DN {h:Nat→Option Obj} {E:TypeId} {sz:Nat} {v:Value} {n:Nat} {xs:List Value} {fp:List Nat} (hr:(kd E sz v n xs).sat h fp):fp=v.ownBlock.toList:=by
 obtain ⟨_,h1⟩:=hr
 rcases h1 with ⟨rfl,rfl,_⟩ | ⟨g,off,cap,cur,rfl,rfl,_⟩
 ·simp [Value.ownBlock]
 ·simp [Value.ownBlock]
section
variable {P:Program} {c:Cx} {D:List Nat} {sl:aI} {hs hs':List a8} {d:Nat} {ty:TypeId} {pos:String} {af:Array Edge} {r:Option Nat} {ops:Array Oper} {Q:Exit→Act→World→Prop} {rest:List Oper}
theorem Ce {t e:TypeId} {agg:Bool} {size bytes:Nat} {z:Value} {x y:Operand} {v:Value} {n b o m cp:Nat} {xs news:List Value} [hu:iH P t (.slice e)] [hT:Ty P e agg size] [hZ:lG P e z] [hB:vO P e bytes]
  (hx:Is sl x v) (hy:Is sl y (.slice (some ⟨b,o,none⟩) m cp)) (ht:Take hs (kd e size v n xs) hs') (hn:eF c hs b o news) (hl:news.length=m*size) (h1:∀ u∈news,u.oneCell'=true) (hz:z.cells.size=size) (hsz:Nat.blt 0 size=true) (hb0:Nat.blt 0 bytes=true)
  (hb:(n+m)*bytes≤140737488355328) (hd:Nat.blt d c.nt=true)
  (k:∀ v',Tr c D ((d,v')::sl) (kd e size v' (n+m) (xs++news)::hs') (WL P r ops Q rest)) :
  Tr c D sl hs (WL P r ops Q (⟨some d,.call ⟨.builtin .append,#[x,y],#[t,t]⟩,ty,pos,af,none⟩::rest)):=fun a w a7=>by
 obtain ⟨de,i,lT,hi,_,ix⟩:=Ty.parts (P:=P) (t:=e) (agg:=agg) (n:=size)
 have hzero:i.zero=some z:=by have:=hZ.eq;rw [hi] at this;simpa using this
 have gC:i.bytes=bytes:=by have:=hB.eq;rw [hi] at this;simpa using this
 have UM:=a7.qL
 have hm:=a7.mem.take (ht.append _)
 obtain ⟨kk,fp,kQ,⟨f1,f2,rfl,N1,h2⟩,CW⟩:=hm
 obtain ⟨hlen,hrow⟩:=id N1
 have Bj:0<bytes:=by simpa using hb0
 have SP:0<size:=by simpa using hsz
 have bT:n+m≤maxLen:=by
  have:(n+m)*1≤(n+m)*bytes:=Nat.mul_le_mul_left _ Bj
  unfold maxLen;omega
 have qU:∀ j u,news[j]? = some u→w.cell? ((⟨b,o,none⟩:Addr).add j)=some u:=fun j u hj=>by rw [eD];exact hn.get j u hj w UM
 have UN:(xs++news).length=(n+m)*size:=by rw [Zg,hlen,hl,Nat.add_mul]
 have key:∃ v' w' lh,(Builtin.append_ #[t,t] ty #[v,.slice (some ⟨b,o,none⟩) m cp]).run P w=.ok v' w'∧aG f1 w w'∧lh.Nodup∧(kd e size v' (n+m) (xs++news)).sat (hp w') lh∧∀ q∈lh,q∈f1∨w.heap.size≤q:=by
  rcases hrow with ⟨rfl,rfl,rfl⟩ | ⟨g,off,cap,cur,rfl,rfl,hg,X3,Yj,hfit,htk⟩
  ·have qT:w.ownsRow 0 e size (.slice none 0 0) 0 xs:=⟨hlen,.inl ⟨rfl,rfl⟩⟩
   obtain ⟨v',w',ig,qS,u3,_⟩:=run_append_own (P:=P) w 0 t ty e i z size bytes hu.eq hi hzero ix gC hz (by simpa using hsz) _ 0 xs qT ⟨b,o,none⟩ m cp news hl qU h1 bT hb (Zi _)
   have wb:=pZ (P:=P) (t:=t) (ty:=ty) hu.eq hi hzero (by rw [ix];exact qT) (a:=⟨b,o,none⟩) (m:=m) (cp:=cp) (by rw [ix];exact hl) qU h1 bT (by rw [gC];exact hb) ig
   refine ⟨v',w',v'.ownBlock.toList,ig,⟨u3.os,u3.tape,u3.output,wb.2,u3.size,fun q hq _=>u3.block q hq (by simp [Value.ownBlock])⟩,by cases v'.ownBlock <;> simp,nK (lx qS),fun q hq=>?_⟩
   have vI:v'.ownBlock=some q:=by simpa [Option.mem_toList] using hq
   rcases wb.1 with h | h
   ·rw [vI] at h;simp [Value.ownBlock] at h
   ·rw [h] at vI;cases vI;exact .inr (Nat.le_refl _)
  ·have Ts:w.heap[g]? = some (.cells cur e (0,0)):=hg
   have hgs:g<w.heap.size:=(Array.getElem?_eq_some_iff.1 Ts).1
   have P9:cur.toList=cur.toList.take off++(xs++cur.toList.drop (off+n*size)):=by
    rw [← htk]
    conv=>lhs;rw [← List.take_append_drop off cur.toList]
    congr 1
    conv=>lhs;rw [← List.take_append_drop (n*size) (cur.toList.drop off)]
    rw [List.drop_drop]
   have Oe:cur.size=cur.toList.length:=by simp
   have hns:n*size≤cap*size:=Nat.mul_le_mul_right _ X3
   have zL:(cur.toList.take off).length=off:=by rw [List.length_take];omega
   by_cases xA:n+m≤cap
   ·have hms:(n+m)*size≤cap*size:=Nat.mul_le_mul_right _ xA
    rw [Nat.add_mul] at hms
    have Qt:w.heap[g]? = some (.cells cur.toList.toArray e (0,0)):=by rw [Array.toArray_toList];exact Ts
    obtain ⟨w',h3,h4,h5⟩:=iJ (P:=P) (o:=off+n*size) news 0 cur.toList w Qt h1 (by omega)
    have hfc:=run_firstCells_some (P:=P) w i.size m ⟨b,o,none⟩ m cp news (by rw [ix];exact hl) qU
    refine ⟨.slice (some ⟨g,off,none⟩) (n+m) cap,w',[g],?_,h4,by simp,⟨UN,.inr ⟨g,off,cap,_,rfl,rfl,h5,xA,Yj,?_,?_⟩⟩,fun q hq=>.inl hq⟩
    ·subst ix
     have IA:(⟨g,off,none⟩:Addr).add (n*i.size)=⟨g,off+n*i.size,none⟩:=eD _ _ _
     simp [Builtin.append_,aV hu.eq,sizeOf,typeInfo,hi,Builtin.lenOf,xA,hfc,IA,h3]
    ·rw [List.size_toArray,jX,← Oe];exact hfit
    ·show ((setCells cur.toList (off+n*size+0) news).drop off).take ((n+m)*size)=xs++news
     have e1:setCells cur.toList (off+n*size+0) news=cur.toList.take off++xs++(news++(cur.toList.drop (off+n*size)).drop news.length):=by
      have WX:cur.toList.drop (off+n*size)=(cur.toList.drop (off+n*size)).take news.length++(cur.toList.drop (off+n*size)).drop news.length:=(List.take_append_drop _ _).symm
      have hle:((cur.toList.drop (off+n*size)).take news.length).length=news.length:=by rw [List.length_take,List.length_drop];omega
      have e2:cur.toList=(cur.toList.take off++xs)++((cur.toList.drop (off+n*size)).take news.length++(cur.toList.drop (off+n*size)).drop news.length):=by rw [← WX,Zh];exact P9
      have QF:(cur.toList.take off++xs).length=off+n*size+0:=by rw [Zg,zL,hlen,Nat.add_zero]
      conv=>lhs;rw [e2]
      rw [← QF]
      exact yr _ _ _ _ hle.symm
     rw [e1,Zh,← zL]
     conv=>lhs;rw [zL]
     rw [List.drop_left' zL,← UN,← Zh,List.take_left]
   ·have holds:∀ j u,xs[j]? = some u→w.cell? ((⟨g,off,none⟩:Addr).add j)=some u:=fun j u hj=>by
     rw [eD]
     simp only [World.cell?,Ts]
     rw [← htk] at hj
     have aL:j<n*size:=by
      have:=(List.getElem?_eq_some_iff.1 hj).1
      rw [List.length_take] at this;omega
     rw [List.getElem?_take_of_lt aL,List.getElem?_drop] at hj
     simpa using hj
    obtain ⟨v',w',ig,qS,u3⟩:=run_append_arg_grows (P:=P) (w:=w) t ty e i z size bytes hu.eq hi hzero ix gC hz SP ⟨g,off,none⟩ n cap xs hlen holds ⟨b,o,none⟩ m cp news hl qU (by omega) bT hb
    have hr:=run_append_grow (P:=P) w t ty e i z hu.eq hi hzero ⟨g,off,none⟩ n cap xs (by rw [ix];exact hlen) holds ⟨b,o,none⟩ m cp news (by rw [ix];exact hl) qU (by omega) (by unfold maxLen at bT;omega) (growslice_fits (by omega) (by rw [gC];exact hb))
    have CX:w.drawn≤w'.drawn∧v'.ownBlock=some w.heap.size:=by
     rw [ig] at hr
     cases hr
     exact ⟨Nat.le_succ _,rfl⟩
    have S7:w'.ownsRow 0 e size v' (n+m) (xs++news):=⟨qS.1,qS.2.imp id fun ⟨g',gL,XA,e1,_,r⟩=>⟨g',gL,XA,e1,Zi _,r⟩⟩
    refine ⟨v',w',v'.ownBlock.toList,ig,⟨u3.os,u3.tape,u3.output,CX.1,u3.size,fun q hq _=>u3.block q hq (by simp)⟩,by cases v'.ownBlock <;> simp,nK (lx S7),fun q hq=>?_⟩
    rw [CX.2] at hq
    simp at hq
    exact .inr (by omega)
 obtain ⟨v',w',lh,ig,hk,hnf,ie,wb⟩:=key
 refine lU rfl ⟨dH _ _ _ _ _,?_⟩
 rw [Oper.semAt_eq _ _ _ (by simp)]
 have:(execOp a.eval ⟨some d,.call ⟨.builtin .append,#[x,y],#[t,t]⟩,ty,pos,af,none⟩).run P w=.ok (.value v') w':=by
  simp [execOp,resolve,invoke,builtin,hx a a7.cM,hy a a7.cM,ig]
 rw [this]
 refine k v' _ _ ((a7.put (by simpa [Nat.blt_eq] using hd) v').heap ?_)
 have lP:Mem c ([kd e size v n xs]++(hs'++l8 D)) w:=a7.mem.take (ht.append _)
 have:=Mem.change (Bs:=[kd e size v' (n+m) (xs++news)]) (w':=w') lP fun fp qV hf=>by
  obtain ⟨g1,g2,e1,hr,e2⟩:=hf
  obtain rfl:g2=[]:=e2
  have h3:=DN hr
  have h4:=DN N1
  rw [List.append_nil] at e1
  subst e1
  rw [h3,← h4]
  exact ⟨hk,lh,hnf,⟨lh,[],by simp,ie,rfl⟩,wb⟩
 exact this
end
end Go.SL
namespace Go.SL
open Go
theorem Mem.E2 {c:Cx} {As hs':List a8} {w:World} (hm:Mem c (As++hs') w):∃ fp:List Nat,fp.Nodup∧bY (hp w) As fp ∧
  ∀ (Bs:List a8) (w':World),aG fp w w'→(∃ lh:List Nat,lh.Nodup∧bY (hp w') Bs lh∧∀ b∈lh,b∈fp∨w.heap.size≤b)→Mem c (Bs++hs') w':=by
 obtain ⟨kk,fp,hn,ie,hb⟩:=hm
 obtain ⟨f1,f2,rfl,h1,h2⟩:=bY.append_iff.1 ie
 obtain ⟨n1,n2,n12⟩:=List.nodup_append.1 hn
 refine ⟨f1,n1,h1,fun Bs w' hk ⟨lh,qV,hs',u4⟩=>?_⟩
 have aL:∀ b∈f2,b<w.heap.size:=fun b dy=>let ⟨o,ho⟩:=h2.own b dy;jQ ho
 refine ⟨?_,lh++f2,?_,bY.append_iff.2 ⟨lh,f2,rfl,hs',h2.loc fun b dy=>?_⟩,?_⟩
 ·refine ⟨hk.os.trans kk.os,hk.tape.trans kk.tape,hk.output.trans kk.output,Nat.le_trans kk.dr hk.dr,Nat.le_trans kk.size hk.size,fun b dy hm=>?_⟩
  rw [← kk.block b dy hm]
  refine hk.block b (Nat.lt_of_lt_of_le dy kk.size) (fun hf=>?_)
  rcases hb b (List.mem_append_left _ hf) with h | h
  ·omega
  ·exact hm h
 ·refine List.nodup_append.2 ⟨qV,n2,fun x hx y hy e=>?_⟩
  subst e
  rcases u4 x hx with h | h
  ·exact n12 x h x hy rfl
  ·have:=aL x hy;omega
 ·exact hk.block b (aL b dy) (fun hf=>n12 b hf b dy rfl)
 ·intro b dy
  rcases List.mem_append.1 dy with h | h
  ·rcases u4 b h with h | h
   ·exact hb b (List.mem_append_left _ h)
   ·exact .inl (Nat.le_trans kk.size h)
  ·exact hb b (List.mem_append_right _ h)
theorem uA {β:Nat→Value} (p q:Nat→Bool):∀ (S:List cK) (i:Nat),(dL β p S i).Perm (dL β (fun j=>p j&&q j) S i++dL β (fun j=>p j&&!q j) S i)
 | [],_=>.nil
 | s :: S, i => by
  have ih:=uA (β:=β) p q S (i+1)
  unfold dL
  cases hp:p i <;> cases hq:q i <;> simp only [Bool.and_true,Bool.and_false,Bool.not_true,Bool.not_false,Bool.false_and,Bool.true_and,if_true,if_false,Za,reduceIte]
  ·simpa using ih
  ·simpa using ih
  ·simp only [Bool.false_eq_true,if_false,Za]
   refine (ih.append_left _).trans ?_
   rw [← Zh,← Zh]
   exact List.perm_append_comm.append_right _
  ·simp only [Bool.false_eq_true,if_false,Za]
   rw [Zh]
   exact ih.append_left _
theorem qD {β:Nat→Value} {q:Nat→Bool}:∀ {S:List cK} {n i:Nat},(∀ j,i+n≤j→q j=false)→dL β q S i=dL β q (S.take n) i
 | [],n,i,_=>by rw [List.take_nil]
 | s :: S, 0, i, h => by
  rw [Ze]
  unfold dL
  rw [h i (by omega),qD (n:=0) fun j hj=>h j (by omega),Ze];rfl
 | s :: S, n + 1, i, h => by
  rw [List.take_succ_cons]
  unfold dL
  rw [qD (n:=n) (i:=i+1) fun j hj=>h j (by omega)]
def tY (l:List Oper) (o:Oper) (j:Nat):Bool:=fk o j||(List.range l.length).any fun k=>fk o k&&(match l[k]? with | some q=>fk q j | none=>false)
def pk (tk:Nat→Nat) (lst:Nat→Bool) (j:Nat):Bool:=lst j&&!(Nat.blt 0 (tk j)&&lst (tk j))
def iz (tk:Nat→Nat) (i j:Nat):Bool:=Nat.blt 0 i&&Nat.beq (tk j) i
section
variable {P:Program} {c:Cx} {D:List Nat} {sl:aI} {hs:List a8} {Q:Exit→Act→World→Prop} {l:List Oper} {m:Nat} {tk:Nat→Nat}
def Kl (i:Nat) (s:cK) (β:Nat→Value) (w:World) (rS:List Nat) (v:Value) (w':World):Prop:=∃ x,v=s.F (ud β i x)∧aG rS w w'∧∃ fp:List Nat,fp.Nodup∧bY (hp w') (s.A (ud β i x)) fp∧∀ b∈fp,b∈rS∨w.heap.size≤b
structure Kj (P:Program) (c:Cx) (hs:List a8) (l:List Oper) (tk:Nat→Nat) (i:Nat) (o:Oper) (SL:(Nat→Value)→aI) (S:List cK) (s:cK):Prop where
 CP:pB l i s.F
 CQ:pB l i s.A
 run:∃ B:List Nat,(∀ j∈B,tY l o j=true∧tk j=0)∧∀ β a w rS,bK (SL β) a→jE c hs S B β w→bY (hp w) (dL β (iz tk i) S 0) rS→if Region.wanted o (yielded l.toArray a.tmps)=true then qh P o a w (Kl i s β w rS) else Kl i s β w rS undef w
 waits:∀ j,tk j=i→0<i→fk o j=true
inductive vz (P:Program) (c:Cx) (hs:List a8) (l:List Oper) (tk:Nat→Nat):Nat→List Oper→((Nat→Value)→aI)→List cK→List cK→((Nat→Value)→aI)→Prop
 | nil {i:Nat} {SL:(Nat→Value)→aI} {S:List cK}:vz P c hs l tk i [] SL S S SL
 | step {i d:Nat} {o:Oper} {rest:List Oper} {SL nr:(Nat→Value)→aI} {S S':List cK} {s:cK} (hd:o.dst=some d) (fw:d<c.nt) (h:Kj P c hs l tk i o SL S s)
   (t:vz P c hs l tk (i+1) rest (fun β=>(d,s.F β)::SL β) (S++[s]) S' nr):vz P c hs l tk i (o::rest) SL S S' nr
theorem vz.spec {i:Nat} {rest:List Oper} {SL nr:(Nat→Value)→aI} {S S':List cK} (h:vz P c hs l tk i rest SL S S' nr):∀ pre:List Oper,pre.length=i→S.length=i→ni sl pre SL S →
  S'.length=i+rest.length∧S <+: S'∧ni sl (pre++rest) nr S'∧∀ k o,i≤k→(pre++rest)[k]? = some o→∃ d EL s,o.dst=some d∧d<c.nt∧S'[k]? = some s∧ni sl ((pre++rest).take k) EL (S'.take k)∧Kj P c hs l tk k o EL (S'.take k) s:=by
 induction h with
 | @nil i SL S =>
  intro pre hp hS km
  refine ⟨by simpa using hS,List.prefix_rfl,by simpa using km,fun k o hk ho=>?_⟩
  have:=(List.getElem?_eq_some_iff.1 ho).1
  simp at this;omega
 | @step i d o rest SL nr S S' s hd fw a7 t ih =>
  intro pre hp hS km
  obtain ⟨h1,h2,h3,h4⟩:=ih (pre++[o]) (by simp [hp]) (by simp [hS]) (km.step (by omega) hd)
  rw [Zh,List.singleton_append] at h3 h4
  have Fv:S <+: S':=(List.prefix_append S [s]).trans h2
  have qZ:S'[i]? = some s:=by
   obtain ⟨r,rfl⟩:=h2
   rw [Zh,List.getElem?_append_right (by omega),hS];simp
  have Xe:S'.take i=S:=by
   obtain ⟨r,rfl⟩:=Fv
   rw [← hS];simp
  refine ⟨by rw [h1];simp;omega,Fv,h3,fun k ok hk ho=>?_⟩
  by_cases e:k=i
  ·subst e
   have Ef:ok=o:=by
    rw [List.getElem?_append_right (by omega),hp] at ho
    simpa using ho.symm
   subst Ef
   have htk:(pre++ok::rest).take k=pre:=by rw [← hp];simp
   rw [htk,Xe]
   exact ⟨d,SL,s,hd,fw,qZ,km,a7⟩
  ·exact h4 k ok (by omega) ho
structure Us (c:Cx) (D:List Nat) (hs:List a8) (l:List Oper) (tk:Nat→Nat) (m:Nat) (S:List cK) (a0:Act) (fuel:Nat) (listed:Array Bool) (a:Act) (w:World):Prop where
 sz:listed.size=l.length
 dc:DC l (Ls listed)
 hi:∀ k,m≤k→¬ Ls listed k
 defers:a.defers=D.map mark
 size:a.tmps.size=c.nt
 AP:∀ t,(∀ (j:Nat) (o:Oper),l[j]? = some o→Ls listed j→o.dst≠some t)→a.tmps[t]? = a0.tmps[t]?
 left:∃ U:List Nat,U.Nodup∧(∀ i,i∈U↔i<l.length∧¬ Ls listed i)∧U.length=fuel
 own:∃ β:Nat→Value,Mem c (dL β (pk tk (fun i=>listed.getD i false)) S 0++(hs++l8 D)) w∧∀ (j:Nat) (o:Oper) (d:Nat) (s:cK),l[j]? = some o→o.dst=some d→S[j]? = some s→Ls listed j→a.tmps[d]? = some (s.F β)
end
end Go.SL
namespace Go.SL
open Go
def kL:List (Nat×Nat)→Nat→Nat
 | [],_=>0
 | p::r,j=>bif Nat.beq p.1 j then p.2 else kL r j
theorem tr:∀ {rk:List (Nat×Nat)} {i j:Nat},(rk.all fun p=>!Nat.beq p.2 i)=true→kL rk j=i→0<i→False
 | [], i, j, _, h, hp => by
  have h:0=i:=h
  omega
 | p :: r, i, j, h, h2, hp => by
  rw [List.all_cons,Bool.and_eq_true] at h
  unfold kL at h2
  cases e:Nat.beq p.1 j with
  | true=>rw [e] at h2;have h2:p.2=i:=h2;rw [h2] at h;simp at h
  | false=>rw [e] at h2;exact tr h.2 h2 hp
theorem wO:∀ {rk:List (Nat×Nat)} {i jx:Nat},(rk.all fun p=>!Nat.beq p.2 i||Nat.beq p.1 jx)=true→Nat.blt 0 i=true→∀ k,kL rk k=i→k=jx
 | [], i, jx, _, h0, k, h => by
  have h:0=i:=h
  subst h;cases h0
 | p :: r, i, jx, h, h0, k, hk => by
  rw [List.all_cons,Bool.and_eq_true] at h
  unfold kL at hk
  cases e:Nat.beq p.1 k with
  | true =>
   rw [e] at hk
   have hk:p.2=i:=hk
   have h1:=h.1
   rw [hk,show Nat.beq i i=true by simp] at h1
   have e1:=Nat.eq_of_beq_eq_true e
   have e2:=Nat.eq_of_beq_eq_true (show Nat.beq p.1 jx=true by simpa using h1)
   omega
  | false=>rw [e] at hk;exact wO h.2 h0 k hk
section
variable {P:Program} {c:Cx} {D:List Nat} {sl:aI} {hs hs':List a8} {X:Act→World→Prop} {Q:Exit→Act→World→Prop} {l:List Oper} {m i n d:Nat} {rk:List (Nat×Nat)} {op:Op} {ty:TypeId} {pos:String} {af:Array Edge} {rest:List Oper} {SL:(Nat→Value)→aI} {S:List cK}
theorem AH {β:Nat→Value} {p:Nat→Bool} {s:cK}:∀ {S:List cK} {i jx:Nat},S[jx]? = some s→(∀ k,p k=Nat.beq k (i+jx))→dL β p S i=s.A β
 | [],_,_,h,_=>by simp at h
 | s0 :: S, i, 0, h, hp => by
  simp only [List.getElem?_cons_zero,Option.some.injEq] at h
  subst h
  unfold dL
  rw [hp i,show Nat.beq i (i+0)=true by simp,if_pos rfl]
  have:dL β p S (i+1)=[]:=by
   have h:=qD (β:=β) (q:=p) (S:=S) (n:=0) (i:=i+1) fun j hj=>by
    rw [hp j]
    exact Bool.eq_false_iff.2 fun e=>by have:=Nat.eq_of_beq_eq_true e;omega
   rw [h,Ze];rfl
  rw [this,List.append_nil]
 | s0 :: S, i, jx + 1, h, hp => by
  unfold dL
  rw [hp i,show Nat.beq i (i+(jx+1))=false from Bool.eq_false_iff.2 fun e=>by have:=Nat.eq_of_beq_eq_true e;omega]
  simp only [Bool.false_eq_true,if_false,Za]
  exact AH (i:=i+1) (jx:=jx) (by simpa using h) fun k=>by rw [hp k,show i+(jx+1)=i+1+jx by omega]
end
end Go.SL
namespace Go.SL.KR
open Go Go.SL
section
variable {P:Program} {c:Cx} {D:List Nat} {sl:aI} {hs:List a8} {Q:Exit→Act→World→Prop} {l:List Oper} {m:Nat} {tk:Nat→Nat}
variable {r0:Option Nat}
theorem Pu {p:Nat} (hc:Kn l m p) (Fv:p<m→False) (U0:∀ c a w,¬ Q (.panic c) a w) {S:List cK} {nr:(Nat→Value)→aI} (S6:vz P c hs l tk 0 (l.take m) (fun _=>sl) [] S nr) {a0:Act} (h0:bK sl a0) (Ih:a0.tmps.size=c.nt)
  (tail:∀ β a w,St c D (nr β) (dL β (pk tk (fun i=>Nat.blt i m)) S 0++hs) a w→wpAnyIn (FR r0) 0 P .any l.toArray Q (l.length-m) (lo l.length m) a w) :
  ∀ (fuel:Nat) (listed:Array Bool) (a:Act) (w:World),Us c D hs l tk m S a0 fuel listed a w→wpAnyIn (FR r0) 0 P .any l.toArray Q fuel listed a w:=by
 have hle:=hc.le
 have Ic:ni sl [] (fun _=>sl) []:=fun β t v hv=>.inr ⟨fun oj h=>(List.not_mem_nil h).elim,hv⟩
 obtain ⟨Bm,_,km,fO⟩:=S6.spec (sl:=sl) [] rfl rfl Ic
 rw [Za] at km fO
 rw [Nat.zero_add,List.length_take,Nat.min_eq_left hle] at Bm
 have dT:∀ (j:Nat) (o:Oper),j<m→l[j]? = some o→(l.take m)[j]? = some o:=fun j o hj ho=>by rw [List.getElem?_take,if_pos hj];exact ho
 have fu:∀ (j:Nat) (o:Oper),(l.take m)[j]? = some o→j<m∧l[j]? = some o:=fun j o ho=>by
  rw [List.getElem?_take] at ho
  split at ho
  ·exact ⟨by assumption,ho⟩
  ·cases ho
 have Ol:∀ j,j<m→∃ s,S[j]? = some s:=fun j hj=>⟨S[j]'(by omega),Zc (by omega)⟩
 have mf:∀ fuel listed a w,Us c D hs l tk m S a0 fuel listed a w→(∀ i,i<m→Ls listed i)→wpAnyIn (FR r0) 0 P .any l.toArray Q fuel listed a w:=by
  intro fuel listed a w hI dU
  have hL:∀ i,i<l.length→(Ls listed i↔i<m):=fun i _=>⟨fun h=>Nat.lt_of_not_le fun hm=>hI.hi i hm h,dU i⟩
  obtain ⟨U,wh,pN,rQ⟩:=hI.left
  have gU:U.Perm (List.range' m (l.length-m)):=by
   rw [List.perm_ext_iff_of_nodup wh (List.nodup_range')]
   intro i
   rw [pN i,List.mem_range'_1]
   constructor
   ·rintro ⟨h1,h2⟩
    exact ⟨Nat.le_of_not_lt fun h=>h2 (dU i h),by omega⟩
   ·rintro ⟨h1,h2⟩
    exact ⟨by omega,hI.hi i h1⟩
  have hlen:fuel=l.length-m:=by rw [← rQ,gU.length_eq,List.length_range']
  have Ii:listed=lo l.length m:=by
   have uT:(lo l.length m).size=l.length:=by simp [lo];omega
   apply Array.ext
   ·rw [hI.sz,uT]
   ·intro i h1 h2
    rw [hI.sz] at h1
    have h3:=hL i h1
    unfold Ls at h3
    rw [Array.getD_eq_getD_getElem?,Array.getElem?_eq_getElem (by rw [hI.sz];exact h1),Option.getD_some] at h3
    have h4:(lo l.length m)[i]=decide (i<m):=by
     simp only [lo,List.getElem_toArray]
     by_cases hi:i<m
     ·rw [List.getElem_append_left (by simpa using hi)];simp [hi]
     ·rw [List.getElem_append_right (by simpa using hi)];simp [hi]
    rw [h4]
    by_cases hi:i<m
    ·rw [h3.2 hi];simp [hi]
    ·have:¬ listed[i]=true:=fun h=>hi (h3.1 h)
     simp [hi,this]
  subst hlen
  rw [Ii]
  obtain ⟨β,hm,kP⟩:=hI.own
  have N6:∀ i,listed.getD i false=Nat.blt i m:=fun i=>by
   by_cases hi:i<m
   ·rw [show Nat.blt i m=true from by simpa [Nat.blt_eq] using hi];exact dU i hi
   ·have h1:¬ listed.getD i false=true:=hI.hi i (by omega)
    have h2:¬ Nat.blt i m=true:=by simpa [Nat.blt_eq] using hi
    rw [Bool.not_eq_true] at h1 h2
    rw [h1,h2]
  have e:dL β (pk tk (fun i=>listed.getD i false)) S 0=dL β (pk tk (fun i=>Nat.blt i m)) S 0:=ia fun j s hj=>⟨by unfold pk;simp only [N6],fun _=>rfl⟩
  rw [e] at hm
  refine tail β a w ⟨by rw [Zh];exact hm,fun t v hv=>?_,hI.size,hI.defers⟩
  rcases km β t v hv with ⟨j,oj,s,h1,h2,h3,h4⟩ | ⟨h1,h2⟩
  ·obtain ⟨gX,lQ⟩:=fu j oj h1
   rw [h4];exact kP j oj t s lQ h2 h3 (dU j gX)
  ·rw [hI.AP t fun j oj hj jr=>h1 oj (List.mem_of_getElem? (dT j oj (Nat.lt_of_not_le fun hm=>hI.hi j hm jr) hj))]
   exact h0 t v h2
 intro fuel
 induction fuel with
 | zero =>
  intro listed a w hI
  obtain ⟨U,_,pN,rQ⟩:=hI.left
  have hU:U=[]:=List.length_eq_zero_iff.1 rQ
  refine mf 0 listed a w hI fun i hi=>Classical.byContradiction fun hn=>?_
  have:=(pN i).2 ⟨by omega,hn⟩
  rw [hU] at this;cases this
 | succ fuel ih =>
  intro listed a w hI
  by_cases dU:∀ i,i<m→Ls listed i
  ·exact mf _ listed a w hI dU
  ·have hex:∃ i,i<m∧¬ Ls listed i:=Classical.byContradiction fun hh=>dU fun i hi=>Classical.byContradiction fun hn=>hh ⟨i,hi,hn⟩
   obtain ⟨i0,rP,o7⟩:=hex
   have main:∀ i,i∈Region.ready .any l.toArray listed→i<m→wpOpIn (FR r0) 0 P l.toArray Q i (wpAnyIn (FR r0) 0 P .any l.toArray Q fuel (listed.setIfInBounds i true)) a w∧(i=p→wpAnyIn (FR r0) 0 P .any l.toArray Q (fuel+1) listed a w):=by
    intro i hi oT
    obtain ⟨o,ho,hn,lB⟩:=(dA hI.sz).1 hi
    obtain ⟨d,EL,s,hd,fw,qZ,sF,dB⟩:=fO i o (Zi _) (dT i o oT ho)
    obtain ⟨CP,CQ,⟨B,hB,ig⟩,PY⟩:=dB
    obtain ⟨β,hm,kP⟩:=hI.own
    have lA:∀ (j:Nat),fk o j=true→Ls listed j:=fun j hw=>by
     obtain ⟨e,he,hb,pq⟩:=dq hw
     rw [← pq];exact lB e he hb
    have PZ:∀ (j:Nat),tY l o j=true→Ls listed j:=fun j hw=>by
     unfold tY at hw
     rw [Bool.or_eq_true] at hw
     rcases hw with hw | hw
     ·exact lA j hw
     ·obtain ⟨k,_,hk⟩:=List.any_eq_true.1 hw
      rw [Bool.and_eq_true] at hk
      have MH:=lA k hk.1
      cases hq:l[k]? with
      | none=>rw [hq] at hk;cases hk.2
      | some q =>
       rw [hq] at hk
       obtain ⟨e,he,hb,pq⟩:=dq hk.2
       rw [← pq]
       exact hI.dc k q hq MH e he hb
    have pt:∀ (j:Nat) (oj:Oper) (e:Nat),l[j]? = some oj→j<m→j≠i→oj.dst=some e→d≠e:=by
     intro j oj e hj gX hne he
     rcases Nat.lt_or_ge j i with h | h
     ·exact fun e'=>(di (jN hc h oT hj ho) he hd).1 e'.symm
     ·exact (di (jN hc (show i<j by omega) gX ho hj) hd he).1
    have iP:i<listed.size:=by rw [hI.sz];omega
    have BY:mH o=true:=hc.op o (List.mem_of_getElem? ho)
    -- zK cM O5 zK operation looks at
    have hT:∀ t∈o.looksAt l.toArray,∀ v,cF (EL β) t=some v→a.tmps[t]? = some v:=by
     intro t ht v hv
     rcases sF β t v hv with ⟨j,oj,sj,h1,h2,h3,h4⟩ | ⟨h1,h2⟩
     ·have nf:j<i:=by have:=(List.getElem?_eq_some_iff.1 h1).1;rw [List.length_take] at this;omega
      rw [List.getElem?_take,if_pos nf] at h1 h3
      obtain ⟨gX,lQ⟩:=fu j oj h1
      have jr:=lA j ((di (jN hc nf oT lQ ho) h2 hd).2 (.inl ht))
      rw [h4];exact kP j oj t sj lQ h2 h3 jr
     ·rw [hI.AP t fun j oj hj jr iy=>?_]
      ·exact h0 t v h2
      ·have gX:j<m:=Nat.lt_of_not_le fun hm=>hI.hi j hm jr
       rcases Nat.lt_trichotomy j i with h | h | h
       ·exact h1 oj (List.mem_of_getElem? (by rw [List.getElem?_take,if_pos h];exact dT j oj gX hj)) iy
       ·subst h;exact hn jr
       ·have hw:=(di (jN hc h gX ho hj) hd iy).2 (.inr ht)
        obtain ⟨e,he,hb,pq⟩:=dq hw
        have:=hI.dc j oj hj jr e he hb
        rw [pq] at this
        exact hn this
    have u0:∀ t v,cF (EL β) t=some v→t<c.nt:=by
     intro t v hv
     rcases sF β t v hv with ⟨j,oj,sj,h1,h2,_,_⟩ | ⟨_,h2⟩
     ·have nf:j<i:=by have:=(List.getElem?_eq_some_iff.1 h1).1;rw [List.length_take] at this;omega
      rw [List.getElem?_take,if_pos nf] at h1
      obtain ⟨d',_,_,vK,ze,_⟩:=fO j oj (Zi _) h1
      rw [h2] at vK;cases vK
      exact ze
     ·have:=h0 t v h2
      rw [← Ih]
      exact (Array.getElem?_eq_some_iff.1 this).1
    obtain ⟨a',kF,iW,_⟩:=om hI.size u0 hT
    have zh:jE c hs (S.take i) B β w:=by
     rintro A (rfl | ⟨j,hj,sj,h1,rfl⟩)
     ·exact hm.sublist ((List.sublist_append_left _ _).trans (List.sublist_append_right _ _))
     ·have nf:j<i:=by have:=(List.getElem?_eq_some_iff.1 h1).1;rw [List.length_take] at this;omega
      rw [List.getElem?_take,if_pos nf] at h1
      have jr:=PZ j (hB j hj).1
      exact hm.sublist ((qC (lst:=pk tk (fun i=>listed.getD i false)) (i:=0) h1 (by rw [Nat.zero_add];unfold pk;dsimp only;rw [(hB j hj).2,show listed.getD j false=true from jr];rfl)).append (List.sublist_append_left _ _))
    have Wo:listed.getD i false=false:=by have h:¬ listed.getD i false=true:=hn;simpa using h
    have XU:∀ j,iz tk i j=true→fk o j=true:=fun j h=>by
     unfold iz at h
     rw [Bool.and_eq_true] at h
     exact PY j (by simpa using h.2) (by simpa [Nat.blt_eq] using h.1)
    have XV:∀ j,iz tk i j=true→j<i:=fun j h=>by
     obtain ⟨e,he,hb,pq⟩:=dq (XU j h)
     have:=jD hc.ac ho e he hb
     omega
    have hpk:∀ j,iz tk i j=true→pk tk (fun i=>listed.getD i false) j=true:=fun j h=>by
     have h1:listed.getD j false=true:=lA j (XU j h)
     have h2:tk j=i:=by unfold iz at h;rw [Bool.and_eq_true] at h;simpa using h.2
     unfold pk;dsimp only
     rw [h1,h2,Wo]
     simp
    have etk:dL β (fun j=>pk tk (fun i=>listed.getD i false) j&&iz tk i j) S 0=dL β (iz tk i) (S.take i) 0:=by
     rw [qD (n:=i) fun j hj=>by
      rw [Nat.zero_add] at hj
      cases ht:iz tk i j with
      | false=>rw [Bool.and_false]
      | true=>have:=XV j ht;omega]
     refine ia fun j sj _=>⟨?_,fun _=>rfl⟩
     rw [Nat.zero_add]
     cases ht:iz tk i j with
     | false=>rw [Bool.and_false]
     | true=>rw [hpk j ht];rfl
    have X6:=hm.perm ((uA (β:=β) (pk tk (fun i=>listed.getD i false)) (iz tk i) S 0).append_right _)
    rw [Zh,etk] at X6
    obtain ⟨rS,_,SV,Tt⟩:=Mem.E2 X6
    have hq:=ig β a' w rS kF zh SV
    have hex:=im (o:=o) (ops:=l.toArray) BY iW
    -- OU a done operation R5 T4 not TG on this one
    have nZ:∀ j,Ls listed j→∀ x k,vv l j k=true→β k=ud β i x k:=by
     intro j jr x k hk
     refine (ub fun e=>?_).symm
     subst e
     unfold vv at hk
     rw [Bool.or_eq_true] at hk
     rcases hk with hk | hk
     ·have:j=k:=by simpa using hk
      subst this;exact hn jr
     ·have Qq:j<l.length:=by
       have gX:j<m:=Nat.lt_of_not_le fun hm=>hI.hi j hm jr
       omega
      exact hn (gQ hI.dc hc.ac j Qq jr k hk)
    have gH:∀ v w',Kl i s β w rS v w'→wpAnyIn (FR r0) 0 P .any l.toArray Q fuel (listed.setIfInBounds i true) (a.put o.dst v) w':=by
     rintro v w' ⟨x,rfl,hk,fp,kQ,ie,wc⟩
     refine ih _ _ _ ⟨by simpa using hI.sz,?_,?_,by rw [hd];exact hI.defers,by simpa [Act.put,hd] using hI.size,?_,?_,ud β i x,?_,?_⟩
     ·intro k ok rn hL e he hb
      rw [cr iP] at hL ⊢
      rcases hL with e' | hL
      ·subst e'
       rw [ho] at rn;cases rn
       exact .inr (lB e he hb)
      ·exact .inr (hI.dc k ok rn hL e he hb)
     ·intro k rn hL
      rw [cr iP] at hL
      rcases hL with e | hL
      ·omega
      ·exact hI.hi k rn hL
     ·intro t ht
      have h1:d≠t:=fun e=>by subst e;exact ht i o ho ((cr iP).2 (.inl rfl)) hd
      rw [hd]
      simp only [Act.put,Array.getElem?_setIfInBounds_ne h1]
      exact hI.AP t fun j oj hj hL=>ht j oj hj ((cr iP).2 (.inr hL))
     ·obtain ⟨U,wh,pN,rQ⟩:=hI.left
      refine ⟨U.erase i,wh.erase i,fun k=>?_,?_⟩
      ·rw [wh.mem_erase_iff,pN k,cr iP]
       constructor
       ·rintro ⟨h1,h2,h3⟩
        exact ⟨h2,fun h=>h.elim h1 h3⟩
       ·rintro ⟨h1,h2⟩
        exact ⟨fun e=>h2 (.inl e),h1,fun h=>h2 (.inr h)⟩
      ·have Qr:i∈U:=(pN i).2 ⟨by omega,hn⟩
       rw [List.length_erase_of_mem Qr,rQ];rfl
     ·have lP:=Tt _ w' hk ⟨fp,kQ,ie,wc⟩
      have e1:dL β (fun j=>pk tk (fun i=>listed.getD i false) j&&!iz tk i j) S 0=dL (ud β i x) (fun j=>pk tk (fun i=>listed.getD i false) j&&!iz tk i j) S 0:=ia fun j sj hj=>by
       refine ⟨rfl,fun hl=>?_⟩
       rw [Nat.zero_add] at hl
       have hl:listed.getD j false=true:=by
        unfold pk at hl
        simp only [Bool.and_eq_true] at hl
        exact hl.1.1
       have gX:j<m:=by have:=(List.getElem?_eq_some_iff.1 hj).1;omega
       obtain ⟨oj,Ie⟩:∃ oj,l[j]? = some oj:=⟨l[j]'(by omega),Zc (by omega)⟩
       obtain ⟨_,_,s2,_,_,hs2,_,uW⟩:=fO j oj (Zi _) (dT j oj gX Ie)
       rw [hj] at hs2;cases hs2
       exact uW.CQ _ _ (nZ j hl x)
      rw [e1,← Zh] at lP
      have mO:∀ k,(listed.setIfInBounds i true).getD k false=(listed.getD k false||Nat.beq k i):=fun k=>by
       by_cases Qp:k=i
       ·subst Qp
        rw [show Nat.beq k k=true by simp,Bool.or_true]
        exact (cr iP).2 (.inl rfl)
       ·rw [show Nat.beq k i=false from Bool.eq_false_iff.2 fun h=>Qp (Nat.eq_of_beq_eq_true h),Bool.or_false]
        simp [Array.getD_eq_getD_getElem?,Array.getElem?_setIfInBounds_ne (Ne.symm Qp)]
      refine lP.perm ((qE (k:=i) qZ ?_ ?_ ?_).append_right _)
      ·rw [Nat.zero_add]
       unfold pk;dsimp only
       rw [Wo];rfl
      ·rw [Nat.zero_add]
       unfold pk;dsimp only
       rw [mO,show Nat.beq i i=true by simp,Bool.or_true,Bool.true_and]
       by_cases P6:tk i=0
       ·rw [P6];rfl
       ·have VN:0<tk i:=Nat.pos_of_ne_zero P6
        have tL:listed.getD (tk i) false=false:=by
         cases hh:listed.getD (tk i) false with
         | false=>rfl
         | true =>
          exfalso
          have Yu:Ls listed (tk i):=hh
          have Rv:tk i<m:=Nat.lt_of_not_le fun hm=>hI.hi _ hm Yu
          obtain ⟨ot,X0⟩:∃ ot,l[tk i]? = some ot:=⟨l[tk i]'(by omega),Zc (by omega)⟩
          obtain ⟨_,_,_,_,_,_,_,Wd⟩:=fO (tk i) ot (Zi _) (dT _ ot Rv X0)
          obtain ⟨e,he,hb,pq⟩:=dq (Wd.waits i rfl VN)
          have:=hI.dc (tk i) ot X0 Yu e he hb
          rw [pq] at this
          exact hn this
        have hne:Nat.beq (tk i) i=false:=by
         cases hh:Nat.beq (tk i) i with
         | false=>rfl
         | true =>
          exfalso
          have e:tk i=i:=by simpa using hh
          have:=XV i (by unfold iz;rw [hh,Bool.and_true];rw [e] at VN;simpa [Nat.blt_eq] using VN)
          omega
        rw [mO,tL,hne];simp
      ·intro j hj
       rw [Nat.zero_add] at hj
       unfold pk;dsimp only
       rw [mO,mO,show Nat.beq j i=false from Bool.eq_false_iff.2 fun h=>hj (Nat.eq_of_beq_eq_true h),Bool.or_false]
       unfold iz
       cases h1:Nat.beq (tk j) i with
       | false=>simp
       | true =>
        have e:tk j=i:=by simpa using h1
        rw [e,Wo]
        cases Nat.blt 0 i <;> simp
     ·intro j oj e sj hj he ju hL
      rw [cr iP] at hL
      by_cases nf:j=i
      ·subst nf
       rw [ho] at hj;cases hj
       rw [hd] at he;cases he
       rw [qZ] at ju;cases ju
       rw [hd]
       simp [Act.put,hI.size,fw]
      ·have zQ:=hL.resolve_left nf
       have gX:j<m:=Nat.lt_of_not_le fun hm=>hI.hi j hm zQ
       obtain ⟨_,_,s2,_,_,hs2,_,uW⟩:=fO j oj (Zi _) (dT j oj gX hj)
       rw [ju] at hs2;cases hs2
       rw [hd]
       simp only [Act.put,Array.getElem?_setIfInBounds_ne (pt j oj e hj gX nf he)]
       rw [← uW.CP _ _ (nZ j zQ x)]
       exact kP j oj e sj hj he ju zQ
    have F7:=hq
    refine ⟨?_,fun Tn=>?_⟩
    rotate_left
    ·subst Tn
     exact (Fv oT).elim
    unfold wpOpIn
    rw [show l.toArray[i]? = some o from by simpa using ho]
    simp only []
    rw [gM iW] at hq
    split
    ·rename_i hw
     rw [if_pos hw] at hq
     refine ⟨dH _ _ _ _ _,?_⟩
     rw [Oper.semAt_eq _ _ _ (fun cc he=>by simp [mH,he] at BY),← hex]
     unfold qh at hq
     revert hq
     generalize (execOp a'.eval o).run P w=res
     intro hq
     match res,hq with
     | .ok (.value v) w',hq=>exact gH v w' hq
     | .ok (.enter f args) w', ⟨e, cn⟩ =>
      subst e
      refine ⟨by simp [FR,Fence.wide],(gV cn).mono fun e vQ h=>?_⟩
      obtain ⟨v,rfl,hq⟩:=h
      exact gH v vQ hq
    ·rename_i hw
     rw [if_neg hw] at hq
     exact ⟨fun _ _=>trivial,gH undef w hq⟩
   by_cases hp:p<m∧p∈Region.ready .any l.toArray listed
   ·exact (main p hp.2 hp.1).2 rfl
   ·refine ⟨fun hr=>?_,fun i hi=>?_⟩
    ·obtain ⟨i,hi⟩:=ja hI.sz hc.ac ⟨i0,by omega,o7⟩
     rw [hr] at hi;cases hi
    ·have oT:i<m:=Nat.lt_of_not_le fun hm=>by
      have KD:=ss hc hI.sz hI.dc hi hm
      by_cases Ia:p<m
      ·by_cases TM:Ls listed p
       ·exact o7 (by
         by_cases e:i0=p
         ·rw [e];exact TM
         ·exact KD i0 rP e)
       ·refine hp ⟨Ia,(dA hI.sz).2 ⟨l[p]'(by omega),Zc (by omega),TM,fun e he hb=>?_⟩⟩
        have aL:=jD hc.ac (Zc (show p<l.length by omega)) e he hb
        exact KD e.on (by omega) (by omega)
      ·exact o7 (KD i0 rP (by omega))
     exact (main i hi oT).1
def tj (tk:Nat→Nat) (P:Program) (r0:Option Nat) (c:Cx) (D:List Nat) (hs:List a8) (l:List Oper) (Q:Exit→Act→World→Prop) (m i n:Nat) (rest:List Oper) (SL:(Nat→Value)→aI) (S:List cK):Prop:=
 ∃ S' nr,vz P c hs l tk i (rest.take n) SL S S' nr∧∀ β,Tr c D (nr β) (dL β (pk tk (fun i=>Nat.blt i m)) S' 0++hs) (xX P r0 l.toArray Q (l.length-m) (lo l.length m))
theorem GB {id:Nat} (m:Nat) (tk:Nat→Nat) [pM:Rh P] (iQ:G9 l m=true) (k:tj tk P r0 c D hs l Q m 0 m l (fun _=>sl) []):Tr c D sl hs (WP P r0 (.region id l.toArray true) Q):=fun a w a7=>by
 obtain ⟨S,nr,hp,ht⟩:=k
 have h:(Code.region id l.toArray true).wpIn (FR r0) 0 P (NP Q) a w:=wpIn_region_any pM.eq (by
  refine Pu (tk:=tk) (p:=m) (sq iQ) (fun h=>absurd h (Nat.lt_irrefl _)) (fun c a w h=>h.elim) hp a7.cM a7.size (fun β a w a7=>ht β a w a7) l.toArray.size _ _ _ ⟨by simp,?_,?_,a7.defers,a7.size,fun t _=>rfl,?_,fun _=>undef,?_,?_⟩
  ·exact fun k o _ hL=>absurd hL (eL _ _)
  ·exact fun k _ hL=>eL _ _ hL
  ·exact ⟨List.range l.length,List.nodup_range,fun i=>⟨fun h=>⟨by simpa using h,eL _ _⟩,fun h=>by simpa using h.1⟩,by simp⟩
  ·have e:∀ (T:List cK) (i:Nat),dL (fun _=>undef) (pk tk (fun i=>(Array.replicate l.toArray.size false).getD i false)) T i=[]:=by
    intro T
    induction T with
    | nil=>intro i;rfl
    | cons s T ih =>
     intro i
     have:=eL l.toArray.size i
     unfold Ls at this
     unfold dL
     rw [if_neg (by unfold pk;simp only [Bool.and_eq_true];exact fun h=>this h.1),ih];rfl
   rw [e]
   exact a7.mem.drew
  ·exact fun j o d s _ _ _ hL=>absurd hL (eL _ _))
 exact wpIn_mono h fun e a' w' h=>by
  cases e with
  | panic c=>exact h.elim
  | _=>exact h
end
section
variable {P:Program} {c:Cx} {D:List Nat} {sl:aI} {hs hs':List a8} {X:Act→World→Prop} {Q:Exit→Act→World→Prop} {l:List Oper} {m i n d:Nat} {rk:List (Nat×Nat)} {op:Op} {ty:TypeId} {pos:String} {af:Array Edge} {rest:List Oper} {SL:(Nat→Value)→aI} {S:List cK}
variable {r0:Option Nat}
theorem tV {o:Oper} {s:cK} (hd:o.dst=some d) (fw:Nat.blt d c.nt=true) (h:Kj P c hs l (kL rk) i o SL S s) (k:tj (kL rk) P r0 c D hs l Q m (i+1) n rest (fun β=>(d,s.F β)::SL β) (S++[s])):tj (kL rk) P r0 c D hs l Q m i (n+1) (o::rest) SL S:=by
 obtain ⟨S',nr,hp,ht⟩:=k
 exact ⟨S',nr,.step hd (by simpa [Nat.blt_eq] using fw) h hp,ht⟩
theorem Rb (k:∀ β,Tr c D (SL β) (dL β (pk (kL rk) (fun i=>Nat.blt i m)) S 0++hs) (xX P r0 l.toArray Q (l.length-m) (lo l.length m))):tj (kL rk) P r0 c D hs l Q m i 0 rest SL S:=
 ⟨S,SL,.nil,k⟩
theorem Kf {ι:Type} {Φ:ι→Prop} {val:ι→Value} {own:ι→List a8} (g:Value→ι) (hg:∀ x,∃ v,g v=x) {f:FuncId} {args:(Nat→Value)→List Value} (B:List Nat)
  (hB:(B.all fun j=>tY l ⟨some d,op,ty,pos,af,none⟩ j&&Nat.beq (kL rk j) 0)=true) (hn:(rk.all fun p=>!Nat.beq p.2 i)=true)
  (hr:∀ β,ln P (SL β) ⟨some d,op,ty,pos,af,none⟩ f (args β)) (hd:Nat.blt d c.nt=true) (hc:∀ β w,jE c hs S B β w→bd P f (args β) w [] Φ val own)
  (k:tj (kL rk) P r0 c D hs l Q m (i+1) n rest (fun β=>(d,val (g (β i)))::SL β) (S++[⟨fun β=>val (g (β i)),fun β=>own (g (β i))⟩])) :
  tj (kL rk) P r0 c D hs l Q m i (n+1) (⟨some d,op,ty,pos,af,none⟩::rest) SL S:=by
 refine tV (s:=⟨fun β=>val (g (β i)),fun β=>own (g (β i))⟩) rfl hd ⟨fun β β' h=>by simp only [h i (iM l i)],fun β β' h=>by simp only [h i (iM l i)],⟨B,fun j hj=>?_,fun β a w rS rm zh _=>?_⟩,fun j hj hp=>(tr hn hj hp).elim⟩ k
 ·have:=List.all_eq_true.1 hB j hj
  rw [Bool.and_eq_true] at this
  exact ⟨this.1,by simpa using this.2⟩
 rw [if_pos (by simp [Region.wanted])]
 unfold qh
 rw [(hr β).2 a w rm]
 refine ⟨rfl,(hc β w zh).mono fun e w' ⟨x,he,_,hk,fp,hn,hs',hf⟩=>?_⟩
 obtain ⟨v,hv⟩:=hg x
 refine ⟨val x,he,v,by simp only [jV,hv],hk.mono (by simp),fp,hn,by simp only [jV,hv];exact hs',fun b hb=>?_⟩
 rcases hf b hb with h | h
 ·cases h
 ·exact .inr h
theorem lF {F:(Nat→Value)→Value} (hr:∀ β,cL P c (SL β) hs ⟨some d,op,ty,pos,af,none⟩ (F β)) (hi:pB l i F) (hd:Nat.blt d c.nt=true) (hn:(rk.all fun p=>!Nat.beq p.2 i)=true) (k:tj (kL rk) P r0 c D hs l Q m (i+1) n rest (fun β=>(d,F β)::SL β) (S++[⟨F,fun _=>[]⟩])) :
  tj (kL rk) P r0 c D hs l Q m i (n+1) (⟨some d,op,ty,pos,af,none⟩::rest) SL S:=
 tV (s:=⟨F,fun _=>[]⟩) rfl hd ⟨hi,fun _ _ _=>rfl,⟨[],by simp,fun β a w rS h1 h2 _=>by
  rw [if_pos (by simp [Region.wanted])]
  unfold qh
  rw [(hr β).2 a w h1 h2.mem]
  exact ⟨β i,by rw [tZ],.refl _ _,[],List.nodup_nil,rfl,by simp⟩⟩,fun j hj hp=>(tr hn hj hp).elim⟩ k
theorem EK {V:Nat→Value} {ob:(Nat→Value)→Obj} (hr:∀ β,qg P c (SL β) hs ⟨some d,op,ty,pos,af,none⟩ V (ob β)) (hi:∀ β β',(∀ k,k≠i→vv l i k=true→β k=β' k)→ob β=ob β') (hd:Nat.blt d c.nt=true) (hn:(rk.all fun p=>!Nat.beq p.2 i)=true)
  (k:tj (kL rk) P r0 c D hs l Q m (i+1) n rest (fun β=>(d,V (fP (β i)))::SL β) (S++[⟨fun β=>V (fP (β i)),fun β=>[bA (fP (β i)) (ob β)]⟩])) :
  tj (kL rk) P r0 c D hs l Q m i (n+1) (⟨some d,op,ty,pos,af,none⟩::rest) SL S:=
 tV (s:=⟨fun β=>V (fP (β i)),fun β=>[bA (fP (β i)) (ob β)]⟩) rfl hd ⟨fun β β' h=>by simp only [h i (iM l i)],fun β β' h=>by simp only [h i (iM l i),hi β β' fun k _ hk=>h k hk],⟨[],by simp,fun β a w rS h1 h2 _=>by
  rw [if_pos (by simp [Region.wanted])]
  unfold qh
  rw [(hr β).2 a w h1 h2.mem]
  have e:ob (ud β i (.int .i64 (w.heap.size:Int)))=ob β:=hi _ _ fun k hk _=>ub hk
  exact ⟨.int .i64 (w.heap.size:Int),by simp only [jV,oU],.alloc _ _ _,[w.heap.size],by simp,⟨[w.heap.size],[],rfl,⟨by simp only [jV,oU],by simp only [jV,oU];rw [e];exact World.alloc_heap_new w (ob β)⟩,rfl⟩,by simp⟩⟩,fun j hj hp=>(tr hn hj hp).elim⟩ k
end
end Go.SL.KR
namespace Go.SL.KR
open Go Go.SL
section
variable {P:Program} {c:Cx} {D:List Nat} {sl:aI} {hs hs':List a8} {X:Act→World→Prop} {Q:Exit→Act→World→Prop} {l:List Oper} {m i n d:Nat} {rk:List (Nat×Nat)} {op:Op} {ty:TypeId} {pos:String} {af:Array Edge} {rest:List Oper} {SL:(Nat→Value)→aI} {S:List cK}
variable {r0:Option Nat}
theorem Dm {t e:TypeId} {agg:Bool} {size bytes jx n0:Nat} {z:Value} {x y:Operand} {Vx Vy:(Nat→Value)→Value} {Ax:(Nat→Value)→List a8} {xs:List Value} {news:List (List Value)} [hu:iH P t (.slice e)] [hT:Ty P e agg size] [hZ:lG P e z] [hBy:vO P e bytes] (B:List Nat)
  (hB:(B.all fun j=>tY l ⟨some d,.call ⟨.builtin .append,#[x,y],#[t,t]⟩,ty,pos,af,none⟩ j&&Nat.beq (kL rk j) 0)=true)
  (hS:S[jx]? = some ⟨Vx,Ax⟩) (hrow:∀ β w fp,bY (hp w) (Ax β) fp→(row e size (Vx β) n0 xs).sat (hp w) fp)
  (htk:∀ k,kL rk k=i→k=jx) (hti:kL rk jx=i) (h0:Nat.blt 0 i=true) (hwx:fk ⟨some d,.call ⟨.builtin .append,#[x,y],#[t,t]⟩,ty,pos,af,none⟩ jx=true)
  (hx:∀ β,Is (SL β) x (Vx β)) (hy:∀ β,Is (SL β) y (Vy β)) (hsrc:∀ β w,jE c hs S B β w→Rd w (Vy β) size news) (h1:∀ r∈news,∀ u∈r,u.oneCell'=true) (hz:z.cells.size=size) (hsz:Nat.blt 0 size=true) (hb0:Nat.blt 0 bytes=true)
  (hb:(n0+news.length)*bytes≤140737488355328) (hd:Nat.blt d c.nt=true) (hne:news≠[])
  (k:tj (kL rk) P r0 c D hs l Q m (i+1) n rest (fun β=>(d,.slice (vL (β i)).1 (n0+news.length) (vL (β i)).2)::SL β) (S++[⟨fun β=>.slice (vL (β i)).1 (n0+news.length) (vL (β i)).2,fun β=>[row e size (.slice (vL (β i)).1 (n0+news.length) (vL (β i)).2) (n0+news.length) (xs++news.flatten)]⟩])) :
  tj (kL rk) P r0 c D hs l Q m i (n+1) (⟨some d,.call ⟨.builtin .append,#[x,y],#[t,t]⟩,ty,pos,af,none⟩::rest) SL S:=by
 refine tV (s:=⟨fun β=>.slice (vL (β i)).1 (n0+news.length) (vL (β i)).2,fun β=>[row e size (.slice (vL (β i)).1 (n0+news.length) (vL (β i)).2) (n0+news.length) (xs++news.flatten)]⟩) rfl hd ⟨fun β β' h=>by simp only [h i (iM l i)],fun β β' h=>by simp only [h i (iM l i)],⟨B,fun j hj=>?_,fun β a w rS rm zh ie=>?_⟩,fun j hj _=>by rw [htk j hj];exact hwx⟩ k
 ·have:=List.all_eq_true.1 hB j hj
  rw [Bool.and_eq_true] at this
  exact ⟨this.1,by simpa using this.2⟩
 rw [if_pos (by simp [Region.wanted])]
 rw [AH (i:=0) hS fun k=>by
  rw [Nat.zero_add]
  unfold iz
  rw [h0,Bool.true_and]
  by_cases e:k=jx
  ·subst e;rw [hti];simp
  ·rw [show Nat.beq k jx=false from Bool.eq_false_iff.2 fun h=>e (Nat.eq_of_beq_eq_true h)]
   exact Bool.eq_false_iff.2 fun h=>e (htk k (Nat.eq_of_beq_eq_true h))] at ie
 have UJ:=hrow β w rS ie
 have hR:=hsrc β w zh
 have hvx:=hx β a rm
 have XT:=hy β a rm
 have hlen:=fQ hR.sz
 obtain ⟨aa,cap,b2,o2,hV,db,bT,haa,Qz⟩:=hR
 have:=haa hne
 subst this
 rw [hV] at XT
 obtain ⟨de,ii,lT,F8,_,ix⟩:=Ty.parts (P:=P) (t:=e) (agg:=agg) (n:=size)
 have hzero:ii.zero=some z:=by have:=hZ.eq;rw [F8] at this;simpa using this
 have gC:ii.bytes=bytes:=by have:=hBy.eq;rw [F8] at this;simpa using this
 have Bj:0<bytes:=by simpa using hb0
 have qT:=Ar UJ
 have N4:n0+news.length≤maxLen:=by
  have:(n0+news.length)*1≤(n0+news.length)*bytes:=Nat.mul_le_mul_left _ Bj
  unfold maxLen;omega
 have hn:∀ (j:Nat) (u:Value),news.flatten[j]? = some u→w.cell? ⟨b2,o2+j,none⟩=some u:=mR Qz
 have zR:∀ u∈news.flatten,u.oneCell'=true:=fun u hu=>by obtain ⟨r,hr,SH⟩:=List.mem_flatten.1 hu;exact h1 r hr u SH
 obtain ⟨v',w',ig,qS,u3,_⟩:=run_append_own (P:=P) w 0 t ty e ii z size bytes hu.eq F8 hzero ix gC hz (by simpa using hsz) (Vx β) n0 xs qT ⟨b2,o2,none⟩ news.length cap news.flatten hlen
  (fun j u hj=>by rw [eD];exact hn j u hj) zR N4 hb (Zi _)
 have wb:=pZ (P:=P) (t:=t) (ty:=ty) hu.eq F8 hzero (by rw [ix];exact qT) (a:=⟨b2,o2,none⟩) (m:=news.length) (cp:=cap) (by rw [ix];exact hlen) (fun j u hj=>by rw [eD];exact hn j u hj) zR N4 (by rw [gC];exact hb) ig
 have hex:(execOp a.eval ⟨some d,.call ⟨.builtin .append,#[x,y],#[t,t]⟩,ty,pos,af,none⟩).run P w=.ok (.value v') w':=by
  simp [execOp,resolve,invoke,builtin,hvx,XT,ig]
 unfold qh
 rw [hex]
 have FC:rS=(Vx β).ownBlock.toList:=UJ.1
 have hN:0<n0+news.length:=by have:=List.length_pos_iff.2 hne;omega
 have P7:v'=.slice (vL v').1 (n0+news.length) (vL v').2:=by
  rcases qS.2 with ⟨_,e2⟩ | ⟨g,cp,cur,e2,_⟩
  ·omega
  ·rw [e2];rfl
 refine ⟨v',by simp only [jV];exact P7,⟨u3.os,u3.tape,u3.output,wb.2,u3.size,fun q hq Wf=>u3.block q hq (fun he=>Wf ?_)⟩,v'.ownBlock.toList,by cases v'.ownBlock <;> simp,⟨v'.ownBlock.toList,[],(List.append_nil _).symm,by simp only [jV];rw [← P7];exact lx qS,rfl⟩,fun q hq=>?_⟩
 ·rw [FC,← he];simp
 ·have vI:v'.ownBlock=some q:=by simpa [Option.mem_toList] using hq
  rcases wb.1 with h | h
  ·left;rw [FC,← h,vI];simp
  ·right
   rw [h] at vI
   cases vI
   exact Nat.le_refl _
end
end Go.SL.KR
namespace Go.Proofs.A1
open Go Go.SL
def zy (x:Wy):a8:=row 3 1 x.v (fN x.p).length (fN x.p)
theorem zA:∀ j8:List Wy,fT 3 (j8.map Wy.v) (j8.map fun x=>fN x.p)=j8.map zy
 | []=>rfl
 | x::l=>by simp only [List.map_cons,fT,zA l];rfl
theorem Ag:∀ (l:List a8) (A:a8) (m:List a8),Take (l++A::m) A (l++m)
 | [],_,_=>.here
 | _::l,A,m=>.there (Ag l A m)
theorem wQ (A:a8):∀ (l m:List a8),bo (A::(l++m)) l (A::m)
 | [],_=>.nil
 | _::l,m=>.cons (.there .here) (wQ A l m)
theorem uh {c:Cx} {D:List Nat} {sl:aI} {hs hs':List a8} {X:Act→World→Prop} {j8:List Wy} {x:Wy} (hx:x∈j8) (ht:Take hs (ir j8) hs')
  (k:∀ nq,(∀ y,y∈j8↔y=x∨y∈nq)→Tr c D sl (ir nq::row 3 1 x.v x.p.length (fN x.p)::hs') X):Tr c D sl hs X:=by
 obtain ⟨l1,l2,rfl⟩:=List.append_of_mem hx
 have hk:=k (l1++l2) (fun y=>by simp only [List.mem_append,List.mem_cons];constructor <;> (intro h;rcases h with h | h | h <;> simp [h]))
 refine wI (As:=fT 3 ((l1++x::l2).map Wy.v) ((l1++x::l2).map fun x=>fN x.p)) (show Take hs (Kr (fT 3 ((l1++x::l2).map Wy.v) ((l1++x::l2).map fun x=>fN x.p))) hs' from ht) ?_
 rw [zA,List.map_append,List.map_cons,Zh,Zb]
 refine tp (Ag (l1.map zy) (zy x) (l2.map zy++hs')) (fun _ _ h=>h) ?_
 rw [← Zh,← List.map_append]
 refine rp (wQ (zy x) ((l1++l2).map zy) hs') ?_
 have e:ir (l1++l2)=Kr ((l1++l2).map zy):=by rw [← zA];rfl
 rw [← e]
 have e2:zy x=row 3 1 x.v x.p.length (fN x.p):=by unfold zy fN;rw [Zd]
 rw [e2];exact hk
theorem HC (p:List Nat):(fN p).length=p.length:=by unfold fN;rw [Zd]
theorem AV {p:List Nat} {k:Nat} (h:k<p.length) (cur:List Value):(fN p++cur)[k*1]? = some (.int .i64 (p[k]:Nat)):=by
 rw [Nat.mul_one,List.getElem?_append_left (by rw [HC];exact h)]
 unfold fN
 rw [List.getElem?_map,Zc h];rfl
theorem AT (p:List Nat) (i:Nat):(nz p).contains (i:Int)=p.contains i:=by
 induction p with
 | nil=>rfl
 | cons x l ih =>
  show (((i:Int)==(x:Int))||(nz l).contains (i:Int))=((i==x)||l.contains i)
  rw [ih]
  congr 1
  rw [Bool.eq_iff_iff,beq_iff_eq,beq_iff_eq]
  omega
theorem uS {α:Type} {l:List Oper} {i:Nat} {x:α}:pB l i (fun _:Nat→Value=>x):=fun _ _ _=>rfl
theorem Fm {N:Wn} {dm:Int} (h:N.xS=dm):N.least dm []:=by
 refine ⟨N.rG,h,fun q _ _=>?_⟩
 rcases Wn.HG (N:=N) (show [] <+: q from List.nil_prefix) with e | e
 ·rw [← e];exact N.lt_irrefl []
 ·cases hb:N.lt q [] with
  | false=>rfl
  | true=>have:=Wn.lt_trans e hb;rw [N.lt_irrefl] at this;cases this
set_option maxHeartbeats 4000000 in
theorem NB {r:Ro} {s d t p:Value} (v:Int) (so de:ByteArray) {w:World} (h:RR w r s d t p) (hn:pA r) (hV:iR r r.po) (hd:B3 r) (rN:so∈cm r) (fw:de∈ct r) :
  bd Tryz.prog 175 [RA r s d t p,.int .i64 v,.string so,.string de] w [] (fun x:Bool×Wy×List Wy=>(x.1=true→(fj r r.po v so).least (j6 r de) x.2.1.p∧(x.2.1∈x.2.2∨x.2.1=⟨.slice none 0 0,[],0⟩))∧(x.1=false→∀ q,(fj r r.po v so).ok q→(fj r r.po v so).fin q≠j6 r de)∧x.2.1.v.oneCell'=true)
   (fun x=>.tuple #[.agg x.2.1.cells.toArray,.bool x.1]) (fun x=>[ir x.2.2]):=by
 have h6:r.ti.length≤6:=by have:=hn.R3;unfold cQ at this;rwa [Zd] at this
 have h1:=Rd.one h.sr
 have h2:=Rd.one h.de
 have h3:=Rd.one h.ti
 have h4:=Rd.one h.po
 have hti:=h.ti
 obtain ⟨a,cp,b,o',rfl,db,bT,ha,hc⟩:=hti
 have P8:=h.sr
 obtain ⟨a2,nA,b2,o2,rfl,jt,eA,iW,jq⟩:=P8
 have lT:=h.de
 obtain ⟨a3,r5,b3,o3,rfl,lC,fD,qY,oe⟩:=lT
 rw [bJ] at *
 rw [cu] at *
 rw [bU] at *
 unfold maxLen at bT eA fD
 obtain ⟨i0,rP⟩:∃ i:Nat,bu (cm r) so=(i:Nat):=⟨(bu (cm r) so).toNat,by have:=dz rN;omega⟩
 have Io:i0<r.sr.length:=by
  obtain ⟨hl,_⟩:=er (l:=cm r) (s:=so) (by omega)
  rw [rP,Int.toNat_natCast] at hl
  unfold cm at hl;rwa [Zd] at hl
 obtain ⟨j0,sX⟩:∃ i:Nat,bu (ct r) de=(i:Nat):=⟨(bu (ct r) de).toNat,by have:=dz fw;omega⟩
 have Bd:j0<r.de.length:=by
  obtain ⟨hl,_⟩:=er (l:=ct r) (s:=de) (by omega)
  rw [sX,Int.toNat_natCast] at hl
  unfold ct at hl;rwa [Zd] at hl
 have zd:jL r so=(r.sr[i0]).mx:=by unfold jL;rw [rP,Int.toNat_natCast,List.getD_eq_getElem?_getD,Zc Io];rfl
 have Tv:j6 r de=(r.de[j0]).mx:=by unfold j6;rw [sX,Int.toNat_natCast,List.getD_eq_getElem?_getD,Zc Bd];rfl
 have hsrc:∀ w',aG [] w w'→aj Tryz.prog 180 [.agg #[.int .i64 r.lv,.int .i64 r.ma,.slice a2 r.sr.length nA,.slice a3 r.de.length r5,.slice a r.ti.length cp,p],.string so] w' (.int .i64 (i0:Nat)):=fun w' hk=>rP ▸ nI so (h.keeps hk)
 have qX:∀ w',aG [] w w'→aj Tryz.prog 155 [.agg #[.int .i64 r.lv,.int .i64 r.ma,.slice a2 r.sr.length nA,.slice a3 r.de.length r5,.slice a r.ti.length cp,p],.string de] w' (.int .i64 (j0:Nat)):=fun w' hk=>sX ▸ fG de (h.keeps hk)
 have og:=iW (gB Io)
 have eM:=(jq i0 _ (fm Io)).2
 unfold Sr.cells at eM
 have Rz:=eM 1 _ rfl
 have FF:=qY (gl Bd)
 have n9:=(oe j0 _ (eX Bd)).2
 unfold De.cells at n9
 have zf:=n9 1 _ rfl
 unfold RA
 refine aQ Tryz.func175 rfl rfl ?_
 (refine Jr<|Jy rfl rfl fun _ _=>Jz rfl rfl fun _ _=>Ja rfl<|Jn<|Gw ?_;refine Jq ?_)
 rename_i b4 u9 b8 Yo
 with_reducible refine dP 18 (by kernel_rfl) ?_
 (refine nC rfl rfl ae ?_;refine aH (gz (.there .here)) rfl ?_;refine aH (cz (.there .here)) rfl ?_;refine k7 rfl rfl ?_;refine fc aZ rfl (fun w' au=>(hsrc w' (Mem.keeps au))) ?_;refine aH (az (.of rfl) (.of rfl) og (by omega) (by omega) ba) rfl ?_;refine nC rfl rfl ae ?_;refine aH (ag (.of rfl) (At.base Rz rfl)) rfl ?_;refine nC rfl rfl ae ?_;refine aH (gz (.there .here)) rfl ?_;refine aH (cz (.there .here)) rfl ?_;refine k7 rfl rfl ?_;refine fc aZ rfl (fun w' au=>(qX w' (Mem.keeps au))) ?_;refine aH (az (.of rfl) (.of rfl) FF (by omega) (by omega) ba) rfl ?_;refine nC rfl rfl ae ?_;refine aH (ag (.of rfl) (At.base zf rfl)) rfl ?_;refine aH (dw (.of rfl)) rfl ?_;refine aH (dw (.of rfl)) rfl ?_)
 with_reducible refine dY ?_
 rw [← zd,← Tv]
 (refine Jn<|Jq<|Jr<|Jv rfl<|Jv rfl<|JC rfl<|Jn<|gm rfl (fun ar=>?_) fun ar=>?_;refine Jr<|ab (aU .nil an) rfl ?_;refine aq (.of rfl) (.of rfl) .here rfl rfl (gF rfl rfl) (bC rfl) an ?_;refine Ja rfl<|Jn<|Ju<|rr ?_;rotate_left;refine Jk<|Jr<|ab (cz (.there .here)) rfl ?_;refine Jv rfl<|Jv rfl ?_;rotate_right)
 ·refine wM ?_
  first | with_reducible apply aM | with_reducible apply aN
  case he=>exact rW rfl inferInstance rfl (.there .here) an (by rfl) (by rfl)
  case hR=>
   intro w' au
   exact aB (true,⟨.slice none 0 0,[],0⟩,[]) ⟨fun _=>⟨Fm (show jz r so=_ by rw [mD rN];exact ar),.inr rfl⟩,(fun e=>by cases e),rfl⟩ (by exact .cons .here .nil) au rfl
 refine JN eh rfl (fun w1 aS=>JU (s:=.slice a2 r.sr.length nA) (d:=.slice a3 r.de.length r5) (t:=.slice a r.ti.length cp) (p:=p) v so (h.keeps aS.keeps) (by omega) rN) ?_
 rintro ⟨wv,W⟩ hW
 have hS:=o8.begin hn hV v (de:=de) rN h6 ar hW
 clear ar
 dsimp only [id_eq,Zb,Za]
 refine aY (E:=244) (sz:=2) (by exact .here) fun va vc e=>?_
 subst e
 (refine Jz rfl rfl fun _ _=>aq (.of rfl) (.of rfl) .here rfl rfl (ed rfl) (bC rfl) an ?_;refine Ji<|Jz rfl rfl fun _ _=>Ji<|Ja rfl<|Jn<|Jq<|GA ?_;refine Jt<|Jq<|J0 ?_)
 rename_i JY W9 Q7 ac2
 refine EU (E:=244) (sz:=2) bN ?_
 refine Dy (ι:=Value×List Wy×List Wy) (fun x=>o8 (fj r r.po v so) (j6 r de) x.2.1 x.2.2)
  (fun x=>[(14,.bool false),(13,.pointer (some ⟨Q7,0,none⟩)),(12,.pointer (some ⟨JY,0,none⟩)),(11,.int .i64 (j6 r de)),(8,.pointer (some ⟨b8,0,none⟩)),(4,.pointer (some ⟨b4,0,none⟩)),(1,.int .i64 v)])
  (fun x=>[bA JY (.cells #[x.1] 329 (0,0)),kd 244 2 x.1 x.2.1.length (mr x.2.1),ir x.2.2,bA Q7 (.cells #[.slice none 0 0,.int .i64 0] 244 (0,0)),bA b8 (.cells #[.slice none 0 0,.int .i64 0] 244 (0,0)),
   JP b4 r (.slice a2 r.sr.length nA) (.slice a3 r.de.length r5) (.slice a r.ti.length cp) p]) (fun x=>(fj r r.po v so).wt (x.2.1.map Wy.p)) ?_ ?_
 ·apply wH (.slice va W.length vc,W,W) hS
  case hs1=>exact cd
  case ht=>
   show bo _ [bA JY (.cells #[.slice va W.length vc] 329 (0,0)),kd 244 2 (.slice va W.length vc) W.length (mr W),ir W,bA Q7 (.cells #[.slice none 0 0,.int .i64 0] 244 (0,0)),bA b8 (.cells #[.slice none 0 0,.int .i64 0] 244 (0,0)),
    JP b4 r (.slice a2 r.sr.length nA) (.slice a3 r.de.length r5) (.slice a r.ti.length cp) p] _
   exact .cons bN (.cons .here (.cons (.there .here) (.cons .here (.cons .here (.cons .here .nil)))))
 rintro ⟨wv,Q,j8⟩ hS D
 dsimp only at hS ⊢
 have Yt:=hS.len
 refine wJ (by exact Take.there .here) fun qa qc e Ry V3=>?_
 subst e
 by_cases U1:Q.length=0
 ·have Ig:Q=[]:=List.eq_nil_of_length_eq_zero U1
  subst Ig
  (refine Jq<|Jr<|JL rfl .here rfl<|JI rfl<|JE rfl<|Jn<|Jc rfl fun ar=>Jp<|Jl<|Jo<|Jt<|Jr<|ab (cz cX) rfl ?_;refine Jv rfl<|aq (.of rfl) (.of rfl) eR rfl rfl (gF rfl rfl) (bC rfl) an ?_;refine Ja rfl<|Jn<|Je<|rr ?_)
  first | with_reducible apply aM | with_reducible apply aN
  case he=>exact rW rfl inferInstance rfl .here an (by rfl) (by rfl)
  case hR=>
   intro w' au
   exact aB (false,⟨.slice none 0 0,[],0⟩,j8) ⟨(fun e=>by cases e),(fun _=>Wn.HT hS.inv),rfl⟩ (by exact .cons cX .nil) au rfl
 ·refine Jq<|Jr<|JL rfl .here rfl<|JI rfl<|JE rfl<|Jn<|Jd rfl fun ar=>Jk<|J0<|Jr<|JL rfl .here rfl ?_
  with_reducible apply fI (As:=[kd 244 2 (.slice qa Q.length qc) Q.length (mr Q),ir j8])
  case hr=>exact aZ
  case hd=>rfl
  case ht=>exact sS
  case hc=>
   intro w1 zS aS uY hs1 B2 _
   exact GP uY hs1 rfl hS.sub (by omega) hS.one
  rintro Q' ⟨gU,SQ⟩
  have TK:Q'.length=Q.length:=gU.length_eq
  replace hS:=hS.perm gU
  dsimp only [id_eq,Zb,Za]
  have hwt:=Wn.Dt (N:=fj r r.po v so) (gU.map Wy.p)
  rw [← TK] at U1 Yt Ry ⊢
  clear gU
  cases Q' with
  | nil=>exact absurd rfl U1
  | cons x R =>
   clear U1 TK
   obtain ⟨xv,xp,xf⟩:=x
   have UF:=hS.sub ⟨xv,xp,xf⟩ (by simp)
   have UH:xv.oneCell'=true:=hS.one ⟨xv,xp,xf⟩ UF
   have qi:(fj r r.po v so).ok xp∧xp≠[]:=hS.inv.ok xp (by simp)
   have hwx:mr (⟨xv,xp,xf⟩::R)=[xv,.int .i64 (xf:Nat)]++mr R:=rfl
   have X8:((⟨xv,xp,xf⟩:Wy)::R).length=R.length+1:=rfl
   rw [X8] at Ry Yt
   rw [X8,hwx]
   refine Ji<|JL rfl bN rfl ?_
   refine z6 (by exact .here) (Nat.succ_pos _) fun g off gL pre cur e km jJ aS hfit hlen=>?_
   cases e
   have c0:dW (pre++([xv,.int .i64 (xf:Nat)]++mr R)++cur) (off+0*2) 2=[xv,.int .i64 (xf:Nat)]:=by
    rw [iX,Zh,Nat.zero_mul,Nat.add_zero,← km,List.drop_left];rfl
   (refine ab (az (.of rfl) (.of rfl) rfl (by omega) (by omega) ba) rfl ?_;refine ab (cA (.of rfl) .here c0 rfl) rfl ?_;refine Jz rfl rfl fun _ _=>aq (.of rfl) (.of rfl) .here rfl rfl (gF UH rfl) (bC rfl) an ?_;refine Ji<|JL rfl cX rfl<|ab (pD (.of rfl) (.of rfl) (by omega) (by omega)) rfl ?_;refine aq (.of rfl) (.of rfl) cX rfl rfl (ed rfl) (bC rfl) an ?_;refine Jn<|Jq ?_)
   rename_i Q6 W8
   refine zZ (n:=R.length+1) (sz:=2) (cap:=qc) bN km jJ aS hfit hlen ?_
   refine zY (by exact .here) ?_
   rw [show ([xv,.int .i64 (xf:Nat)]++mr R).drop 2=mr R from rfl]
   refine uh UF cX fun nq Oi=>?_
   have NX:0<xp.length:=List.length_pos_iff.2 qi.2
   have UE:xp.length≤r.ti.length:=Wn.uF qi.1
   have hxf:xf≤6:=by
    have h0:xf=(fj r r.po v so).te xp:=hS.te ⟨xv,xp,xf⟩ (by simp)
    have:=List.countP_le_length (p:=(fj r r.po v so).fe) (l:=xp)
    unfold Wn.te at h0
    omega
   refine c7 (by exact Take.there .here) NX fun g2 cU Xz e QA Wk uT Eg=>?_
   cases e
   obtain ⟨l,hl⟩:∃ l,xp[xp.length-1]=l:=⟨_,rfl⟩
   have N6:l<r.ti.length:=Wn.AR qi.1 l (hl ▸ Zj _)
   have c1:(fN xp++Xz)[((xp.length:Int)-1).toNat*1]? = some (.int .i64 (l:Nat)):=by
    rw [show ((xp.length:Int)-1).toNat=xp.length-1 by omega,AV (by omega),hl]
   have QF:=ha (eT N6)
   have iF:=(hc l _ (dQ N6)).2
   unfold Ti.cells at iF
   have W5:=iF 2 _ rfl
   have mf:(fj r r.po v so).fin xp=(r.ti[l]).to:=by
    unfold Wn.fin
    rw [List.getLast?_eq_getElem?,Zc (by omega),hl]
    show (fJ r l).to=_
    rw [mB N6]
   with_reducible refine dP 14 (by kernel_rfl) ?_
   (refine nC rfl rfl ae ?_;refine aH (gz BQ) rfl ?_;refine nC rfl rfl ae ?_;refine aH (gz eR) rfl ?_;refine nC rfl rfl ae ?_;refine aH (gz eR) rfl ?_;refine aH (bZ (.of rfl)) rfl ?_;refine aH (rD (.of rfl) (.of rfl) (PS (by omega))) rfl ?_;refine aH (az (.of rfl) (.of rfl) rfl (by omega) (by omega) ba) rfl ?_;refine aH (ag (.of rfl) (At.kz .here c1)) rfl ?_;refine aH (az (.of rfl) (.of rfl) QF (by omega) (by omega) ba) rfl ?_;refine nC rfl rfl ae ?_;refine aH (ag (.of rfl) (At.base W5 rfl)) rfl ?_;refine aH (dw (.of rfl)) rfl ?_)
   with_reducible refine dY ?_
   rw [← mf]
   refine c6 (by exact .here) QA Wk uT Eg ?_
   refine oK (W:=nq) ⟨.slice (some ⟨g2,0,none⟩) xp.length cU,xp,xf⟩ (n:=xp.length) (x:=fN xp) (by exact Take.there .here) (by exact .here) rfl rfl ?_
   have TB:∀ y,y∈nq++[(⟨.slice (some ⟨g2,0,none⟩) xp.length cU,xp,xf⟩:Wy)]↔y∈j8:=fun y=>by rw [Oi,List.mem_append,List.mem_singleton];exact Or.comm
   generalize nq++[(⟨.slice (some ⟨g2,0,none⟩) xp.length cU,xp,xf⟩:Wy)]=Q5 at TB ⊢
   (refine Jn<|Jq<|Jr<|Jv rfl<|Jv rfl<|JC rfl<|Jn<|gm rfl (fun ar=>?_) fun ar=>?_;refine Jr<|ab (cz cX) rfl ?_;refine aq (.of rfl) (.of rfl) eR rfl rfl (gF rfl rfl) (bC rfl) an ?_;refine Ja rfl<|Jn<|Jp<|ug rfl ?_;refine Jl<|Jo<|Jt<|Jr<|ab (cz .here) rfl ?_;refine Jv rfl<|aq (.of rfl) (.of rfl) fg rfl rfl (gF rfl rfl) (bC rfl) an ?_;refine Ja rfl<|Jn<|Je<|rr ?_;rotate_left;refine Jk<|Jr<|ab (cz qm) rfl ?_;refine Jv rfl<|Jv rfl ?_;rotate_right)
   ·first | with_reducible apply aM | with_reducible apply aN
    case he=>exact rW rfl inferInstance rfl .here an (by rfl) (by rfl)
    case hR=>
     intro w' au
     exact aB (true,⟨.slice (some ⟨g2,0,none⟩) xp.length cU,xp,xf⟩,Q5) ⟨(fun _=>⟨o8.found hS SQ ar,.inl ((TB _).2 UF)⟩),(fun e=>by cases e),rfl⟩ (by exact .cons bN .nil) au rfl
   with_reducible apply jg
   case hr=>exact eh
   case hd=>rfl
   case ht=>exact bo.nil
   case hc=>
    intro w1 fp aS _ hs1
    obtain rfl:fp=[]:=hs1
    exact rL (s:=.slice a2 r.sr.length nA) (d:=.slice a3 r.de.length r5) (t:=.slice a r.ti.length cp) (p:=p) v ((fj r r.po v so).fin xp) (h.keeps aS.keeps)
   intro y _
   dsimp only [id_eq,Zb,Za]
   have sG:(fo r v ((fj r r.po v so).fin xp) r.ti.length).length≤r.ti.length:=by
    have:=List.length_filter_le (Bo r v ((fj r r.po v so).fin xp)) (List.range r.ti.length)
    rw [List.length_range] at this
    exact this
   refine Jn<|J0 ?_
   refine iY (ps:=[73,74]) (f:=240) (first:=[]) (cap:=[.pointer (some ⟨y.1,0,none⟩),.pointer (some ⟨y.2.1,0,none⟩),.pointer (some ⟨y.2.2,0,none⟩)]) (ι:=Value×List Wy×List Wy) (κ:=Empty)
    (rst:=[bA Q7 (.cells #[.slice none 0 0,.int .i64 0] 244 (0,0)),bA b8 (.cells #[.slice none 0 0,.int .i64 0] 244 (0,0)),JP b4 r (.slice a2 r.sr.length nA) (.slice a3 r.de.length r5) (.slice a r.ti.length cp) p]) ?hg
    [JP y.1 r (.slice a2 r.sr.length nA) (.slice a3 r.de.length r5) (.slice a r.ti.length cp) p,bA y.2.1 (.cells #[.int .i64 ((fj r r.po v so).fin xp)] 3 (0,0)),bA y.2.2 (.cells #[.int .i64 v] 3 (0,0))] (Ky r v ((fj r r.po v so).fin xp)) ?hit
    (fun k x=>x.2.1.map wk=(((fo r v ((fj r r.po v so).fin xp) r.ti.length).take k).filter fun i=>!xp.contains i).map (fun i=>(xf+1,xp++[i]))∧(∀ z∈R++x.2.1,z∈x.2.2)∧(∀ z∈x.2.2,z.v.oneCell'=true)∧(⟨.slice (some ⟨g2,0,none⟩) xp.length cU,xp,xf⟩:Wy)∈x.2.2)
    (fun x=>[bA JY (.cells #[x.1] 329 (0,0)),kd 244 2 x.1 (R.length+x.2.1.length) (mr (R++x.2.1)),ir x.2.2,bA Q6 (.cells #[.slice (some ⟨g2,0,none⟩) xp.length cU,.int .i64 (xf:Nat)] 244 (0,0))])
    (fun _=>False) (fun _=>[]) (fun _=>.ret) (Go.sliced (some ⟨g,off,none⟩) 1 (R.length+1) qc 2,[],Q5) ⟨rfl,(fun z hz=>(TB z).2 (hS.sub z (by rw [List.append_nil] at hz;exact List.mem_cons_of_mem _ hz))),(fun z hz=>hS.one z ((TB z).1 hz)),(TB _).2 UF⟩ ?ht ?hlen ?hps ?round ?kn ?kj
   case hg=>exact Is.of rfl
   case hit=>intro w' au;exact HF v _ h RO.nil (by omega)
   case ht=>
    show bo _ [bA JY (.cells #[Go.sliced (some ⟨g,off,none⟩) 1 (R.length+1) qc 2] 329 (0,0)),kd 244 2 (Go.sliced (some ⟨g,off,none⟩) 1 (R.length+1) qc 2) R.length (mr (R++[])),ir Q5,bA Q6 (.cells #[.slice (some ⟨g2,0,none⟩) xp.length cU,.int .i64 (xf:Nat)] 244 (0,0)),
     JP y.1 r (.slice a2 r.sr.length nA) (.slice a3 r.de.length r5) (.slice a r.ti.length cp) p,bA y.2.1 (.cells #[.int .i64 ((fj r r.po v so).fin xp)] 3 (0,0)),bA y.2.2 (.cells #[.int .i64 v] 3 (0,0))] _
    rw [List.append_nil]
    exact .cons fg (.cons eR (.cons cX (.cons cX (.cons .here (.cons .here (.cons .here .nil))))))
   case hlen=>intro vs nY;obtain ⟨x,_,rfl⟩:=List.mem_map.1 nY;rfl
   case hps=>intro t ht;simp only [List.mem_cons,List.not_mem_nil,or_false] at ht;rcases ht with rfl | rfl <;> exact Nat.le_of_ble_eq_true rfl
   case kj=>intro y;cases y
   case kn=>
    rintro ⟨OR,W,BI⟩ D2 ⟨hW,iD,ij,CR⟩
    dsimp only [Zb,Za] at hW iD ij CR ⊢
    rw [tI,List.take_length] at hW
    obtain ⟨UZ,fv⟩:=o8.next hS ar iD ij hW
    refine Jj<|Jj<|Jt ?_
    apply z7 (OR,R++W,BI) UZ (by rw [← hwt];exact fv)
    case hs1=>exact cd
    case ht=>
     show bo _ [bA JY (.cells #[OR] 329 (0,0)),kd 244 2 OR (R++W).length (mr (R++W)),ir BI,bA Q7 (.cells #[.slice none 0 0,.int .i64 0] 244 (0,0)),bA b8 (.cells #[.slice none 0 0,.int .i64 0] 244 (0,0)),
      JP b4 r (.slice a2 r.sr.length nA) (.slice a3 r.de.length r5) (.slice a r.ti.length cp) p] _
     rw [Zg]
     exact .cons .here (.cons .here (.cons .here (.cons eR (.cons eR (.cons eR .nil)))))
   case round=>
    rintro l2 rc W2 TV k ⟨OR,W,BI⟩ vs hsz hk ⟨hW,iD,ij,CR⟩ hB hF
    dsimp only at hW iD ij CR
    obtain ⟨i,hi,rfl,iP,UT⟩:=CJ hk
    obtain ⟨vJ,Iq⟩:=List.getElem?_eq_some_iff.1 hi
    have htk:(fo r v ((fj r r.po v so).fin xp) r.ti.length).take (k+1)=(fo r v ((fj r r.po v so).fin xp) r.ti.length).take k++[i]:=by rw [List.take_succ_eq_append_getElem vJ,Iq]
    have RJ:(mr (R++W)).length=(R.length+W.length)*2:=by rw [oH,Zg]
    have Yq:W.length≤6:=by
     have:=congrArg List.length hW
     rw [Zd,Zd] at this
     rw [this]
     refine Nat.le_trans (List.length_filter_le _ _) ?_
     rw [List.length_take];omega
    dsimp only [Ti.cells,List.zip_cons_cons,List.zip_nil_right,lN,Zb,Za]
    refine Jg<|Ja rfl<|Jn ?_
    with_reducible apply lX
    case ht=>exact .here
    (refine J0<|Jr<|bF rfl rfl ae ?_;refine JL rfl eR rfl<|Jv rfl ?_)
    refine ai aZ rfl (fun w' au=>kY (l:=nz xp) (i:Nat) (Di au cX CR)) ?_
    rw [AT]
    cases FE:xp.contains i with
    | true =>
     have we:((fo r v ((fj r r.po v so).fin xp) r.ti.length).take (k+1)).filter (fun i=>!xp.contains i)=((fo r v ((fj r r.po v so).fin xp) r.ti.length).take k).filter (fun i=>!xp.contains i):=by
      rw [htk,List.filter_append]
      simp only [List.filter_cons,FE,List.filter_nil]
      simp
     (refine JH rfl<|Jn<|bL (.of rfl) ?_;refine Jw<|Jj ?_)
     apply lq (OR,W,BI)
     case ht=>exact .here
     case hx=>exact ⟨by rw [we];exact hW,iD,ij,CR⟩
     case h2=>exact .cons .here (.cons .here (.cons .here (.cons .here .nil)))
    | false =>
     have we:((fo r v ((fj r r.po v so).fin xp) r.ti.length).take (k+1)).filter (fun i=>!xp.contains i)=((fo r v ((fj r r.po v so).fin xp) r.ti.length).take k).filter (fun i=>!xp.contains i)++[i]:=by
      rw [htk,List.filter_append]
      simp only [List.filter_cons,FE,List.filter_nil]
      simp
     refine JH rfl<|Jn<|cB (.of rfl) ?_
     have tL:(nz xp).length=xp.length:=rI xp
     have Te:(nz xp).map (Value.int .i64)=fN xp:=by unfold nz fN;rw [List.map_map];rfl
     with_reducible refine KR.GB 12 (kL [(3,6)]) (by kernel_rfl) ?_
     refine KR.lF (fun β=>(ag (.of rfl) (At.lit (.there .here) rfl))) uS rfl rfl ?_
     refine KR.lF (fun β=>(ao (.of rfl) ae)) uS rfl rfl ?_
     refine KR.lF (fun β=>(ag (.of rfl) (At.lit eR rfl))) uS rfl rfl ?_
     dsimp only [Nat.zero_add,Nat.reduceAdd]
     with_reducible apply KR.Kf (ι:=Value) (Φ:=fun _=>True) (val:=id) (own:=fun v=>[row 3 1 v xp.length (fN xp)]) (g:=id) (B:=[]) (args:=fun _=>[.slice (some ⟨g2,0,none⟩) xp.length cU])
     case hg=>exact fun x=>⟨x,rfl⟩
     case hB=>rfl
     case hr=>exact fun β=>bh (.of rfl) (.cons (.of rfl) .nil) inferInstance rfl
     case hd=>rfl
     case hn=>rfl
     case hc=>
      intro β w' hb
      have:=M8 (l:=nz xp) (Di hb.mem cX CR) (by rw [rI];omega)
      rwa [tL,Te] at this
     dsimp only [id_eq,Nat.reduceAdd]
     refine KR.lF (fun β=>(aR (.of rfl))) uS rfl rfl ?_
     refine KR.EK (fun β=>(aA (.cons (.of rfl) .nil) rfl rfl rfl rfl)) (fun _ _ _=>rfl) rfl rfl ?_
     dsimp only [Nat.reduceAdd]
     with_reducible apply KR.Dm (jx:=3) (n0:=xp.length) (xs:=fN xp) (news:=[[.int .i64 (i:Nat)]]) (Vx:=fun β=>β 3) (Vy:=fun β=>.slice (some ⟨fP (β 5),0,none⟩) 1 1) (Ax:=fun β=>[row 3 1 (β 3) xp.length (fN xp)]) (B:=[5])
     case hB=>kernel_rfl
     case hS=>rfl
     case hrow=>exact fun β w' fp ⟨f1,f2,e,h,h0⟩=>by obtain rfl:f2=[]:=h0;rw [e,List.append_nil];exact h
     case htk=>exact wO rfl rfl
     case hti=>rfl
     case h0=>rfl
     case hwx=>kernel_rfl
     case hx=>exact fun β=>.of rfl
     case hy=>exact fun β=>.of rfl
     case hsrc=>
      intro β w' hb
      have m6:=hb.at 5 (by simp) (s:=⟨fun β=>.slice (some ⟨fP (β 5),0,none⟩) 1 1,fun β=>[bA (fP (β 5)) (.cells #[.int .i64 (i:Nat)] 3 (0,0))]⟩) (by kernel_rfl)
      dsimp only [Zb,Za] at m6
      exact Mem.dh m6 (by exact .here) rfl rfl
     case h1=>
      intro r hr u hu
      simp only [List.mem_singleton] at hr
      subst hr
      simp only [List.mem_singleton] at hu
      subst hu;rfl
     case hz=>rfl
     case hsz=>rfl
     case hb0=>rfl
     case hb=>simp only [List.length_singleton];omega
     case hd=>rfl
     case hne=>simp
     rw [show ([[Value.int .i64 (i:Nat)]]:List (List Value)).flatten=[.int .i64 (i:Nat)] from rfl,show ([[Value.int .i64 (i:Nat)]]:List (List Value)).length=1 from rfl]
     dsimp only [Nat.reduceAdd]
     refine KR.lF (fun β=>(ao (.of rfl) ae)) uS rfl rfl ?_
     refine KR.lF (fun β=>(ag (.of rfl) (At.lit eR rfl))) uS rfl rfl ?_
     refine KR.lF (fun β=>(G7 (.of rfl) (.of rfl) (PS (by omega)))) uS rfl rfl ?_
     with_reducible apply KR.lF (F:=fun β=>.agg #[.slice (vL (β 6)).1 (xp.length+1) (vL (β 6)).2,.int .i64 ((xf:Nat)+1)])
     case hr=>(intro β;exact aU (.cons (.of rfl) (.cons (.of rfl) .nil)) an)
     case hi=>exact fun β β' h=>by simp only [h 6 (by kernel_rfl)]
     case hd=>rfl
     case hn=>rfl
     dsimp only [Nat.reduceAdd]
     with_reducible apply KR.EK (V:=fun b=>.slice (some ⟨b,0,none⟩) 1 1) (ob:=fun β=>.cells #[.slice (vL (β 6)).1 (xp.length+1) (vL (β 6)).2,.int .i64 ((xf:Nat)+1)] 244 (0,0))
     case hr=>(intro β;exact br (.cons (.of rfl) .nil) rfl rfl bM bM an)
     case hi=>exact fun β β' h=>by simp only [h 6 (by decide) (by kernel_rfl)]
     case hd=>rfl
     case hn=>rfl
     dsimp only [Nat.reduceAdd]
     refine KR.Rb fun β=>?_
     change Tr _ _ _ [bA (fP (β 5)) (.cells #[.int .i64 (i:Nat)] 3 (0,0)),row 3 1 (.slice (vL (β 6)).1 (xp.length+1) (vL (β 6)).2) (xp.length+1) (fN xp++[.int .i64 (i:Nat)]),bA (fP (β 11)) (.cells #[.slice (vL (β 6)).1 (xp.length+1) (vL (β 6)).2,.int .i64 ((xf:Nat)+1)] 244 (0,0)),
      bA l2 (fM rc .busy none),bA JY (.cells #[OR] 329 (0,0)),kd 244 2 OR (R.length+W.length) (mr (R++W)),ir BI,bA Q6 (.cells #[.slice (some ⟨g2,0,none⟩) xp.length cU,.int .i64 (xf:Nat)] 244 (0,0))] _
     generalize fP (β 5)=b5
     generalize fP (β 11)=OH
     generalize (vL (β 6)).1=ea
     generalize (vL (β 6)).2=ec
     refine sA (rs:=[12]) (by kernel_rfl) (by simp) (List.forall_mem_cons.2 ⟨?_,fun _ h=>absurd h List.not_mem_nil⟩)
     refine uH rfl ?_
     with_reducible apply Ce
     case hx=>exact Is.of rfl
     case hy=>exact Is.of rfl
     case ht=>exact fg
     case hn=>exact eF.bA bN (show dW [.slice ea (xp.length+1) ec,.int .i64 ((xf:Nat)+1)] 0 2=[.slice ea (xp.length+1) ec,.int .i64 ((xf:Nat)+1)] from rfl)
     case hl=>rfl
     case h1=>exact bD rfl (ed rfl)
     case hz=>exact rfl
     case hsz=>exact rfl
     case hb0=>exact rfl
     case hb=>omega
     case hd=>rfl
     intro v'
     refine wJ (by exact .here) fun a' gL e Ms xB=>?_
     subst e
     refine Jn ?_
     refine sA (rs:=[13]) (by kernel_rfl) (by simp) (List.forall_mem_cons.2 ⟨?_,fun _ h=>absurd h List.not_mem_nil⟩)
     refine uH rfl ?_
     (refine aq (.of rfl) (.of rfl) fg rfl rfl (ed rfl) (bC rfl) an ?_;refine Jn ?_)
     with_reducible refine CK (by kernel_rfl) ?_
     refine pf ?_
     refine oK (W:=BI) ⟨.slice ea (xp.length+1) ec,xp++[i],xf+1⟩ (n:=xp.length+1) (x:=fN xp++[.int .i64 (i:Nat)]) qm cX (by simp) (by unfold fN;rw [List.map_append];rfl) ?_
     have SG:mr (R++(W++[⟨.slice ea (xp.length+1) ec,xp++[i],xf+1⟩]))=mr (R++W)++[.slice ea (xp.length+1) ec,.int .i64 ((xf:Nat)+1)]:=by rw [← Zh];exact xZ (R++W) _
     have SF:R.length+(W++[(⟨.slice ea (xp.length+1) ec,xp++[i],xf+1⟩:Wy)]).length=R.length+W.length+1:=by simp [Nat.add_assoc]
     apply lq (.slice a' (R.length+W.length+1) gL,W++[⟨.slice ea (xp.length+1) ec,xp++[i],xf+1⟩],BI++[⟨.slice ea (xp.length+1) ec,xp++[i],xf+1⟩])
     case ht=>exact fg
     case hx=>
      refine ⟨?_,?_,?_,?_⟩
      ·rw [we,List.map_append,List.map_append,hW];rfl
      ·intro z hz
       rw [← Zh] at hz
       rcases List.mem_append.1 hz with hz | hz
       ·exact List.mem_append_left _ (iD z hz)
       ·exact List.mem_append_right _ hz
      ·intro z hz
       rcases List.mem_append.1 hz with hz | hz
       ·exact ij z hz
       ·rw [List.mem_singleton.1 hz];rfl
      ·exact List.mem_append_left _ CR
     case h2=>
      show bo _ [bA JY (.cells #[.slice a' (R.length+W.length+1) gL] 329 (0,0)),kd 244 2 (.slice a' (R.length+W.length+1) gL) (R.length+(W++[(⟨.slice ea (xp.length+1) ec,xp++[i],xf+1⟩:Wy)]).length) (mr (R++(W++[⟨.slice ea (xp.length+1) ec,xp++[i],xf+1⟩]))),ir (BI++[⟨.slice ea (xp.length+1) ec,xp++[i],xf+1⟩]),bA Q6 (.cells #[.slice (some ⟨g2,0,none⟩) xp.length cU,.int .i64 (xf:Nat)] 244 (0,0))] _
      rw [SF,SG]
      exact .cons (.there .here) (.cons (.there .here) (.cons .here (.cons bN .nil)))
def qn (r:Ro) (v:Int) (so de:ByteArray):Option (List Nat):=match (fj r r.po v so).all (j6 r de) ((fj r r.po v so).n+1) [] with
 | []=>none
 | a::l=>some (sP (fj r r.po v so).lt a l)
theorem wC {r:Ro} {v:Int} {so de:ByteArray} {p:List Nat} (h:(fj r r.po v so).least (j6 r de) p):qn r v so de=some p:=by
 unfold qn
 split
 ·rename_i e
  exact absurd h.2.1 (Wn.all_none e p h.1)
 ·rename_i a l e
  rw [Wn.CL (Wn.Q3 e) h]
theorem wE {r:Ro} {v:Int} {so de:ByteArray} (h:∀ q,(fj r r.po v so).ok q→(fj r r.po v so).fin q≠j6 r de):qn r v so de=none:=by
 unfold qn
 split
 ·rfl
 ·rename_i a l e
  have:=Wn.Q3 e
  exact absurd this.2.1 (h _ this.1)
theorem KT {r:Ro} {v:Int} {so de:ByteArray} {p:List Nat} (h:(fj r r.po v so).least (j6 r de) p):∀ i∈p,i<r.ti.length:=Wn.AR h.1
def jn (r:Ro) (v:Int) (so de:ByteArray):Int:=aW [fU r,AZ r v,Ks r so,sM r de]
theorem RS {n:Int} (h0:0≤n) (h1:n<9223372036854775808):IntKind.i64.wrap n=n:=by simp [IntKind.wrap,IntKind.bits,IntKind.signed];omega
theorem tl {r:Ro} {v:Int} {so de:ByteArray} (h:jn r v so de=0):oF r∧(0≤v∧v<r.lv)∧so∈cm r∧de∈ct r:=by
 unfold jn at h
 rw [bX] at h
 have h1:=DZ (h _ List.mem_cons_self)
 have h2:=h (AZ r v) (by simp)
 have h3:=(bH (by decide)).1 (h (Ks r so) (by simp))
 have h4:=(bH (by decide)).1 (h (sM r de) (by simp))
 have hl:=h1.lim
 unfold AZ at h2
 rw [RS (by omega) (by omega),gY] at h2
 rw [decide_eq_false_iff_not,cj,Classical.not_not] at h3 h4
 exact ⟨h1,by omega,h3,h4⟩
theorem pV {r:Ro} {s d t p:Value} (v:Int) (so de:ByteArray) {w:World} (h:RR w r s d t p) (cG:mY r):aj Tryz.prog 151 [RA r s d t p,.int .i64 v,.string so,.string de] w (.int .i64 (jn r v so de)):=by
 have h1:=Rd.one h.sr
 have h2:=Rd.one h.de
 have h3:=Rd.one h.ti
 have h4:=Rd.one h.po
 have iQ:∀ w',aG [] w w'→aj Tryz.prog 34 [.agg #[.int .i64 r.lv,.int .i64 r.ma,s,d,t,p]] w' (.int .i64 (fU r)):=fun w' hk=>eu (h.keeps hk) cG
 have hle:∀ w',aG [] w w'→aj Tryz.prog 114 [.agg #[.int .i64 r.lv,.int .i64 r.ma,s,d,t,p],.int .i64 v] w' (.int .i64 (AZ r v)):=fun w' hk=>ku v (h.keeps hk)
 have y9:∀ w',aG [] w w'→aj Tryz.prog 122 [.agg #[.int .i64 r.lv,.int .i64 r.ma,s,d,t,p],.string so] w' (.int .i64 (Ks r so)):=fun w' hk=>pz so (h.keeps hk)
 have lT:∀ w',aG [] w w'→aj Tryz.prog 112 [.agg #[.int .i64 r.lv,.int .i64 r.ma,s,d,t,p],.string de] w' (.int .i64 (sM r de)):=fun w' hk=>ei de (h.keeps hk)
 unfold RA
 refine ah Tryz.func151 rfl rfl ?_
 refine Jr<|Jy rfl rfl fun _ _=>Ja rfl<|Jn<|Jq ?_
 with_reducible refine cC 12 (by kernel_rfl) ?_
 (refine ak (cz .here) rfl ?_;refine aT bI rfl (fun w' au=>(iQ w' (Mem.keeps au))) ?_;refine ak (cz .here) rfl ?_;refine ak kG rfl ?_;refine aT aZ rfl (fun w' au=>(hle w' (Mem.keeps au))) ?_;refine ak (cz .here) rfl ?_;refine ak kG rfl ?_;refine aT aZ rfl (fun w' au=>(y9 w' (Mem.keeps au))) ?_;refine ak (cz .here) rfl ?_;refine ak kG rfl ?_;refine aT aZ rfl (fun w' au=>(lT w' (Mem.keeps au))) ?_;refine dX (aA (.cons (.of rfl) (.cons (.of rfl) (.cons (.of rfl) (.cons (.of rfl) .nil)))) rfl rfl rfl rfl) rfl rfl ?_)
 with_reducible refine df rfl fun bq mg=>?_
 (refine ai bI rfl (fun w' au=>(dI (Mem.dh au .here rfl rfl) (bP.cons (bP.cons (bP.cons (bP.cons bP.nil)))))) ?_;refine Ja rfl<|Jn<|Je<|JT ?_)
 rfl
theorem PL {lv:Value} {l:List Nat} {g:Nat→ByteArray} {f:FuncId} {first cap:List Value} [bS Tryz.prog f] {w:World} (h:Rd w lv 1 (ints (nz l))) (hn:l.length≤1000000)
  (cn:∀ i∈l,∀ w',aG [] w w'→aj Tryz.prog f (first++[.int .i64 (i:Nat)]++cap) w' (.string (g i))) :
  bd Tryz.prog 176 [lv,.func (.func f) first.toArray cap.toArray] w [] (fun _:Value=>True) id (fun v=>[row 9 1 v l.length (aO (l.map g))]):=by
 obtain ⟨a,cp,b,o,rfl,db,bT,ha,hc⟩:=h
 rw [bW,rI] at *
 unfold maxLen at bT
 refine aQ Tryz.func176 rfl rfl ?_
 refine Jr<|Ja rfl<|Ji<|Ja rfl<|Jn<|Jq<|Jr<|Jv rfl<|JI rfl<|Jv rfl<|Jn<|J0 ?_
 refine aP 9 1 ?_
 refine aX (ι:=Nat×Value) (fun x=>x.1≤l.length) (fun x=>[(10,.int .i64 x.1),(9,.int .i64 l.length),(8,.slice a l.length cp),(5,x.2),(1,.func (.func f) first.toArray cap.toArray)]) (fun x=>[row 9 1 x.2 x.1 (aO ((l.take x.1).map g))]) (fun x=>l.length-x.1) ?_ ?_
 ·apply aJ (0,.slice none 0 0) (Zi _)
  case hs1=>exact cd
  case ht=>
   exact .cons .here .nil
 rintro ⟨k,v⟩ hk
 dsimp only at hk ⊢
 by_cases aL:k<l.length
 ·have X7:k<(nz l).length:=by rw [rI];exact aL
  have cE:=ha (ic X7)
  have hgz:(nz l)[k]=((l[k]:Nat):Int):=by simp [nz]
  have c0:w.cell? ⟨b,o+k*1,none⟩=some (.int .i64 (l[k]:Nat)):=by rw [← hgz];exact (hc k _ (fC X7)).2 0 _ rfl
  have iF:=cn _ (Zj aL)
  have H4:aO ((l.take (k+1)).map g)=aO ((l.take k).map g)++[.string (g l[k])]:=by
   rw [List.take_succ_eq_append_getElem aL,List.map_append,eO];rfl
  have vJ:(aO ((l.take k).map g)).length=k*1:=by rw [dd,Zd,List.length_take_of_le (by omega),Nat.mul_one]
  generalize g l[k]=gk at iF H4
  (refine Jr<|JA rfl<|Jn<|Jq<|Jd rfl fun ar=>Jk<|Jq<|J0<|Jr<|ab (fH cE ar) rfl ?_;refine ab (ag (.of rfl) (At.base c0 rfl)) rfl ?_;refine Ja rfl<|Jn<|Jg<|Jv rfl<|Jv rfl<|Jv rfl ?_)
  refine ai bI rfl (fun w' au=>(iF w' (Mem.keeps au))) ?_
  refine bb (aA (.cons (.of rfl) .nil) rfl rfl rfl rfl) rfl (fun _ _=>?_)
  refine bB (.of rfl) (.of rfl) (.there .here) .here an (by rfl) (ed rfl) (by rfl) (by rfl) (by rfl) eH (by rfl) ?_
  intro v'
  refine Ja rfl<|Jx<|Jj<|Jt<|Jg<|JB rfl (by omega)<|Jv rfl<|Jn ?_
  apply aK (k+1,v') (by show k+1≤l.length;omega) (by show l.length-(k+1)<l.length-k;omega)
  case hs1=>exact cd
  case ht=>
   show bo _ [row 9 1 v' (k+1) (aO ((l.take (k+1)).map g))] _
   rw [H4]
   exact .cons .here .nil
 ·obtain rfl:k=l.length:=by omega
  rw [List.take_length]
  refine Jr<|JA rfl<|Jn<|Jq<|Jc rfl fun ar=>Jp<|Jl<|Jo<|Jt<|Jr<|Jv rfl<|Ja rfl<|Jn<|Je ?_
  first | with_reducible apply aM | with_reducible apply aN
  case he=>exact dp rfl rfl
  case hR=>
   intro w' au
   exact aB v trivial (by exact .cons .here .nil) au rfl
theorem OW {r:Ro} {s d t p:Value} (i:Nat) (hi:i<r.ti.length) {b1:Nat} {w:World} (h:RR w r s d t p) (hA:BR w b1 (RC r s d t p)) :
  aj Tryz.prog 177 [.int .i64 (i:Nat),.pointer (some ⟨b1,0,none⟩)] w (.string (gn r i)):=by
 have xz:gn r i=(r.ti[i]).nm:=by unfold gn;rw [mB hi]
 have hti:=h.ti
 obtain ⟨a,cp,b,o',rfl,db,bT,ha,hc⟩:=hti
 rw [bJ] at *
 have cE:=ha (eT hi)
 have aC:=(hc i _ (dQ hi)).2
 unfold Ti.cells at aC
 have c0:=aC 0 _ rfl
 have c4:w.cell? ⟨b1,4,none⟩=some (.slice a r.ti.length cp):=hA 4 _ rfl
 rw [xz]
 refine ah Tryz.func177 rfl rfl ?_
 (refine Jr<|Ja rfl<|Ji<|bF rfl rfl ae ?_;refine ab (ag (.of rfl) (At.base c4 rfl)) rfl ?_;refine Jv rfl<|ab (az (.of rfl) (.of rfl) cE (by omega) (by omega) ba) rfl ?_;refine bF rfl rfl ae ?_;refine ab (ag (.of rfl) (At.base c0 rfl)) rfl ?_;refine Ja rfl<|Jn<|Je<|JT ?_)
 rfl
def EN (r:Ro) (v:Int) (so de:ByteArray):Int:=if jn r v so de≠0 then jn r v so de else if (qn r v so de).isNone then 18 else 0
def B9 (r:Ro) (v:Int) (so de:ByteArray):List ByteArray:=if jn r v so de≠0 then [] else ((qn r v so de).getD []).map (gn r)
theorem Up {r:Ro} {s d t p:Value} (v:Int) (so de:ByteArray) {w:World} (h:RR w r s d t p) (cG:mY r):bd Tryz.prog 70 [RA r s d t p,.int .i64 v,.string so,.string de] w [] (fun _:Value=>True) (fun x=>.tuple #[x,.int .i64 (EN r v so de)]) (fun x=>[row 9 1 x (B9 r v so de).length (aO (B9 r v so de))]):=by
 have h1:=Rd.one h.sr
 have h2:=Rd.one h.de
 have h3:=Rd.one h.ti
 have h4:=Rd.one h.po
 unfold RA
 refine aQ Tryz.func70 rfl rfl ?_
 (refine Jr<|Jy rfl rfl fun _ _=>Ja rfl<|Ja rfl<|Jn<|Jq<|Jr<|ab (cz .here) rfl ?_;refine Jv rfl<|Jv rfl<|Jv rfl ?_)
 rename_i b4 u9
 refine ai pb rfl (fun w' au=>pV (s:=s) (d:=d) (t:=t) (p:=p) v so de (h.keeps au.keeps) cG) ?_
 (refine Ja rfl<|Ji<|Jv rfl<|JD rfl<|Jn<|gm rfl (fun ar=>?_) fun ar=>?_;refine Jr<|Jv rfl<|Ja rfl<|Ja rfl<|Jn<|Ju ?_;rotate_left;refine Jk<|Jr<|ab (cz .here) rfl ?_;refine Jv rfl<|Jv rfl<|Jv rfl ?_;rotate_right)
 ·have e1:B9 r v so de=[]:=if_pos ar
  have e2:EN r v so de=jn r v so de:=if_pos ar
  rw [e1,e2]
  refine aP 9 1 ?_
  first | with_reducible apply aM | with_reducible apply aN
  case he=>exact fF rfl rfl rfl
  case hR=>
   intro w' au
   exact aB (.slice none 0 0) trivial (by exact .cons .here .nil) au rfl
 have e0:jn r v so de=0:=Decidable.not_not.1 ar
 obtain ⟨dB,hv,rN,fw⟩:=tl e0
 have e1:B9 r v so de=((qn r v so de).getD []).map (gn r):=if_neg ar
 have e2:EN r v so de=if (qn r v so de).isNone then 18 else 0:=if_neg ar
 clear ar
 rw [e1,e2]
 refine JN pb rfl (fun w1 aS=>NB (s:=s) (d:=d) (t:=t) (p:=p) v so de (h.keeps aS.keeps) dB.yS dB.val dB.OD rN fw) ?_
 rintro ⟨U3,⟨xv,xp,xf⟩,j8⟩ ⟨UH,UG,SE⟩
 dsimp only [Wy.cells] at UH UG SE ⊢
 dsimp only [id_eq,Zb,Za]
 cases U3 with
 | false =>
  rw [wE (UG rfl)]
  (refine Jv rfl<|JJ rfl rfl<|JJ rfl rfl<|Jz rfl rfl fun _ _=>aq (.of rfl) (.of rfl) .here rfl rfl (gF SE rfl) (bC rfl) an ?_;refine Ja rfl<|Jn<|Jq<|Jr<|Jv rfl<|JH rfl<|Jn<|cB (.of rfl) ?_;refine Jr<|Ja rfl<|Ja rfl<|Jn<|Ju ?_)
  refine aP 9 1 ?_
  first | with_reducible apply aM | with_reducible apply aN
  case he=>exact fF rfl rfl rfl
  case hR=>
   intro w' au
   exact aB (.slice none 0 0) trivial (by exact .cons .here .nil) au rfl
 | true =>
  obtain ⟨hl,mw⟩:=UH rfl
  rw [wC hl]
  have hrw:(((some xp).getD []:List Nat).map (gn r)).length=xp.length:=by simp
  rw [hrw]
  have aL:=KT hl
  have Yg:xp.length≤6:=Nat.le_trans (Wn.uF hl.1) dB.len.2.2
  (refine Jv rfl<|JJ rfl rfl<|JJ rfl rfl<|Jz rfl rfl fun _ _=>aq (.of rfl) (.of rfl) .here rfl rfl (gF SE rfl) (bC rfl) an ?_;refine Ja rfl<|Jn<|Jq<|Jr<|Jv rfl<|JH rfl<|Jn<|bL (.of rfl) ?_;refine Jk<|Jr<|bF rfl rfl ae ?_;refine JL rfl .here rfl<|ab (bn .nil (.cons (.of rfl) .nil)) rfl ?_)
  with_reducible apply jg
  case hr=>exact aZ
  case hd=>rfl
  case ht=>exact bo.nil
  case hc=>
   intro w1 fp aS _ hs1
   obtain rfl:fp=[]:=hs1
   have hA:BR w1 b4 [.int .i64 r.lv,.int .i64 r.ma,s,d,t,p]:=BR.of aS bN
   have hR:=h.keeps aS.keeps
   have hrd:Rd w1 xv 1 (ints (nz xp)):=by
    rcases mw with mw | mw
    ·exact Di aS (by exact Take.there .here) mw
    ·cases mw
     exact Rd.nil w1 1
   exact PL (f:=177) (g:=gn r) (first:=[]) (cap:=[.pointer (some ⟨b4,0,none⟩)]) hrd (by omega) (fun i hi w2 eC=>OW i (aL i hi) (hR.keeps eC) (hA.keeps eC))
  intro x _
  dsimp only [id_eq,Zb,Za]
  refine Ja rfl<|Ja rfl<|Jn<|Je ?_
  first | with_reducible apply aM | with_reducible apply aN
  case he=>exact fF rfl rfl rfl
  case hR=>
   intro w' au
   exact aB x trivial (by exact .cons .here .nil) au rfl

def fK (r:Ro) (v:Int) (so:ByteArray):Nat→List Int
  | 0=>[jL r so]
  | k+1=>if sO r v so k&&!(fK r v so k).contains (fJ r k).to then fK r v so k++[(fJ r k).to] else fK r v so k
theorem Au (r:Ro) (v:Int) (so:ByteArray):∀ k,(fK r v so k).length≤k+1
  | 0=>Nat.le_refl _
  | k + 1 => by
    have:=Au r v so k
    unfold fK
    split
    · rw [Zg];simp;omega
    · omega
theorem uo (r:Ro) (v:Int) (so:ByteArray):∀ k,(fK r v so k).Nodup
  | 0=>by simp [fK]
  | k + 1 => by
    have:=uo r v so k
    unfold fK
    split
    · rename_i h
      rw [Bool.and_eq_true] at h
      rw [List.nodup_append]
      refine ⟨this,by simp,fun a ha b hb e=>?_⟩
      rw [List.mem_singleton] at hb
      subst hb;subst e
      have:=h.2
      rw [List.contains_iff_mem.2 ha] at this
      cases this
    · exact this
theorem w9 (r:Ro) (v:Int) (so:ByteArray) {m:Int}:∀ {a b:Nat},a≤b→m∈fK r v so a→m∈fK r v so b:=by
  intro a b h
  induction h with
  | refl=>exact id
  | step _ ih =>
    intro hm
    have:=ih hm
    rw [fK]
    split
    · exact List.mem_append_left _ this
    · exact this
theorem Av (r:Ro) (v:Int) (so:ByteArray) (k:Nat):jL r so∈fK r v so k:=w9 r v so (Zi k) (by simp [fK])
theorem DP {r:Ro} {v:Int} {so:ByteArray} {k t:Nat} (ht:t<k) (h:sO r v so t=true):(fJ r t).to∈fK r v so k:=by
  refine w9 r v so (show t+1≤k from ht) ?_
  rw [fK]
  split
  · exact List.mem_append_right _ (by simp)
  · rename_i hc
    rw [h,Bool.true_and,Bool.not_eq_true',Bool.not_eq_false] at hc
    exact List.contains_iff_mem.1 hc
theorem yz {r:Ro} (dB:oF r) {v:Int} {so:ByteArray} (hs:so∈cm r):∀ k,k≤r.ti.length→∀ m∈fK r v so k,(fj r r.po v so).Rc m
  | 0, _, m, hm => by
    rw [fK,List.mem_singleton] at hm
    subst hm
    rw [← mD hs]
    exact Wn.Rc.xS
  | k + 1, hk, m, hm => by
    rw [fK] at hm
    split at hm
    · rename_i h
      rcases List.mem_append.1 hm with hm | hm
      · exact yz dB hs k (by omega) m hm
      · rw [List.mem_singleton] at hm
        subst hm
        rw [Bool.and_eq_true,pX dB.yS dB.val] at h
        exact Wn.Rc.ca (N:=fj r r.po v so) (show k<r.ti.length from hk) h.1
    · exact yz dB hs k (by omega) m hm
theorem uC {r:Ro} (dB:oF r) {v:Int} {so:ByteArray} (hs:so∈cm r) {m:Int} (h:(fj r r.po v so).Rc m):0≤m∧m<r.ma:=by
  have H3:∀ i,i<r.ti.length→0≤(fJ r i).to∧(fJ r i).to<r.ma:=fun i hi=>by
    rw [mB hi];exact (dB.tm _ (Zj hi)).2.1
  cases h with
  | xS =>
    show 0≤jz r so∧jz r so<r.ma
    rw [mD hs]
    unfold jL
    obtain ⟨hl,_⟩:=er (l:=cm r) (s:=so) (dz hs)
    have Bc:(bu (cm r) so).toNat<r.sr.length:=by
                                                           have e:(cm r).length=r.sr.length:=by unfold cm;rw [Zd]
                                                           omega
    rw [List.getD_eq_getElem?_getD,Zc Bc]
    exact dB.sm _ (Zj Bc)
  | ca hi _=>exact H3 _ hi
  | fe hi _ _=>exact H3 _ hi
structure vD (r:Ro) (v:Int) (so:ByteArray) (L:List Int) (i:Nat):Prop where
  nd:L.Nodup
  rc:∀ m∈L,(fj r r.po v so).Rc m
  rt:∀ m∈fK r v so r.ti.length,m∈L
  dn:∀ j x,j<i→L[j]? = some x→∀ t,t<r.ti.length→Bo r v x t=true→(fJ r t).to∈L
theorem Eb {L:List Int} {n:Nat} (kQ:L.Nodup) (h:∀ m∈L,0≤m∧m<(n:Nat)):L.length≤n:=by
  have:=kD n (L.map Int.toNat) (by
    show List.Pairwise (fun a b=>a≠b) (L.map Int.toNat)
    rw [List.pairwise_map]
    refine List.Pairwise.imp_of_mem (fun {a b} ha hb hne e=>hne ?_) kQ
    have:=h a ha;have:=h b hb;omega) (fun x hx=>by
    obtain ⟨m,hm,rfl⟩:=List.mem_map.1 hx
    have:=h m hm;omega)
  rwa [Zd] at this
theorem vD.C3 {r:Ro} (dB:oF r) {v:Int} {so:ByteArray} (hs:so∈cm r) {L:List Int} {i:Nat} (h:vD r v so L i):L.length≤4:=by
  have hl:=dB.lim
  refine Eb h.nd fun m hm=>?_
  have:=uC dB hs (h.rc m hm)
  omega
theorem vD.begin {r:Ro} (dB:oF r) {v:Int} {so:ByteArray} (hs:so∈cm r):vD r v so (fK r v so r.ti.length) 0:=
  ⟨uo r v so _,yz dB hs _ (Nat.le_refl _),fun _ h=>h,fun j x h=>absurd h (Nat.not_lt_zero _)⟩
theorem vD.done {r:Ro} (dB:oF r) {v:Int} {so:ByteArray} (hs:so∈cm r) {L:List Int} (h:vD r v so L L.length) (m:Int):m∈L↔(fj r r.po v so).Rc m:=by
  refine Wn.Lx (S:=fun m=>m∈L) ⟨?_,fun i hi hc=>?_⟩ (fun m hm=>h.rc m hm) m
  · show jz r so∈L
    rw [mD hs]
    exact h.rt _ (Av r v so _)
  · rcases hc with hc | ⟨hf,wc⟩
    · rw [← pX dB.yS dB.val] at hc
      exact h.rt _ (DP hi hc)
    · obtain ⟨j,hj,e⟩:=List.getElem_of_mem wc
      refine h.dn j _ hj (Zc hj) i hi ?_
      rw [pO v so,e,hf]
      simp
def AJ (r:Ro) (v:Int) (so:ByteArray) (m:Int):Bool:=!((fj r r.po v so).all m ((fj r r.po v so).n+1) []).isEmpty
theorem Cw (r:Ro) (v:Int) (so:ByteArray) (m:Int):AJ r v so m=true↔(fj r r.po v so).Rc m:=by
  unfold AJ
  rw [Bool.not_eq_true',List.isEmpty_eq_false_iff]
  constructor
  · intro h
    obtain ⟨q,hq⟩:=List.exists_mem_of_ne_nil _ h
    obtain ⟨h1,h2⟩:=Wn.yU (Wn.rG _) hq
    rw [← h2]
    exact Wn.Sf h1
  · intro h e
    obtain ⟨p,hp,hf⟩:=Wn.Su h
    exact Wn.all_none e p hp hf
def pU (r:Ro) (v:Int) (so:ByteArray):List Int:=((List.range r.ma.toNat).map fun i:Nat=>(i:Int)).filter (AJ r v so)
theorem Bw (r:Ro) (v:Int) (so:ByteArray):(pU r v so).Pairwise (fun a b=>a<b):=by
  unfold pU
  refine List.Pairwise.filter _ ?_
  rw [List.pairwise_map]
  exact List.pairwise_lt_range.imp fun h=>by omega
theorem IV {r:Ro} (dB:oF r) {v:Int} {so:ByteArray} (hs:so∈cm r) {m:Int}:m∈pU r v so↔(fj r r.po v so).Rc m:=by
  unfold pU
  rw [List.mem_filter,Cw]
  constructor
  · exact fun h=>h.2
  · intro h
    have:=uC dB hs h
    exact ⟨List.mem_map.2 ⟨m.toNat,List.mem_range.2 (by omega),by omega⟩,h⟩
theorem IU {r:Ro} (dB:oF r) {v:Int} {so:ByteArray} (hs:so∈cm r) {L S:List Int} (kQ:L.Nodup) (hL:∀ m,m∈L↔(fj r r.po v so).Rc m) (hp:S.Perm L) (Mo:S.Pairwise (fun a b=>a≤b)):S=pU r v so:=by
  have Ys:S.Nodup:=hp.nodup_iff.2 kQ
  have hSs:S.Pairwise (fun a b=>a<b):=(Mo.and Ys).imp fun ⟨h1,h2⟩=>by omega
  refine nE (R:=fun a b:Int=>a<b) (fun a b h h'=>by omega) hSs (Bw r v so) ?_
  refine (List.perm_ext_iff_of_nodup Ys ((Bw r v so).imp fun h=>by omega)).2 fun m=>?_
  rw [hp.mem_iff,hL,IV dB hs]
end Go.Proofs.A1
namespace Go.Proofs
open Go.Shelf
def Tryz.A2:Go.Shelf.Ren:=⟨fun | 189=>156 | 125=>245 | 257=>244 | 128=>312 | 129=>313 | 294=>303 | 295=>304 | 296=>305 | 297=>306 | 298=>307 | 299=>308 | 216=>309 | 300=>310 | 301=>311 | 328=>343 | 329=>344 | 330=>345 | 331=>346 | 332=>347 | 215=>342 | 343=>367 | n=>n,fun | 28=>49 | 3=>3 | 46=>318 | 0=>0 | 51=>381 | 53=>383 | 4=>4 | 183=>374 | 182=>373 | 131=>272 | 5=>5 | 9=>9 | 218=>409 | 222=>413 | 228=>428 | 229=>359 | n=>n,fun | n=>n⟩
theorem Tryz.D8:Go.Proofs.Lays.n189 Tryz.prog Tryz.A2:={
 mixed:=by kernel_rfl
 f125:=Tryz.func245.trans (congrArg some (by kernel_rfl))
 f128:=Tryz.func312.trans (congrArg some (by kernel_rfl))
 f129:=Tryz.func313.trans (congrArg some (by kernel_rfl))
 f189:=Tryz.func156.trans (congrArg some (by kernel_rfl))
 f215:=Tryz.func342.trans (congrArg some (by kernel_rfl))
 f216:=Tryz.func309.trans (congrArg some (by kernel_rfl))
 f257:=Tryz.func244.trans (congrArg some (by kernel_rfl))
 f294:=Tryz.func303.trans (congrArg some (by kernel_rfl))
 f295:=Tryz.func304.trans (congrArg some (by kernel_rfl))
 f296:=Tryz.func305.trans (congrArg some (by kernel_rfl))
 f297:=Tryz.func306.trans (congrArg some (by kernel_rfl))
 f298:=Tryz.func307.trans (congrArg some (by kernel_rfl))
 f299:=Tryz.func308.trans (congrArg some (by kernel_rfl))
 f300:=Tryz.func310.trans (congrArg some (by kernel_rfl))
 f301:=Tryz.func311.trans (congrArg some (by kernel_rfl))
 f328:=Tryz.func343.trans (congrArg some (by kernel_rfl))
 f329:=Tryz.func344.trans (congrArg some (by kernel_rfl))
 f330:=Tryz.func345.trans (congrArg some (by kernel_rfl))
 f331:=Tryz.func346.trans (congrArg some (by kernel_rfl))
 f332:=Tryz.func347.trans (congrArg some (by kernel_rfl))
 f343:=Tryz.func367.trans (congrArg some (by kernel_rfl))
 t0:=Tryz.underlying0
 a0:=Tryz.isAgg0
 z0:=Tryz.sizeOf0
 v0:=Tryz.zeroValue0
 t3:=Tryz.underlying3
 a3:=Tryz.isAgg3
 z3:=Tryz.sizeOf3
 v3:=Tryz.zeroValue3
 t4:=Tryz.underlying4
 a4:=Tryz.isAgg4
 z4:=Tryz.sizeOf4
 v4:=Tryz.zeroValue4
 t5:=Tryz.underlying5
 a5:=Tryz.isAgg5
 z5:=Tryz.sizeOf5
 v5:=Tryz.zeroValue5
 t9:=Tryz.underlying9
 a9:=Tryz.isAgg9
 z9:=Tryz.sizeOf9
 v9:=Tryz.zeroValue9
 t28:=Tryz.underlying49
 a28:=Tryz.isAgg49
 z28:=Tryz.sizeOf49
 v28:=Tryz.zeroValue49
 t46:=Tryz.underlying318
 a46:=Tryz.isAgg318
 z46:=Tryz.sizeOf318
 v46:=Tryz.zeroValue318
 t51:=Tryz.underlying381
 a51:=Tryz.isAgg381
 z51:=Tryz.sizeOf381
 v51:=Tryz.zeroValue381
 t53:=Tryz.underlying383
 a53:=Tryz.isAgg383
 z53:=Tryz.sizeOf383
 v53:=Tryz.zeroValue383
 t131:=Tryz.underlying272
 a131:=Tryz.isAgg272
 z131:=Tryz.sizeOf272
 v131:=Tryz.zeroValue272
 t182:=Tryz.underlying373
 a182:=Tryz.isAgg373
 z182:=Tryz.sizeOf373
 v182:=Tryz.zeroValue373
 t183:=Tryz.underlying374
 a183:=Tryz.isAgg374
 z183:=Tryz.sizeOf374
 v183:=Tryz.zeroValue374
 t218:=Tryz.underlying409
 a218:=Tryz.isAgg409
 z218:=Tryz.sizeOf409
 v218:=Tryz.zeroValue409
 t222:=Tryz.underlying413
 a222:=Tryz.isAgg413
 z222:=Tryz.sizeOf413
 v222:=Tryz.zeroValue413
 t228:=Tryz.underlying428
 a228:=Tryz.isAgg428
 z228:=Tryz.sizeOf428
 v228:=Tryz.zeroValue428
 t229:=Tryz.underlying359
 a229:=Tryz.isAgg359
 z229:=Tryz.sizeOf359
 v229:=Tryz.zeroValue359 }
open Go.Sort Go.RowKit in
theorem Tryz.slices_Sort_int (bA off cap:Nat) (zs:List Int) (w:World) (hH:Holds (Value.int .i64) w bA off zs.toArray) (hblk:bA<w.heap.size) (hsz:zs.length<4611686018427387904) :
  Calls Tryz.prog 156 #[.slice (some ⟨bA,off,none⟩) zs.length cap] w fun e w'=>
   e=.returned (.tuple #[])∧∃ n os,w'=grow (putRow (Value.int .i64) (Sort.ahead w n) bA off (zs.mergeSort fun x y=>decide (x≤y)).toArray) os:=Any.slices_Sort_int Tryz.D8 bA off cap zs w hH hblk hsz
end Go.Proofs
