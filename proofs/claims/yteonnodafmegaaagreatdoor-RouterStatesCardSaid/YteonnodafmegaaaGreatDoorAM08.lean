/- Parts of the proof: KJq GkAppO GkRegK GkRegL GkRegR GkRegS KJ KL KM KNq TryzSort. -/
import Derived.Test.YteonnodafmegaaaGreatDoorAM07
import Derived.Test.YteonnodafmegaaaGreatDoorAM06
import Derived.Test.YteonnodafmegaaaGreatDoorAM04
import Derived.Test.YteonnodafmegaaaGreatDoorAM03
import Derived.Test.YteonnodafmegaaaGreatDoorAM02
import Derived.Shelf.Sort.Plain
import Derived.Ground.NamesProg
import Derived.Ground.Names2Prog
import Derived.Test.YteonnodafmegaaaGreatDoorProg
set_option linter.unusedSectionVars false
set_option linter.unusedVariables false
set_option linter.unusedSimpArgs false
namespace Go.Proofs.A1
open Go Go.SL
def wc (r:Ro) (v:Int) (so:ByteArray):List (Nat×List Nat):=(Ae r v so r.ti.length).map (fun i=>(0,[i]))++(fc r v (qq r so) r.ti.length).map (fun i=>(1,[i]))
theorem rk {r:Ro} {so:ByteArray} (h:so∈cz r):jE r so=qq r so:=by
 unfold jE qq;rw [if_pos (eu h)]
theorem vg {r:Ro} (hn:pt r) (h:iL r r.po) (v:Int) (so:ByteArray) (i:Nat):wb r v so i=(fo r r.po v so).ca i:=by
 unfold wb fo
 rw [vf hn h]
theorem pN {r:Ro} (v:Int) (so:ByteArray) (m:Int) (i:Nat):Bv r v m i=(decide ((fo r r.po v so).fr i=m)&&(fo r r.po v so).fe i):=rfl
theorem IU {r:Ro} {v:Int} {so:ByteArray} {i:Nat} (h:(fo r r.po v so).ca i=true):(fo r r.po v so).fe i=false:=by
 unfold fo at h ⊢
 simp only [Bool.and_eq_true] at h
 simp [h.1]
theorem En (N:Wn) (i:Nat):N.sU [i]=if N.fe i then 1 else 0:=by
 unfold Wn.sU
 cases h:N.fe i <;> simp [h]
theorem Ip (N:Wn) (p:List Nat) {i:Nat} (h:N.fe i=true):N.sU (p++[i])=N.sU p+1:=by
 unfold Wn.sU
 rw [List.countP_append]
 simp [h]
theorem Gx (N:Wn) (j:Nat):N.step [] j=(decide (j<N.n)&&(N.ca j||(N.fe j&&decide (N.fr j=N.Dp)))):=by
 unfold Wn.step;simp [Wn.Mm];rfl
theorem step_cons (N:Wn) {x:List Nat} (h:x≠[]) (j:Nat):N.step x j=(decide (j<N.n)&&(!x.contains j&&(N.fe j&&decide (N.fr j=N.fin x)))):=by
 unfold Wn.step
 cases x with
 | nil=>exact absurd rfl h
 | cons a l=>simp
theorem IZ {r:Ro} (hn:pt r) (h:iL r r.po) (v:Int) {so:ByteArray} (hs:so∈cz r) (q:List Nat):q∈(wc r v so).map Prod.snd↔q∈(fo r r.po v so).exts []:=by
 unfold wc Wn.exts Wn.QD
 rw [List.map_append,List.mem_append,List.map_map,List.map_map]
 simp only [List.mem_map,List.nil_append,Function.comp,List.mem_filter,List.mem_range,Ae,fc]
 have a7:∀ j,(fo r r.po v so).step [] j=true↔j<r.ti.length∧(wb r v so j=true∨Bv r v (qq r so) j=true):=fun j=>by
  rw [Gx,vg hn h,pN v so]
  have e0:(fo r r.po v so).Dp=qq r so:=rk hs
  rw [e0]
  simp only [Bool.and_eq_true,Bool.or_eq_true,decide_eq_true_eq]
  constructor
  ·rintro ⟨h1,h2 | ⟨h3,h4⟩⟩
   ·exact ⟨h1,.inl h2⟩
   ·exact ⟨h1,.inr ⟨h4,h3⟩⟩
  ·rintro ⟨h1,h2 | ⟨h3,h4⟩⟩
   ·exact ⟨h1,.inl h2⟩
   ·exact ⟨h1,.inr ⟨h4,h3⟩⟩
 constructor
 ·rintro (⟨j,⟨h1,h2⟩,rfl⟩ | ⟨j,⟨h1,h2⟩,rfl⟩)
  ·exact ⟨j,⟨h1,(a7 j).2 ⟨h1,.inl h2⟩⟩,rfl⟩
  ·exact ⟨j,⟨h1,(a7 j).2 ⟨h1,.inr h2⟩⟩,rfl⟩
 ·rintro ⟨j,⟨h1,h2⟩,rfl⟩
  rcases ((a7 j).1 h2).2 with h3 | h3
  ·exact .inl ⟨j,⟨h1,h3⟩,rfl⟩
  ·exact .inr ⟨j,⟨h1,h3⟩,rfl⟩
theorem Qk {r:Ro} (hn:pt r) (h:iL r r.po) (v:Int) {so:ByteArray} {x:Nat×List Nat} (hx:x∈wc r v so):x.1=(fo r r.po v so).sU x.2:=by
 unfold wc at hx
 rcases List.mem_append.1 hx with hx | hx
 ·obtain ⟨i,hi,rfl⟩:=List.mem_map.1 hx
  have:=(List.mem_filter.1 hi).2
  rw [vg hn h] at this
  rw [En,IU this];rfl
 ·obtain ⟨i,hi,rfl⟩:=List.mem_map.1 hx
  have:=(List.mem_filter.1 hi).2
  rw [pN v so,Bool.and_eq_true] at this
  rw [En,this.2];rfl
theorem MK {r:Ro} (hn:pt r) (h:iL r r.po) (v:Int) {so:ByteArray} (h6:r.ti.length≤6):(fo r r.po v so).wt ((wc r v so).map Prod.snd)≤1957:=by
 have e:(wc r v so).map Prod.snd=(Ae r v so r.ti.length++fc r v (qq r so) r.ti.length).map (fun i=>([]:List Nat)++[i]):=by
  unfold wc
  rw [List.map_append,List.map_map,List.map_map,List.map_append];rfl
 rw [e,Wn.B9]
 have hl:(Ae r v so r.ti.length++fc r v (qq r so) r.ti.length).length≤r.ti.length:=by
  refine kp _ _ ?_ ?_
  ·rw [List.nodup_append]
   refine ⟨List.nodup_range.filter _,List.nodup_range.filter _,?_⟩
   intro a ha b hb e
   subst e
   have h1:=(List.mem_filter.1 ha).2
   have h2:=(List.mem_filter.1 hb).2
   rw [vg hn h] at h1
   rw [pN v so,Bool.and_eq_true] at h2
   rw [IU h1] at h2
   cases h2.2
  ·intro x hx
   rcases List.mem_append.1 hx with hx | hx <;> exact List.mem_range.1 (List.mem_filter.1 hx).1
 have hN:(fo r r.po v so).n=r.ti.length:=rfl
 rw [hN]
 generalize (Ae r v so r.ti.length++fc r v (qq r so) r.ti.length).length=k at hl
 generalize r.ti.length=n at hl h6
 have:∀ n,n≤6→n*o5 (n-1)≤1957:=by decide
 exact Nat.le_trans (Nat.mul_le_mul_right _ hl) (by simpa using this n h6)
theorem FI {r:Ro} {v:Int} {so:ByteArray} {x:List Nat} (hx:x≠[]):(fo r r.po v so).exts x=((fc r v ((fo r r.po v so).fin x) r.ti.length).filter fun i=>!x.contains i).map fun i=>x++[i]:=by
 unfold Wn.exts Wn.QD fc
 rw [List.filter_filter]
 congr 1
 apply List.filter_congr
 intro j hj
 have lI:=List.mem_range.1 hj
 rw [step_cons _ hx,pN v so]
 have:decide (j<(fo r r.po v so).n)=true:=decide_eq_true lI
 rw [this,Bool.true_and]
 congr 1
 exact Bool.and_comm _ _
theorem RD {r:Ro} {v:Int} {so:ByteArray} (p q:List Nat):(fo r r.po v so).lt p q=wl ((fo r r.po v so).sU p,p) ((fo r r.po v so).sU q,q):=rfl
def nk (r:Ro) (de:ByteArray):Int:=(r.de.getD (bA (cm r) de).toNat ⟨⟨#[]⟩,0,false⟩).mx
theorem Iy {r:Ro} {de:ByteArray} (h:de∈cm r):jU r de=nk r de:=by
 unfold jU nk;rw [if_pos (eu h)]
structure oY (N:Wn) (dm:Int) (Q jS:List Wy):Prop where
 sub:∀ x∈Q,x∈jS
 one:∀ x∈jS,x.v.oneCell'=true
 sU:∀ x∈Q,x.f=N.sU x.p
 inv:N.Inv dm (Q.map Wy.p)
 C8:N.wt (Q.map Wy.p)≤1957
theorem oY.len {N:Wn} {dm:Int} {Q jS:List Wy} (h:oY N dm Q jS):Q.length≤1957:=by
 have:=N.F7 (Q.map Wy.p)
 rw [List.length_map] at this
 exact Nat.le_trans this h.C8
theorem oY.begin {r:Ro} (hn:pt r) (hv:iL r r.po) (v:Int) {so de:ByteArray} (hs:so∈cz r) (h6:r.ti.length≤6) (hne:qq r so≠nk r de) {W:List Wy} (hW:N6 (wc r v so) W):oY (fo r r.po v so) (nk r de) W W:=by
 have hp:W.map Wy.p=(wc r v so).map Prod.snd:=by rw [← hW.1,List.map_map];rfl
 refine ⟨fun _ h=>h,hW.2,fun x hx=>?_,?_,?_⟩
 ·have:wk x∈wc r v so:=by rw [← hW.1];exact List.mem_map_of_mem hx
  exact Qk hn hv v this
 ·refine Wn.Fo (by rw [show (fo r r.po v so).Dp=jE r so from rfl,rk hs];exact hne) fun q=>?_
  rw [hp];exact IZ hn hv v hs q
 ·rw [hp];exact MK hn hv v h6
theorem oY.perm {N:Wn} {dm:Int} {Q Q' jS:List Wy} (h:oY N dm Q jS) (hp:Q'.Perm Q):oY N dm Q' jS:=by
 have hm:=hp.map Wy.p
 refine ⟨fun x hx=>h.sub x (hp.mem_iff.1 hx),h.one,fun x hx=>h.sU x (hp.mem_iff.1 hx),⟨fun q hq=>h.inv.ok q (hm.mem_iff.1 hq),fun p h1 h2=>?_⟩,by rw [Wn.Dy hm];exact h.C8⟩
 obtain ⟨q,hq,h3⟩:=h.inv.cover p h1 h2
 exact ⟨q,hm.mem_iff.2 hq,h3⟩
theorem oY.found {r:Ro} {v:Int} {so:ByteArray} {dm:Int} {x:Wy} {R jS:List Wy} (h:oY (fo r r.po v so) dm (x::R) jS) (hs:(x::R).Pairwise (fun x y=>wl (y.f,y.p) (x.f,x.p)=false)) (hf:(fo r r.po v so).fin x.p=dm):(fo r r.po v so).least dm x.p:=by
 refine Wn.Fm h.inv (by simp) (fun q hq=>?_) hf
 obtain ⟨y,hy,rfl⟩:=List.mem_map.1 hq
 rw [RD,← h.sU x (by simp),← h.sU y hy]
 rcases List.mem_cons.1 hy with rfl | hy
 ·exact wj _
 ·exact (List.pairwise_cons.1 hs).1 y hy
theorem oY.next {r:Ro} {v:Int} {so:ByteArray} {dm:Int} {x:Wy} {R W jS nb:List Wy} (h:oY (fo r r.po v so) dm (x::R) jS) (hf:(fo r r.po v so).fin x.p≠dm) (iv:∀ y∈R++W,y∈nb) (iD:∀ y∈nb,y.v.oneCell'=true)
  (hW:W.map wk=((fc r v ((fo r r.po v so).fin x.p) r.ti.length).filter fun i=>!x.p.contains i).map fun i=>(x.f+1,x.p++[i])):oY (fo r r.po v so) dm (R++W) nb∧(fo r r.po v so).wt ((R++W).map Wy.p)<(fo r r.po v so).wt ((x::R).map Wy.p):=by
 have hx:=h.inv.ok x.p (by simp)
 have Xs:W.map Wy.p=(fo r r.po v so).exts x.p:=by
  rw [FI hx.2]
  have:=congrArg (fun l=>l.map Prod.snd) hW
  simp only [List.map_map] at this
  exact this
 have aN:(fo r r.po v so).wt ((R++W).map Wy.p)<(fo r r.po v so).wt ((x::R).map Wy.p):=by
  rw [List.map_append,Xs,Wn.wi,List.map_cons,Wn.wt]
  have:=Wn.Kv hx.1
  omega
 refine ⟨⟨iv,iD,fun y hy=>?_,?_,Nat.le_trans (Nat.le_of_lt aN) h.C8⟩,aN⟩
 ·rcases List.mem_append.1 hy with hy | hy
  ·exact h.sU y (List.mem_cons_of_mem _ hy)
  ·have h1:wk y∈W.map wk:=List.mem_map_of_mem hy
   rw [hW] at h1
   obtain ⟨i,hi,e⟩:=List.mem_map.1 h1
   have e1:x.f+1=y.f:=congrArg Prod.fst e
   have e2:x.p++[i]=y.p:=congrArg Prod.snd e
   have h2:=(List.mem_filter.1 (List.mem_filter.1 hi).1).2
   rw [pN v so,Bool.and_eq_true] at h2
   rw [← e1,← e2,Ip _ _ h2.2,h.sU x (by simp)]
 ·rw [List.map_append,Xs]
  refine Wn.HH h.inv (fun q=>?_) hf
  rw [List.map_cons,List.mem_cons]
end Go.Proofs.A1
namespace Go.SL
open Go
theorem DU {h:Nat→Option Obj} {E:TypeId} {sz:Nat} {v:Value} {n:Nat} {xs:List Value} {fp:List Nat} (hr:(j5 E sz v n xs).sat h fp):fp=v.ownBlock.toList:=by
 obtain ⟨_,h1⟩:=hr
 rcases h1 with ⟨rfl,rfl,_⟩ | ⟨g,off,cap,cur,rfl,rfl,_⟩
 ·simp [Value.ownBlock]
 ·simp [Value.ownBlock]
section
variable {P:Program} {c:Cx} {D:List Nat} {sl:aG} {hs hs':List ba} {d:Nat} {ty:TypeId} {pos:String} {af:Array Edge} {r:Option Nat} {ops:Array Oper} {Q:Exit→Act→World→Prop} {rest:List Oper}
theorem Cj {t e:TypeId} {agg:Bool} {size bytes:Nat} {z:Value} {x y:Operand} {v:Value} {n b o m cp:Nat} {xs news:List Value} [hu:iA P t (.slice e)] [hT:Ty P e agg size] [hZ:lu P e z] [hB:wg P e bytes]
  (hx:Is sl x v) (hy:Is sl y (.slice (some ⟨b,o,none⟩) m cp)) (ht:Take hs (j5 e size v n xs) hs') (hn:eG c hs b o news) (hl:news.length=m*size) (h1:∀ u∈news,u.oneCell'=true) (hz:z.cells.size=size) (hsz:Nat.blt 0 size=true) (hb0:Nat.blt 0 bytes=true)
  (hb:(n+m)*bytes≤140737488355328) (hd:Nat.blt d c.nt=true)
  (k:∀ v',Tr c D ((d,v')::sl) (j5 e size v' (n+m) (xs++news)::hs') (WL P r ops Q rest)) :
  Tr c D sl hs (WL P r ops Q (⟨some d,.call ⟨.builtin .append,#[x,y],#[t,t]⟩,ty,pos,af,none⟩::rest)):=fun a w a7=>by
 obtain ⟨de,i,lO,hi,_,ie⟩:=Ty.parts (P:=P) (t:=e) (agg:=agg) (n:=size)
 have hzero:i.zero=some z:=by have:=hZ.eq;rw [hi] at this;simpa using this
 have gj:i.bytes=bytes:=by have:=hB.eq;rw [hi] at this;simpa using this
 have TY:=a7.qI
 have hm:=a7.mem.take (ht.append _)
 obtain ⟨kk,fp,kD,⟨f1,f2,rfl,Nk,h2⟩,C1⟩:=hm
 obtain ⟨hlen,hrow⟩:=id Nk
 have Bq:0<bytes:=by simpa using hb0
 have RZ:0<size:=by simpa using hsz
 have bO:n+m≤maxLen:=by
  have:(n+m)*1≤(n+m)*bytes:=Nat.mul_le_mul_left _ Bq
  unfold maxLen;omega
 have qQ:∀ j u,news[j]? = some u→w.cell? ((⟨b,o,none⟩:Addr).add j)=some u:=fun j u hj=>by rw [eA];exact hn.get j u hj w TY
 have TZ:(xs++news).length=(n+m)*size:=by rw [List.length_append,hlen,hl,Nat.add_mul]
 have key:∃ v' w' kX,(Builtin.append_ #[t,t] ty #[v,.slice (some ⟨b,o,none⟩) m cp]).run P w=.ok v' w'∧aF f1 w w'∧kX.Nodup∧(j5 e size v' (n+m) (xs++news)).sat (hp w') kX∧∀ q∈kX,q∈f1∨w.heap.size≤q:=by
  rcases hrow with ⟨rfl,rfl,rfl⟩ | ⟨g,off,cap,cur,rfl,rfl,hg,W7,Xn,hfit,htk⟩
  ·have qP:w.ownsRow 0 e size (.slice none 0 0) 0 xs:=⟨hlen,.inl ⟨rfl,rfl⟩⟩
   obtain ⟨v',w',hG,qO,uR,_⟩:=run_append_own (P:=P) w 0 t ty e i z size bytes hu.eq hi hzero ie gj hz (by simpa using hsz) _ 0 xs qP ⟨b,o,none⟩ m cp news hl qQ h1 bO hb (Nat.zero_le _)
   have vS:=pX (P:=P) (t:=t) (ty:=ty) hu.eq hi hzero (by rw [ie];exact qP) (a:=⟨b,o,none⟩) (m:=m) (cp:=cp) (by rw [ie];exact hl) qQ h1 bO (by rw [gj];exact hb) hG
   refine ⟨v',w',v'.ownBlock.toList,hG,⟨uR.os,uR.tape,uR.output,vS.2,uR.size,fun q hq _=>uR.block q hq (by simp [Value.ownBlock])⟩,by cases v'.ownBlock <;> simp,nB (lg qO),fun q hq=>?_⟩
   have vw:v'.ownBlock=some q:=by simpa [Option.mem_toList] using hq
   rcases vS.1 with h | h
   ·rw [vw] at h;simp [Value.ownBlock] at h
   ·rw [h] at vw;cases vw;exact .inr (Nat.le_refl _)
  ·have SB:w.heap[g]? = some (.cells cur e (0,0)):=hg
   have hgs:g<w.heap.size:=(Array.getElem?_eq_some_iff.1 SB).1
   have Pq:cur.toList=cur.toList.take off++(xs++cur.toList.drop (off+n*size)):=by
    rw [← htk]
    conv=>lhs;rw [← List.take_append_drop off cur.toList]
    congr 1
    conv=>lhs;rw [← List.take_append_drop (n*size) (cur.toList.drop off)]
    rw [List.drop_drop]
   have Nx:cur.size=cur.toList.length:=by simp
   have hns:n*size≤cap*size:=Nat.mul_le_mul_right _ W7
   have zY:(cur.toList.take off).length=off:=by rw [List.length_take];omega
   by_cases xz:n+m≤cap
   ·have hms:(n+m)*size≤cap*size:=Nat.mul_le_mul_right _ xz
    rw [Nat.add_mul] at hms
    have PN:w.heap[g]? = some (.cells cur.toList.toArray e (0,0)):=by rw [Array.toArray_toList];exact SB
    obtain ⟨w',h3,h4,h5⟩:=iC (P:=P) (o:=off+n*size) news 0 cur.toList w PN h1 (by omega)
    have hfc:=run_firstCells_some (P:=P) w i.size m ⟨b,o,none⟩ m cp news (by rw [ie];exact hl) qQ
    refine ⟨.slice (some ⟨g,off,none⟩) (n+m) cap,w',[g],?_,h4,by simp,⟨TZ,.inr ⟨g,off,cap,_,rfl,rfl,h5,xz,Xn,?_,?_⟩⟩,fun q hq=>.inl hq⟩
    ·subst ie
     have Il:(⟨g,off,none⟩:Addr).add (n*i.size)=⟨g,off+n*i.size,none⟩:=eA _ _ _
     simp [Builtin.append_,aT hu.eq,sizeOf,typeInfo,hi,Builtin.lenOf,xz,hfc,Il,h3]
    ·rw [List.size_toArray,jN,← Nx];exact hfit
    ·show ((setCells cur.toList (off+n*size+0) news).drop off).take ((n+m)*size)=xs++news
     have e1:setCells cur.toList (off+n*size+0) news=cur.toList.take off++xs++(news++(cur.toList.drop (off+n*size)).drop news.length):=by
      have VZ:cur.toList.drop (off+n*size)=(cur.toList.drop (off+n*size)).take news.length++(cur.toList.drop (off+n*size)).drop news.length:=(List.take_append_drop _ _).symm
      have hle:((cur.toList.drop (off+n*size)).take news.length).length=news.length:=by rw [List.length_take,List.length_drop];omega
      have e2:cur.toList=(cur.toList.take off++xs)++((cur.toList.drop (off+n*size)).take news.length++(cur.toList.drop (off+n*size)).drop news.length):=by rw [← VZ,List.append_assoc];exact Pq
      have PY:(cur.toList.take off++xs).length=off+n*size+0:=by rw [List.length_append,zY,hlen,Nat.add_zero]
      conv=>lhs;rw [e2]
      rw [← PY]
      exact yy _ _ _ _ hle.symm
     rw [e1,List.append_assoc,← zY]
     conv=>lhs;rw [zY]
     rw [List.drop_left' zY,← TZ,← List.append_assoc,List.take_left]
   ·have holds:∀ j u,xs[j]? = some u→w.cell? ((⟨g,off,none⟩:Addr).add j)=some u:=fun j u hj=>by
     rw [eA]
     simp only [World.cell?,SB]
     rw [← htk] at hj
     have aN:j<n*size:=by
      have:=(List.getElem?_eq_some_iff.1 hj).1
      rw [List.length_take] at this;omega
     rw [List.getElem?_take_of_lt aN,List.getElem?_drop] at hj
     simpa using hj
    obtain ⟨v',w',hG,qO,uR⟩:=run_append_arg_grows (P:=P) (w:=w) t ty e i z size bytes hu.eq hi hzero ie gj hz RZ ⟨g,off,none⟩ n cap xs hlen holds ⟨b,o,none⟩ m cp news hl qQ (by omega) bO hb
    have hr:=run_append_grow (P:=P) w t ty e i z hu.eq hi hzero ⟨g,off,none⟩ n cap xs (by rw [ie];exact hlen) holds ⟨b,o,none⟩ m cp news (by rw [ie];exact hl) qQ (by omega) (by unfold maxLen at bO;omega) (growslice_fits (by omega) (by rw [gj];exact hb))
    have C2:w.drawn≤w'.drawn∧v'.ownBlock=some w.heap.size:=by
     rw [hG] at hr
     cases hr
     exact ⟨Nat.le_succ _,rfl⟩
    have Sf:w'.ownsRow 0 e size v' (n+m) (xs++news):=⟨qO.1,qO.2.imp id fun ⟨g',gB,Ww,e1,_,r⟩=>⟨g',gB,Ww,e1,Nat.zero_le _,r⟩⟩
    refine ⟨v',w',v'.ownBlock.toList,hG,⟨uR.os,uR.tape,uR.output,C2.1,uR.size,fun q hq _=>uR.block q hq (by simp)⟩,by cases v'.ownBlock <;> simp,nB (lg Sf),fun q hq=>?_⟩
    rw [C2.2] at hq
    simp at hq
    exact .inr (by omega)
 obtain ⟨v',w',kX,hG,hk,hnf,gZ,vS⟩:=key
 refine lP rfl ⟨dE _ _ _ _ _,?_⟩
 rw [Oper.semAt_eq _ _ _ (by simp)]
 have:(execOp a.eval ⟨some d,.call ⟨.builtin .append,#[x,y],#[t,t]⟩,ty,pos,af,none⟩).run P w=.ok (.value v') w':=by
  simp [execOp,resolve,invoke,builtin,hx a a7.cT,hy a a7.cT,hG]
 rw [this]
 refine k v' _ _ ((a7.put (by simpa [Nat.blt_eq] using hd) v').heap ?_)
 have lH:Mem c ([j5 e size v n xs]++(hs'++lX D)) w:=a7.mem.take (ht.append _)
 have:=Mem.change (Bs:=[j5 e size v' (n+m) (xs++news)]) (w':=w') lH fun fp tC hf=>by
  obtain ⟨g1,g2,e1,hr,e2⟩:=hf
  obtain rfl:g2=[]:=e2
  have h3:=DU hr
  have h4:=DU Nk
  rw [List.append_nil] at e1
  subst e1
  rw [h3,← h4]
  exact ⟨hk,kX,hnf,⟨kX,[],by simp,gZ,rfl⟩,vS⟩
 exact this
end
end Go.SL
namespace Go.SL
open Go
theorem Mem.E1 {c:Cx} {As hs':List ba} {w:World} (hm:Mem c (As++hs') w):∃ fp:List Nat,fp.Nodup∧bY (hp w) As fp ∧
  ∀ (Bs:List ba) (w':World),aF fp w w'→(∃ kX:List Nat,kX.Nodup∧bY (hp w') Bs kX∧∀ b∈kX,b∈fp∨w.heap.size≤b)→Mem c (Bs++hs') w':=by
 obtain ⟨kk,fp,hn,gZ,hb⟩:=hm
 obtain ⟨f1,f2,rfl,h1,h2⟩:=bY.append_iff.1 gZ
 obtain ⟨n1,n2,n12⟩:=List.nodup_append.1 hn
 refine ⟨f1,n1,h1,fun Bs w' hk ⟨kX,tC,hs',xE⟩=>?_⟩
 have aN:∀ b∈f2,b<w.heap.size:=fun b dw=>let ⟨o,ho⟩:=h2.own b dw;jG ho
 refine ⟨?_,kX++f2,?_,bY.append_iff.2 ⟨kX,f2,rfl,hs',h2.loc fun b dw=>?_⟩,?_⟩
 ·refine ⟨hk.os.trans kk.os,hk.tape.trans kk.tape,hk.output.trans kk.output,Nat.le_trans kk.dr hk.dr,Nat.le_trans kk.size hk.size,fun b dw hm=>?_⟩
  rw [← kk.block b dw hm]
  refine hk.block b (Nat.lt_of_lt_of_le dw kk.size) (fun hf=>?_)
  rcases hb b (List.mem_append_left _ hf) with h | h
  ·omega
  ·exact hm h
 ·refine List.nodup_append.2 ⟨tC,n2,fun x hx y hy e=>?_⟩
  subst e
  rcases xE x hx with h | h
  ·exact n12 x h x hy rfl
  ·have:=aN x hy;omega
 ·exact hk.block b (aN b dw) (fun hf=>n12 b hf b dw rfl)
 ·intro b dw
  rcases List.mem_append.1 dw with h | h
  ·rcases xE b h with h | h
   ·exact hb b (List.mem_append_left _ h)
   ·exact .inl (Nat.le_trans kk.size h)
  ·exact hb b (List.mem_append_right _ h)
theorem um {β:Nat→Value} (p q:Nat→Bool):∀ (S:List cO) (i:Nat),(dI β p S i).Perm (dI β (fun j=>p j&&q j) S i++dI β (fun j=>p j&&!q j) S i)
 | [],_=>.nil
 | s :: S, i => by
  have ih:=um (β:=β) p q S (i+1)
  unfold dI
  cases hp:p i <;> cases hq:q i <;> simp only [Bool.and_true,Bool.and_false,Bool.not_true,Bool.not_false,Bool.false_and,Bool.true_and,if_true,if_false,List.nil_append,reduceIte]
  ·simpa using ih
  ·simpa using ih
  ·simp only [Bool.false_eq_true,if_false,List.nil_append]
   refine (ih.append_left _).trans ?_
   rw [← List.append_assoc,← List.append_assoc]
   exact List.perm_append_comm.append_right _
  ·simp only [Bool.false_eq_true,if_false,List.nil_append]
   rw [List.append_assoc]
   exact ih.append_left _
theorem qA {β:Nat→Value} {q:Nat→Bool}:∀ {S:List cO} {n i:Nat},(∀ j,i+n≤j→q j=false)→dI β q S i=dI β q (S.take n) i
 | [],n,i,_=>by rw [List.take_nil]
 | s :: S, 0, i, h => by
  rw [List.take_zero]
  unfold dI
  rw [h i (by omega),qA (n:=0) fun j hj=>h j (by omega),List.take_zero];rfl
 | s :: S, n + 1, i, h => by
  rw [List.take_succ_cons]
  unfold dI
  rw [qA (n:=n) (i:=i+1) fun j hj=>h j (by omega)]
def tO (l:List Oper) (o:Oper) (j:Nat):Bool:=e9 o j||(List.range l.length).any fun k=>e9 o k&&(match l[k]? with | some q=>e9 q j | none=>false)
def pk (tk:Nat→Nat) (lst:Nat→Bool) (j:Nat):Bool:=lst j&&!(Nat.blt 0 (tk j)&&lst (tk j))
def il (tk:Nat→Nat) (i j:Nat):Bool:=Nat.blt 0 i&&Nat.beq (tk j) i
section
variable {P:Program} {c:Cx} {D:List Nat} {sl:aG} {hs:List ba} {Q:Exit→Act→World→Prop} {l:List Oper} {m:Nat} {tk:Nat→Nat}
def JX (i:Nat) (s:cO) (β:Nat→Value) (w:World) (rJ:List Nat) (v:Value) (w':World):Prop:=∃ x,v=s.F (tR β i x)∧aF rJ w w'∧∃ fp:List Nat,fp.Nodup∧bY (hp w') (s.A (tR β i x)) fp∧∀ b∈fp,b∈rJ∨w.heap.size≤b
structure JU (P:Program) (c:Cx) (hs:List ba) (l:List Oper) (tk:Nat→Nat) (i:Nat) (o:Oper) (SL:(Nat→Value)→aG) (S:List cO) (s:cO):Prop where
 CS:px l i s.F
 CT:px l i s.A
 run:∃ B:List Nat,(∀ j∈B,tO l o j=true∧tk j=0)∧∀ β a w rJ,bK (SL β) a→jw c hs S B β w→bY (hp w) (dI β (il tk i) S 0) rJ→if Region.wanted o (yielded l.toArray a.tmps)=true then qf P o a w (JX i s β w rJ) else JX i s β w rJ undef w
 waits:∀ j,tk j=i→0<i→e9 o j=true
inductive vm (P:Program) (c:Cx) (hs:List ba) (l:List Oper) (tk:Nat→Nat):Nat→List Oper→((Nat→Value)→aG)→List cO→List cO→((Nat→Value)→aG)→Prop
 | nil {i:Nat} {SL:(Nat→Value)→aG} {S:List cO}:vm P c hs l tk i [] SL S S SL
 | step {i d:Nat} {o:Oper} {rest:List Oper} {SL nf:(Nat→Value)→aG} {S S':List cO} {s:cO} (hd:o.dst=some d) (fy:d<c.nt) (h:JU P c hs l tk i o SL S s)
   (t:vm P c hs l tk (i+1) rest (fun β=>(d,s.F β)::SL β) (S++[s]) S' nf):vm P c hs l tk i (o::rest) SL S S' nf
theorem vm.spec {i:Nat} {rest:List Oper} {SL nf:(Nat→Value)→aG} {S S':List cO} (h:vm P c hs l tk i rest SL S S' nf):∀ pre:List Oper,pre.length=i→S.length=i→mV sl pre SL S →
  S'.length=i+rest.length∧S <+: S'∧mV sl (pre++rest) nf S'∧∀ k o,i≤k→(pre++rest)[k]? = some o→∃ d EM s,o.dst=some d∧d<c.nt∧S'[k]? = some s∧mV sl ((pre++rest).take k) EM (S'.take k)∧JU P c hs l tk k o EM (S'.take k) s:=by
 induction h with
 | @nil i SL S =>
  intro pre hp hS kc
  refine ⟨by simpa using hS,List.prefix_rfl,by simpa using kc,fun k o hk ho=>?_⟩
  have:=(List.getElem?_eq_some_iff.1 ho).1
  simp at this;omega
 | @step i d o rest SL nf S S' s hd fy a7 t ih =>
  intro pre hp hS kc
  obtain ⟨h1,h2,h3,h4⟩:=ih (pre++[o]) (by simp [hp]) (by simp [hS]) (kc.step (by omega) hd)
  rw [List.append_assoc,List.singleton_append] at h3 h4
  have Ft:S <+: S':=(List.prefix_append S [s]).trans h2
  have qU:S'[i]? = some s:=by
   obtain ⟨r,rfl⟩:=h2
   rw [List.append_assoc,List.getElem?_append_right (by omega),hS];simp
  have Wf:S'.take i=S:=by
   obtain ⟨r,rfl⟩:=Ft
   rw [← hS];simp
  refine ⟨by rw [h1];simp;omega,Ft,h3,fun k ok hk ho=>?_⟩
  by_cases e:k=i
  ·subst e
   have Ei:ok=o:=by
    rw [List.getElem?_append_right (by omega),hp] at ho
    simpa using ho.symm
   subst Ei
   have htk:(pre++ok::rest).take k=pre:=by rw [← hp];simp
   rw [htk,Wf]
   exact ⟨d,SL,s,hd,fy,qU,kc,a7⟩
  ·exact h4 k ok (by omega) ho
structure TD (c:Cx) (D:List Nat) (hs:List ba) (l:List Oper) (tk:Nat→Nat) (m:Nat) (S:List cO) (a0:Act) (fuel:Nat) (listed:Array Bool) (a:Act) (w:World):Prop where
 sz:listed.size=l.length
 dc:DC l (Ls listed)
 hi:∀ k,m≤k→¬ Ls listed k
 defers:a.defers=D.map mark
 size:a.tmps.size=c.nt
 A2:∀ t,(∀ (j:Nat) (o:Oper),l[j]? = some o→Ls listed j→o.dst≠some t)→a.tmps[t]? = a0.tmps[t]?
 left:∃ U:List Nat,U.Nodup∧(∀ i,i∈U↔i<l.length∧¬ Ls listed i)∧U.length=fuel
 own:∃ β:Nat→Value,Mem c (dI β (pk tk (fun i=>listed.getD i false)) S 0++(hs++lX D)) w∧∀ (j:Nat) (o:Oper) (d:Nat) (s:cO),l[j]? = some o→o.dst=some d→S[j]? = some s→Ls listed j→a.tmps[d]? = some (s.F β)
end
end Go.SL
namespace Go.SL
open Go
def kA:List (Nat×Nat)→Nat→Nat
 | [],_=>0
 | p::r,j=>bif Nat.beq p.1 j then p.2 else kA r j
theorem te:∀ {q9:List (Nat×Nat)} {i j:Nat},(q9.all fun p=>!Nat.beq p.2 i)=true→kA q9 j=i→0<i→False
 | [], i, j, _, h, hp => by
  have h:0=i:=h
  omega
 | p :: r, i, j, h, h2, hp => by
  rw [List.all_cons,Bool.and_eq_true] at h
  unfold kA at h2
  cases e:Nat.beq p.1 j with
  | true=>rw [e] at h2;have h2:p.2=i:=h2;rw [h2] at h;simp at h
  | false=>rw [e] at h2;exact te h.2 h2 hp
theorem wH:∀ {q9:List (Nat×Nat)} {i jx:Nat},(q9.all fun p=>!Nat.beq p.2 i||Nat.beq p.1 jx)=true→Nat.blt 0 i=true→∀ k,kA q9 k=i→k=jx
 | [], i, jx, _, h0, k, h => by
  have h:0=i:=h
  subst h;cases h0
 | p :: r, i, jx, h, h0, k, hk => by
  rw [List.all_cons,Bool.and_eq_true] at h
  unfold kA at hk
  cases e:Nat.beq p.1 k with
  | true =>
   rw [e] at hk
   have hk:p.2=i:=hk
   have h1:=h.1
   rw [hk,show Nat.beq i i=true by simp] at h1
   have e1:=Nat.eq_of_beq_eq_true e
   have e2:=Nat.eq_of_beq_eq_true (show Nat.beq p.1 jx=true by simpa using h1)
   omega
  | false=>rw [e] at hk;exact wH h.2 h0 k hk
section
variable {P:Program} {c:Cx} {D:List Nat} {sl:aG} {hs hs':List ba} {X:Act→World→Prop} {Q:Exit→Act→World→Prop} {l:List Oper} {m i n d:Nat} {q9:List (Nat×Nat)} {op:Op} {ty:TypeId} {pos:String} {af:Array Edge} {rest:List Oper} {SL:(Nat→Value)→aG} {S:List cO}
theorem AU {β:Nat→Value} {p:Nat→Bool} {s:cO}:∀ {S:List cO} {i jx:Nat},S[jx]? = some s→(∀ k,p k=Nat.beq k (i+jx))→dI β p S i=s.A β
 | [],_,_,h,_=>by simp at h
 | s0 :: S, i, 0, h, hp => by
  simp only [List.getElem?_cons_zero,Option.some.injEq] at h
  subst h
  unfold dI
  rw [hp i,show Nat.beq i (i+0)=true by simp,if_pos rfl]
  have:dI β p S (i+1)=[]:=by
   have h:=qA (β:=β) (q:=p) (S:=S) (n:=0) (i:=i+1) fun j hj=>by
    rw [hp j]
    exact Bool.eq_false_iff.2 fun e=>by have:=Nat.eq_of_beq_eq_true e;omega
   rw [h,List.take_zero];rfl
  rw [this,List.append_nil]
 | s0 :: S, i, jx + 1, h, hp => by
  unfold dI
  rw [hp i,show Nat.beq i (i+(jx+1))=false from Bool.eq_false_iff.2 fun e=>by have:=Nat.eq_of_beq_eq_true e;omega]
  simp only [Bool.false_eq_true,if_false,List.nil_append]
  exact AU (i:=i+1) (jx:=jx) (by simpa using h) fun k=>by rw [hp k,show i+(jx+1)=i+1+jx by omega]
end
end Go.SL
namespace Go.SL.KR
open Go Go.SL
section
variable {P:Program} {c:Cx} {D:List Nat} {sl:aG} {hs:List ba} {Q:Exit→Act→World→Prop} {l:List Oper} {m:Nat} {tk:Nat→Nat}
variable {r0:Option Nat}
theorem OO {p:Nat} (hc:JZ l m p) (Ft:p<m→False) (Uf:∀ c a w,¬ Q (.panic c) a w) {S:List cO} {nf:(Nat→Value)→aG} (Se:vm P c hs l tk 0 (l.take m) (fun _=>sl) [] S nf) {a0:Act} (h0:bK sl a0) (H3:a0.tmps.size=c.nt)
  (tail:∀ β a w,St c D (nf β) (dI β (pk tk (fun i=>Nat.blt i m)) S 0++hs) a w→wpAnyIn (FR r0) 0 P .any l.toArray Q (l.length-m) (k8 l.length m) a w) :
  ∀ (fuel:Nat) (listed:Array Bool) (a:Act) (w:World),TD c D hs l tk m S a0 fuel listed a w→wpAnyIn (FR r0) 0 P .any l.toArray Q fuel listed a w:=by
 have hle:=hc.le
 have HY:mV sl [] (fun _=>sl) []:=fun β t v hv=>.inr ⟨fun oj h=>(List.not_mem_nil h).elim,hv⟩
 obtain ⟨Bu,_,kc,fJ⟩:=Se.spec (sl:=sl) [] rfl rfl HY
 rw [List.nil_append] at kc fJ
 rw [Nat.zero_add,List.length_take,Nat.min_eq_left hle] at Bu
 have dQ:∀ (j:Nat) (o:Oper),j<m→l[j]? = some o→(l.take m)[j]? = some o:=fun j o hj ho=>by rw [List.getElem?_take,if_pos hj];exact ho
 have fh:∀ (j:Nat) (o:Oper),(l.take m)[j]? = some o→j<m∧l[j]? = some o:=fun j o ho=>by
  rw [List.getElem?_take] at ho
  split at ho
  ·exact ⟨by assumption,ho⟩
  ·cases ho
 have NB:∀ j,j<m→∃ s,S[j]? = some s:=fun j hj=>⟨S[j]'(by omega),List.getElem?_eq_getElem (by omega)⟩
 have l6:∀ fuel listed a w,TD c D hs l tk m S a0 fuel listed a w→(∀ i,i<m→Ls listed i)→wpAnyIn (FR r0) 0 P .any l.toArray Q fuel listed a w:=by
  intro fuel listed a w hI dR
  have hL:∀ i,i<l.length→(Ls listed i↔i<m):=fun i _=>⟨fun h=>Nat.lt_of_not_le fun hm=>hI.hi i hm h,dR i⟩
  obtain ⟨U,vW,pM,rH⟩:=hI.left
  have gP:U.Perm (List.range' m (l.length-m)):=by
   rw [List.perm_ext_iff_of_nodup vW (List.nodup_range')]
   intro i
   rw [pM i,List.mem_range'_1]
   constructor
   ·rintro ⟨h1,h2⟩
    exact ⟨Nat.le_of_not_lt fun h=>h2 (dR i h),by omega⟩
   ·rintro ⟨h1,h2⟩
    exact ⟨by omega,hI.hi i h1⟩
  have hlen:fuel=l.length-m:=by rw [← rH,gP.length_eq,List.length_range']
  have H4:listed=k8 l.length m:=by
   have uI:(k8 l.length m).size=l.length:=by simp [k8];omega
   apply Array.ext
   ·rw [hI.sz,uI]
   ·intro i h1 h2
    rw [hI.sz] at h1
    have h3:=hL i h1
    unfold Ls at h3
    rw [Array.getD_eq_getD_getElem?,Array.getElem?_eq_getElem (by rw [hI.sz];exact h1),Option.getD_some] at h3
    have h4:(k8 l.length m)[i]=decide (i<m):=by
     simp only [k8,List.getElem_toArray]
     by_cases hi:i<m
     ·rw [List.getElem_append_left (by simpa using hi)];simp [hi]
     ·rw [List.getElem_append_right (by simpa using hi)];simp [hi]
    rw [h4]
    by_cases hi:i<m
    ·rw [h3.2 hi];simp [hi]
    ·have:¬ listed[i]=true:=fun h=>hi (h3.1 h)
     simp [hi,this]
  subst hlen
  rw [H4]
  obtain ⟨β,hm,kW⟩:=hI.own
  have PF:∀ i,listed.getD i false=Nat.blt i m:=fun i=>by
   by_cases hi:i<m
   ·rw [show Nat.blt i m=true from by simpa [Nat.blt_eq] using hi];exact dR i hi
   ·have h1:¬ listed.getD i false=true:=hI.hi i (by omega)
    have h2:¬ Nat.blt i m=true:=by simpa [Nat.blt_eq] using hi
    rw [Bool.not_eq_true] at h1 h2
    rw [h1,h2]
  have e:dI β (pk tk (fun i=>listed.getD i false)) S 0=dI β (pk tk (fun i=>Nat.blt i m)) S 0:=gX fun j s hj=>⟨by unfold pk;simp only [PF],fun _=>rfl⟩
  rw [e] at hm
  refine tail β a w ⟨by rw [List.append_assoc];exact hm,fun t v hv=>?_,hI.size,hI.defers⟩
  rcases kc β t v hv with ⟨j,oj,s,h1,h2,h3,h4⟩ | ⟨h1,h2⟩
  ·obtain ⟨gR,lI⟩:=fh j oj h1
   rw [h4];exact kW j oj t s lI h2 h3 (dR j gR)
  ·rw [hI.A2 t fun j oj hj jl=>h1 oj (List.mem_of_getElem? (dQ j oj (Nat.lt_of_not_le fun hm=>hI.hi j hm jl) hj))]
   exact h0 t v h2
 intro fuel
 induction fuel with
 | zero =>
  intro listed a w hI
  obtain ⟨U,_,pM,rH⟩:=hI.left
  have hU:U=[]:=List.length_eq_zero_iff.1 rH
  refine l6 0 listed a w hI fun i hi=>Classical.byContradiction fun hn=>?_
  have:=(pM i).2 ⟨by omega,hn⟩
  rw [hU] at this;cases this
 | succ fuel ih =>
  intro listed a w hI
  by_cases dR:∀ i,i<m→Ls listed i
  ·exact l6 _ listed a w hI dR
  ·have hex:∃ i,i<m∧¬ Ls listed i:=Classical.byContradiction fun hh=>dR fun i hi=>Classical.byContradiction fun hn=>hh ⟨i,hi,hn⟩
   obtain ⟨i0,vT,oX⟩:=hex
   have main:∀ i,i∈Region.ready .any l.toArray listed→i<m→wpOpIn (FR r0) 0 P l.toArray Q i (wpAnyIn (FR r0) 0 P .any l.toArray Q fuel (listed.setIfInBounds i true)) a w∧(i=p→wpAnyIn (FR r0) 0 P .any l.toArray Q (fuel+1) listed a w):=by
    intro i hi oM
    obtain ⟨o,ho,hn,ln⟩:=(dz hI.sz).1 hi
    obtain ⟨d,EM,s,hd,fy,qU,su,eK⟩:=fJ i o (Nat.zero_le _) (dQ i o oM ho)
    obtain ⟨CS,CT,⟨B,hB,hG⟩,Pd⟩:=eK
    obtain ⟨β,hm,kW⟩:=hI.own
    have lk:∀ (j:Nat),e9 o j=true→Ls listed j:=fun j hw=>by
     obtain ⟨e,he,hb,pe⟩:=dp hw
     rw [← pe];exact ln e he hb
    have Pe:∀ (j:Nat),tO l o j=true→Ls listed j:=fun j hw=>by
     unfold tO at hw
     rw [Bool.or_eq_true] at hw
     rcases hw with hw | hw
     ·exact lk j hw
     ·obtain ⟨k,_,hk⟩:=List.any_eq_true.1 hw
      rw [Bool.and_eq_true] at hk
      have Im:=lk k hk.1
      cases hq:l[k]? with
      | none=>rw [hq] at hk;cases hk.2
      | some q =>
       rw [hq] at hk
       obtain ⟨e,he,hb,pe⟩:=dp hk.2
       rw [← pe]
       exact hI.dc k q hq Im e he hb
    have pf:∀ (j:Nat) (oj:Oper) (e:Nat),l[j]? = some oj→j<m→j≠i→oj.dst=some e→d≠e:=by
     intro j oj e hj gR hne he
     rcases Nat.lt_or_ge j i with h | h
     ·exact fun e'=>(di (jC hc h oM hj ho) he hd).1 e'.symm
     ·exact (di (jC hc (show i<j by omega) gR ho hj) hd he).1
    have iK:i<listed.size:=by rw [hI.sz];omega
    have B2:mC o=true:=hc.op o (List.mem_of_getElem? ho)
    -- zX cT Ot zX operation looks at
    have hT:∀ t∈o.looksAt l.toArray,∀ v,cI (EM β) t=some v→a.tmps[t]? = some v:=by
     intro t ht v hv
     rcases su β t v hv with ⟨j,oj,sj,h1,h2,h3,h4⟩ | ⟨h1,h2⟩
     ·have mR:j<i:=by have:=(List.getElem?_eq_some_iff.1 h1).1;rw [List.length_take] at this;omega
      rw [List.getElem?_take,if_pos mR] at h1 h3
      obtain ⟨gR,lI⟩:=fh j oj h1
      have jl:=lk j ((di (jC hc mR oM lI ho) h2 hd).2 (.inl ht))
      rw [h4];exact kW j oj t sj lI h2 h3 jl
     ·rw [hI.A2 t fun j oj hj jl ig=>?_]
      ·exact h0 t v h2
      ·have gR:j<m:=Nat.lt_of_not_le fun hm=>hI.hi j hm jl
       rcases Nat.lt_trichotomy j i with h | h | h
       ·exact h1 oj (List.mem_of_getElem? (by rw [List.getElem?_take,if_pos h];exact dQ j oj gR hj)) ig
       ·subst h;exact hn jl
       ·have hw:=(di (jC hc h gR ho hj) hd ig).2 (.inr ht)
        obtain ⟨e,he,hb,pe⟩:=dp hw
        have:=hI.dc j oj hj jl e he hb
        rw [pe] at this
        exact hn this
    have uQ:∀ t v,cI (EM β) t=some v→t<c.nt:=by
     intro t v hv
     rcases su β t v hv with ⟨j,oj,sj,h1,h2,_,_⟩ | ⟨_,h2⟩
     ·have mR:j<i:=by have:=(List.getElem?_eq_some_iff.1 h1).1;rw [List.length_take] at this;omega
      rw [List.getElem?_take,if_pos mR] at h1
      obtain ⟨d',_,_,vA,zm,_⟩:=fJ j oj (Nat.zero_le _) h1
      rw [h2] at vA;cases vA
      exact zm
     ·have:=h0 t v h2
      rw [← H3]
      exact (Array.getElem?_eq_some_iff.1 this).1
    obtain ⟨a',lo,je,_⟩:=nX hI.size uQ hT
    have zp:jw c hs (S.take i) B β w:=by
     rintro A (rfl | ⟨j,hj,sj,h1,rfl⟩)
     ·exact hm.sublist ((List.sublist_append_left _ _).trans (List.sublist_append_right _ _))
     ·have mR:j<i:=by have:=(List.getElem?_eq_some_iff.1 h1).1;rw [List.length_take] at this;omega
      rw [List.getElem?_take,if_pos mR] at h1
      have jl:=Pe j (hB j hj).1
      exact hm.sublist ((qz (lst:=pk tk (fun i=>listed.getD i false)) (i:=0) h1 (by rw [Nat.zero_add];unfold pk;dsimp only;rw [(hB j hj).2,show listed.getD j false=true from jl];rfl)).append (List.sublist_append_left _ _))
    have Vz:listed.getD i false=false:=by have h:¬ listed.getD i false=true:=hn;simpa using h
    have WV:∀ j,il tk i j=true→e9 o j=true:=fun j h=>by
     unfold il at h
     rw [Bool.and_eq_true] at h
     exact Pd j (by simpa using h.2) (by simpa [Nat.blt_eq] using h.1)
    have WW:∀ j,il tk i j=true→j<i:=fun j h=>by
     obtain ⟨e,he,hb,pe⟩:=dp (WV j h)
     have:=jv hc.ac ho e he hb
     omega
    have hpk:∀ j,il tk i j=true→pk tk (fun i=>listed.getD i false) j=true:=fun j h=>by
     have h1:listed.getD j false=true:=lk j (WV j h)
     have h2:tk j=i:=by unfold il at h;rw [Bool.and_eq_true] at h;simpa using h.2
     unfold pk;dsimp only
     rw [h1,h2,Vz]
     simp
    have etk:dI β (fun j=>pk tk (fun i=>listed.getD i false) j&&il tk i j) S 0=dI β (il tk i) (S.take i) 0:=by
     rw [qA (n:=i) fun j hj=>by
      rw [Nat.zero_add] at hj
      cases ht:il tk i j with
      | false=>rw [Bool.and_false]
      | true=>have:=WW j ht;omega]
     refine gX fun j sj _=>⟨?_,fun _=>rfl⟩
     rw [Nat.zero_add]
     cases ht:il tk i j with
     | false=>rw [Bool.and_false]
     | true=>rw [hpk j ht];rfl
    have W9:=hm.perm ((um (β:=β) (pk tk (fun i=>listed.getD i false)) (il tk i) S 0).append_right _)
    rw [List.append_assoc,etk] at W9
    obtain ⟨rJ,_,R4,SC⟩:=Mem.E1 W9
    have hq:=hG β a' w rJ lo zp R4
    have hex:=hP (o:=o) (ops:=l.toArray) B2 je
    -- Of a done operation Q9 Tg not SQ on this one
    have nQ:∀ j,Ls listed j→∀ x k,vk l j k=true→β k=tR β i x k:=by
     intro j jl x k hk
     refine (tQ fun e=>?_).symm
     subst e
     unfold vk at hk
     rw [Bool.or_eq_true] at hk
     rcases hk with hk | hk
     ·have:j=k:=by simpa using hk
      subst this;exact hn jl
     ·have PJ:j<l.length:=by
       have gR:j<m:=Nat.lt_of_not_le fun hm=>hI.hi j hm jl
       omega
      exact hn (gK hI.dc hc.ac j PJ jl k hk)
    have gr:∀ v w',JX i s β w rJ v w'→wpAnyIn (FR r0) 0 P .any l.toArray Q fuel (listed.setIfInBounds i true) (a.put o.dst v) w':=by
     rintro v w' ⟨x,rfl,hk,fp,kD,gZ,vU⟩
     refine ih _ _ _ ⟨by simpa using hI.sz,?_,?_,by rw [hd];exact hI.defers,by simpa [Act.put,hd] using hI.size,?_,?_,tR β i x,?_,?_⟩
     ·intro k ok re hL e he hb
      rw [cj iK] at hL ⊢
      rcases hL with e' | hL
      ·subst e'
       rw [ho] at re;cases re
       exact .inr (ln e he hb)
      ·exact .inr (hI.dc k ok re hL e he hb)
     ·intro k re hL
      rw [cj iK] at hL
      rcases hL with e | hL
      ·omega
      ·exact hI.hi k re hL
     ·intro t ht
      have h1:d≠t:=fun e=>by subst e;exact ht i o ho ((cj iK).2 (.inl rfl)) hd
      rw [hd]
      simp only [Act.put,Array.getElem?_setIfInBounds_ne h1]
      exact hI.A2 t fun j oj hj hL=>ht j oj hj ((cj iK).2 (.inr hL))
     ·obtain ⟨U,vW,pM,rH⟩:=hI.left
      refine ⟨U.erase i,vW.erase i,fun k=>?_,?_⟩
      ·rw [vW.mem_erase_iff,pM k,cj iK]
       constructor
       ·rintro ⟨h1,h2,h3⟩
        exact ⟨h2,fun h=>h.elim h1 h3⟩
       ·rintro ⟨h1,h2⟩
        exact ⟨fun e=>h2 (.inl e),h1,fun h=>h2 (.inr h)⟩
      ·have PK:i∈U:=(pM i).2 ⟨by omega,hn⟩
       rw [List.length_erase_of_mem PK,rH];rfl
     ·have lH:=SC _ w' hk ⟨fp,kD,gZ,vU⟩
      have e1:dI β (fun j=>pk tk (fun i=>listed.getD i false) j&&!il tk i j) S 0=dI (tR β i x) (fun j=>pk tk (fun i=>listed.getD i false) j&&!il tk i j) S 0:=gX fun j sj hj=>by
       refine ⟨rfl,fun hl=>?_⟩
       rw [Nat.zero_add] at hl
       have hl:listed.getD j false=true:=by
        unfold pk at hl
        simp only [Bool.and_eq_true] at hl
        exact hl.1.1
       have gR:j<m:=by have:=(List.getElem?_eq_some_iff.1 hj).1;omega
       obtain ⟨oj,H0⟩:∃ oj,l[j]? = some oj:=⟨l[j]'(by omega),List.getElem?_eq_getElem (by omega)⟩
       obtain ⟨_,_,s2,_,_,hs2,_,uM⟩:=fJ j oj (Nat.zero_le _) (dQ j oj gR H0)
       rw [hj] at hs2;cases hs2
       exact uM.CT _ _ (nQ j hl x)
      rw [e1,← List.append_assoc] at lH
      have oW:∀ k,(listed.setIfInBounds i true).getD k false=(listed.getD k false||Nat.beq k i):=fun k=>by
       by_cases PI:k=i
       ·subst PI
        rw [show Nat.beq k k=true by simp,Bool.or_true]
        exact (cj iK).2 (.inl rfl)
       ·rw [show Nat.beq k i=false from Bool.eq_false_iff.2 fun h=>PI (Nat.eq_of_beq_eq_true h),Bool.or_false]
        simp [Array.getD_eq_getD_getElem?,Array.getElem?_setIfInBounds_ne (Ne.symm PI)]
      refine lH.perm ((qB (k:=i) qU ?_ ?_ ?_).append_right _)
      ·rw [Nat.zero_add]
       unfold pk;dsimp only
       rw [Vz];rfl
      ·rw [Nat.zero_add]
       unfold pk;dsimp only
       rw [oW,show Nat.beq i i=true by simp,Bool.or_true,Bool.true_and]
       by_cases Pn:tk i=0
       ·rw [Pn];rfl
       ·have U0:0<tk i:=Nat.pos_of_ne_zero Pn
        have tB:listed.getD (tk i) false=false:=by
         cases hh:listed.getD (tk i) false with
         | false=>rfl
         | true =>
          exfalso
          have Xx:Ls listed (tk i):=hh
          have TT:tk i<m:=Nat.lt_of_not_le fun hm=>hI.hi _ hm Xx
          obtain ⟨ot,W4⟩:∃ ot,l[tk i]? = some ot:=⟨l[tk i]'(by omega),List.getElem?_eq_getElem (by omega)⟩
          obtain ⟨_,_,_,_,_,_,_,Vn⟩:=fJ (tk i) ot (Nat.zero_le _) (dQ _ ot TT W4)
          obtain ⟨e,he,hb,pe⟩:=dp (Vn.waits i rfl U0)
          have:=hI.dc (tk i) ot W4 Xx e he hb
          rw [pe] at this
          exact hn this
        have hne:Nat.beq (tk i) i=false:=by
         cases hh:Nat.beq (tk i) i with
         | false=>rfl
         | true =>
          exfalso
          have e:tk i=i:=by simpa using hh
          have:=WW i (by unfold il;rw [hh,Bool.and_true];rw [e] at U0;simpa [Nat.blt_eq] using U0)
          omega
        rw [oW,tB,hne];simp
      ·intro j hj
       rw [Nat.zero_add] at hj
       unfold pk;dsimp only
       rw [oW,oW,show Nat.beq j i=false from Bool.eq_false_iff.2 fun h=>hj (Nat.eq_of_beq_eq_true h),Bool.or_false]
       unfold il
       cases h1:Nat.beq (tk j) i with
       | false=>simp
       | true =>
        have e:tk j=i:=by simpa using h1
        rw [e,Vz]
        cases Nat.blt 0 i <;> simp
     ·intro j oj e sj hj he jo hL
      rw [cj iK] at hL
      by_cases mR:j=i
      ·subst mR
       rw [ho] at hj;cases hj
       rw [hd] at he;cases he
       rw [qU] at jo;cases jo
       rw [hd]
       simp [Act.put,hI.size,fy]
      ·have Ab:=hL.resolve_left mR
       have gR:j<m:=Nat.lt_of_not_le fun hm=>hI.hi j hm Ab
       obtain ⟨_,_,s2,_,_,hs2,_,uM⟩:=fJ j oj (Nat.zero_le _) (dQ j oj gR hj)
       rw [jo] at hs2;cases hs2
       rw [hd]
       simp only [Act.put,Array.getElem?_setIfInBounds_ne (pf j oj e hj gR mR he)]
       rw [← uM.CS _ _ (nQ j Ab x)]
       exact kW j oj e sj hj he jo Ab
    have Nn:=hq
    refine ⟨?_,fun Sx=>?_⟩
    rotate_left
    ·subst Sx
     exact (Ft oM).elim
    unfold wpOpIn
    rw [show l.toArray[i]? = some o from by simpa using ho]
    simp only []
    rw [gD je] at hq
    split
    ·rename_i hw
     rw [if_pos hw] at hq
     refine ⟨dE _ _ _ _ _,?_⟩
     rw [Oper.semAt_eq _ _ _ (fun cc he=>by simp [mC,he] at B2),← hex]
     unfold qf at hq
     revert hq
     generalize (execOp a'.eval o).run P w=res
     intro hq
     match res,hq with
     | .ok (.value v) w',hq=>exact gr v w' hq
     | .ok (.enter f args) w', ⟨e, ch⟩ =>
      subst e
      refine ⟨by simp [FR,Fence.wide],(gQ ch).mono fun e vH h=>?_⟩
      obtain ⟨v,rfl,hq⟩:=h
      exact gr v vH hq
    ·rename_i hw
     rw [if_neg hw] at hq
     exact ⟨fun _ _=>trivial,gr undef w hq⟩
   by_cases hp:p<m∧p∈Region.ready .any l.toArray listed
   ·exact (main p hp.2 hp.1).2 rfl
   ·refine ⟨fun hr=>?_,fun i hi=>?_⟩
    ·obtain ⟨i,hi⟩:=iR hI.sz hc.ac ⟨i0,by omega,oX⟩
     rw [hr] at hi;cases hi
    ·have oM:i<m:=Nat.lt_of_not_le fun hm=>by
      have Kk:=r7 hc hI.sz hI.dc hi hm
      by_cases HW:p<m
      ·by_cases SY:Ls listed p
       ·exact oX (by
         by_cases e:i0=p
         ·rw [e];exact SY
         ·exact Kk i0 vT e)
       ·refine hp ⟨HW,(dz hI.sz).2 ⟨l[p]'(by omega),List.getElem?_eq_getElem (by omega),SY,fun e he hb=>?_⟩⟩
        have aN:=jv hc.ac (List.getElem?_eq_getElem (show p<l.length by omega)) e he hb
        exact Kk e.on (by omega) (by omega)
      ·exact oX (Kk i0 vT (by omega))
     exact (main i hi oM).1
def sZ (tk:Nat→Nat) (P:Program) (r0:Option Nat) (c:Cx) (D:List Nat) (hs:List ba) (l:List Oper) (Q:Exit→Act→World→Prop) (m i n:Nat) (rest:List Oper) (SL:(Nat→Value)→aG) (S:List cO):Prop:=
 ∃ S' nf,vm P c hs l tk i (rest.take n) SL S S' nf∧∀ β,Tr c D (nf β) (dI β (pk tk (fun i=>Nat.blt i m)) S' 0++hs) (xX P r0 l.toArray Q (l.length-m) (k8 l.length m))
theorem Gn {id:Nat} (m:Nat) (tk:Nat→Nat) [pJ:Qv P] (jd:GY l m=true) (k:sZ tk P r0 c D hs l Q m 0 m l (fun _=>sl) []):Tr c D sl hs (WP P r0 (.region id l.toArray true) Q):=fun a w a7=>by
 obtain ⟨S,nf,hp,ht⟩:=k
 have h:(Code.region id l.toArray true).wpIn (FR r0) 0 P (NP Q) a w:=wpIn_region_any pJ.eq (by
  refine OO (tk:=tk) (p:=m) (r6 jd) (fun h=>absurd h (Nat.lt_irrefl _)) (fun c a w h=>h.elim) hp a7.cT a7.size (fun β a w a7=>ht β a w a7) l.toArray.size _ _ _ ⟨by simp,?_,?_,a7.defers,a7.size,fun t _=>rfl,?_,fun _=>undef,?_,?_⟩
  ·exact fun k o _ hL=>absurd hL (eJ _ _)
  ·exact fun k _ hL=>eJ _ _ hL
  ·exact ⟨List.range l.length,List.nodup_range,fun i=>⟨fun h=>⟨by simpa using h,eJ _ _⟩,fun h=>by simpa using h.1⟩,by simp⟩
  ·have e:∀ (T:List cO) (i:Nat),dI (fun _=>undef) (pk tk (fun i=>(Array.replicate l.toArray.size false).getD i false)) T i=[]:=by
    intro T
    induction T with
    | nil=>intro i;rfl
    | cons s T ih =>
     intro i
     have:=eJ l.toArray.size i
     unfold Ls at this
     unfold dI
     rw [if_neg (by unfold pk;simp only [Bool.and_eq_true];exact fun h=>this h.1),ih];rfl
   rw [e]
   exact a7.mem.drew
  ·exact fun j o d s _ _ _ hL=>absurd hL (eJ _ _))
 exact wpIn_mono h fun e a' w' h=>by
  cases e with
  | panic c=>exact h.elim
  | _=>exact h
end
section
variable {P:Program} {c:Cx} {D:List Nat} {sl:aG} {hs hs':List ba} {X:Act→World→Prop} {Q:Exit→Act→World→Prop} {l:List Oper} {m i n d:Nat} {q9:List (Nat×Nat)} {op:Op} {ty:TypeId} {pos:String} {af:Array Edge} {rest:List Oper} {SL:(Nat→Value)→aG} {S:List cO}
variable {r0:Option Nat}
theorem tK {o:Oper} {s:cO} (hd:o.dst=some d) (fy:Nat.blt d c.nt=true) (h:JU P c hs l (kA q9) i o SL S s) (k:sZ (kA q9) P r0 c D hs l Q m (i+1) n rest (fun β=>(d,s.F β)::SL β) (S++[s])):sZ (kA q9) P r0 c D hs l Q m i (n+1) (o::rest) SL S:=by
 obtain ⟨S',nf,hp,ht⟩:=k
 exact ⟨S',nf,.step hd (by simpa [Nat.blt_eq] using fy) h hp,ht⟩
theorem Qs (k:∀ β,Tr c D (SL β) (dI β (pk (kA q9) (fun i=>Nat.blt i m)) S 0++hs) (xX P r0 l.toArray Q (l.length-m) (k8 l.length m))):sZ (kA q9) P r0 c D hs l Q m i 0 rest SL S:=
 ⟨S,SL,.nil,k⟩
theorem Js {ι:Type} {Φ:ι→Prop} {val:ι→Value} {own:ι→List ba} (g:Value→ι) (hg:∀ x,∃ v,g v=x) {f:FuncId} {args:(Nat→Value)→List Value} (B:List Nat)
  (hB:(B.all fun j=>tO l ⟨some d,op,ty,pos,af,none⟩ j&&Nat.beq (kA q9 j) 0)=true) (hn:(q9.all fun p=>!Nat.beq p.2 i)=true)
  (hr:∀ β,k7 P (SL β) ⟨some d,op,ty,pos,af,none⟩ f (args β)) (hd:Nat.blt d c.nt=true) (hc:∀ β w,jw c hs S B β w→bd P f (args β) w [] Φ val own)
  (k:sZ (kA q9) P r0 c D hs l Q m (i+1) n rest (fun β=>(d,val (g (β i)))::SL β) (S++[⟨fun β=>val (g (β i)),fun β=>own (g (β i))⟩])) :
  sZ (kA q9) P r0 c D hs l Q m i (n+1) (⟨some d,op,ty,pos,af,none⟩::rest) SL S:=by
 refine tK (s:=⟨fun β=>val (g (β i)),fun β=>own (g (β i))⟩) rfl hd ⟨fun β β' h=>by simp only [h i (iG l i)],fun β β' h=>by simp only [h i (iG l i)],⟨B,fun j hj=>?_,fun β a w rJ uK zp _=>?_⟩,fun j hj hp=>(te hn hj hp).elim⟩ k
 ·have:=List.all_eq_true.1 hB j hj
  rw [Bool.and_eq_true] at this
  exact ⟨this.1,by simpa using this.2⟩
 rw [if_pos (by simp [Region.wanted])]
 unfold qf
 rw [(hr β).2 a w uK]
 refine ⟨rfl,(hc β w zp).mono fun e w' ⟨x,he,_,hk,fp,hn,hs',hf⟩=>?_⟩
 obtain ⟨v,hv⟩:=hg x
 refine ⟨val x,he,v,by simp only [jM,hv],hk.mono (by simp),fp,hn,by simp only [jM,hv];exact hs',fun b hb=>?_⟩
 rcases hf b hb with h | h
 ·cases h
 ·exact .inr h
theorem lr {F:(Nat→Value)→Value} (hr:∀ β,cX P c (SL β) hs ⟨some d,op,ty,pos,af,none⟩ (F β)) (hi:px l i F) (hd:Nat.blt d c.nt=true) (hn:(q9.all fun p=>!Nat.beq p.2 i)=true) (k:sZ (kA q9) P r0 c D hs l Q m (i+1) n rest (fun β=>(d,F β)::SL β) (S++[⟨F,fun _=>[]⟩])) :
  sZ (kA q9) P r0 c D hs l Q m i (n+1) (⟨some d,op,ty,pos,af,none⟩::rest) SL S:=
 tK (s:=⟨F,fun _=>[]⟩) rfl hd ⟨hi,fun _ _ _=>rfl,⟨[],by simp,fun β a w rJ h1 h2 _=>by
  rw [if_pos (by simp [Region.wanted])]
  unfold qf
  rw [(hr β).2 a w h1 h2.mem]
  exact ⟨β i,by rw [tP],.refl _ _,[],List.nodup_nil,rfl,by simp⟩⟩,fun j hj hp=>(te hn hj hp).elim⟩ k
theorem EL {V:Nat→Value} {ob:(Nat→Value)→Obj} (hr:∀ β,qe P c (SL β) hs ⟨some d,op,ty,pos,af,none⟩ V (ob β)) (hi:∀ β β',(∀ k,k≠i→vk l i k=true→β k=β' k)→ob β=ob β') (hd:Nat.blt d c.nt=true) (hn:(q9.all fun p=>!Nat.beq p.2 i)=true)
  (k:sZ (kA q9) P r0 c D hs l Q m (i+1) n rest (fun β=>(d,V (eQ (β i)))::SL β) (S++[⟨fun β=>V (eQ (β i)),fun β=>[bD (eQ (β i)) (ob β)]⟩])) :
  sZ (kA q9) P r0 c D hs l Q m i (n+1) (⟨some d,op,ty,pos,af,none⟩::rest) SL S:=
 tK (s:=⟨fun β=>V (eQ (β i)),fun β=>[bD (eQ (β i)) (ob β)]⟩) rfl hd ⟨fun β β' h=>by simp only [h i (iG l i)],fun β β' h=>by simp only [h i (iG l i),hi β β' fun k _ hk=>h k hk],⟨[],by simp,fun β a w rJ h1 h2 _=>by
  rw [if_pos (by simp [Region.wanted])]
  unfold qf
  rw [(hr β).2 a w h1 h2.mem]
  have e:ob (tR β i (.int .i64 (w.heap.size:Int)))=ob β:=hi _ _ fun k hk _=>tQ hk
  exact ⟨.int .i64 (w.heap.size:Int),by simp only [jM,oN],.alloc _ _ _,[w.heap.size],by simp,⟨[w.heap.size],[],rfl,⟨by simp only [jM,oN],by simp only [jM,oN];rw [e];exact World.alloc_heap_new w (ob β)⟩,rfl⟩,by simp⟩⟩,fun j hj hp=>(te hn hj hp).elim⟩ k
end
end Go.SL.KR
namespace Go.SL.KR
open Go Go.SL
section
variable {P:Program} {c:Cx} {D:List Nat} {sl:aG} {hs hs':List ba} {X:Act→World→Prop} {Q:Exit→Act→World→Prop} {l:List Oper} {m i n d:Nat} {q9:List (Nat×Nat)} {op:Op} {ty:TypeId} {pos:String} {af:Array Edge} {rest:List Oper} {SL:(Nat→Value)→aG} {S:List cO}
variable {r0:Option Nat}
theorem Ds {t e:TypeId} {agg:Bool} {size bytes jx n0:Nat} {z:Value} {x y:Operand} {Vx Vy:(Nat→Value)→Value} {Ax:(Nat→Value)→List ba} {xs:List Value} {news:List (List Value)} [hu:iA P t (.slice e)] [hT:Ty P e agg size] [hZ:lu P e z] [hBy:wg P e bytes] (B:List Nat)
  (hB:(B.all fun j=>tO l ⟨some d,.call ⟨.builtin .append,#[x,y],#[t,t]⟩,ty,pos,af,none⟩ j&&Nat.beq (kA q9 j) 0)=true)
  (hS:S[jx]? = some ⟨Vx,Ax⟩) (hrow:∀ β w fp,bY (hp w) (Ax β) fp→(row e size (Vx β) n0 xs).sat (hp w) fp)
  (htk:∀ k,kA q9 k=i→k=jx) (hti:kA q9 jx=i) (h0:Nat.blt 0 i=true) (hwx:e9 ⟨some d,.call ⟨.builtin .append,#[x,y],#[t,t]⟩,ty,pos,af,none⟩ jx=true)
  (hx:∀ β,Is (SL β) x (Vx β)) (hy:∀ β,Is (SL β) y (Vy β)) (hsrc:∀ β w,jw c hs S B β w→Rd w (Vy β) size news) (h1:∀ r∈news,∀ u∈r,u.oneCell'=true) (hz:z.cells.size=size) (hsz:Nat.blt 0 size=true) (hb0:Nat.blt 0 bytes=true)
  (hb:(n0+news.length)*bytes≤140737488355328) (hd:Nat.blt d c.nt=true) (hne:news≠[])
  (k:sZ (kA q9) P r0 c D hs l Q m (i+1) n rest (fun β=>(d,.slice (vD (β i)).1 (n0+news.length) (vD (β i)).2)::SL β) (S++[⟨fun β=>.slice (vD (β i)).1 (n0+news.length) (vD (β i)).2,fun β=>[row e size (.slice (vD (β i)).1 (n0+news.length) (vD (β i)).2) (n0+news.length) (xs++news.flatten)]⟩])) :
  sZ (kA q9) P r0 c D hs l Q m i (n+1) (⟨some d,.call ⟨.builtin .append,#[x,y],#[t,t]⟩,ty,pos,af,none⟩::rest) SL S:=by
 refine tK (s:=⟨fun β=>.slice (vD (β i)).1 (n0+news.length) (vD (β i)).2,fun β=>[row e size (.slice (vD (β i)).1 (n0+news.length) (vD (β i)).2) (n0+news.length) (xs++news.flatten)]⟩) rfl hd ⟨fun β β' h=>by simp only [h i (iG l i)],fun β β' h=>by simp only [h i (iG l i)],⟨B,fun j hj=>?_,fun β a w rJ uK zp gZ=>?_⟩,fun j hj _=>by rw [htk j hj];exact hwx⟩ k
 ·have:=List.all_eq_true.1 hB j hj
  rw [Bool.and_eq_true] at this
  exact ⟨this.1,by simpa using this.2⟩
 rw [if_pos (by simp [Region.wanted])]
 rw [AU (i:=0) hS fun k=>by
  rw [Nat.zero_add]
  unfold il
  rw [h0,Bool.true_and]
  by_cases e:k=jx
  ·subst e;rw [hti];simp
  ·rw [show Nat.beq k jx=false from Bool.eq_false_iff.2 fun h=>e (Nat.eq_of_beq_eq_true h)]
   exact Bool.eq_false_iff.2 fun h=>e (htk k (Nat.eq_of_beq_eq_true h))] at gZ
 have TV:=hrow β w rJ gZ
 have hR:=hsrc β w zp
 have hvx:=hx β a uK
 have WU:=hy β a uK
 have hlen:=fK hR.sz
 obtain ⟨aa,cap,b2,o2,hV,df,bO,haa,hcc⟩:=hR
 have:=haa hne
 subst this
 rw [hV] at WU
 obtain ⟨de,ii,lO,F0,_,ie⟩:=Ty.parts (P:=P) (t:=e) (agg:=agg) (n:=size)
 have hzero:ii.zero=some z:=by have:=hZ.eq;rw [F0] at this;simpa using this
 have gj:ii.bytes=bytes:=by have:=hBy.eq;rw [F0] at this;simpa using this
 have Bq:0<bytes:=by simpa using hb0
 have qP:=AJ TV
 have Np:n0+news.length≤maxLen:=by
  have:(n0+news.length)*1≤(n0+news.length)*bytes:=Nat.mul_le_mul_left _ Bq
  unfold maxLen;omega
 have hn:∀ (j:Nat) (u:Value),news.flatten[j]? = some u→w.cell? ⟨b2,o2+j,none⟩=some u:=mL hcc
 have Ac:∀ u∈news.flatten,u.oneCell'=true:=fun u hu=>by obtain ⟨r,hr,RP⟩:=List.mem_flatten.1 hu;exact h1 r hr u RP
 obtain ⟨v',w',hG,qO,uR,_⟩:=run_append_own (P:=P) w 0 t ty e ii z size bytes hu.eq F0 hzero ie gj hz (by simpa using hsz) (Vx β) n0 xs qP ⟨b2,o2,none⟩ news.length cap news.flatten hlen
  (fun j u hj=>by rw [eA];exact hn j u hj) Ac Np hb (Nat.zero_le _)
 have vS:=pX (P:=P) (t:=t) (ty:=ty) hu.eq F0 hzero (by rw [ie];exact qP) (a:=⟨b2,o2,none⟩) (m:=news.length) (cp:=cap) (by rw [ie];exact hlen) (fun j u hj=>by rw [eA];exact hn j u hj) Ac Np (by rw [gj];exact hb) hG
 have hex:(execOp a.eval ⟨some d,.call ⟨.builtin .append,#[x,y],#[t,t]⟩,ty,pos,af,none⟩).run P w=.ok (.value v') w':=by
  simp [execOp,resolve,invoke,builtin,hvx,WU,hG]
 unfold qf
 rw [hex]
 have Fy:rJ=(Vx β).ownBlock.toList:=TV.1
 have hN:0<n0+news.length:=by have:=List.length_pos_iff.2 hne;omega
 have WY:v'=.slice (vD v').1 (n0+news.length) (vD v').2:=by
  rcases qO.2 with ⟨_,e2⟩ | ⟨g,cp,cur,e2,_⟩
  ·omega
  ·rw [e2];rfl
 refine ⟨v',by simp only [jM];exact WY,⟨uR.os,uR.tape,uR.output,vS.2,uR.size,fun q hq Vp=>uR.block q hq (fun he=>Vp ?_)⟩,v'.ownBlock.toList,by cases v'.ownBlock <;> simp,⟨v'.ownBlock.toList,[],(List.append_nil _).symm,by simp only [jM];rw [← WY];exact lg qO,rfl⟩,fun q hq=>?_⟩
 ·rw [Fy,← he];simp
 ·have vw:v'.ownBlock=some q:=by simpa [Option.mem_toList] using hq
  rcases vS.1 with h | h
  ·left;rw [Fy,← h,vw];simp
  ·right
   rw [h] at vw
   cases vw
   exact Nat.le_refl _
end
end Go.SL.KR
namespace Go.Proofs.A1
open Go Go.SL
def zN (x:Wy):ba:=row 3 1 x.v (fI x.p).length (fI x.p)
theorem zO:∀ jS:List Wy,fQ 3 (jS.map Wy.v) (jS.map fun x=>fI x.p)=jS.map zN
 | []=>rfl
 | x::l=>by simp only [List.map_cons,fQ,zO l];rfl
theorem Av:∀ (l:List ba) (A:ba) (m:List ba),Take (l++A::m) A (l++m)
 | [],_,_=>.here
 | _::l,A,m=>.there (Av l A m)
theorem wI (A:ba):∀ (l m:List ba),bj (A::(l++m)) l (A::m)
 | [],_=>.nil
 | _::l,m=>.cons (.there .here) (wI A l m)
theorem tV {c:Cx} {D:List Nat} {sl:aG} {hs hs':List ba} {X:Act→World→Prop} {jS:List Wy} {x:Wy} (hx:x∈jS) (ht:Take hs (ia jS) hs')
  (k:∀ nb,(∀ y,y∈jS↔y=x∨y∈nb)→Tr c D sl (ia nb::row 3 1 x.v x.p.length (fI x.p)::hs') X):Tr c D sl hs X:=by
 obtain ⟨l1,l2,rfl⟩:=List.append_of_mem hx
 have hk:=k (l1++l2) (fun y=>by simp only [List.mem_append,List.mem_cons];constructor <;> (intro h;rcases h with h | h | h <;> simp [h]))
 refine wz (As:=fQ 3 ((l1++x::l2).map Wy.v) ((l1++x::l2).map fun x=>fI x.p)) (show Take hs (J8 (fQ 3 ((l1++x::l2).map Wy.v) ((l1++x::l2).map fun x=>fI x.p))) hs' from ht) ?_
 rw [zO,List.map_append,List.map_cons,List.append_assoc,List.cons_append]
 refine tb (Av (l1.map zN) (zN x) (l2.map zN++hs')) (fun _ _ h=>h) ?_
 rw [← List.append_assoc,← List.map_append]
 refine rf (wI (zN x) ((l1++l2).map zN) hs') ?_
 have e:ia (l1++l2)=J8 ((l1++l2).map zN):=by rw [← zO];rfl
 rw [← e]
 have e2:zN x=row 3 1 x.v x.p.length (fI x.p):=by unfold zN fI;rw [List.length_map]
 rw [e2];exact hk
theorem Hr (p:List Nat):(fI p).length=p.length:=by unfold fI;rw [List.length_map]
theorem A8 {p:List Nat} {k:Nat} (h:k<p.length) (cur:List Value):(fI p++cur)[k*1]? = some (.int .i64 (p[k]:Nat)):=by
 rw [Nat.mul_one,List.getElem?_append_left (by rw [Hr];exact h)]
 unfold fI
 rw [List.getElem?_map,List.getElem?_eq_getElem h];rfl
theorem A6 (p:List Nat) (i:Nat):(nz p).contains (i:Int)=p.contains i:=by
 induction p with
 | nil=>rfl
 | cons x l ih =>
  show (((i:Int)==(x:Int))||(nz l).contains (i:Int))=((i==x)||l.contains i)
  rw [ih]
  congr 1
  rw [Bool.eq_iff_iff,beq_iff_eq,beq_iff_eq]
  omega
theorem uH {α:Type} {l:List Oper} {i:Nat} {x:α}:px l i (fun _:Nat→Value=>x):=fun _ _ _=>rfl
theorem Fk {N:Wn} {dm:Int} (h:N.Dp=dm):N.least dm []:=by
 refine ⟨N.ru,h,fun q _ _=>?_⟩
 rcases Wn.Hv (N:=N) (show [] <+: q from List.nil_prefix) with e | e
 ·rw [← e];exact N.lt_irrefl []
 ·cases hb:N.lt q [] with
  | false=>rfl
  | true=>have:=Wn.lt_trans e hb;rw [N.lt_irrefl] at this;cases this
set_option maxHeartbeats 4000000 in
theorem MY {r:Ro} {s d t p:Value} (v:Int) (so de:ByteArray) {w:World} (h:RR w r s d t p) (hn:pt r) (hV:iL r r.po) (hd:B7 r) (rE:so∈cz r) (fy:de∈cm r) :
  bd Tryz.prog 175 [RA r s d t p,.int .i64 v,.string so,.string de] w [] (fun x:Bool×Wy×List Wy=>(x.1=true→(fo r r.po v so).least (nk r de) x.2.1.p∧(x.2.1∈x.2.2∨x.2.1=⟨.slice none 0 0,[],0⟩))∧(x.1=false→∀ q,(fo r r.po v so).ok q→(fo r r.po v so).fin q≠nk r de)∧x.2.1.v.oneCell'=true)
   (fun x=>.tuple #[.agg x.2.1.cells.toArray,.bool x.1]) (fun x=>[ia x.2.2]):=by
 have h6:r.ti.length≤6:=by have:=hn.Q7;unfold cK at this;rwa [List.length_map] at this
 have h1:=Rd.one h.sr
 have h2:=Rd.one h.de
 have h3:=Rd.one h.ti
 have h4:=Rd.one h.po
 have hti:=h.ti
 obtain ⟨a,cp,b,o',rfl,df,bO,ha,hc⟩:=hti
 have Pp:=h.sr
 obtain ⟨a2,nn,b2,o2,rfl,jX,eW,je,jH⟩:=Pp
 have lO:=h.de
 obtain ⟨a3,rP,b3,o3,rfl,mS,fX,sR,pL⟩:=lO
 rw [bN] at *
 rw [cC] at *
 rw [bX] at *
 unfold maxLen at bO eW fX
 obtain ⟨i0,vT⟩:∃ i:Nat,bA (cz r) so=(i:Nat):=⟨(bA (cz r) so).toNat,by have:=eu rE;omega⟩
 have H8:i0<r.sr.length:=by
  obtain ⟨hl,_⟩:=fw (l:=cz r) (s:=so) (by omega)
  rw [vT,Int.toNat_natCast] at hl
  unfold cz at hl;rwa [List.length_map] at hl
 obtain ⟨j0,zk⟩:∃ i:Nat,bA (cm r) de=(i:Nat):=⟨(bA (cm r) de).toNat,by have:=eu fy;omega⟩
 have Bm:j0<r.de.length:=by
  obtain ⟨hl,_⟩:=fw (l:=cm r) (s:=de) (by omega)
  rw [zk,Int.toNat_natCast] at hl
  unfold cm at hl;rwa [List.length_map] at hl
 have zh:qq r so=(r.sr[i0]).mx:=by unfold qq;rw [vT,Int.toNat_natCast,List.getD_eq_getElem?_getD,List.getElem?_eq_getElem H8];rfl
 have SF:nk r de=(r.de[j0]).mx:=by unfold nk;rw [zk,Int.toNat_natCast,List.getD_eq_getElem?_getD,List.getElem?_eq_getElem Bm];rfl
 have hsrc:∀ w',aF [] w w'→aj Tryz.prog 180 [.agg #[.int .i64 r.lv,.int .i64 r.ma,.slice a2 r.sr.length nn,.slice a3 r.de.length rP,.slice a r.ti.length cp,p],.string so] w' (.int .i64 (i0:Nat)):=fun w' hk=>vT ▸ ny so (h.keeps hk)
 have qT:∀ w',aF [] w w'→aj Tryz.prog 155 [.agg #[.int .i64 r.lv,.int .i64 r.ma,.slice a2 r.sr.length nn,.slice a3 r.de.length rP,.slice a r.ti.length cp,p],.string de] w' (.int .i64 (j0:Nat)):=fun w' hk=>zk ▸ fB de (h.keeps hk)
 have sS:=je (im H8)
 have eL:=(jH i0 _ (fD H8)).2
 unfold Sr.cells at eL
 have QK:=eL 1 _ rfl
 have FC:=sR (gm Bm)
 have nR:=(pL j0 _ (fa Bm)).2
 unfold De.cells at nR
 have zn:=nR 1 _ rfl
 unfold RA
 refine aR Tryz.func175 rfl rfl ?_
 (refine Jr<|Jy rfl rfl fun _ _=>Jz rfl rfl fun _ _=>Ja rfl<|Jn<|Gi ?_;refine Jq ?_)
 rename_i b4 vC b8 Xr
 with_reducible refine dN 18 (by kernel_rfl) ?_
 (refine np rfl rfl ae ?_;refine aH (gp (.there .here)) rfl ?_;refine aH (cr (.there .here)) rfl ?_;refine kZ rfl rfl ?_;refine eZ aZ rfl (fun w' az=>(hsrc w' (Mem.keeps az))) ?_;refine aH (aC (.of rfl) (.of rfl) sS (by omega) (by omega) bo) rfl ?_;refine np rfl rfl ae ?_;refine aH (ai (.of rfl) (At.base QK rfl)) rfl ?_;refine np rfl rfl ae ?_;refine aH (gp (.there .here)) rfl ?_;refine aH (cr (.there .here)) rfl ?_;refine kZ rfl rfl ?_;refine eZ aZ rfl (fun w' az=>(qT w' (Mem.keeps az))) ?_;refine aH (aC (.of rfl) (.of rfl) FC (by omega) (by omega) bo) rfl ?_;refine np rfl rfl ae ?_;refine aH (ai (.of rfl) (At.base zn rfl)) rfl ?_;refine aH (cq (.of rfl)) rfl ?_;refine aH (cq (.of rfl)) rfl ?_)
 with_reducible refine dW ?_
 rw [← zh,← SF]
 (refine Jn<|Jq<|Jr<|Jv rfl<|Jv rfl<|JC rfl<|Jn<|fY rfl (fun aq=>?_) fun aq=>?_;refine Jr<|ab (aS .nil ak) rfl ?_;refine ao (.of rfl) (.of rfl) .here rfl rfl (gn rfl rfl) (bE rfl) ak ?_;refine Ja rfl<|Jn<|Ju<|ri ?_;rotate_left;refine Jk<|Jr<|ab (cr (.there .here)) rfl ?_;refine Jv rfl<|Jv rfl ?_;rotate_right)
 ·refine wF ?_
  first | with_reducible apply aO | with_reducible apply aP
  case he=>exact rN rfl inferInstance rfl (.there .here) ak (by rfl) (by rfl)
  case hR=>
   intro w' az
   exact aB (true,⟨.slice none 0 0,[],0⟩,[]) ⟨fun _=>⟨Fk (show jE r so=_ by rw [rk rE];exact aq),.inr rfl⟩,(fun e=>by cases e),rfl⟩ (by exact .cons .here .nil) az rfl
 refine JN dK rfl (fun w1 aJ=>IY (s:=.slice a2 r.sr.length nn) (d:=.slice a3 r.de.length rP) (t:=.slice a r.ti.length cp) (p:=p) v so (h.keeps aJ.keeps) (by omega) rE) ?_
 rintro ⟨wv,W⟩ hW
 have hS:=oY.begin hn hV v (de:=de) rE h6 aq hW
 clear aq
 dsimp only [id_eq,List.cons_append,List.nil_append]
 refine aW (E:=244) (sz:=2) (by exact .here) fun va vc e=>?_
 subst e
 (refine Jz rfl rfl fun _ _=>ao (.of rfl) (.of rfl) .here rfl rfl (dZ rfl) (bE rfl) ak ?_;refine Ji<|Jz rfl rfl fun _ _=>Ji<|Ja rfl<|Jn<|Jq<|Gm ?_;refine Jt<|Jq<|J0 ?_)
 rename_i I1 Wa Qn abQ
 refine ET (E:=244) (sz:=2) bI ?_
 refine DH (ι:=Value×List Wy×List Wy) (fun x=>oY (fo r r.po v so) (nk r de) x.2.1 x.2.2)
  (fun x=>[(14,.bool false),(13,.pointer (some ⟨Qn,0,none⟩)),(12,.pointer (some ⟨I1,0,none⟩)),(11,.int .i64 (nk r de)),(8,.pointer (some ⟨b8,0,none⟩)),(4,.pointer (some ⟨b4,0,none⟩)),(1,.int .i64 v)])
  (fun x=>[bD I1 (.cells #[x.1] 329 (0,0)),j5 244 2 x.1 x.2.1.length (mj x.2.1),ia x.2.2,bD Qn (.cells #[.slice none 0 0,.int .i64 0] 244 (0,0)),bD b8 (.cells #[.slice none 0 0,.int .i64 0] 244 (0,0)),
   JP b4 r (.slice a2 r.sr.length nn) (.slice a3 r.de.length rP) (.slice a r.ti.length cp) p]) (fun x=>(fo r r.po v so).wt (x.2.1.map Wy.p)) ?_ ?_
 ·apply wy (.slice va W.length vc,W,W) hS
  case hs1=>exact cn
  case ht=>
   show bj _ [bD I1 (.cells #[.slice va W.length vc] 329 (0,0)),j5 244 2 (.slice va W.length vc) W.length (mj W),ia W,bD Qn (.cells #[.slice none 0 0,.int .i64 0] 244 (0,0)),bD b8 (.cells #[.slice none 0 0,.int .i64 0] 244 (0,0)),
    JP b4 r (.slice a2 r.sr.length nn) (.slice a3 r.de.length rP) (.slice a r.ti.length cp) p] _
   exact .cons bI (.cons .here (.cons (.there .here) (.cons .here (.cons .here (.cons .here .nil)))))
 rintro ⟨wv,Q,jS⟩ hS D
 dsimp only at hS ⊢
 have Xw:=hS.len
 refine wA (by exact Take.there .here) fun qa qc e QJ Vd=>?_
 subst e
 by_cases Ug:Q.length=0
 ·have H2:Q=[]:=List.eq_nil_of_length_eq_zero Ug
  subst H2
  (refine Jq<|Jr<|JL rfl .here rfl<|JI rfl<|JE rfl<|Jn<|Jc rfl fun aq=>Jp<|Jl<|Jo<|Jt<|Jr<|ab (cr cY) rfl ?_;refine Jv rfl<|ao (.of rfl) (.of rfl) ei rfl rfl (gn rfl rfl) (bE rfl) ak ?_;refine Ja rfl<|Jn<|Je<|ri ?_)
  first | with_reducible apply aO | with_reducible apply aP
  case he=>exact rN rfl inferInstance rfl .here ak (by rfl) (by rfl)
  case hR=>
   intro w' az
   exact aB (false,⟨.slice none 0 0,[],0⟩,jS) ⟨(fun e=>by cases e),(fun _=>Wn.HG hS.inv),rfl⟩ (by exact .cons cY .nil) az rfl
 ·refine Jq<|Jr<|JL rfl .here rfl<|JI rfl<|JE rfl<|Jn<|Jd rfl fun aq=>Jk<|J0<|Jr<|JL rfl .here rfl ?_
  with_reducible apply fE (As:=[j5 244 2 (.slice qa Q.length qc) Q.length (mj Q),ia jS])
  case hr=>exact aZ
  case hd=>rfl
  case ht=>exact sK
  case hc=>
   intro w1 Ad aJ uO hs1 B5 _
   exact GC uO hs1 rfl hS.sub (by omega) hS.one
  rintro Q' ⟨gP,R1⟩
  have SV:Q'.length=Q.length:=gP.length_eq
  replace hS:=hS.perm gP
  dsimp only [id_eq,List.cons_append,List.nil_append]
  have hwt:=Wn.Dy (N:=fo r r.po v so) (gP.map Wy.p)
  rw [← SV] at Ug Xw QJ ⊢
  clear gP
  cases Q' with
  | nil=>exact absurd rfl Ug
  | cons x R =>
   clear Ug SV
   obtain ⟨xv,xp,xf⟩:=x
   have TQ:=hS.sub ⟨xv,xp,xf⟩ (by simp)
   have TS:xv.oneCell'=true:=hS.one ⟨xv,xp,xf⟩ TQ
   have ss:(fo r r.po v so).ok xp∧xp≠[]:=hS.inv.ok xp (by simp)
   have hwx:mj (⟨xv,xp,xf⟩::R)=[xv,.int .i64 (xf:Nat)]++mj R:=rfl
   have Xb:((⟨xv,xp,xf⟩:Wy)::R).length=R.length+1:=rfl
   rw [Xb] at QJ Xw
   rw [Xb,hwx]
   refine Ji<|JL rfl bI rfl ?_
   refine Ak (by exact .here) (Nat.succ_pos _) fun g off gB pre cur e kc jY aJ hfit hlen=>?_
   cases e
   have c0:dU (pre++([xv,.int .i64 (xf:Nat)]++mj R)++cur) (off+0*2) 2=[xv,.int .i64 (xf:Nat)]:=by
    rw [iO,List.append_assoc,Nat.zero_mul,Nat.add_zero,← kc,List.drop_left];rfl
   (refine ab (aC (.of rfl) (.of rfl) rfl (by omega) (by omega) bo) rfl ?_;refine ab (cF (.of rfl) .here c0 rfl) rfl ?_;refine Jz rfl rfl fun _ _=>ao (.of rfl) (.of rfl) .here rfl rfl (gn TS rfl) (bE rfl) ak ?_;refine Ji<|JL rfl cY rfl<|ab (pA (.of rfl) (.of rfl) (by omega) (by omega)) rfl ?_;refine ao (.of rfl) (.of rfl) cY rfl rfl (dZ rfl) (bE rfl) ak ?_;refine Jn<|Jq ?_)
   rename_i Qm V9
   refine Aj (n:=R.length+1) (sz:=2) (cap:=qc) bI kc jY aJ hfit hlen ?_
   refine Ai (by exact .here) ?_
   rw [show ([xv,.int .i64 (xf:Nat)]++mj R).drop 2=mj R from rfl]
   refine tV TQ cY fun nb PV=>?_
   have Nh:0<xp.length:=List.length_pos_iff.2 ss.2
   have TP:xp.length≤r.ti.length:=Wn.uv ss.1
   have hxf:xf≤6:=by
    have h0:xf=(fo r r.po v so).sU xp:=hS.sU ⟨xv,xp,xf⟩ (by simp)
    have:=List.countP_le_length (p:=(fo r r.po v so).fe) (l:=xp)
    unfold Wn.sU at h0
    omega
   refine db (by exact Take.there .here) Nh fun g2 dx Wv e PU Vu uI CZ=>?_
   cases e
   obtain ⟨l,hl⟩:∃ l,xp[xp.length-1]=l:=⟨_,rfl⟩
   have PF:l<r.ti.length:=Wn.A4 ss.1 l (hl ▸ List.getElem_mem _)
   have c1:(fI xp++Wv)[((xp.length:Int)-1).toNat*1]? = some (.int .i64 (l:Nat)):=by
    rw [show ((xp.length:Int)-1).toNat=xp.length-1 by omega,A8 (by omega),hl]
   have PY:=ha (eT PF)
   have ix:=(hc l _ (ed PF)).2
   unfold Ti.cells at ix
   have V6:=ix 2 _ rfl
   have l6:(fo r r.po v so).fin xp=(r.ti[l]).to:=by
    unfold Wn.fin
    rw [List.getLast?_eq_getElem?,List.getElem?_eq_getElem (by omega),hl]
    show (ij r l).to=_
    rw [mu PF]
   with_reducible refine dN 14 (by kernel_rfl) ?_
   (refine np rfl rfl ae ?_;refine aH (gp tL) rfl ?_;refine np rfl rfl ae ?_;refine aH (gp ei) rfl ?_;refine np rfl rfl ae ?_;refine aH (gp ei) rfl ?_;refine aH (ct (.of rfl)) rfl ?_;refine aH (ud (.of rfl) (.of rfl) (QF (by omega))) rfl ?_;refine aH (aC (.of rfl) (.of rfl) rfl (by omega) (by omega) bo) rfl ?_;refine aH (ai (.of rfl) (At.mO .here c1)) rfl ?_;refine aH (aC (.of rfl) (.of rfl) PY (by omega) (by omega) bo) rfl ?_;refine np rfl rfl ae ?_;refine aH (ai (.of rfl) (At.base V6 rfl)) rfl ?_;refine aH (cq (.of rfl)) rfl ?_)
   with_reducible refine dW ?_
   rw [← l6]
   refine c8 (by exact .here) PU Vu uI CZ ?_
   refine oC (W:=nb) ⟨.slice (some ⟨g2,0,none⟩) xp.length dx,xp,xf⟩ (n:=xp.length) (x:=fI xp) (by exact Take.there .here) (by exact .here) rfl rfl ?_
   have SK:∀ y,y∈nb++[(⟨.slice (some ⟨g2,0,none⟩) xp.length dx,xp,xf⟩:Wy)]↔y∈jS:=fun y=>by rw [PV,List.mem_append,List.mem_singleton];exact Or.comm
   generalize nb++[(⟨.slice (some ⟨g2,0,none⟩) xp.length dx,xp,xf⟩:Wy)]=Ql at SK ⊢
   (refine Jn<|Jq<|Jr<|Jv rfl<|Jv rfl<|JC rfl<|Jn<|fY rfl (fun aq=>?_) fun aq=>?_;refine Jr<|ab (cr cY) rfl ?_;refine ao (.of rfl) (.of rfl) ei rfl rfl (gn rfl rfl) (bE rfl) ak ?_;refine Ja rfl<|Jn<|Jp<|tU rfl ?_;refine Jl<|Jo<|Jt<|Jr<|ab (cr .here) rfl ?_;refine Jv rfl<|ao (.of rfl) (.of rfl) eC rfl rfl (gn rfl rfl) (bE rfl) ak ?_;refine Ja rfl<|Jn<|Je<|ri ?_;rotate_left;refine Jk<|Jr<|ab (cr oq) rfl ?_;refine Jv rfl<|Jv rfl ?_;rotate_right)
   ·first | with_reducible apply aO | with_reducible apply aP
    case he=>exact rN rfl inferInstance rfl .here ak (by rfl) (by rfl)
    case hR=>
     intro w' az
     exact aB (true,⟨.slice (some ⟨g2,0,none⟩) xp.length dx,xp,xf⟩,Ql) ⟨(fun _=>⟨oY.found hS R1 aq,.inl ((SK _).2 TQ)⟩),(fun e=>by cases e),rfl⟩ (by exact .cons bI .nil) az rfl
   with_reducible apply iX
   case hr=>exact dK
   case hd=>rfl
   case ht=>exact bj.nil
   case hc=>
    intro w1 fp aJ _ hs1
    obtain rfl:fp=[]:=hs1
    exact rD (s:=.slice a2 r.sr.length nn) (d:=.slice a3 r.de.length rP) (t:=.slice a r.ti.length cp) (p:=p) v ((fo r r.po v so).fin xp) (h.keeps aJ.keeps)
   intro y _
   dsimp only [id_eq,List.cons_append,List.nil_append]
   have sx:(fc r v ((fo r r.po v so).fin xp) r.ti.length).length≤r.ti.length:=by
    have:=List.length_filter_le (Bv r v ((fo r r.po v so).fin xp)) (List.range r.ti.length)
    rw [List.length_range] at this
    exact this
   refine Jn<|J0 ?_
   refine iP (ps:=[73,74]) (f:=240) (first:=[]) (cap:=[.pointer (some ⟨y.1,0,none⟩),.pointer (some ⟨y.2.1,0,none⟩),.pointer (some ⟨y.2.2,0,none⟩)]) (ι:=Value×List Wy×List Wy) (κ:=Empty)
    (rst:=[bD Qn (.cells #[.slice none 0 0,.int .i64 0] 244 (0,0)),bD b8 (.cells #[.slice none 0 0,.int .i64 0] 244 (0,0)),JP b4 r (.slice a2 r.sr.length nn) (.slice a3 r.de.length rP) (.slice a r.ti.length cp) p]) ?hg
    [JP y.1 r (.slice a2 r.sr.length nn) (.slice a3 r.de.length rP) (.slice a r.ti.length cp) p,bD y.2.1 (.cells #[.int .i64 ((fo r r.po v so).fin xp)] 3 (0,0)),bD y.2.2 (.cells #[.int .i64 v] 3 (0,0))] (Kf r v ((fo r r.po v so).fin xp)) ?hit
    (fun k x=>x.2.1.map wk=(((fc r v ((fo r r.po v so).fin xp) r.ti.length).take k).filter fun i=>!xp.contains i).map (fun i=>(xf+1,xp++[i]))∧(∀ z∈R++x.2.1,z∈x.2.2)∧(∀ z∈x.2.2,z.v.oneCell'=true)∧(⟨.slice (some ⟨g2,0,none⟩) xp.length dx,xp,xf⟩:Wy)∈x.2.2)
    (fun x=>[bD I1 (.cells #[x.1] 329 (0,0)),j5 244 2 x.1 (R.length+x.2.1.length) (mj (R++x.2.1)),ia x.2.2,bD Qm (.cells #[.slice (some ⟨g2,0,none⟩) xp.length dx,.int .i64 (xf:Nat)] 244 (0,0))])
    (fun _=>False) (fun _=>[]) (fun _=>.ret) (Go.sliced (some ⟨g,off,none⟩) 1 (R.length+1) qc 2,[],Ql) ⟨rfl,(fun z hz=>(SK z).2 (hS.sub z (by rw [List.append_nil] at hz;exact List.mem_cons_of_mem _ hz))),(fun z hz=>hS.one z ((SK z).1 hz)),(SK _).2 TQ⟩ ?ht ?hlen ?hps ?round ?kn ?kj
   case hg=>exact Is.of rfl
   case hit=>intro w' az;exact Hu v _ h RO.nil (by omega)
   case ht=>
    show bj _ [bD I1 (.cells #[Go.sliced (some ⟨g,off,none⟩) 1 (R.length+1) qc 2] 329 (0,0)),j5 244 2 (Go.sliced (some ⟨g,off,none⟩) 1 (R.length+1) qc 2) R.length (mj (R++[])),ia Ql,bD Qm (.cells #[.slice (some ⟨g2,0,none⟩) xp.length dx,.int .i64 (xf:Nat)] 244 (0,0)),
     JP y.1 r (.slice a2 r.sr.length nn) (.slice a3 r.de.length rP) (.slice a r.ti.length cp) p,bD y.2.1 (.cells #[.int .i64 ((fo r r.po v so).fin xp)] 3 (0,0)),bD y.2.2 (.cells #[.int .i64 v] 3 (0,0))] _
    rw [List.append_nil]
    exact .cons eC (.cons ei (.cons cY (.cons cY (.cons .here (.cons .here (.cons .here .nil))))))
   case hlen=>intro vs nP;obtain ⟨x,_,rfl⟩:=List.mem_map.1 nP;rfl
   case hps=>intro t ht;simp only [List.mem_cons,List.not_mem_nil,or_false] at ht;rcases ht with rfl | rfl <;> exact Nat.le_of_ble_eq_true rfl
   case kj=>intro y;cases y
   case kn=>
    rintro ⟨Ob,W,BO⟩ D2 ⟨hW,iv,iD,CU⟩
    dsimp only [List.cons_append,List.nil_append] at hW iv iD CU ⊢
    rw [tx,List.take_length] at hW
    obtain ⟨Ue,fA⟩:=oY.next hS aq iv iD hW
    refine Jj<|Jj<|Jt ?_
    apply Al (Ob,R++W,BO) Ue (by rw [← hwt];exact fA)
    case hs1=>exact cn
    case ht=>
     show bj _ [bD I1 (.cells #[Ob] 329 (0,0)),j5 244 2 Ob (R++W).length (mj (R++W)),ia BO,bD Qn (.cells #[.slice none 0 0,.int .i64 0] 244 (0,0)),bD b8 (.cells #[.slice none 0 0,.int .i64 0] 244 (0,0)),
      JP b4 r (.slice a2 r.sr.length nn) (.slice a3 r.de.length rP) (.slice a r.ti.length cp) p] _
     rw [List.length_append]
     exact .cons .here (.cons .here (.cons .here (.cons ei (.cons ei (.cons ei .nil)))))
   case round=>
    rintro l2 rc W2 S7 k ⟨Ob,W,BO⟩ vs hsz hk ⟨hW,iv,iD,CU⟩ hB hF
    dsimp only at hW iv iD CU
    obtain ⟨i,hi,rfl,iK,T7⟩:=CM hk
    obtain ⟨vz,Ia⟩:=List.getElem?_eq_some_iff.1 hi
    have htk:(fc r v ((fo r r.po v so).fin xp) r.ti.length).take (k+1)=(fc r v ((fo r r.po v so).fin xp) r.ti.length).take k++[i]:=by rw [List.take_succ_eq_append_getElem vz,Ia]
    have QP:(mj (R++W)).length=(R.length+W.length)*2:=by rw [oz,List.length_append]
    have Xt:W.length≤6:=by
     have:=congrArg List.length hW
     rw [List.length_map,List.length_map] at this
     rw [this]
     refine Nat.le_trans (List.length_filter_le _ _) ?_
     rw [List.length_take];omega
    dsimp only [Ti.cells,List.zip_cons_cons,List.zip_nil_right,lF,List.cons_append,List.nil_append]
    refine Jg<|Ja rfl<|Jn ?_
    with_reducible apply lS
    case ht=>exact .here
    (refine J0<|Jr<|bF rfl rfl ae ?_;refine JL rfl ei rfl<|Jv rfl ?_)
    refine ag aZ rfl (fun w' az=>kM (l:=nz xp) (i:Nat) (Dm az cY CU)) ?_
    rw [A6]
    cases FB:xp.contains i with
    | true =>
     have z7:((fc r v ((fo r r.po v so).fin xp) r.ti.length).take (k+1)).filter (fun i=>!xp.contains i)=((fc r v ((fo r r.po v so).fin xp) r.ti.length).take k).filter (fun i=>!xp.contains i):=by
      rw [htk,List.filter_append]
      simp only [List.filter_cons,FB,List.filter_nil]
      simp
     (refine JH rfl<|Jn<|bR (.of rfl) ?_;refine Jw<|Jj ?_)
     apply k9 (Ob,W,BO)
     case ht=>exact .here
     case hx=>exact ⟨by rw [z7];exact hW,iv,iD,CU⟩
     case h2=>exact .cons .here (.cons .here (.cons .here (.cons .here .nil)))
    | false =>
     have z7:((fc r v ((fo r r.po v so).fin xp) r.ti.length).take (k+1)).filter (fun i=>!xp.contains i)=((fc r v ((fo r r.po v so).fin xp) r.ti.length).take k).filter (fun i=>!xp.contains i)++[i]:=by
      rw [htk,List.filter_append]
      simp only [List.filter_cons,FB,List.filter_nil]
      simp
     refine JH rfl<|Jn<|cR (.of rfl) ?_
     have tB:(nz xp).length=xp.length:=rA xp
     have Sm:(nz xp).map (Value.int .i64)=fI xp:=by unfold nz fI;rw [List.map_map];rfl
     with_reducible refine KR.Gn 12 (kA [(3,6)]) (by kernel_rfl) ?_
     refine KR.lr (fun β=>(ai (.of rfl) (At.lit (.there .here) rfl))) uH rfl rfl ?_
     refine KR.lr (fun β=>(ar (.of rfl) ae)) uH rfl rfl ?_
     refine KR.lr (fun β=>(ai (.of rfl) (At.lit ei rfl))) uH rfl rfl ?_
     dsimp only [Nat.zero_add,Nat.reduceAdd]
     with_reducible apply KR.Js (ι:=Value) (Φ:=fun _=>True) (val:=id) (own:=fun v=>[row 3 1 v xp.length (fI xp)]) (g:=id) (B:=[]) (args:=fun _=>[.slice (some ⟨g2,0,none⟩) xp.length dx])
     case hg=>exact fun x=>⟨x,rfl⟩
     case hB=>rfl
     case hr=>exact fun β=>bh (.of rfl) (.cons (.of rfl) .nil) inferInstance rfl
     case hd=>rfl
     case hn=>rfl
     case hc=>
      intro β w' hb
      have:=MC (l:=nz xp) (Dm hb.mem cY CU) (by rw [rA];omega)
      rwa [tB,Sm] at this
     dsimp only [id_eq,Nat.reduceAdd]
     refine KR.lr (fun β=>(aY (.of rfl))) uH rfl rfl ?_
     refine KR.EL (fun β=>(aA (.cons (.of rfl) .nil) rfl rfl rfl rfl)) (fun _ _ _=>rfl) rfl rfl ?_
     dsimp only [Nat.reduceAdd]
     with_reducible apply KR.Ds (jx:=3) (n0:=xp.length) (xs:=fI xp) (news:=[[.int .i64 (i:Nat)]]) (Vx:=fun β=>β 3) (Vy:=fun β=>.slice (some ⟨eQ (β 5),0,none⟩) 1 1) (Ax:=fun β=>[row 3 1 (β 3) xp.length (fI xp)]) (B:=[5])
     case hB=>kernel_rfl
     case hS=>rfl
     case hrow=>exact fun β w' fp ⟨f1,f2,e,h,h0⟩=>by obtain rfl:f2=[]:=h0;rw [e,List.append_nil];exact h
     case htk=>exact wH rfl rfl
     case hti=>rfl
     case h0=>rfl
     case hwx=>kernel_rfl
     case hx=>exact fun β=>.of rfl
     case hy=>exact fun β=>.of rfl
     case hsrc=>
      intro β w' hb
      have m6:=hb.at 5 (by simp) (s:=⟨fun β=>.slice (some ⟨eQ (β 5),0,none⟩) 1 1,fun β=>[bD (eQ (β 5)) (.cells #[.int .i64 (i:Nat)] 3 (0,0))]⟩) (by kernel_rfl)
      dsimp only [List.cons_append,List.nil_append] at m6
      exact Mem.dh m6 (by exact .here) rfl rfl
     case h1=>
      intro r hr u hu
      simp only [List.mem_singleton] at hr
      subst hr
      simp only [List.mem_singleton] at hu
      subst hu;rfl
     case hz=>rfl
     case hsz=>rfl
     case hb0=>rfl
     case hb=>simp only [List.length_singleton];omega
     case hd=>rfl
     case hne=>simp
     rw [show ([[Value.int .i64 (i:Nat)]]:List (List Value)).flatten=[.int .i64 (i:Nat)] from rfl,show ([[Value.int .i64 (i:Nat)]]:List (List Value)).length=1 from rfl]
     dsimp only [Nat.reduceAdd]
     refine KR.lr (fun β=>(ar (.of rfl) ae)) uH rfl rfl ?_
     refine KR.lr (fun β=>(ai (.of rfl) (At.lit ei rfl))) uH rfl rfl ?_
     refine KR.lr (fun β=>(GW (.of rfl) (.of rfl) (QF (by omega)))) uH rfl rfl ?_
     with_reducible apply KR.lr (F:=fun β=>.agg #[.slice (vD (β 6)).1 (xp.length+1) (vD (β 6)).2,.int .i64 ((xf:Nat)+1)])
     case hr=>(intro β;exact aS (.cons (.of rfl) (.cons (.of rfl) .nil)) ak)
     case hi=>exact fun β β' h=>by simp only [h 6 (by kernel_rfl)]
     case hd=>rfl
     case hn=>rfl
     dsimp only [Nat.reduceAdd]
     with_reducible apply KR.EL (V:=fun b=>.slice (some ⟨b,0,none⟩) 1 1) (ob:=fun β=>.cells #[.slice (vD (β 6)).1 (xp.length+1) (vD (β 6)).2,.int .i64 ((xf:Nat)+1)] 244 (0,0))
     case hr=>(intro β;exact bu (.cons (.of rfl) .nil) rfl rfl bM bM ak)
     case hi=>exact fun β β' h=>by simp only [h 6 (by decide) (by kernel_rfl)]
     case hd=>rfl
     case hn=>rfl
     dsimp only [Nat.reduceAdd]
     refine KR.Qs fun β=>?_
     change Tr _ _ _ [bD (eQ (β 5)) (.cells #[.int .i64 (i:Nat)] 3 (0,0)),row 3 1 (.slice (vD (β 6)).1 (xp.length+1) (vD (β 6)).2) (xp.length+1) (fI xp++[.int .i64 (i:Nat)]),bD (eQ (β 11)) (.cells #[.slice (vD (β 6)).1 (xp.length+1) (vD (β 6)).2,.int .i64 ((xf:Nat)+1)] 244 (0,0)),
      bD l2 (fH rc .busy none),bD I1 (.cells #[Ob] 329 (0,0)),j5 244 2 Ob (R.length+W.length) (mj (R++W)),ia BO,bD Qm (.cells #[.slice (some ⟨g2,0,none⟩) xp.length dx,.int .i64 (xf:Nat)] 244 (0,0))] _
     generalize eQ (β 5)=b5
     generalize eQ (β 11)=NX
     generalize (vD (β 6)).1=ea
     generalize (vD (β 6)).2=ec
     refine sf (rs:=[12]) (by kernel_rfl) (by simp) (List.forall_mem_cons.2 ⟨?_,fun _ h=>absurd h List.not_mem_nil⟩)
     refine ux rfl ?_
     with_reducible apply Cj
     case hx=>exact Is.of rfl
     case hy=>exact Is.of rfl
     case ht=>exact eC
     case hn=>exact eG.bD bI (show dU [.slice ea (xp.length+1) ec,.int .i64 ((xf:Nat)+1)] 0 2=[.slice ea (xp.length+1) ec,.int .i64 ((xf:Nat)+1)] from rfl)
     case hl=>rfl
     case h1=>exact bG rfl (dZ rfl)
     case hz=>exact rfl
     case hsz=>exact rfl
     case hb0=>exact rfl
     case hb=>omega
     case hd=>rfl
     intro v'
     refine wA (by exact .here) fun a' gB e LZ xA=>?_
     subst e
     refine Jn ?_
     refine sf (rs:=[13]) (by kernel_rfl) (by simp) (List.forall_mem_cons.2 ⟨?_,fun _ h=>absurd h List.not_mem_nil⟩)
     refine ux rfl ?_
     (refine ao (.of rfl) (.of rfl) eC rfl rfl (dZ rfl) (bE rfl) ak ?_;refine Jn ?_)
     with_reducible refine CN (by kernel_rfl) ?_
     refine o6 ?_
     refine oC (W:=BO) ⟨.slice ea (xp.length+1) ec,xp++[i],xf+1⟩ (n:=xp.length+1) (x:=fI xp++[.int .i64 (i:Nat)]) oq cY (by simp) (by unfold fI;rw [List.map_append];rfl) ?_
     have RN:mj (R++(W++[⟨.slice ea (xp.length+1) ec,xp++[i],xf+1⟩]))=mj (R++W)++[.slice ea (xp.length+1) ec,.int .i64 ((xf:Nat)+1)]:=by rw [← List.append_assoc];exact xZ (R++W) _
     have RM:R.length+(W++[(⟨.slice ea (xp.length+1) ec,xp++[i],xf+1⟩:Wy)]).length=R.length+W.length+1:=by simp [Nat.add_assoc]
     apply k9 (.slice a' (R.length+W.length+1) gB,W++[⟨.slice ea (xp.length+1) ec,xp++[i],xf+1⟩],BO++[⟨.slice ea (xp.length+1) ec,xp++[i],xf+1⟩])
     case ht=>exact eC
     case hx=>
      refine ⟨?_,?_,?_,?_⟩
      ·rw [z7,List.map_append,List.map_append,hW];rfl
      ·intro z hz
       rw [← List.append_assoc] at hz
       rcases List.mem_append.1 hz with hz | hz
       ·exact List.mem_append_left _ (iv z hz)
       ·exact List.mem_append_right _ hz
      ·intro z hz
       rcases List.mem_append.1 hz with hz | hz
       ·exact iD z hz
       ·rw [List.mem_singleton.1 hz];rfl
      ·exact List.mem_append_left _ CU
     case h2=>
      show bj _ [bD I1 (.cells #[.slice a' (R.length+W.length+1) gB] 329 (0,0)),j5 244 2 (.slice a' (R.length+W.length+1) gB) (R.length+(W++[(⟨.slice ea (xp.length+1) ec,xp++[i],xf+1⟩:Wy)]).length) (mj (R++(W++[⟨.slice ea (xp.length+1) ec,xp++[i],xf+1⟩]))),ia (BO++[⟨.slice ea (xp.length+1) ec,xp++[i],xf+1⟩]),bD Qm (.cells #[.slice (some ⟨g2,0,none⟩) xp.length dx,.int .i64 (xf:Nat)] 244 (0,0))] _
      rw [RM,RN]
      exact .cons (.there .here) (.cons (.there .here) (.cons .here (.cons bI .nil)))
end Go.Proofs.A1
namespace Go.Proofs.A1
open Go Go.SL
def qj (r:Ro) (v:Int) (so de:ByteArray):Option (List Nat):=match (fo r r.po v so).all (nk r de) ((fo r r.po v so).n+1) [] with
 | []=>none
 | a::l=>some (sF (fo r r.po v so).lt a l)
theorem wo {r:Ro} {v:Int} {so de:ByteArray} {p:List Nat} (h:(fo r r.po v so).least (nk r de) p):qj r v so de=some p:=by
 unfold qj
 split
 ·rename_i e
  exact absurd h.2.1 (Wn.all_none e p h.1)
 ·rename_i a l e
  rw [Wn.CO (Wn.Qj e) h]
theorem wq {r:Ro} {v:Int} {so de:ByteArray} (h:∀ q,(fo r r.po v so).ok q→(fo r r.po v so).fin q≠nk r de):qj r v so de=none:=by
 unfold qj
 split
 ·rfl
 ·rename_i a l e
  have:=Wn.Qj e
  exact absurd this.2.1 (h _ this.1)
theorem Ky {r:Ro} {v:Int} {so de:ByteArray} {p:List Nat} (h:(fo r r.po v so).least (nk r de) p):∀ i∈p,i<r.ti.length:=Wn.A4 h.1
def py (r:Ro) (v:Int) (so de:ByteArray):Int:=aV [fN r,tA r v,Az r so,pn r de]
theorem QZ {n:Int} (h0:0≤n) (h1:n<9223372036854775808):IntKind.i64.wrap n=n:=by simp [IntKind.wrap,IntKind.bits,IntKind.signed];omega
theorem yf {r:Ro} {v:Int} {so de:ByteArray} (h:py r v so de=0):sJ r∧(0≤v∧v<r.lv)∧so∈cz r∧de∈cm r:=by
 unfold py at h
 rw [cg] at h
 have h1:=xj (h _ List.mem_cons_self)
 have h2:=h (tA r v) (by simp)
 have h3:=(bH (by decide)).1 (h (Az r so) (by simp))
 have h4:=(bH (by decide)).1 (h (pn r de) (by simp))
 have hl:=h1.lim
 unfold tA at h2
 rw [QZ (by omega) (by omega),gS] at h2
 rw [decide_eq_false_iff_not,bT,Classical.not_not] at h3 h4
 exact ⟨h1,by omega,h3,h4⟩
theorem pT {r:Ro} {s d t p:Value} (v:Int) (so de:ByteArray) {w:World} (h:RR w r s d t p) (cJ:mP r):aj Tryz.prog 151 [RA r s d t p,.int .i64 v,.string so,.string de] w (.int .i64 (py r v so de)):=by
 have h1:=Rd.one h.sr
 have h2:=Rd.one h.de
 have h3:=Rd.one h.ti
 have h4:=Rd.one h.po
 have jd:∀ w',aF [] w w'→aj Tryz.prog 34 [.agg #[.int .i64 r.lv,.int .i64 r.ma,s,d,t,p]] w' (.int .i64 (fN r)):=fun w' hk=>bZ (h.keeps hk) cJ
 have hle:∀ w',aF [] w w'→aj Tryz.prog 114 [.agg #[.int .i64 r.lv,.int .i64 r.ma,s,d,t,p],.int .i64 v] w' (.int .i64 (tA r v)):=fun w' hk=>kh v (h.keeps hk)
 have zg:∀ w',aF [] w w'→aj Tryz.prog 122 [.agg #[.int .i64 r.lv,.int .i64 r.ma,s,d,t,p],.string so] w' (.int .i64 (Az r so)):=fun w' hk=>pq so (h.keeps hk)
 have lO:∀ w',aF [] w w'→aj Tryz.prog 112 [.agg #[.int .i64 r.lv,.int .i64 r.ma,s,d,t,p],.string de] w' (.int .i64 (pn r de)):=fun w' hk=>ek de (h.keeps hk)
 unfold RA
 refine ah Tryz.func151 rfl rfl ?_
 refine Jr<|Jy rfl rfl fun _ _=>Ja rfl<|Jn<|Jq ?_
 with_reducible refine cQ 12 (by kernel_rfl) ?_
 (refine an (cr .here) rfl ?_;refine aU bC rfl (fun w' az=>(jd w' (Mem.keeps az))) ?_;refine an (cr .here) rfl ?_;refine an lx rfl ?_;refine aU aZ rfl (fun w' az=>(hle w' (Mem.keeps az))) ?_;refine an (cr .here) rfl ?_;refine an lx rfl ?_;refine aU aZ rfl (fun w' az=>(zg w' (Mem.keeps az))) ?_;refine an (cr .here) rfl ?_;refine an lx rfl ?_;refine aU aZ rfl (fun w' az=>(lO w' (Mem.keeps az))) ?_;refine en (aA (.cons (.of rfl) (.cons (.of rfl) (.cons (.of rfl) (.cons (.of rfl) .nil)))) rfl rfl rfl rfl) rfl rfl ?_)
 with_reducible refine dy rfl fun bq mT=>?_
 (refine ag bC rfl (fun w' az=>(dF (Mem.dh az .here rfl rfl) (bU.cons (bU.cons (bU.cons (bU.cons bU.nil)))))) ?_;refine Ja rfl<|Jn<|Je<|JT ?_)
 rfl
theorem O4 {lv:Value} {l:List Nat} {g:Nat→ByteArray} {f:FuncId} {first cap:List Value} [bP Tryz.prog f] {w:World} (h:Rd w lv 1 (ints (nz l))) (hn:l.length≤1000000)
  (ch:∀ i∈l,∀ w',aF [] w w'→aj Tryz.prog f (first++[.int .i64 (i:Nat)]++cap) w' (.string (g i))) :
  bd Tryz.prog 176 [lv,.func (.func f) first.toArray cap.toArray] w [] (fun _:Value=>True) id (fun v=>[row 9 1 v l.length (aM (l.map g))]):=by
 obtain ⟨a,cp,b,o,rfl,df,bO,ha,hc⟩:=h
 rw [cZ,rA] at *
 unfold maxLen at bO
 refine aR Tryz.func176 rfl rfl ?_
 refine Jr<|Ja rfl<|Ji<|Ja rfl<|Jn<|Jq<|Jr<|Jv rfl<|JI rfl<|Jv rfl<|Jn<|J0 ?_
 refine aQ 9 1 ?_
 refine aX (ι:=Nat×Value) (fun x=>x.1≤l.length) (fun x=>[(10,.int .i64 x.1),(9,.int .i64 l.length),(8,.slice a l.length cp),(5,x.2),(1,.func (.func f) first.toArray cap.toArray)]) (fun x=>[row 9 1 x.2 x.1 (aM ((l.take x.1).map g))]) (fun x=>l.length-x.1) ?_ ?_
 ·apply aK (0,.slice none 0 0) (Nat.zero_le _)
  case hs1=>exact cn
  case ht=>
   exact .cons .here .nil
 rintro ⟨k,v⟩ hk
 dsimp only at hk ⊢
 by_cases aN:k<l.length
 ·have Xa:k<(nz l).length:=by rw [rA];exact aN
  have cM:=ha (jc Xa)
  have hgz:(nz l)[k]=((l[k]:Nat):Int):=by simp [nz]
  have c0:w.cell? ⟨b,o+k*1,none⟩=some (.int .i64 (l[k]:Nat)):=by rw [← hgz];exact (hc k _ (gM Xa)).2 0 _ rfl
  have ix:=ch _ (List.getElem_mem aN)
  have HQ:aM ((l.take (k+1)).map g)=aM ((l.take k).map g)++[.string (g l[k])]:=by
   rw [List.take_succ_eq_append_getElem aN,List.map_append,dO];rfl
  have vz:(aM ((l.take k).map g)).length=k*1:=by rw [cS,List.length_map,List.length_take_of_le (by omega),Nat.mul_one]
  generalize g l[k]=gk at ix HQ
  (refine Jr<|JA rfl<|Jn<|Jq<|Jd rfl fun aq=>Jk<|Jq<|J0<|Jr<|ab (fM cM aq) rfl ?_;refine ab (ai (.of rfl) (At.base c0 rfl)) rfl ?_;refine Ja rfl<|Jn<|Jg<|Jv rfl<|Jv rfl<|Jv rfl ?_)
  refine ag bC rfl (fun w' az=>(ix w' (Mem.keeps az))) ?_
  refine bb (aA (.cons (.of rfl) .nil) rfl rfl rfl rfl) rfl (fun _ _=>?_)
  refine bz (.of rfl) (.of rfl) (.there .here) .here ak (by rfl) (dZ rfl) (by rfl) (by rfl) (by rfl) ep (by rfl) ?_
  intro v'
  refine Ja rfl<|Jx<|Jj<|Jt<|Jg<|JB rfl (by omega)<|Jv rfl<|Jn ?_
  apply aL (k+1,v') (by show k+1≤l.length;omega) (by show l.length-(k+1)<l.length-k;omega)
  case hs1=>exact cn
  case ht=>
   show bj _ [row 9 1 v' (k+1) (aM ((l.take (k+1)).map g))] _
   rw [HQ]
   exact .cons .here .nil
 ·obtain rfl:k=l.length:=by omega
  rw [List.take_length]
  refine Jr<|JA rfl<|Jn<|Jq<|Jc rfl fun aq=>Jp<|Jl<|Jo<|Jt<|Jr<|Jv rfl<|Ja rfl<|Jn<|Je ?_
  first | with_reducible apply aO | with_reducible apply aP
  case he=>exact dj rfl rfl
  case hR=>
   intro w' az
   exact aB v trivial (by exact .cons .here .nil) az rfl
theorem Oh {r:Ro} {s d t p:Value} (i:Nat) (hi:i<r.ti.length) {b1:Nat} {w:World} (h:RR w r s d t p) (hA:BR w b1 (RC r s d t p)) :
  aj Tryz.prog 177 [.int .i64 (i:Nat),.pointer (some ⟨b1,0,none⟩)] w (.string (gy r i)):=by
 have xy:gy r i=(r.ti[i]).nm:=by unfold gy;rw [mu hi]
 have hti:=h.ti
 obtain ⟨a,cp,b,o',rfl,df,bO,ha,hc⟩:=hti
 rw [bN] at *
 have cM:=ha (eT hi)
 have aD:=(hc i _ (ed hi)).2
 unfold Ti.cells at aD
 have c0:=aD 0 _ rfl
 have c4:w.cell? ⟨b1,4,none⟩=some (.slice a r.ti.length cp):=hA 4 _ rfl
 rw [xy]
 refine ah Tryz.func177 rfl rfl ?_
 (refine Jr<|Ja rfl<|Ji<|bF rfl rfl ae ?_;refine ab (ai (.of rfl) (At.base c4 rfl)) rfl ?_;refine Jv rfl<|ab (aC (.of rfl) (.of rfl) cM (by omega) (by omega) bo) rfl ?_;refine bF rfl rfl ae ?_;refine ab (ai (.of rfl) (At.base c0 rfl)) rfl ?_;refine Ja rfl<|Jn<|Je<|JT ?_)
 rfl
def EO (r:Ro) (v:Int) (so de:ByteArray):Int:=if py r v so de≠0 then py r v so de else if (qj r v so de).isNone then 18 else 0
def Cd (r:Ro) (v:Int) (so de:ByteArray):List ByteArray:=if py r v so de≠0 then [] else ((qj r v so de).getD []).map (gy r)
theorem Tz {r:Ro} {s d t p:Value} (v:Int) (so de:ByteArray) {w:World} (h:RR w r s d t p) (cJ:mP r):bd Tryz.prog 70 [RA r s d t p,.int .i64 v,.string so,.string de] w [] (fun _:Value=>True) (fun x=>.tuple #[x,.int .i64 (EO r v so de)]) (fun x=>[row 9 1 x (Cd r v so de).length (aM (Cd r v so de))]):=by
 have h1:=Rd.one h.sr
 have h2:=Rd.one h.de
 have h3:=Rd.one h.ti
 have h4:=Rd.one h.po
 unfold RA
 refine aR Tryz.func70 rfl rfl ?_
 (refine Jr<|Jy rfl rfl fun _ _=>Ja rfl<|Ja rfl<|Jn<|Jq<|Jr<|ab (cr .here) rfl ?_;refine Jv rfl<|Jv rfl<|Jv rfl ?_)
 rename_i b4 vC
 refine ag eS rfl (fun w' az=>pT (s:=s) (d:=d) (t:=t) (p:=p) v so de (h.keeps az.keeps) cJ) ?_
 (refine Ja rfl<|Ji<|Jv rfl<|JD rfl<|Jn<|fY rfl (fun aq=>?_) fun aq=>?_;refine Jr<|Jv rfl<|Ja rfl<|Ja rfl<|Jn<|Ju ?_;rotate_left;refine Jk<|Jr<|ab (cr .here) rfl ?_;refine Jv rfl<|Jv rfl<|Jv rfl ?_;rotate_right)
 ·have e1:Cd r v so de=[]:=if_pos aq
  have e2:EO r v so de=py r v so de:=if_pos aq
  rw [e1,e2]
  refine aQ 9 1 ?_
  first | with_reducible apply aO | with_reducible apply aP
  case he=>exact fL rfl rfl rfl
  case hR=>
   intro w' az
   exact aB (.slice none 0 0) trivial (by exact .cons .here .nil) az rfl
 have e0:py r v so de=0:=Decidable.not_not.1 aq
 obtain ⟨eK,hv,rE,fy⟩:=yf e0
 have e1:Cd r v so de=((qj r v so de).getD []).map (gy r):=if_neg aq
 have e2:EO r v so de=if (qj r v so de).isNone then 18 else 0:=if_neg aq
 clear aq
 rw [e1,e2]
 refine JN eS rfl (fun w1 aJ=>MY (s:=s) (d:=d) (t:=t) (p:=p) v so de (h.keeps aJ.keeps) eK.xo eK.val eK.NS rE fy) ?_
 rintro ⟨Uj,⟨xv,xp,xf⟩,jS⟩ ⟨TS,TR,RL⟩
 dsimp only [Wy.cells] at TS TR RL ⊢
 dsimp only [id_eq,List.cons_append,List.nil_append]
 cases Uj with
 | false =>
  rw [wq (TR rfl)]
  (refine Jv rfl<|JJ rfl rfl<|JJ rfl rfl<|Jz rfl rfl fun _ _=>ao (.of rfl) (.of rfl) .here rfl rfl (gn RL rfl) (bE rfl) ak ?_;refine Ja rfl<|Jn<|Jq<|Jr<|Jv rfl<|JH rfl<|Jn<|cR (.of rfl) ?_;refine Jr<|Ja rfl<|Ja rfl<|Jn<|Ju ?_)
  refine aQ 9 1 ?_
  first | with_reducible apply aO | with_reducible apply aP
  case he=>exact fL rfl rfl rfl
  case hR=>
   intro w' az
   exact aB (.slice none 0 0) trivial (by exact .cons .here .nil) az rfl
 | true =>
  obtain ⟨hl,mm⟩:=TS rfl
  rw [wo hl]
  have hrw:(((some xp).getD []:List Nat).map (gy r)).length=xp.length:=by simp
  rw [hrw]
  have aN:=Ky hl
  have Xj:xp.length≤6:=Nat.le_trans (Wn.uv hl.1) eK.len.2.2
  (refine Jv rfl<|JJ rfl rfl<|JJ rfl rfl<|Jz rfl rfl fun _ _=>ao (.of rfl) (.of rfl) .here rfl rfl (gn RL rfl) (bE rfl) ak ?_;refine Ja rfl<|Jn<|Jq<|Jr<|Jv rfl<|JH rfl<|Jn<|bR (.of rfl) ?_;refine Jk<|Jr<|bF rfl rfl ae ?_;refine JL rfl .here rfl<|ab (bn .nil (.cons (.of rfl) .nil)) rfl ?_)
  with_reducible apply iX
  case hr=>exact aZ
  case hd=>rfl
  case ht=>exact bj.nil
  case hc=>
   intro w1 fp aJ _ hs1
   obtain rfl:fp=[]:=hs1
   have hA:BR w1 b4 [.int .i64 r.lv,.int .i64 r.ma,s,d,t,p]:=BR.of aJ bI
   have hR:=h.keeps aJ.keeps
   have hrd:Rd w1 xv 1 (ints (nz xp)):=by
    rcases mm with mm | mm
    ·exact Dm aJ (by exact Take.there .here) mm
    ·cases mm
     exact Rd.nil w1 1
   exact O4 (f:=177) (g:=gy r) (first:=[]) (cap:=[.pointer (some ⟨b4,0,none⟩)]) hrd (by omega) (fun i hi w2 ez=>Oh i (aN i hi) (hR.keeps ez) (hA.keeps ez))
  intro x _
  dsimp only [id_eq,List.cons_append,List.nil_append]
  refine Ja rfl<|Ja rfl<|Jn<|Je ?_
  first | with_reducible apply aO | with_reducible apply aP
  case he=>exact fL rfl rfl rfl
  case hR=>
   intro w' az
   exact aB x trivial (by exact .cons .here .nil) az rfl
end Go.Proofs.A1
namespace Go.Proofs.A1
open Go Go.SL
end Go.Proofs.A1
namespace Go.Proofs.A1
open Go Go.SL
def fU (r:Ro) (v:Int) (so:ByteArray):Nat→List Int
  | 0=>[qq r so]
  | k+1=>if wb r v so k&&!(fU r v so k).contains (ij r k).to then fU r v so k++[(ij r k).to] else fU r v so k
theorem AK (r:Ro) (v:Int) (so:ByteArray):∀ k,(fU r v so k).length≤k+1
  | 0=>Nat.le_refl _
  | k + 1 => by
    have:=AK r v so k
    unfold fU
    split
    · rw [List.length_append];simp;omega
    · omega
theorem ub (r:Ro) (v:Int) (so:ByteArray):∀ k,(fU r v so k).Nodup
  | 0=>by simp [fU]
  | k + 1 => by
    have:=ub r v so k
    unfold fU
    split
    · rename_i h
      rw [Bool.and_eq_true] at h
      rw [List.nodup_append]
      refine ⟨this,by simp,fun a ha b hb e=>?_⟩
      rw [List.mem_singleton] at hb
      subst hb;subst e
      have:=h.2
      rw [List.contains_iff_mem.2 ha] at this
      cases this
    · exact this
theorem wV (r:Ro) (v:Int) (so:ByteArray) {m:Int}:∀ {a b:Nat},a≤b→m∈fU r v so a→m∈fU r v so b:=by
  intro a b h
  induction h with
  | refl=>exact id
  | step _ ih =>
    intro hm
    have:=ih hm
    rw [fU]
    split
    · exact List.mem_append_left _ this
    · exact this
theorem GU (r:Ro) (v:Int) (so:ByteArray) (k:Nat):qq r so∈fU r v so k:=wV r v so (Nat.zero_le k) (by simp [fU])
theorem K8 {r:Ro} {v:Int} {so:ByteArray} {k t:Nat} (ht:t<k) (h:wb r v so t=true):(ij r t).to∈fU r v so k:=by
  refine wV r v so (show t+1≤k from ht) ?_
  rw [fU]
  split
  · exact List.mem_append_right _ (by simp)
  · rename_i hc
    rw [h,Bool.true_and,Bool.not_eq_true',Bool.not_eq_false] at hc
    exact List.contains_iff_mem.1 hc
theorem yF {r:Ro} (eK:sJ r) {v:Int} {so:ByteArray} (hs:so∈cz r):∀ k,k≤r.ti.length→∀ m∈fU r v so k,(fo r r.po v so).Rc m
  | 0, _, m, hm => by
    rw [fU,List.mem_singleton] at hm
    subst hm
    rw [← rk hs]
    exact Wn.Rc.Dp
  | k + 1, hk, m, hm => by
    rw [fU] at hm
    split at hm
    · rename_i h
      rcases List.mem_append.1 hm with hm | hm
      · exact yF eK hs k (by omega) m hm
      · rw [List.mem_singleton] at hm
        subst hm
        rw [Bool.and_eq_true,vg eK.xo eK.val] at h
        exact Wn.Rc.ca (N:=fo r r.po v so) (show k<r.ti.length from hk) h.1
    · exact yF eK hs k (by omega) m hm
theorem uq {r:Ro} (eK:sJ r) {v:Int} {so:ByteArray} (hs:so∈cz r) {m:Int} (h:(fo r r.po v so).Rc m):0≤m∧m<r.ma:=by
  have QG:∀ i,i<r.ti.length→0≤(ij r i).to∧(ij r i).to<r.ma:=fun i hi=>by
    rw [mu hi];exact (eK.tm _ (List.getElem_mem hi)).2.1
  cases h with
  | Dp =>
    show 0≤jE r so∧jE r so<r.ma
    rw [rk hs]
    unfold qq
    obtain ⟨hl,_⟩:=fw (l:=cz r) (s:=so) (eu hs)
    have Bl:(bA (cz r) so).toNat<r.sr.length:=by
                                                           have e:(cz r).length=r.sr.length:=by unfold cz;rw [List.length_map]
                                                           omega
    rw [List.getD_eq_getElem?_getD,List.getElem?_eq_getElem Bl]
    exact eK.sm _ (List.getElem_mem Bl)
  | ca hi _=>exact QG _ hi
  | fe hi _ _=>exact QG _ hi
structure vr (r:Ro) (v:Int) (so:ByteArray) (L:List Int) (i:Nat):Prop where
  nd:L.Nodup
  rc:∀ m∈L,(fo r r.po v so).Rc m
  rt:∀ m∈fU r v so r.ti.length,m∈L
  dn:∀ j x,j<i→L[j]? = some x→∀ t,t<r.ti.length→Bv r v x t=true→(ij r t).to∈L
theorem Ee {L:List Int} {n:Nat} (kD:L.Nodup) (h:∀ m∈L,0≤m∧m<(n:Nat)):L.length≤n:=by
  have:=kp n (L.map Int.toNat) (by
    show List.Pairwise (fun a b=>a≠b) (L.map Int.toNat)
    rw [List.pairwise_map]
    refine List.Pairwise.imp_of_mem (fun {a b} ha hb hne e=>hne ?_) kD
    have:=h a ha;have:=h b hb;omega) (fun x hx=>by
    obtain ⟨m,hm,rfl⟩:=List.mem_map.1 hx
    have:=h m hm;omega)
  rwa [List.length_map] at this
theorem vr.C8 {r:Ro} (eK:sJ r) {v:Int} {so:ByteArray} (hs:so∈cz r) {L:List Int} {i:Nat} (h:vr r v so L i):L.length≤4:=by
  have hl:=eK.lim
  refine Ee h.nd fun m hm=>?_
  have:=uq eK hs (h.rc m hm)
  omega
theorem vr.begin {r:Ro} (eK:sJ r) {v:Int} {so:ByteArray} (hs:so∈cz r):vr r v so (fU r v so r.ti.length) 0:=
  ⟨ub r v so _,yF eK hs _ (Nat.le_refl _),fun _ h=>h,fun j x h=>absurd h (Nat.not_lt_zero _)⟩
theorem vr.done {r:Ro} (eK:sJ r) {v:Int} {so:ByteArray} (hs:so∈cz r) {L:List Int} (h:vr r v so L L.length) (m:Int):m∈L↔(fo r r.po v so).Rc m:=by
  refine Wn.Ld (S:=fun m=>m∈L) ⟨?_,fun i hi hc=>?_⟩ (fun m hm=>h.rc m hm) m
  · show jE r so∈L
    rw [rk hs]
    exact h.rt _ (GU r v so _)
  · rcases hc with hc | ⟨hf,vU⟩
    · rw [← vg eK.xo eK.val] at hc
      exact h.rt _ (K8 hi hc)
    · obtain ⟨j,hj,e⟩:=List.getElem_of_mem vU
      refine h.dn j _ hj (List.getElem?_eq_getElem hj) i hi ?_
      rw [pN v so,e,hf]
      simp
def Kb (r:Ro) (v:Int) (so:ByteArray) (m:Int):Bool:=!((fo r r.po v so).all m ((fo r r.po v so).n+1) []).isEmpty
theorem G1 (r:Ro) (v:Int) (so:ByteArray) (m:Int):Kb r v so m=true↔(fo r r.po v so).Rc m:=by
  unfold Kb
  rw [Bool.not_eq_true',List.isEmpty_eq_false_iff]
  constructor
  · intro h
    obtain ⟨q,hq⟩:=List.exists_mem_of_ne_nil _ h
    obtain ⟨h1,h2⟩:=Wn.yX (Wn.ru _) hq
    rw [← h2]
    exact Wn.Rk h1
  · intro h e
    obtain ⟨p,hp,hf⟩:=Wn.Ry h
    exact Wn.all_none e p hp hf
def u4 (r:Ro) (v:Int) (so:ByteArray):List Int:=((List.range r.ma.toNat).map fun i:Nat=>(i:Int)).filter (Kb r v so)
theorem BC (r:Ro) (v:Int) (so:ByteArray):(u4 r v so).Pairwise (fun a b=>a<b):=by
  unfold u4
  refine List.Pairwise.filter _ ?_
  rw [List.pairwise_map]
  exact List.pairwise_lt_range.imp fun h=>by omega
theorem IG {r:Ro} (eK:sJ r) {v:Int} {so:ByteArray} (hs:so∈cz r) {m:Int}:m∈u4 r v so↔(fo r r.po v so).Rc m:=by
  unfold u4
  rw [List.mem_filter,G1]
  constructor
  · exact fun h=>h.2
  · intro h
    have:=uq eK hs h
    exact ⟨List.mem_map.2 ⟨m.toNat,List.mem_range.2 (by omega),by omega⟩,h⟩
theorem IE {r:Ro} (eK:sJ r) {v:Int} {so:ByteArray} (hs:so∈cz r) {L S:List Int} (kD:L.Nodup) (hL:∀ m,m∈L↔(fo r r.po v so).Rc m) (hp:S.Perm L) (LV:S.Pairwise (fun a b=>a≤b)):S=u4 r v so:=by
  have Xv:S.Nodup:=hp.nodup_iff.2 kD
  have hSs:S.Pairwise (fun a b=>a<b):=(LV.and Xv).imp fun ⟨h1,h2⟩=>by omega
  refine nr (R:=fun a b:Int=>a<b) (fun a b h h'=>by omega) hSs (BC r v so) ?_
  refine (List.perm_ext_iff_of_nodup Xv ((BC r v so).imp fun h=>by omega)).2 fun m=>?_
  rw [hp.mem_iff,hL,IG eK hs]
end Go.Proofs.A1
namespace Go.Proofs
open Go.Shelf
def Tryz.Bc:Go.Shelf.Ren:=⟨fun | 189=>156 | 125=>245 | 257=>244 | 128=>312 | 129=>313 | 294=>303 | 295=>304 | 296=>305 | 297=>306 | 298=>307 | 299=>308 | 216=>309 | 300=>310 | 301=>311 | 328=>343 | 329=>344 | 330=>345 | 331=>346 | 332=>347 | 215=>342 | 343=>367 | n=>n,fun | 28=>49 | 3=>3 | 46=>318 | 0=>0 | 51=>381 | 53=>383 | 4=>4 | 183=>374 | 182=>373 | 131=>272 | 5=>5 | 9=>9 | 218=>409 | 222=>413 | 228=>428 | 229=>359 | n=>n,fun | n=>n⟩
theorem Tryz.Eb:Go.Proofs.Lays.n189 Tryz.prog Tryz.Bc:={
 mixed:=by kernel_rfl
 f125:=Tryz.func245.trans (congrArg some (by kernel_rfl))
 f128:=Tryz.func312.trans (congrArg some (by kernel_rfl))
 f129:=Tryz.func313.trans (congrArg some (by kernel_rfl))
 f189:=Tryz.func156.trans (congrArg some (by kernel_rfl))
 f215:=Tryz.func342.trans (congrArg some (by kernel_rfl))
 f216:=Tryz.func309.trans (congrArg some (by kernel_rfl))
 f257:=Tryz.func244.trans (congrArg some (by kernel_rfl))
 f294:=Tryz.func303.trans (congrArg some (by kernel_rfl))
 f295:=Tryz.func304.trans (congrArg some (by kernel_rfl))
 f296:=Tryz.func305.trans (congrArg some (by kernel_rfl))
 f297:=Tryz.func306.trans (congrArg some (by kernel_rfl))
 f298:=Tryz.func307.trans (congrArg some (by kernel_rfl))
 f299:=Tryz.func308.trans (congrArg some (by kernel_rfl))
 f300:=Tryz.func310.trans (congrArg some (by kernel_rfl))
 f301:=Tryz.func311.trans (congrArg some (by kernel_rfl))
 f328:=Tryz.func343.trans (congrArg some (by kernel_rfl))
 f329:=Tryz.func344.trans (congrArg some (by kernel_rfl))
 f330:=Tryz.func345.trans (congrArg some (by kernel_rfl))
 f331:=Tryz.func346.trans (congrArg some (by kernel_rfl))
 f332:=Tryz.func347.trans (congrArg some (by kernel_rfl))
 f343:=Tryz.func367.trans (congrArg some (by kernel_rfl))
 t0:=Tryz.underlying0
 a0:=Tryz.isAgg0
 z0:=Tryz.sizeOf0
 v0:=Tryz.zeroValue0
 t3:=Tryz.underlying3
 a3:=Tryz.isAgg3
 z3:=Tryz.sizeOf3
 v3:=Tryz.zeroValue3
 t4:=Tryz.underlying4
 a4:=Tryz.isAgg4
 z4:=Tryz.sizeOf4
 v4:=Tryz.zeroValue4
 t5:=Tryz.underlying5
 a5:=Tryz.isAgg5
 z5:=Tryz.sizeOf5
 v5:=Tryz.zeroValue5
 t9:=Tryz.underlying9
 a9:=Tryz.isAgg9
 z9:=Tryz.sizeOf9
 v9:=Tryz.zeroValue9
 t28:=Tryz.underlying49
 a28:=Tryz.isAgg49
 z28:=Tryz.sizeOf49
 v28:=Tryz.zeroValue49
 t46:=Tryz.underlying318
 a46:=Tryz.isAgg318
 z46:=Tryz.sizeOf318
 v46:=Tryz.zeroValue318
 t51:=Tryz.underlying381
 a51:=Tryz.isAgg381
 z51:=Tryz.sizeOf381
 v51:=Tryz.zeroValue381
 t53:=Tryz.underlying383
 a53:=Tryz.isAgg383
 z53:=Tryz.sizeOf383
 v53:=Tryz.zeroValue383
 t131:=Tryz.underlying272
 a131:=Tryz.isAgg272
 z131:=Tryz.sizeOf272
 v131:=Tryz.zeroValue272
 t182:=Tryz.underlying373
 a182:=Tryz.isAgg373
 z182:=Tryz.sizeOf373
 v182:=Tryz.zeroValue373
 t183:=Tryz.underlying374
 a183:=Tryz.isAgg374
 z183:=Tryz.sizeOf374
 v183:=Tryz.zeroValue374
 t218:=Tryz.underlying409
 a218:=Tryz.isAgg409
 z218:=Tryz.sizeOf409
 v218:=Tryz.zeroValue409
 t222:=Tryz.underlying413
 a222:=Tryz.isAgg413
 z222:=Tryz.sizeOf413
 v222:=Tryz.zeroValue413
 t228:=Tryz.underlying428
 a228:=Tryz.isAgg428
 z228:=Tryz.sizeOf428
 v228:=Tryz.zeroValue428
 t229:=Tryz.underlying359
 a229:=Tryz.isAgg359
 z229:=Tryz.sizeOf359
 v229:=Tryz.zeroValue359 }
open Go.Sort Go.RowKit in
theorem Tryz.slices_Sort_int (bD off cap:Nat) (zs:List Int) (w:World) (hH:Holds (Value.int .i64) w bD off zs.toArray) (hblk:bD<w.heap.size) (hsz:zs.length<4611686018427387904) :
  Calls Tryz.prog 156 #[.slice (some ⟨bD,off,none⟩) zs.length cap] w fun e w'=>
   e=.returned (.tuple #[])∧∃ n os,w'=grow (putRow (Value.int .i64) (Sort.ahead w n) bD off (zs.mergeSort fun x y=>decide (x≤y)).toArray) os:=Any.slices_Sort_int Tryz.Eb bD off cap zs w hH hblk hsz
end Go.Proofs
