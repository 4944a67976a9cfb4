/- Parts of the proof: KJq GkAppO GkRegK GkRegL GkRegR GkRegS KJ. -/
import Derived.Test.YteonnodafmegaaaGreatDoorCM07
import Derived.Test.YteonnodafmegaaaGreatDoorCM06
import Derived.Test.YteonnodafmegaaaGreatDoorCM04
import Derived.Test.YteonnodafmegaaaGreatDoorCM03
set_option linter.unusedSectionVars false
set_option linter.unusedVariables false
set_option linter.unusedSimpArgs false
namespace Go.Proofs.A1
open Go Go.SL
def xK (r:Ro) (v:Int) (so:ByteArray):List (Nat×List Nat):=(AT r v so r.ti.length).map (fun i=>(0,[i]))++(fJ r v (mi r so) r.ti.length).map (fun i=>(1,[i]))
theorem oI {r:Ro} {so:ByteArray} (h:so∈ct r):jR r so=mi r so:=by
 unfold jR mi;rw [if_pos (di h)]
theorem q5 {r:Ro} (hn:qh r) (h:jl r r.po) (v:Int) (so:ByteArray) (i:Nat):xb r v so i=(dE r r.po v so).ca i:=by
 unfold xb dE;rw [te hn h]
theorem qT {r:Ro} (v:Int) (so:ByteArray) (m:Int) (i:Nat):B5 r v m i=(decide ((dE r r.po v so).fr i=m)&&(dE r r.po v so).fe i):=rfl
theorem KS {r:Ro} {v:Int} {so:ByteArray} {i:Nat} (h:(dE r r.po v so).ca i=true):(dE r r.po v so).fe i=false:=by
 unfold dE at h ⊢;simp only [Bool.and_eq_true] at h;simp [h.1]
theorem E8 (N:Wn) (i:Nat):N.rY [i]=if N.fe i then 1 else 0:=by
 unfold Wn.rY;cases h:N.fe i <;> simp [h]
theorem Kl (N:Wn) (p:List Nat) {i:Nat} (h:N.fe i=true):N.rY (p++[i])=N.rY p+1:=by
 unfold Wn.rY;rw [List.countP_append];simp [h]
theorem HF (N:Wn) (j:Nat):N.step [] j=(decide (j<N.n)&&(N.ca j||(N.fe j&&decide (N.fr j=N.D5)))):=by
 unfold Wn.step;simp [Wn.NU];rfl
theorem step_cons (N:Wn) {x:List Nat} (h:x≠[]) (j:Nat):N.step x j=(decide (j<N.n)&&(!x.contains j&&(N.fe j&&decide (N.fr j=N.fin x)))):=by
 unfold Wn.step;cases x with
 | nil=>exact absurd rfl h
 | cons a l=>simp
theorem KX {r:Ro} (hn:qh r) (h:jl r r.po) (v:Int) {so:ByteArray} (hs:so∈ct r) (q:List Nat):q∈(xK r v so).map Prod.snd↔q∈(dE r r.po v so).exts []:=by
 unfold xK Wn.exts Wn.Sy;rw [List.map_append,List.mem_append,List.map_map,List.map_map];simp only [List.mem_map,Za,Function.comp,List.mem_filter,List.mem_range,AT,fJ];have a7:∀ j,(dE r r.po v so).step [] j=true↔j<r.ti.length/\(xb r v so j=true\/B5 r v (mi r so) j=true):=fun j=>by
  rw [HF,q5 hn h,qT v so];have e0:(dE r r.po v so).D5=mi r so:=oI hs;rw [e0];simp only [Bool.and_eq_true,Bool.or_eq_true,decide_eq_true_eq];constructor
  ·rintro ⟨h1,h2 | ⟨h3,h4⟩⟩
   ·exact ⟨h1,.inl h2⟩
   ·exact ⟨h1,.inr ⟨h4,h3⟩⟩
  ·rintro ⟨h1,h2 | ⟨h3,h4⟩⟩
   ·exact ⟨h1,.inl h2⟩
   ·exact ⟨h1,.inr ⟨h4,h3⟩⟩
 constructor
 ·rintro (⟨j,⟨h1,h2⟩,rfl⟩ | ⟨j,⟨h1,h2⟩,rfl⟩)
  ·exact ⟨j,⟨h1,(a7 j).2 ⟨h1,.inl h2⟩⟩,I⟩
  ·exact ⟨j,⟨h1,(a7 j).2 ⟨h1,.inr h2⟩⟩,I⟩
 ·rintro ⟨j,⟨h1,h2⟩,rfl⟩;rcases ((a7 j).1 h2).2 with h3 | h3
  ·exact .inl ⟨j,⟨h1,h3⟩,I⟩
  ·exact .inr ⟨j,⟨h1,h3⟩,I⟩
theorem Sb {r:Ro} (hn:qh r) (h:jl r r.po) (v:Int) {so:ByteArray} {x:Nat×List Nat} (hx:x∈xK r v so):x.1=(dE r r.po v so).rY x.2:=by
 unfold xK at hx;rcases List.mem_append.1 hx with hx | hx
 ·obtain ⟨i,hi,rfl⟩:=List.mem_map.1 hx;have:=(List.mem_filter.1 hi).2;rw [q5 hn h] at this;rw [E8,KS this];rfl
 ·obtain ⟨i,hi,rfl⟩:=List.mem_map.1 hx;have:=(List.mem_filter.1 hi).2;rw [qT v so,Bool.and_eq_true] at this;rw [E8,this.2];rfl
theorem Oq {r:Ro} (hn:qh r) (h:jl r r.po) (v:Int) {so:ByteArray} (h6:r.ti.length<=6):(dE r r.po v so).wt ((xK r v so).map Prod.snd)<=1957:=by
 have e:(xK r v so).map Prod.snd=(AT r v so r.ti.length++fJ r v (mi r so) r.ti.length).map (fun i=>([]:List Nat)++[i]):=by
  unfold xK;rw [List.map_append,List.map_map,List.map_map,List.map_append];rfl
 rw [e,Wn.CI];have hl:(AT r v so r.ti.length++fJ r v (mi r so) r.ti.length).length<=r.ti.length:=by
  refine k8 _ _ ?_ ?_
  ·rw [List.nodup_append];refine ⟨List.nodup_range.filter _,List.nodup_range.filter _,?_⟩;intro a ha b hb e;subst e;have h1:=(List.mem_filter.1 ha).2;have h2:=(List.mem_filter.1 hb).2;rw [q5 hn h] at h1;rw [qT v so,Bool.and_eq_true] at h2;rw [KS h1] at h2;cases h2.2
  ·intro x hx;rcases List.mem_append.1 hx with hx | hx <;> exact List.mem_range.1 (List.mem_filter.1 hx).1
 have hN:(dE r r.po v so).n=r.ti.length:=rfl;rw [hN];generalize (AT r v so r.ti.length++fJ r v (mi r so) r.ti.length).length=k at hl;generalize r.ti.length=n at hl h6;have:∀ n,n<=6->n*qt (n-1)<=1957:=by decide
 exact Nat.le_trans (Nat.mul_le_mul_right _ hl) (by simpa using this n h6)
theorem GA {r:Ro} {v:Int} {so:ByteArray} {x:List Nat} (hx:x≠[]):(dE r r.po v so).exts x=((fJ r v ((dE r r.po v so).fin x) r.ti.length).filter fun i=>!x.contains i).map fun i=>x++[i]:=by
 unfold Wn.exts Wn.Sy fJ;rw [List.filter_filter];congr 1;apply List.filter_congr;intro j hj;have kH:=List.mem_range.1 hj;rw [step_cons _ hx,qT v so];have:decide (j<(dE r r.po v so).n)=true:=decide_eq_true kH;rw [this,Bool.true_and];congr 1;exact Bool.and_comm _ _
theorem TF {r:Ro} {v:Int} {so:ByteArray} (p q:List Nat):(dE r r.po v so).lt p q=wl ((dE r r.po v so).rY p,p) ((dE r r.po v so).rY q,q):=rfl
def jV (r:Ro) (de:ByteArray):Int:=(r.de.getD (bd (cz r) de).toNat ⟨⟨#[]⟩,0,false⟩).mx
theorem Kw {r:Ro} {de:ByteArray} (h:de∈cz r):j9 r de=jV r de:=by
 unfold j9 jV;rw [if_pos (di h)]
structure qn (N:Wn) (dm:Int) (Q kJ:List Wy):Prop where
 sub:∀ x∈Q,x∈kJ
 one:∀ x∈kJ,x.v.oneCell'=true
 rY:∀ x∈Q,x.f=N.rY x.p
 inv:N.Inv dm (Q.map Wy.p)
 DM:N.wt (Q.map Wy.p)<=1957
theorem qn.len {N:Wn} {dm:Int} {Q kJ:List Wy} (h:qn N dm Q kJ):Q.length<=1957:=by
 have:=N.G8 (Q.map Wy.p);rw [Zd] at this;exact Nat.le_trans this h.DM
theorem qn.begin {r:Ro} (hn:qh r) (hv:jl r r.po) (v:Int) {so de:ByteArray} (hs:so∈ct r) (h6:r.ti.length<=6) (hne:mi r so≠jV r de) {W:List Wy} (hW:PL (xK r v so) W):qn (dE r r.po v so) (jV r de) W W:=by
 have hp:W.map Wy.p=(xK r v so).map Prod.snd:=by rw [<- hW.1,List.map_map];rfl
 refine ⟨fun _ h=>h,hW.2,fun x hx=>?_,?_,?_⟩
 ·have:wk x∈xK r v so:=by rw [<- hW.1];exact List.mem_map_of_mem hx
  exact Sb hn hv v this
 ·refine Wn.Gg (by rw [show (dE r r.po v so).D5=jR r so from I,oI hs];exact hne) fun q=>?_;rw [hp];exact KX hn hv v hs q
 ·rw [hp];exact Oq hn hv v h6
theorem qn.perm {N:Wn} {dm:Int} {Q Q' kJ:List Wy} (h:qn N dm Q kJ) (hp:Q'.Perm Q):qn N dm Q' kJ:=by
 have hm:=hp.map Wy.p;refine ⟨fun x hx=>h.sub x (hp.mem_iff.1 hx),h.one,fun x hx=>h.rY x (hp.mem_iff.1 hx),⟨fun q hq=>h.inv.ok q (hm.mem_iff.1 hq),fun p h1 h2=>?_⟩,by rw [Wn.Eg hm];exact h.DM⟩;obtain ⟨q,hq,h3⟩:=h.inv.cover p h1 h2;exact ⟨q,hm.mem_iff.2 hq,h3⟩
theorem qn.found {r:Ro} {v:Int} {so:ByteArray} {dm:Int} {x:Wy} {R kJ:List Wy} (h:qn (dE r r.po v so) dm (x::R) kJ) (hs:(x::R).Pairwise (fun x y=>wl (y.f,y.p) (x.f,x.p)=false)) (hf:(dE r r.po v so).fin x.p=dm):(dE r r.po v so).least dm x.p:=by
 refine Wn.Gf h.inv (by simp) (fun q hq=>?_) hf;obtain ⟨y,hy,rfl⟩:=List.mem_map.1 hq;rw [TF,<- h.rY x (by simp),<- h.rY y hy];rcases List.mem_cons.1 hy with rfl | hy
 ·exact xO _
 ·exact (List.pairwise_cons.1 hs).1 y hy
theorem qn.next {r:Ro} {v:Int} {so:ByteArray} {dm:Int} {x:Wy} {R W kJ oh:List Wy} (h:qn (dE r r.po v so) dm (x::R) kJ) (hf:(dE r r.po v so).fin x.p≠dm) (iY:∀ y∈R++W,y∈oh) (ir:∀ y∈oh,y.v.oneCell'=true)
  (hW:W.map wk=((fJ r v ((dE r r.po v so).fin x.p) r.ti.length).filter fun i=>!x.p.contains i).map fun i=>(x.f+1,x.p++[i])):qn (dE r r.po v so) dm (R++W) oh/\(dE r r.po v so).wt ((R++W).map Wy.p)<(dE r r.po v so).wt ((x::R).map Wy.p):=by
 have hx:=h.inv.ok x.p (by simp);have ZH:W.map Wy.p=(dE r r.po v so).exts x.p:=by
  rw [GA hx.2];have:=congrArg (fun l=>l.map Prod.snd) hW
  simp only [List.map_map] at this;exact this
 have aL:(dE r r.po v so).wt ((R++W).map Wy.p)<(dE r r.po v so).wt ((x::R).map Wy.p):=by
  rw [List.map_append,ZH,Wn.xN,List.map_cons,Wn.wt];have:=Wn.LP hx.1;omega
 refine ⟨⟨iY,ir,fun y hy=>?_,?_,Nat.le_trans (Nat.le_of_lt aL) h.DM⟩,aL⟩
 ·rcases List.mem_append.1 hy with hy | hy
  ·exact h.rY y (List.mem_cons_of_mem _ hy)
  ·have h1:wk y∈W.map wk:=List.mem_map_of_mem hy;rw [hW] at h1;obtain ⟨i,hi,e⟩:=List.mem_map.1 h1;have e1:x.f+1=y.f:=congrArg Prod.fst e;have e2:x.p++[i]=y.p:=congrArg Prod.snd e;have h2:=(List.mem_filter.1 (List.mem_filter.1 hi).1).2;rw [qT v so,Bool.and_eq_true] at h2;rw [<- e1,<- e2,Kl _ _ h2.2,h.rY x (by simp)]
 ·rw [List.map_append,ZH];refine Wn.IV h.inv (fun q=>?_) hf;rw [List.map_cons,List.mem_cons]
end Go.Proofs.A1
namespace Go.SL
open Go
theorem Ez {h:Nat->Option Obj} {E:TypeId} {sz:Nat} {v:Value} {n:Nat} {xs:List Value} {fp:List Nat} (hr:(kN E sz v n xs).sat h fp):fp=v.ownBlock.toList:=by
 obtain ⟨_,h1⟩:=hr;rcases h1 with ⟨rfl,rfl,_⟩ | ⟨g,off,cap,cur,rfl,rfl,_⟩
 ·simp [Value.ownBlock]
 ·simp [Value.ownBlock]
section
variable {P:Program} {c:Cx} {D:List Nat} {sl:aI} {hs hs':List a8} {d:Nat} {ty:TypeId} {pos:String} {af:Array Edge} {r:Option Nat} {ops:Array Oper} {Q:Exit->Act->World->Prop} {rest:List Oper}
theorem CP {t e:TypeId} {agg:Bool} {size bytes:Nat} {z:Value} {x y:Operand} {v:Value} {n b o m cp:Nat} {xs news:List Value} [hu:iU P t (.slice e)] [hT:Ty P e agg size] [hZ:lQ P e z] [hB:wV P e bytes]
  (hx:Is sl x v) (hy:Is sl y (.slice (some ⟨b,o,none⟩) m cp)) (ht:Take hs (kN e size v n xs) hs') (hn:eU c hs b o news) (hl:news.length=m*size) (h1:∀ u∈news,u.oneCell'=true) (hz:z.cells.size=size) (hsz:Nat.blt 0 size=true) (hb0:Nat.blt 0 bytes=true)
  (hb:(n+m)*bytes<=140737488355328) (hd:Nat.blt d c.nt=true)
  (k:∀ v',Tr c D ((d,v')::sl) (kN e size v' (n+m) (xs++news)::hs') (WL P r ops Q rest)) :
  Tr c D sl hs (WL P r ops Q (⟨some d,.call ⟨.builtin .append,#[x,y],#[t,t]⟩,ty,pos,af,none⟩::rest)):=fun a w a7=>by
 obtain ⟨de,i,lM,hi,_,gG⟩:=Ty.parts (P:=P) (t:=e) (agg:=agg) (n:=size);have hzero:i.zero=some z:=by have:=hZ.eq;rw [hi] at this;simpa using this
 have gi:i.bytes=bytes:=by have:=hB.eq;rw [hi] at this;simpa using this
 have VQ:=a7.qP;have hm:=a7.mem.take (ht.append _);obtain ⟨kk,fp,jf,⟨f1,f2,rfl,O3,h2⟩,Aj⟩:=hm;obtain ⟨hlen,hrow⟩:=id O3;have wa:0<bytes:=by simpa using hb0
 have TX:0<size:=by simpa using hsz
 have bV:n+m<=maxLen:=by
  have:(n+m)*1<=(n+m)*bytes:=Nat.mul_le_mul_left _ wa;unfold maxLen;omega
 have rU:∀ j u,news[j]? = some u->w.cell? ((⟨b,o,none⟩:Addr).add j)=some u:=fun j u hj=>by rw [ez];exact hn.get j u hj w VQ
 have VR:(xs++news).length=(n+m)*size:=by rw [Zg,hlen,hl,Nat.add_mul]
 have key:∃ v' w' lN,(Builtin.append_ #[t,t] ty #[v,.slice (some ⟨b,o,none⟩) m cp]).run P w=.ok v' w'/\aD f1 w w'/\lN.Nodup/\(kN e size v' (n+m) (xs++news)).sat (hp w') lN/\∀ q∈lN,q∈f1\/w.heap.size<=q:=by
  rcases hrow with ⟨rfl,rfl,rfl⟩ | ⟨g,off,cap,cur,rfl,rfl,hg,Zk,ZA,hfit,htk⟩
  ·have pb:w.ownsRow 0 e size (.slice none 0 0) 0 xs:=⟨hlen,.inl ⟨I,I⟩⟩;obtain ⟨v',w',gA,o9,rV,_⟩:=run_append_own (P:=P) w 0 t ty e i z size bytes hu.eq hi hzero gG gi hz (by simpa using hsz) _ 0 xs pb ⟨b,o,none⟩ m cp news hl rU h1 bV hb (Zi _);have sQ:=nM (P:=P) (t:=t) (ty:=ty) hu.eq hi hzero (by rw [gG];exact pb) (a:=⟨b,o,none⟩) (m:=m) (cp:=cp) (by rw [gG];exact hl) rU h1 bV (by rw [gi];exact hb) gA;refine ⟨v',w',v'.ownBlock.toList,gA,⟨rV.os,rV.tape,rV.output,sQ.2,rV.size,fun q hq _=>rV.block q hq (by simp [Value.ownBlock])⟩,by cases v'.ownBlock <;> simp,oK (ke o9),fun q hq=>?_⟩
   have tJ:v'.ownBlock=some q:=by simpa [Option.mem_toList] using hq
   rcases sQ.1 with h | h
   ·rw [tJ] at h;simp [Value.ownBlock] at h
   ·rw [h] at tJ;cases tJ;exact .inr (Nat.le_refl _)
  ·have Ux:w.heap[g]? = some (.cells cur e (0,0)):=hg;have hgs:g<w.heap.size:=(Array.getElem?_eq_some_iff.1 Ux).1;have Q2:cur.toList=cur.toList.take off++(xs++cur.toList.drop (off+n*size)):=by
    rw [<- htk]
    conv=>lhs;rw [<- List.take_append_drop off cur.toList]
    congr 1
    conv=>lhs;rw [<- List.take_append_drop (n*size) (cur.toList.drop off)]
    rw [List.drop_drop]
   have Pe:cur.size=cur.toList.length:=by simp
   have hns:n*size<=cap*size:=Nat.mul_le_mul_right _ Zk;have vO:(cur.toList.take off).length=off:=by rw [List.length_take];omega
   by_cases yN:n+m<=cap
   ·have hms:(n+m)*size<=cap*size:=Nat.mul_le_mul_right _ yN;rw [Nat.add_mul] at hms;have LD:w.heap[g]? = some (.cells cur.toList.toArray e (0,0)):=by rw [Array.toArray_toList];exact Ux
    obtain ⟨w',h3,h4,h5⟩:=je (P:=P) (o:=off+n*size) news 0 cur.toList w LD h1 (by omega);have hfc:=run_firstCells_some (P:=P) w i.size m ⟨b,o,none⟩ m cp news (by rw [gG];exact hl) rU;refine ⟨.slice (some ⟨g,off,none⟩) (n+m) cap,w',[g],?_,h4,by simp,⟨VR,.inr ⟨g,off,cap,_,I,I,h5,yN,ZA,?_,?_⟩⟩,fun q hq=>.inl hq⟩
    ·subst gG;have Kh:(⟨g,off,none⟩:Addr).add (n*i.size)=⟨g,off+n*i.size,none⟩:=ez _ _ _;simp [Builtin.append_,aU hu.eq,sizeOf,typeInfo,hi,Builtin.lenOf,yN,hfc,Kh,h3]
    ·rw [List.size_toArray,kC,<- Pe];exact hfit
    ·show ((setCells cur.toList (off+n*size+0) news).drop off).take ((n+m)*size)=xs++news;have e1:setCells cur.toList (off+n*size+0) news=cur.toList.take off++xs++(news++(cur.toList.drop (off+n*size)).drop news.length):=by
      have X2:cur.toList.drop (off+n*size)=(cur.toList.drop (off+n*size)).take news.length++(cur.toList.drop (off+n*size)).drop news.length:=(List.take_append_drop _ _).symm;have hle:((cur.toList.drop (off+n*size)).take news.length).length=news.length:=by rw [List.length_take,List.length_drop];omega
      have e2:cur.toList=(cur.toList.take off++xs)++((cur.toList.drop (off+n*size)).take news.length++(cur.toList.drop (off+n*size)).drop news.length):=by rw [<- X2,Zh];exact Q2
      have NK:(cur.toList.take off++xs).length=off+n*size+0:=by rw [Zg,vO,hlen,Nat.add_zero]
      conv=>lhs;rw [e2]
      rw [<- NK];exact zA _ _ _ _ hle.symm
     rw [e1,Zh,<- vO]
     conv=>lhs;rw [vO]
     rw [List.drop_left' vO,<- VR,<- Zh,List.take_left]
   ·have holds:∀ j u,xs[j]? = some u->w.cell? ((⟨g,off,none⟩:Addr).add j)=some u:=fun j u hj=>by
     rw [ez];simp only [World.cell?,Ux];rw [<- htk] at hj;have aL:j<n*size:=by
      have:=(List.getElem?_eq_some_iff.1 hj).1;rw [List.length_take] at this;omega
     rw [List.getElem?_take_of_lt aL,List.getElem?_drop] at hj;simpa using hj
    obtain ⟨v',w',gA,o9,rV⟩:=run_append_arg_grows (P:=P) (w:=w) t ty e i z size bytes hu.eq hi hzero gG gi hz TX ⟨g,off,none⟩ n cap xs hlen holds ⟨b,o,none⟩ m cp news hl rU (by omega) bV hb;have hr:=run_append_grow (P:=P) w t ty e i z hu.eq hi hzero ⟨g,off,none⟩ n cap xs (by rw [gG];exact hlen) holds ⟨b,o,none⟩ m cp news (by rw [gG];exact hl) rU (by omega) (by unfold maxLen at bV;omega) (growslice_fits (by omega) (by rw [gi];exact hb));have DE:w.drawn<=w'.drawn/\v'.ownBlock=some w.heap.size:=by
     rw [gA] at hr;cases hr;exact ⟨Nat.le_succ _,I⟩
    have Ua:w'.ownsRow 0 e size v' (n+m) (xs++news):=⟨o9.1,o9.2.imp id fun ⟨g',iu,YI,e1,_,r⟩=>⟨g',iu,YI,e1,Zi _,r⟩⟩
    refine ⟨v',w',v'.ownBlock.toList,gA,⟨rV.os,rV.tape,rV.output,DE.1,rV.size,fun q hq _=>rV.block q hq (by simp)⟩,by cases v'.ownBlock <;> simp,oK (ke Ua),fun q hq=>?_⟩
    rw [DE.2] at hq;simp at hq;exact .inr (by omega)
 obtain ⟨v',w',lN,gA,hk,hnf,gQ,sQ⟩:=key;refine mH I ⟨dO _ _ _ _ _,?_⟩;rw [Oper.semAt_eq _ _ _ (by simp)];have:(execOp a.eval ⟨some d,.call ⟨.builtin .append,#[x,y],#[t,t]⟩,ty,pos,af,none⟩).run P w=.ok (.value v') w':=by
  simp [execOp,resolve,invoke,builtin,hx a a7.cP,hy a a7.cP,gA]
 rw [this];refine k v' _ _ ((a7.put (by simpa [Nat.blt_eq] using hd) v').heap ?_);have k9:Mem c ([kN e size v n xs]++(hs'++mC D)) w:=a7.mem.take (ht.append _);have:=Mem.change (Bs:=[kN e size v' (n+m) (xs++news)]) (w':=w') k9 fun fp tK hf=>by
  obtain ⟨g1,g2,e1,hr,e2⟩:=hf;obtain rfl:g2=[]:=e2;have h3:=Ez hr;have h4:=Ez O3;rw [List.append_nil] at e1;subst e1;rw [h3,<- h4];exact ⟨hk,lN,hnf,⟨lN,[],by simp,gQ,I⟩,sQ⟩
 exact this
end
end Go.SL
namespace Go.SL
open Go
theorem Mem.yk {c:Cx} {As hs':List a8} {w:World} (hm:Mem c (As++hs') w):∃ fp:List Nat,fp.Nodup/\ch (hp w) As fp /\
  ∀ (Bs:List a8) (w':World),aD fp w w'->(∃ lN:List Nat,lN.Nodup/\ch (hp w') Bs lN/\∀ b∈lN,b∈fp\/w.heap.size<=b)->Mem c (Bs++hs') w':=by
 obtain ⟨kk,fp,hn,gQ,hb⟩:=hm;obtain ⟨f1,f2,rfl,h1,h2⟩:=ch.append_iff.1 gQ;obtain ⟨n1,n2,n12⟩:=List.nodup_append.1 hn;refine ⟨f1,n1,h1,fun Bs w' hk ⟨lN,tK,hs',yS⟩=>?_⟩;have aL:∀ b∈f2,b<w.heap.size:=fun b dD=>let ⟨o,ho⟩:=h2.own b dD;ki ho
 refine ⟨?_,lN++f2,?_,ch.append_iff.2 ⟨lN,f2,I,hs',h2.loc fun b dD=>?_⟩,?_⟩
 ·refine ⟨hk.os.trans kk.os,hk.tape.trans kk.tape,hk.output.trans kk.output,Nat.le_trans kk.dr hk.dr,Nat.le_trans kk.size hk.size,fun b dD hm=>?_⟩;rw [<- kk.block b dD hm];refine hk.block b (Nat.lt_of_lt_of_le dD kk.size) (fun hf=>?_);rcases hb b (List.mem_append_left _ hf) with h | h
  ·omega
  ·exact hm h
 ·refine List.nodup_append.2 ⟨tK,n2,fun x hx y hy e=>?_⟩;subst e;rcases yS x hx with h | h
  ·exact n12 x h x hy I
  ·have:=aL x hy;omega
 ·exact hk.block b (aL b dD) (fun hf=>n12 b hf b dD I)
 ·intro b dD;rcases List.mem_append.1 dD with h | h
  ·rcases yS b h with h | h
   ·exact hb b (List.mem_append_left _ h)
   ·exact .inl (Nat.le_trans kk.size h)
  ·exact hb b (List.mem_append_right _ h)
theorem qJ {β:Nat->Value} (p q:Nat->Bool):∀ (S:List cI) (i:Nat),(dA β p S i).Perm (dA β (fun j=>p j&&q j) S i++dA β (fun j=>p j&&!q j) S i)
 | [],_=>.nil
 | s :: S, i => by
  have ih:=qJ (β:=β) p q S (i+1);unfold dA;cases hp:p i <;> cases hq:q i <;> simp only [Bool.and_true,Bool.and_false,Bool.not_true,Bool.not_false,Bool.false_and,Bool.true_and,if_true,if_false,Za,reduceIte]
  ·simpa using ih
  ·simpa using ih
  ·simp only [Bool.false_eq_true,if_false,Za];refine (ih.append_left _).trans ?_;rw [<- Zh,<- Zh];exact List.perm_append_comm.append_right _
  ·simp only [Bool.false_eq_true,if_false,Za];rw [Zh];exact ih.append_left _
theorem oO {β:Nat->Value} {q:Nat->Bool}:∀ {S:List cI} {n i:Nat},(∀ j,i+n<=j->q j=false)->dA β q S i=dA β q (S.take n) i
 | [],n,i,_=>by rw [List.take_nil]
 | s :: S, 0, i, h => by
  rw [Ze];unfold dA;rw [h i (by omega),oO (n:=0) fun j hj=>h j (by omega),Ze];rfl
 | s :: S, n + 1, i, h => by
  rw [List.take_succ_cons];unfold dA;rw [oO (n:=n) (i:=i+1) fun j hj=>h j (by omega)]
def oB (l:List Oper) (o:Oper) (j:Nat):Bool:=eL o j||(List.range l.length).any fun k=>eL o k&&(match l[k]? with | some q=>eL q j | none=>false)
def pk (tk:Nat->Nat) (lst:Nat->Bool) (j:Nat):Bool:=lst j&&!(Nat.blt 0 (tk j)&&lst (tk j))
def ed (tk:Nat->Nat) (i j:Nat):Bool:=Nat.blt 0 i&&Nat.beq (tk j) i
section
variable {P:Program} {c:Cx} {D:List Nat} {sl:aI} {hs:List a8} {Q:Exit->Act->World->Prop} {l:List Oper} {m:Nat} {tk:Nat->Nat}
def FB (i:Nat) (s:cI) (β:Nat->Value) (w:World) (oe:List Nat) (v:Value) (w':World):Prop:=∃ x,v=s.F (ss β i x)/\aD oe w w'/\∃ fp:List Nat,fp.Nodup/\ch (hp w') (s.A (ss β i x)) fp/\∀ b∈fp,b∈oe\/w.heap.size<=b
structure FA (P:Program) (c:Cx) (hs:List a8) (l:List Oper) (tk:Nat->Nat) (i:Nat) (o:Oper) (SL:(Nat->Value)->aI) (S:List cI) (s:cI):Prop where
 Ad:pC l i s.F
 Ae:pC l i s.A
 run:∃ B:List Nat,(∀ j∈B,oB l o j=true/\tk j=0)/\∀ β a w oe,bS (SL β) a->js c hs S B β w->ch (hp w) (dA β (ed tk i) S 0) oe->if Region.wanted o (yielded l.toArray a.tmps)=true then mB P o a w (FB i s β w oe) else FB i s β w oe undef w
 waits:∀ j,tk j=i->0<i->eL o j=true
inductive si (P:Program) (c:Cx) (hs:List a8) (l:List Oper) (tk:Nat->Nat):Nat->List Oper->((Nat->Value)->aI)->List cI->List cI->((Nat->Value)->aI)->Prop
 | nil {i:Nat} {SL:(Nat->Value)->aI} {S:List cI}:si P c hs l tk i [] SL S S SL
 | step {i d:Nat} {o:Oper} {rest:List Oper} {SL lH:(Nat->Value)->aI} {S S':List cI} {s:cI} (hd:o.dst=some d) (fH:d<c.nt) (h:FA P c hs l tk i o SL S s)
   (t:si P c hs l tk (i+1) rest (fun β=>(d,s.F β)::SL β) (S++[s]) S' lH):si P c hs l tk i (o::rest) SL S S' lH
theorem si.spec {i:Nat} {rest:List Oper} {SL lH:(Nat->Value)->aI} {S S':List cI} (h:si P c hs l tk i rest SL S S' lH):∀ pre:List Oper,pre.length=i->S.length=i->ng sl pre SL S ->
  S'.length=i+rest.length/\S <+: S'/\ng sl (pre++rest) lH S'/\∀ k o,i<=k->(pre++rest)[k]? = some o->∃ d Cr s,o.dst=some d/\d<c.nt/\S'[k]? = some s/\ng sl ((pre++rest).take k) Cr (S'.take k)/\FA P c hs l tk k o Cr (S'.take k) s:=by
 induction h with
 | @nil i SL S =>
  intro pre hp hS j5;refine ⟨by simpa using hS,List.prefix_rfl,by simpa using j5,fun k o hk ho=>?_⟩;have:=(List.getElem?_eq_some_iff.1 ho).1;simp at this;omega
 | @step i d o rest SL lH S S' s hd fH a7 t ih =>
  intro pre hp hS j5;obtain ⟨h1,h2,h3,h4⟩:=ih (pre++[o]) (by simp [hp]) (by simp [hS]) (j5.step (by omega) hd);rw [Zh,List.singleton_append] at h3 h4;have Dz:S <+: S':=(List.prefix_append S [s]).trans h2;have qB:S'[i]? = some s:=by
   obtain ⟨r,rfl⟩:=h2;rw [Zh,List.getElem?_append_right (by omega),hS];simp
  have Yn:S'.take i=S:=by
   obtain ⟨r,rfl⟩:=Dz;rw [<- hS];simp
  refine ⟨by rw [h1];simp;omega,Dz,h3,fun k ok hk ho=>?_⟩;by_cases e:k=i
  ·subst e;have E0:ok=o:=by
    rw [List.getElem?_append_right (by omega),hp] at ho;simpa using ho.symm
   subst E0;have htk:(pre++ok::rest).take k=pre:=by rw [<- hp];simp
   rw [htk,Yn];exact ⟨d,SL,s,hd,fH,qB,j5,a7⟩
  ·exact h4 k ok (by omega) ho
structure OD (c:Cx) (D:List Nat) (hs:List a8) (l:List Oper) (tk:Nat->Nat) (m:Nat) (S:List cI) (a0:Act) (fuel:Nat) (listed:Array Bool) (a:Act) (w:World):Prop where
 sz:listed.size=l.length
 dc:DC l (Ls listed)
 hi:∀ k,m<=k->¬ Ls listed k
 defers:a.defers=D.map mark
 size:a.tmps.size=c.nt
 yF:∀ t,(∀ (j:Nat) (o:Oper),l[j]? = some o->Ls listed j->o.dst≠some t)->a.tmps[t]? = a0.tmps[t]?
 left:∃ U:List Nat,U.Nodup/\(∀ i,i∈U↔i<l.length/\¬ Ls listed i)/\U.length=fuel
 own:∃ β:Nat->Value,Mem c (dA β (pk tk (fun i=>listed.getD i false)) S 0++(hs++mC D)) w/\∀ (j:Nat) (o:Oper) (d:Nat) (s:cI),l[j]? = some o->o.dst=some d->S[j]? = some s->Ls listed j->a.tmps[d]? = some (s.F β)
theorem Db {p:Nat} (hc:GS l m p) (Dz:p<m->wM l p) (SQ:∀ c a w,¬ Q (.panic c) a w) {S:List cI} {lH:(Nat->Value)->aI} (Re:si P c hs l tk 0 (l.take m) (fun _=>sl) [] S lH) {a0:Act} (h0:bS sl a0) (Gm:a0.tmps.size=c.nt)
  (tail:∀ β a w,St c D (lH β) (dA β (pk tk (fun i=>Nat.blt i m)) S 0++hs) a w->wpAnyIn (FR none) 0 P .any l.toArray Q (l.length-m) (jB l.length m) a w) :
  ∀ (fuel:Nat) (listed:Array Bool) (a:Act) (w:World),OD c D hs l tk m S a0 fuel listed a w->wpAnyIn (FR none) 0 P .any l.toArray Q fuel listed a w:=by
 have hle:=hc.le;have Gj:ng sl [] (fun _=>sl) []:=fun β t v hv=>.inr ⟨fun oj h=>(List.not_mem_nil h).elim,hv⟩
 obtain ⟨wg,_,j5,eI⟩:=Re.spec (sl:=sl) [] rfl rfl Gj;rw [Za] at j5 eI;rw [Nat.zero_add,List.length_take,Nat.min_eq_left hle] at wg;have dI:∀ (j:Nat) (o:Oper),j<m->l[j]? = some o->(l.take m)[j]? = some o:=fun j o hj ho=>by rw [List.getElem?_take,if_pos hj];exact ho
 have eZ:∀ (j:Nat) (o:Oper),(l.take m)[j]? = some o->j<m/\l[j]? = some o:=fun j o ho=>by
  rw [List.getElem?_take] at ho;split at ho
  ·exact ⟨by assumption,ho⟩
  ·cases ho
 have Ki:∀ j,j<m->∃ s,S[j]? = some s:=fun j hj=>⟨S[j]'(by omega),Zc (by omega)⟩
 have lk:∀ fuel listed a w,OD c D hs l tk m S a0 fuel listed a w->(∀ i,i<m->Ls listed i)->wpAnyIn (FR none) 0 P .any l.toArray Q fuel listed a w:=by
  intro fuel listed a w hI dC;have hL:∀ i,i<l.length->(Ls listed i↔i<m):=fun i _=>⟨fun h=>Nat.lt_of_not_le fun hm=>hI.hi i hm h,dC i⟩
  obtain ⟨U,tS,nX,qm⟩:=hI.left;have gZ:U.Perm (List.range' m (l.length-m)):=by
   rw [List.perm_ext_iff_of_nodup tS (List.nodup_range')];intro i;rw [nX i,List.mem_range'_1];constructor
   ·rintro ⟨h1,h2⟩;exact ⟨Nat.le_of_not_lt fun h=>h2 (dC i h),by omega⟩
   ·rintro ⟨h1,h2⟩;exact ⟨by omega,hI.hi i h1⟩
  have hlen:fuel=l.length-m:=by rw [<- qm,gZ.length_eq,List.length_range']
  have DB:listed=jB l.length m:=by
   have sP:(jB l.length m).size=l.length:=by simp [jB];omega
   apply Array.ext
   ·rw [hI.sz,sP]
   ·intro i h1 h2;rw [hI.sz] at h1;have h3:=hL i h1;unfold Ls at h3;rw [Array.getD_eq_getD_getElem?,Array.getElem?_eq_getElem (by rw [hI.sz];exact h1),Option.getD_some] at h3;have h4:(jB l.length m)[i]=decide (i<m):=by
     simp only [jB,List.getElem_toArray];by_cases hi:i<m
     ·rw [List.getElem_append_left (by simpa using hi)];simp [hi]
     ·rw [List.getElem_append_right (by simpa using hi)];simp [hi]
    rw [h4];by_cases hi:i<m
    ·rw [h3.2 hi];simp [hi]
    ·have:¬ listed[i]=true:=fun h=>hi (h3.1 h)
     simp [hi,this]
  subst hlen;rw [DB];obtain ⟨β,hm,jS⟩:=hI.own;have Nv:∀ i,listed.getD i false=Nat.blt i m:=fun i=>by
   by_cases hi:i<m
   ·rw [show Nat.blt i m=true from by simpa [Nat.blt_eq] using hi];exact dC i hi
   ·have h1:¬ listed.getD i false=true:=hI.hi i (by omega);have h2:¬ Nat.blt i m=true:=by simpa [Nat.blt_eq] using hi
    rw [Bool.not_eq_true] at h1 h2;rw [h1,h2]
  have e:dA β (pk tk (fun i=>listed.getD i false)) S 0=dA β (pk tk (fun i=>Nat.blt i m)) S 0:=fN fun j s hj=>⟨by unfold pk;simp only [Nv],fun _=>rfl⟩
  rw [e] at hm;refine tail β a w ⟨by rw [Zh];exact hm,fun t v hv=>?_,hI.size,hI.defers⟩;rcases j5 β t v hv with ⟨j,oj,s,h1,h2,h3,h4⟩ | ⟨h1,h2⟩
  ·obtain ⟨gm,kH⟩:=eZ j oj h1;rw [h4];exact jS j oj t s kH h2 h3 (dC j gm)
  ·rw [hI.yF t fun j oj hj iG=>h1 oj (List.mem_of_getElem? (dI j oj (Nat.lt_of_not_le fun hm=>hI.hi j hm iG) hj))]
   exact h0 t v h2
 intro fuel
 induction fuel with
 | zero =>
  intro listed a w hI;obtain ⟨U,_,nX,qm⟩:=hI.left;have hU:U=[]:=List.length_eq_zero_iff.1 qm;refine lk 0 listed a w hI fun i hi=>Classical.byContradiction fun hn=>?_;have:=(nX i).2 ⟨by omega,hn⟩;rw [hU] at this;cases this
 | succ fuel ih =>
  intro listed a w hI;by_cases dC:∀ i,i<m->Ls listed i
  ·exact lk _ listed a w hI dC
  ·have hex:∃ i,i<m/\¬ Ls listed i:=Classical.byContradiction fun hh=>dC fun i hi=>Classical.byContradiction fun hn=>hh ⟨i,hi,hn⟩
   obtain ⟨i0,pW,mV⟩:=hex;have main:∀ i,i∈Region.ready .any l.toArray listed->i<m->wpOpIn (FR none) 0 P l.toArray Q i (wpAnyIn (FR none) 0 P .any l.toArray Q fuel (listed.setIfInBounds i true)) a w/\(i=p->wpAnyIn (FR none) 0 P .any l.toArray Q (fuel+1) listed a w):=by
    intro i hi mz;obtain ⟨o,ho,hn,ko⟩:=(dz hI.sz).1 hi;obtain ⟨d,Cr,s,hd,fH,qB,o8,dU⟩:=eI i o (Zi _) (dI i o mz ho);obtain ⟨Ad,Ae,⟨B,hB,gA⟩,Dw⟩:=dU;obtain ⟨β,hm,jS⟩:=hI.own;have jJ:∀ (j:Nat),eL o j=true->Ls listed j:=fun j hw=>by
     obtain ⟨e,he,hb,mU⟩:=cH hw;rw [<- mU];exact ko e he hb
    have Dx:∀ (j:Nat),oB l o j=true->Ls listed j:=fun j hw=>by
     unfold oB at hw;rw [Bool.or_eq_true] at hw;rcases hw with hw | hw
     ·exact jJ j hw
     ·obtain ⟨k,_,hk⟩:=List.any_eq_true.1 hw;rw [Bool.and_eq_true] at hk;have Kj:=jJ k hk.1;cases hq:l[k]? with
      | none=>rw [hq] at hk;cases hk.2
      | some q =>
       rw [hq] at hk;obtain ⟨e,he,hb,mU⟩:=cH hk.2;rw [<- mU];exact hI.dc k q hq Kj e he hb
    have nR:∀ (j:Nat) (oj:Oper) (e:Nat),l[j]? = some oj->j<m->j≠i->oj.dst=some e->d≠e:=by
     intro j oj e hj gm hne he;rcases Nat.lt_or_ge j i with h | h
     ·exact fun e'=>(cO (gX hc h mz hj ho) he hd).1 e'.symm
     ·exact (cO (gX hc (show i<j by omega) gm ho hj) hd he).1
    have il:i<listed.size:=by rw [hI.sz];omega
    have Ah:mu o=true:=hc.op o (List.mem_of_getElem? ho)
    -- yf cP Me yf operation looks at
    have hT:∀ t∈o.looksAt l.toArray,∀ v,cJ (Cr β) t=some v->a.tmps[t]? = some v:=by
     intro t ht v hv;rcases o8 β t v hv with ⟨j,oj,sj,h1,h2,h3,h4⟩ | ⟨h1,h2⟩
     ·have kT:j<i:=by have:=(List.getElem?_eq_some_iff.1 h1).1;rw [List.length_take] at this;omega
      rw [List.getElem?_take,if_pos kT] at h1 h3;obtain ⟨gm,kH⟩:=eZ j oj h1;have iG:=jJ j ((cO (gX hc kT mz kH ho) h2 hd).2 (.inl ht));rw [h4];exact jS j oj t sj kH h2 h3 iG
     ·rw [hI.yF t fun j oj hj iG iF=>?_]
      ·exact h0 t v h2
      ·have gm:j<m:=Nat.lt_of_not_le fun hm=>hI.hi j hm iG
       rcases Nat.lt_trichotomy j i with h | h | h
       ·exact h1 oj (List.mem_of_getElem? (by rw [List.getElem?_take,if_pos h];exact dI j oj gm hj)) iF
       ·subst h;exact hn iG
       ·have hw:=(cO (gX hc h gm ho hj) hd iF).2 (.inr ht);obtain ⟨e,he,hb,mU⟩:=cH hw;have:=hI.dc j oj hj iG e he hb;rw [mU] at this;exact hn this
    have sR:∀ t v,cJ (Cr β) t=some v->t<c.nt:=by
     intro t v hv;rcases o8 β t v hv with ⟨j,oj,sj,h1,h2,_,_⟩ | ⟨_,h2⟩
     ·have kT:j<i:=by have:=(List.getElem?_eq_some_iff.1 h1).1;rw [List.length_take] at this;omega
      rw [List.getElem?_take,if_pos kT] at h1;obtain ⟨d',_,_,ug,vW,_⟩:=eI j oj (Zi _) h1;rw [h2] at ug;cases ug;exact vW
     ·have:=h0 t v h2;rw [<- Gm];exact (Array.getElem?_eq_some_iff.1 this).1
    obtain ⟨a',kK,iT,_⟩:=mW hI.size sR hT;have sT:js c hs (S.take i) B β w:=by
     rintro A (rfl | ⟨j,hj,sj,h1,rfl⟩)
     ·exact hm.sublist ((List.sublist_append_left _ _).trans (List.sublist_append_right _ _))
     ·have kT:j<i:=by have:=(List.getElem?_eq_some_iff.1 h1).1;rw [List.length_take] at this;omega
      rw [List.getElem?_take,if_pos kT] at h1;have iG:=Dx j (hB j hj).1;exact hm.sublist ((oN (lst:=pk tk (fun i=>listed.getD i false)) (i:=0) h1 (by rw [Nat.zero_add];unfold pk;dsimp only;rw [(hB j hj).2,show listed.getD j false=true from iG];rfl)).append (List.sublist_append_left _ _))
    have Nw:listed.getD i false=false:=by have h:¬ listed.getD i false=true:=hn;simpa using h
    have TQ:∀ j,ed tk i j=true->eL o j=true:=fun j h=>by
     unfold ed at h;rw [Bool.and_eq_true] at h;exact Dw j (by simpa using h.2) (by simpa [Nat.blt_eq] using h.1)
    have TT:∀ j,ed tk i j=true->j<i:=fun j h=>by
     obtain ⟨e,he,hb,mU⟩:=cH (TQ j h);have:=iR hc.ac ho e he hb;omega
    have Xm:∀ j,ed tk i j=true->pk tk (fun i=>listed.getD i false) j=true:=fun j h=>by
     have h1:listed.getD j false=true:=jJ j (TQ j h);have h2:tk j=i:=by unfold ed at h;rw [Bool.and_eq_true] at h;simpa using h.2
     unfold pk;dsimp only;rw [h1,h2,Nw];simp
    have YE:dA β (fun j=>pk tk (fun i=>listed.getD i false) j&&ed tk i j) S 0=dA β (ed tk i) (S.take i) 0:=by
     rw [oO (n:=i) fun j hj=>by
      rw [Nat.zero_add] at hj;cases ht:ed tk i j with
      | false=>rw [Bool.and_false]
      | true=>have:=TT j ht;omega]
     refine fN fun j sj _=>⟨?_,fun _=>rfl⟩;rw [Nat.zero_add];cases ht:ed tk i j with
     | false=>rw [Bool.and_false]
     | true=>rw [Xm j ht];rfl
    have Uk:=hm.perm ((qJ (β:=β) (pk tk (fun i=>listed.getD i false)) (ed tk i) S 0).append_right _)
    rw [Zh,YE] at Uk;obtain ⟨oe,_,I9,J5⟩:=Mem.yk Uk;have hq:=gA β a' w oe kK sT I9;have hex:=gR (o:=o) (ops:=l.toArray) Ah iT
    -- LR a done operation Qh RZ not RF on this one
    have l5:∀ j,Ls listed j->∀ x k,sf l j k=true->β k=ss β i x k:=by
     intro j iG x k hk;refine (qF fun e=>?_).symm;subst e;unfold sf at hk;rw [Bool.or_eq_true] at hk;rcases hk with hk | hk
     ·have:j=k:=by simpa using hk
      subst this;exact hn iG
     ·have Nz:j<l.length:=by
       have gm:j<m:=Nat.lt_of_not_le fun hm=>hI.hi j hm iG
       omega
      exact hn (gF hI.dc hc.ac j Nz iG k hk)
    have fT:∀ v w',FB i s β w oe v w'->wpAnyIn (FR none) 0 P .any l.toArray Q fuel (listed.setIfInBounds i true) (a.put o.dst v) w':=by
     rintro v w' ⟨x,rfl,hk,fp,jf,gQ,pX⟩;refine ih _ _ _ ⟨by simpa using hI.sz,?_,?_,by rw [hd];exact hI.defers,by simpa [Act.put,hd] using hI.size,?_,?_,ss β i x,?_,?_⟩
     ·intro k ok pV hL e he hb;rw [bP il] at hL ⊢;rcases hL with e' | hL
      ·subst e';rw [ho] at pV;cases pV;exact .inr (ko e he hb)
      ·exact .inr (hI.dc k ok pV hL e he hb)
     ·intro k pV hL;rw [bP il] at hL;rcases hL with e | hL
      ·omega
      ·exact hI.hi k pV hL
     ·intro t ht;have h1:d≠t:=fun e=>by subst e;exact ht i o ho ((bP il).2 (.inl rfl)) hd
      rw [hd];simp only [Act.put,Array.getElem?_setIfInBounds_ne h1];exact hI.yF t fun j oj hj hL=>ht j oj hj ((bP il).2 (.inr hL))
     ·obtain ⟨U,tS,nX,qm⟩:=hI.left;refine ⟨U.erase i,tS.erase i,fun k=>?_,?_⟩
      ·rw [tS.mem_erase_iff,nX k,bP il];constructor
       ·rintro ⟨h1,h2,h3⟩;exact ⟨h2,fun h=>h.elim h1 h3⟩
       ·rintro ⟨h1,h2⟩;exact ⟨fun e=>h2 (.inl e),h1,fun h=>h2 (.inr h)⟩
      ·have NA:i∈U:=(nX i).2 ⟨by omega,hn⟩;rw [List.length_erase_of_mem NA,qm];rfl
     ·have k9:=J5 _ w' hk ⟨fp,jf,gQ,pX⟩;have e1:dA β (fun j=>pk tk (fun i=>listed.getD i false) j&&!ed tk i j) S 0=dA (ss β i x) (fun j=>pk tk (fun i=>listed.getD i false) j&&!ed tk i j) S 0:=fN fun j sj hj=>by
       refine ⟨I,fun hl=>?_⟩;rw [Nat.zero_add] at hl;have hl:listed.getD j false=true:=by
        unfold pk at hl;simp only [Bool.and_eq_true] at hl;exact hl.1.1
       have gm:j<m:=by have:=(List.getElem?_eq_some_iff.1 hj).1;omega
       obtain ⟨oj,Gl⟩:∃ oj,l[j]? = some oj:=⟨l[j]'(by omega),Zc (by omega)⟩;obtain ⟨_,_,s2,_,_,hs2,_,pe⟩:=eI j oj (Zi _) (dI j oj gm Gl);rw [hj] at hs2;cases hs2;exact pe.Ae _ _ (l5 j hl x)
      rw [e1,<- Zh] at k9;have mw:∀ k,(listed.setIfInBounds i true).getD k false=(listed.getD k false||Nat.beq k i):=fun k=>by
       by_cases JZ:k=i
       ·subst JZ;rw [show Nat.beq k k=true by simp,Bool.or_true];exact (bP il).2 (.inl I)
       ·rw [show Nat.beq k i=false from Bool.eq_false_iff.2 fun h=>JZ (Nat.eq_of_beq_eq_true h),Bool.or_false]
        simp [Array.getD_eq_getD_getElem?,Array.getElem?_setIfInBounds_ne (Ne.symm JZ)]
      refine k9.perm ((oP (k:=i) qB ?_ ?_ ?_).append_right _)
      ·rw [Nat.zero_add];unfold pk;dsimp only;rw [Nw];rfl
      ·rw [Nat.zero_add];unfold pk;dsimp only;rw [mw,show Nat.beq i i=true by simp,Bool.or_true,Bool.true_and];by_cases Ly:tk i=0
       ·rw [Ly];rfl
       ·have Q1:0<tk i:=Nat.pos_of_ne_zero Ly;have rT:listed.getD (tk i) false=false:=by
         cases hh:listed.getD (tk i) false with
         | false=>rfl
         | true =>
          exfalso;have UN:Ls listed (tk i):=hh;have SB:tk i<m:=Nat.lt_of_not_le fun hm=>hI.hi _ hm UN
          obtain ⟨ot,Ub⟩:∃ ot,l[tk i]? = some ot:=⟨l[tk i]'(by omega),Zc (by omega)⟩;obtain ⟨_,_,_,_,_,_,_,Rg⟩:=eI (tk i) ot (Zi _) (dI _ ot SB Ub);obtain ⟨e,he,hb,mU⟩:=cH (Rg.waits i rfl Q1);have:=hI.dc (tk i) ot Ub UN e he hb;rw [mU] at this;exact hn this
        have hne:Nat.beq (tk i) i=false:=by
         cases hh:Nat.beq (tk i) i with
         | false=>rfl
         | true =>
          exfalso;have e:tk i=i:=by simpa using hh
          have:=TT i (by unfold ed;rw [hh,Bool.and_true];rw [e] at Q1;simpa [Nat.blt_eq] using Q1);omega
        rw [mw,rT,hne];simp
      ·intro j hj;rw [Nat.zero_add] at hj;unfold pk;dsimp only;rw [mw,mw,show Nat.beq j i=false from Bool.eq_false_iff.2 fun h=>hj (Nat.eq_of_beq_eq_true h),Bool.or_false]
       unfold ed;cases h1:Nat.beq (tk j) i with
       | false=>simp
       | true =>
        have e:tk j=i:=by simpa using h1
        rw [e,Nw];cases Nat.blt 0 i <;> simp
     ·intro j oj e sj hj he jA hL;rw [bP il] at hL;by_cases kT:j=i
      ·subst kT;rw [ho] at hj;cases hj;rw [hd] at he;cases he;rw [qB] at jA;cases jA;rw [hd];simp [Act.put,hI.size,fH]
      ·have w7:=hL.resolve_left kT;have gm:j<m:=Nat.lt_of_not_le fun hm=>hI.hi j hm w7
       obtain ⟨_,_,s2,_,_,hs2,_,pe⟩:=eI j oj (Zi _) (dI j oj gm hj);rw [jA] at hs2;cases hs2;rw [hd];simp only [Act.put,Array.getElem?_setIfInBounds_ne (nR j oj e hj gm kT he)];rw [<- pe.Ad _ _ (l5 j w7 x)];exact jS j oj e sj hj he jA w7
    have GY:=hq;refine ⟨?_,fun Rm=>?_⟩
    rotate_left
    ·subst Rm;obtain ⟨d',x',k',S7,pos',Vn,tL,I7,eJ⟩:=Dz mz;rw [ho] at tL;cases tL;rw [if_pos (by simp [Region.wanted])] at GY;unfold mB at GY;obtain ⟨v,hv,wc⟩:=wm GY;have pX:Region.free .any l.toArray listed i=true:=sU eJ fun j hj hne hb=>by
      have kH:j<l.length:=by simpa using hj
      have dD:((iz l []).getD i 0).testBit j=true:=by
       rw [Array.getD_eq_getD_getElem?] at hb;simpa [kH] using hb
      have Uq:j<listed.size:=by rw [hI.sz];exact kH
      rcases sF hc.ac hI.sz hI.dc hi dD with e | hL
      ·exact absurd e hne
      ·unfold Ls at hL;rw [Array.getD_eq_getD_getElem?,Array.getElem?_eq_getElem Uq] at hL ⊢;exact hL
     refine wpAnyIn_take (oi:=⟨some d',.extract x' k',S7,pos',Vn,none⟩) (v:=v) I (by simpa using ho) I7 pX (by simpa using hi) (fun c a w h=>(SQ c _ w h).elim) ⟨.inl ⟨by simp [Region.wanted],fun w2=>by rw [<- hex];exact wc w2⟩,fun w2=>rfl⟩ (fT v w hv)
    unfold wpOpIn;rw [show l.toArray[i]? = some o from by simpa using ho];simp only [];rw [gn iT] at hq;split
    ·rename_i hw;rw [if_pos hw] at hq;refine ⟨dO _ _ _ _ _,?_⟩;rw [Oper.semAt_eq _ _ _ (fun cc he=>by simp [mu,he] at Ah),<- hex]
     unfold mB at hq
     revert hq
     generalize (execOp a'.eval o).run P w=res;intro hq
     match res,hq with
     | .ok (.value v) w',hq=>exact fT v w' hq
     | .ok (.enter f args) w', ⟨e, cn⟩ =>
      subst e;refine ⟨by simp [FR,Fence.wide],(gT cn).mono fun e uZ h=>?_⟩;obtain ⟨v,rfl,hq⟩:=h;exact fT v uZ hq
    ·rename_i hw;rw [if_neg hw] at hq;exact ⟨fun _ _=>trivial,fT undef w hq⟩
   by_cases hp:p<m/\p∈Region.ready .any l.toArray listed
   ·exact (main p hp.2 hp.1).2 I
   ·refine ⟨fun hr=>?_,fun i hi=>?_⟩
    ·obtain ⟨i,hi⟩:=iA hI.sz hc.ac ⟨i0,by omega,mV⟩;rw [hr] at hi;cases hi
    ·have mz:i<m:=Nat.lt_of_not_le fun hm=>by
      have E1:=oR hc hI.sz hI.dc hi hm;by_cases CB:p<m
      ·by_cases Pk:Ls listed p
       ·exact mV (by
         by_cases e:i0=p
         ·rw [e];exact Pk
         ·exact E1 i0 pW e)
       ·refine hp ⟨CB,(dz hI.sz).2 ⟨l[p]'(by omega),Zc (by omega),Pk,fun e he hb=>?_⟩⟩;have aL:=iR hc.ac (Zc (show p<l.length by omega)) e he hb;exact E1 e.on (by omega) (by omega)
      ·exact mV (E1 i0 pW (by omega))
     exact (main i hi mz).1
def lG (tk:Nat->Nat) (P:Program) (c:Cx) (D:List Nat) (hs:List a8) (l:List Oper) (Q:Exit->Act->World->Prop) (m i n:Nat) (rest:List Oper) (SL:(Nat->Value)->aI) (S:List cI):Prop:=
 ∃ S' lH,si P c hs l tk i (rest.take n) SL S S' lH/\∀ β,Tr c D (lH β) (dA β (pk tk (fun i=>Nat.blt i m)) S' 0++hs) (Left P l.toArray Q (l.length-m) (jB l.length m))
theorem u5 {id:Nat} (m:Nat) (tk:Nat->Nat) [pf:PO P] (jk:C6 l m=true) (k:lG tk P c D hs l Q m 0 m l (fun _=>sl) []):Tr c D sl hs (WP P none (.region id l.toArray true) Q):=fun a w a7=>by
 obtain ⟨S,lH,hp,ht⟩:=k;have h:(Code.region id l.toArray true).wpIn (FR none) 0 P (NP Q) a w:=wpIn_region_any pf.eq (by
  refine Db (tk:=tk) (p:=m) (oQ jk) (fun h=>absurd h (Nat.lt_irrefl _)) (fun c a w h=>h.elim) hp a7.cP a7.size (fun β a w a7=>ht β a w a7) l.toArray.size _ _ _ ⟨by simp,?_,?_,a7.defers,a7.size,fun t _=>rfl,?_,fun _=>undef,?_,?_⟩
  ·exact fun k o _ hL=>absurd hL (ei _ _)
  ·exact fun k _ hL=>ei _ _ hL
  ·exact ⟨List.range l.length,List.nodup_range,fun i=>⟨fun h=>⟨by simpa using h,ei _ _⟩,fun h=>by simpa using h.1⟩,by simp⟩
  ·have e:∀ (T:List cI) (i:Nat),dA (fun _=>undef) (pk tk (fun i=>(Array.replicate l.toArray.size false).getD i false)) T i=[]:=by
    intro T
    induction T with
    | nil=>intro i;rfl
    | cons s T ih =>
     intro i;have:=ei l.toArray.size i;unfold Ls at this;unfold dA;rw [if_neg (by unfold pk;simp only [Bool.and_eq_true];exact fun h=>this h.1),ih];rfl
   rw [e];exact a7.mem.drew
  ·exact fun j o d s _ _ _ hL=>absurd hL (ei _ _))
 exact wpIn_mono h fun e a' w' h=>by
  cases e with
  | panic c=>exact h.elim
  | _=>exact h
end
end Go.SL
namespace Go.SL
open Go
def gU:List (Nat×Nat)->Nat->Nat
 | [],_=>0
 | p::r,j=>bif Nat.beq p.1 j then p.2 else gU r j
theorem pL:∀ {lU:List (Nat×Nat)} {i j:Nat},(lU.all fun p=>!Nat.beq p.2 i)=true->gU lU j=i->0<i->False
 | [], i, j, _, h, hp => by
  have h:0=i:=h;omega
 | p :: r, i, j, h, h2, hp => by
  rw [List.all_cons,Bool.and_eq_true] at h;unfold gU at h2;cases e:Nat.beq p.1 j with
  | true=>rw [e] at h2;have h2:p.2=i:=h2;rw [h2] at h;simp at h
  | false=>rw [e] at h2;exact pL h.2 h2 hp
theorem pK:∀ {lU:List (Nat×Nat)} {i jx:Nat},(lU.all fun p=>!Nat.beq p.2 i||Nat.beq p.1 jx)=true->Nat.blt 0 i=true->∀ k,gU lU k=i->k=jx
 | [], i, jx, _, h0, k, h => by
  have h:0=i:=h;subst h;cases h0
 | p :: r, i, jx, h, h0, k, hk => by
  rw [List.all_cons,Bool.and_eq_true] at h;unfold gU at hk;cases e:Nat.beq p.1 k with
  | true =>
   rw [e] at hk;have hk:p.2=i:=hk;have h1:=h.1;rw [hk,show Nat.beq i i=true by simp] at h1;have e1:=Nat.eq_of_beq_eq_true e;have e2:=Nat.eq_of_beq_eq_true (show Nat.beq p.1 jx=true by simpa using h1);omega
  | false=>rw [e] at hk;exact pK h.2 h0 k hk
section
variable {P:Program} {c:Cx} {D:List Nat} {sl:aI} {hs hs':List a8} {X:Act->World->Prop} {Q:Exit->Act->World->Prop} {l:List Oper} {m i n d:Nat} {lU:List (Nat×Nat)} {op:Op} {ty:TypeId} {pos:String} {af:Array Edge} {rest:List Oper} {SL:(Nat->Value)->aI} {S:List cI}
theorem mb {o:Oper} {s:cI} (hd:o.dst=some d) (fH:Nat.blt d c.nt=true) (h:FA P c hs l (gU lU) i o SL S s) (k:lG (gU lU) P c D hs l Q m (i+1) n rest (fun β=>(d,s.F β)::SL β) (S++[s])):lG (gU lU) P c D hs l Q m i (n+1) (o::rest) SL S:=by
 obtain ⟨S',lH,hp,ht⟩:=k;exact ⟨S',lH,.step hd (by simpa [Nat.blt_eq] using fH) h hp,ht⟩
theorem D8 (k:∀ β,Tr c D (SL β) (dA β (pk (gU lU) (fun i=>Nat.blt i m)) S 0++hs) (Left P l.toArray Q (l.length-m) (jB l.length m))):lG (gU lU) P c D hs l Q m i 0 rest SL S:=
 ⟨S,SL,.nil,k⟩
theorem vo {β:Nat->Value} {p:Nat->Bool} {s:cI}:∀ {S:List cI} {i jx:Nat},S[jx]? = some s->(∀ k,p k=Nat.beq k (i+jx))->dA β p S i=s.A β
 | [],_,_,h,_=>by simp at h
 | s0 :: S, i, 0, h, hp => by
  simp only [List.getElem?_cons_zero,Option.some.injEq] at h;subst h;unfold dA;rw [hp i,show Nat.beq i (i+0)=true by simp,if_pos I];have:dA β p S (i+1)=[]:=by
   have h:=oO (β:=β) (q:=p) (S:=S) (n:=0) (i:=i+1) fun j hj=>by
    rw [hp j];exact Bool.eq_false_iff.2 fun e=>by have:=Nat.eq_of_beq_eq_true e;omega
   rw [h,Ze];rfl
  rw [this,List.append_nil]
 | s0 :: S, i, jx + 1, h, hp => by
  unfold dA;rw [hp i,show Nat.beq i (i+(jx+1))=false from Bool.eq_false_iff.2 fun e=>by have:=Nat.eq_of_beq_eq_true e;omega]
  simp only [Bool.false_eq_true,if_false,Za];exact vo (i:=i+1) (jx:=jx) (by simpa using h) fun k=>by rw [hp k,show i+(jx+1)=i+1+jx by omega]
theorem zf {t e:TypeId} {agg:Bool} {size bytes jx n0:Nat} {z:Value} {x y:Operand} {Vx Vy:(Nat->Value)->Value} {Ax:(Nat->Value)->List a8} {xs:List Value} {news:List (List Value)} [hu:iU P t (.slice e)] [hT:Ty P e agg size] [hZ:lQ P e z] [Yv:wV P e bytes] (B:List Nat)
  (hB:(B.all fun j=>oB l ⟨some d,.call ⟨.builtin .append,#[x,y],#[t,t]⟩,ty,pos,af,none⟩ j&&Nat.beq (gU lU j) 0)=true)
  (hS:S[jx]? = some ⟨Vx,Ax⟩) (hrow:∀ β w fp,ch (hp w) (Ax β) fp->(row e size (Vx β) n0 xs).sat (hp w) fp)
  (htk:∀ k,gU lU k=i->k=jx) (hti:gU lU jx=i) (h0:Nat.blt 0 i=true) (hwx:eL ⟨some d,.call ⟨.builtin .append,#[x,y],#[t,t]⟩,ty,pos,af,none⟩ jx=true)
  (hx:∀ β,Is (SL β) x (Vx β)) (hy:∀ β,Is (SL β) y (Vy β)) (hsrc:∀ β w,js c hs S B β w->Rd w (Vy β) size news) (h1:∀ r∈news,∀ u∈r,u.oneCell'=true) (hz:z.cells.size=size) (hsz:Nat.blt 0 size=true) (hb0:Nat.blt 0 bytes=true)
  (hb:(n0+news.length)*bytes<=140737488355328) (hd:Nat.blt d c.nt=true)
  (k:lG (gU lU) P c D hs l Q m (i+1) n rest (fun β=>(d,β i)::SL β) (S++[⟨fun β=>β i,fun β=>[row e size (β i) (n0+news.length) (xs++news.flatten)]⟩])) :
  lG (gU lU) P c D hs l Q m i (n+1) (⟨some d,.call ⟨.builtin .append,#[x,y],#[t,t]⟩,ty,pos,af,none⟩::rest) SL S:=by
 refine mb (s:=⟨fun β=>β i,fun β=>[row e size (β i) (n0+news.length) (xs++news.flatten)]⟩) I hd ⟨fun β β' h=>by simp only [h i (fX l i)],fun β β' h=>by simp only [h i (fX l i)],⟨B,fun j hj=>?_,fun β a w oe rf sT gQ=>?_⟩,fun j hj _=>by rw [htk j hj];exact hwx⟩ k
 ·have:=List.all_eq_true.1 hB j hj;rw [Bool.and_eq_true] at this;exact ⟨this.1,by simpa using this.2⟩
 rw [if_pos (by simp [Region.wanted])];rw [vo (i:=0) hS fun k=>by
  rw [Nat.zero_add];unfold ed;rw [h0,Bool.true_and];by_cases e:k=jx
  ·subst e;rw [hti];simp
  ·rw [show Nat.beq k jx=false from Bool.eq_false_iff.2 fun h=>e (Nat.eq_of_beq_eq_true h)]
   exact Bool.eq_false_iff.2 fun h=>e (htk k (Nat.eq_of_beq_eq_true h))] at gQ
 have Lz:=hrow β w oe gQ;have hR:=hsrc β w sT;have VK:=hx β a rf;have O0:=hy β a rf;have hlen:=fU hR.sz;by_cases hne:news=[]
 ·subst hne;obtain ⟨aa,cap,b,o,hV,_⟩:=hR;rw [hV] at O0;have VM:(Vx β=.slice none 0 0/\n0=0)\/∃ g cap,Vx β=.slice (some ⟨g,0,none⟩) n0 cap/\n0<=cap:=by
   obtain ⟨_,_,h1⟩:=Lz;exact h1.imp id fun ⟨g,cap,cur,e,_,hc,_⟩=>⟨g,cap,e,hc⟩
  have gA:(execOp a.eval ⟨some d,.call ⟨.builtin .append,#[x,y],#[t,t]⟩,ty,pos,af,none⟩).run P w=.ok (.value (Vx β)) w:=by
   have:=tr (P:=P) (t:=t) (e:=e) (ty:=ty) (w:=w) (agg:=agg) (size:=size) (a:=aa) (cp:=cap) VM;simp only [List.length_nil] at O0;simp [execOp,resolve,invoke,builtin,VK,O0,this]
  unfold mB;rw [gA];refine ⟨Vx β,by simp only [gI],.refl _ _,oe,?_,⟨oe,[],by simp,?_,I⟩,fun b hb=>.inl hb⟩
  ·rw [Lz.1];cases (Vx β).ownBlock <;> simp
  ·simp only [gI,List.length_nil,Nat.add_zero,List.flatten_nil,List.append_nil];exact Lz
 ·obtain ⟨aa,cap,b2,o2,hV,c8,bV,Yk,SK⟩:=hR;have:=Yk hne;subst this;rw [hV] at O0;obtain ⟨de,ii,lM,B0,_,gG⟩:=Ty.parts (P:=P) (t:=e) (agg:=agg) (n:=size);have hzero:ii.zero=some z:=by have:=hZ.eq;rw [B0] at this;simpa using this
  have gi:ii.bytes=bytes:=by have:=Yv.eq;rw [B0] at this;simpa using this
  have wa:0<bytes:=by simpa using hb0
  have pb:=vf Lz;have BX:n0+news.length<=maxLen:=by
   have:(n0+news.length)*1<=(n0+news.length)*bytes:=Nat.mul_le_mul_left _ wa;unfold maxLen;omega
  have hn:∀ (j:Nat) (u:Value),news.flatten[j]? = some u->w.cell? ⟨b2,o2+j,none⟩=some u:=lu SK;have xD:∀ u∈news.flatten,u.oneCell'=true:=fun u hu=>by obtain ⟨r,hr,QV⟩:=List.mem_flatten.1 hu;exact h1 r hr u QV
  obtain ⟨v',w',gA,o9,rV,_⟩:=run_append_own (P:=P) w 0 t ty e ii z size bytes hu.eq B0 hzero gG gi hz (by simpa using hsz) (Vx β) n0 xs pb ⟨b2,o2,none⟩ news.length cap news.flatten hlen
   (fun j u hj=>by rw [ez];exact hn j u hj) xD BX hb (Zi _)
  have sQ:=nM (P:=P) (t:=t) (ty:=ty) hu.eq B0 hzero (by rw [gG];exact pb) (a:=⟨b2,o2,none⟩) (m:=news.length) (cp:=cap) (by rw [gG];exact hlen) (fun j u hj=>by rw [ez];exact hn j u hj) xD BX (by rw [gi];exact hb) gA
  have hex:(execOp a.eval ⟨some d,.call ⟨.builtin .append,#[x,y],#[t,t]⟩,ty,pos,af,none⟩).run P w=.ok (.value v') w':=by
   simp [execOp,resolve,invoke,builtin,VK,O0,gA]
  unfold mB;rw [hex];have CD:oe=(Vx β).ownBlock.toList:=Lz.1;refine ⟨v',by simp only [gI],⟨rV.os,rV.tape,rV.output,sQ.2,rV.size,fun q hq Uf=>rV.block q hq (fun he=>Uf ?_)⟩,v'.ownBlock.toList,by cases v'.ownBlock <;> simp,⟨v'.ownBlock.toList,[],(List.append_nil _).symm,by simp only [gI];exact ke o9,I⟩,fun q hq=>?_⟩
  ·rw [CD,<- he];simp
  ·have tJ:v'.ownBlock=some q:=by simpa [Option.mem_toList] using hq
   rcases sQ.1 with h | h
   ·left;rw [CD,<- h,tJ];simp
   ·right
    rw [h] at tJ;cases tJ;exact Nat.le_refl _
theorem iQ {F:(Nat->Value)->Value} (hr:∀ β,cQ P c (SL β) hs ⟨some d,op,ty,pos,af,none⟩ (F β)) (hi:pC l i F) (hd:Nat.blt d c.nt=true) (hn:(lU.all fun p=>!Nat.beq p.2 i)=true) (k:lG (gU lU) P c D hs l Q m (i+1) n rest (fun β=>(d,F β)::SL β) (S++[⟨F,fun _=>[]⟩])) :
  lG (gU lU) P c D hs l Q m i (n+1) (⟨some d,op,ty,pos,af,none⟩::rest) SL S:=
 mb (s:=⟨F,fun _=>[]⟩) I hd ⟨hi,fun _ _ _=>rfl,⟨[],by simp,fun β a w oe h1 h2 _=>by
  rw [if_pos (by simp [Region.wanted])];unfold mB;rw [(hr β).2 a w h1 h2.mem];exact ⟨β i,by rw [rn],.refl _ _,[],List.nodup_nil,I,by simp⟩⟩,fun j hj hp=>(pL hn hj hp).elim⟩ k
theorem sh {V:Nat->Value} {ob:(Nat->Value)->Obj} (hr:∀ β,qp P c (SL β) hs ⟨some d,op,ty,pos,af,none⟩ V (ob β)) (hi:∀ β β',(∀ k,k≠i->sf l i k=true->β k=β' k)->ob β=ob β') (hd:Nat.blt d c.nt=true) (hn:(lU.all fun p=>!Nat.beq p.2 i)=true)
  (k:lG (gU lU) P c D hs l Q m (i+1) n rest (fun β=>(d,V (eM (β i)))::SL β) (S++[⟨fun β=>V (eM (β i)),fun β=>[bC (eM (β i)) (ob β)]⟩])) :
  lG (gU lU) P c D hs l Q m i (n+1) (⟨some d,op,ty,pos,af,none⟩::rest) SL S:=
 mb (s:=⟨fun β=>V (eM (β i)),fun β=>[bC (eM (β i)) (ob β)]⟩) I hd ⟨fun β β' h=>by simp only [h i (fX l i)],fun β β' h=>by simp only [h i (fX l i),hi β β' fun k _ hk=>h k hk],⟨[],by simp,fun β a w oe h1 h2 _=>by
  rw [if_pos (by simp [Region.wanted])];unfold mB;rw [(hr β).2 a w h1 h2.mem];have e:ob (ss β i (.int .i64 (w.heap.size:Int)))=ob β:=hi _ _ fun k hk _=>qF hk
  exact ⟨.int .i64 (w.heap.size:Int),by simp only [gI,kV],.alloc _ _ _,[w.heap.size],by simp,⟨[w.heap.size],[],I,⟨by simp only [gI,kV],by simp only [gI,kV];rw [e];exact World.alloc_heap_new w (ob β)⟩,I⟩,by simp⟩⟩,fun j hj hp=>(pL hn hj hp).elim⟩ k
end
end Go.SL
namespace Go.SL.KR
open Go Go.SL
section
variable {P:Program} {c:Cx} {D:List Nat} {sl:aI} {hs:List a8} {Q:Exit->Act->World->Prop} {l:List Oper} {m:Nat} {tk:Nat->Nat}
variable {r0:Option Nat}
theorem Db {p:Nat} (hc:GS l m p) (Dz:p<m->False) (SQ:∀ c a w,¬ Q (.panic c) a w) {S:List cI} {lH:(Nat->Value)->aI} (Re:si P c hs l tk 0 (l.take m) (fun _=>sl) [] S lH) {a0:Act} (h0:bS sl a0) (Gm:a0.tmps.size=c.nt)
  (tail:∀ β a w,St c D (lH β) (dA β (pk tk (fun i=>Nat.blt i m)) S 0++hs) a w->wpAnyIn (FR r0) 0 P .any l.toArray Q (l.length-m) (jB l.length m) a w) :
  ∀ (fuel:Nat) (listed:Array Bool) (a:Act) (w:World),OD c D hs l tk m S a0 fuel listed a w->wpAnyIn (FR r0) 0 P .any l.toArray Q fuel listed a w:=by
 have hle:=hc.le;have Gj:ng sl [] (fun _=>sl) []:=fun β t v hv=>.inr ⟨fun oj h=>(List.not_mem_nil h).elim,hv⟩
 obtain ⟨wg,_,j5,eI⟩:=Re.spec (sl:=sl) [] rfl rfl Gj;rw [Za] at j5 eI;rw [Nat.zero_add,List.length_take,Nat.min_eq_left hle] at wg;have dI:∀ (j:Nat) (o:Oper),j<m->l[j]? = some o->(l.take m)[j]? = some o:=fun j o hj ho=>by rw [List.getElem?_take,if_pos hj];exact ho
 have eZ:∀ (j:Nat) (o:Oper),(l.take m)[j]? = some o->j<m/\l[j]? = some o:=fun j o ho=>by
  rw [List.getElem?_take] at ho;split at ho
  ·exact ⟨by assumption,ho⟩
  ·cases ho
 have Ki:∀ j,j<m->∃ s,S[j]? = some s:=fun j hj=>⟨S[j]'(by omega),Zc (by omega)⟩
 have lk:∀ fuel listed a w,OD c D hs l tk m S a0 fuel listed a w->(∀ i,i<m->Ls listed i)->wpAnyIn (FR r0) 0 P .any l.toArray Q fuel listed a w:=by
  intro fuel listed a w hI dC;have hL:∀ i,i<l.length->(Ls listed i↔i<m):=fun i _=>⟨fun h=>Nat.lt_of_not_le fun hm=>hI.hi i hm h,dC i⟩
  obtain ⟨U,tS,nX,qm⟩:=hI.left;have gZ:U.Perm (List.range' m (l.length-m)):=by
   rw [List.perm_ext_iff_of_nodup tS (List.nodup_range')];intro i;rw [nX i,List.mem_range'_1];constructor
   ·rintro ⟨h1,h2⟩;exact ⟨Nat.le_of_not_lt fun h=>h2 (dC i h),by omega⟩
   ·rintro ⟨h1,h2⟩;exact ⟨by omega,hI.hi i h1⟩
  have hlen:fuel=l.length-m:=by rw [<- qm,gZ.length_eq,List.length_range']
  have DB:listed=jB l.length m:=by
   have sP:(jB l.length m).size=l.length:=by simp [jB];omega
   apply Array.ext
   ·rw [hI.sz,sP]
   ·intro i h1 h2;rw [hI.sz] at h1;have h3:=hL i h1;unfold Ls at h3;rw [Array.getD_eq_getD_getElem?,Array.getElem?_eq_getElem (by rw [hI.sz];exact h1),Option.getD_some] at h3;have h4:(jB l.length m)[i]=decide (i<m):=by
     simp only [jB,List.getElem_toArray];by_cases hi:i<m
     ·rw [List.getElem_append_left (by simpa using hi)];simp [hi]
     ·rw [List.getElem_append_right (by simpa using hi)];simp [hi]
    rw [h4];by_cases hi:i<m
    ·rw [h3.2 hi];simp [hi]
    ·have:¬ listed[i]=true:=fun h=>hi (h3.1 h)
     simp [hi,this]
  subst hlen;rw [DB];obtain ⟨β,hm,jS⟩:=hI.own;have Nv:∀ i,listed.getD i false=Nat.blt i m:=fun i=>by
   by_cases hi:i<m
   ·rw [show Nat.blt i m=true from by simpa [Nat.blt_eq] using hi];exact dC i hi
   ·have h1:¬ listed.getD i false=true:=hI.hi i (by omega);have h2:¬ Nat.blt i m=true:=by simpa [Nat.blt_eq] using hi
    rw [Bool.not_eq_true] at h1 h2;rw [h1,h2]
  have e:dA β (pk tk (fun i=>listed.getD i false)) S 0=dA β (pk tk (fun i=>Nat.blt i m)) S 0:=fN fun j s hj=>⟨by unfold pk;simp only [Nv],fun _=>rfl⟩
  rw [e] at hm;refine tail β a w ⟨by rw [Zh];exact hm,fun t v hv=>?_,hI.size,hI.defers⟩;rcases j5 β t v hv with ⟨j,oj,s,h1,h2,h3,h4⟩ | ⟨h1,h2⟩
  ·obtain ⟨gm,kH⟩:=eZ j oj h1;rw [h4];exact jS j oj t s kH h2 h3 (dC j gm)
  ·rw [hI.yF t fun j oj hj iG=>h1 oj (List.mem_of_getElem? (dI j oj (Nat.lt_of_not_le fun hm=>hI.hi j hm iG) hj))]
   exact h0 t v h2
 intro fuel
 induction fuel with
 | zero =>
  intro listed a w hI;obtain ⟨U,_,nX,qm⟩:=hI.left;have hU:U=[]:=List.length_eq_zero_iff.1 qm;refine lk 0 listed a w hI fun i hi=>Classical.byContradiction fun hn=>?_;have:=(nX i).2 ⟨by omega,hn⟩;rw [hU] at this;cases this
 | succ fuel ih =>
  intro listed a w hI;by_cases dC:∀ i,i<m->Ls listed i
  ·exact lk _ listed a w hI dC
  ·have hex:∃ i,i<m/\¬ Ls listed i:=Classical.byContradiction fun hh=>dC fun i hi=>Classical.byContradiction fun hn=>hh ⟨i,hi,hn⟩
   obtain ⟨i0,pW,mV⟩:=hex;have main:∀ i,i∈Region.ready .any l.toArray listed->i<m->wpOpIn (FR r0) 0 P l.toArray Q i (wpAnyIn (FR r0) 0 P .any l.toArray Q fuel (listed.setIfInBounds i true)) a w/\(i=p->wpAnyIn (FR r0) 0 P .any l.toArray Q (fuel+1) listed a w):=by
    intro i hi mz;obtain ⟨o,ho,hn,ko⟩:=(dz hI.sz).1 hi;obtain ⟨d,Cr,s,hd,fH,qB,o8,dU⟩:=eI i o (Zi _) (dI i o mz ho);obtain ⟨Ad,Ae,⟨B,hB,gA⟩,Dw⟩:=dU;obtain ⟨β,hm,jS⟩:=hI.own;have jJ:∀ (j:Nat),eL o j=true->Ls listed j:=fun j hw=>by
     obtain ⟨e,he,hb,mU⟩:=cH hw;rw [<- mU];exact ko e he hb
    have Dx:∀ (j:Nat),oB l o j=true->Ls listed j:=fun j hw=>by
     unfold oB at hw;rw [Bool.or_eq_true] at hw;rcases hw with hw | hw
     ·exact jJ j hw
     ·obtain ⟨k,_,hk⟩:=List.any_eq_true.1 hw;rw [Bool.and_eq_true] at hk;have Kj:=jJ k hk.1;cases hq:l[k]? with
      | none=>rw [hq] at hk;cases hk.2
      | some q =>
       rw [hq] at hk;obtain ⟨e,he,hb,mU⟩:=cH hk.2;rw [<- mU];exact hI.dc k q hq Kj e he hb
    have nR:∀ (j:Nat) (oj:Oper) (e:Nat),l[j]? = some oj->j<m->j≠i->oj.dst=some e->d≠e:=by
     intro j oj e hj gm hne he;rcases Nat.lt_or_ge j i with h | h
     ·exact fun e'=>(cO (gX hc h mz hj ho) he hd).1 e'.symm
     ·exact (cO (gX hc (show i<j by omega) gm ho hj) hd he).1
    have il:i<listed.size:=by rw [hI.sz];omega
    have Ah:mu o=true:=hc.op o (List.mem_of_getElem? ho)
    -- yf cP Me yf operation looks at
    have hT:∀ t∈o.looksAt l.toArray,∀ v,cJ (Cr β) t=some v->a.tmps[t]? = some v:=by
     intro t ht v hv;rcases o8 β t v hv with ⟨j,oj,sj,h1,h2,h3,h4⟩ | ⟨h1,h2⟩
     ·have kT:j<i:=by have:=(List.getElem?_eq_some_iff.1 h1).1;rw [List.length_take] at this;omega
      rw [List.getElem?_take,if_pos kT] at h1 h3;obtain ⟨gm,kH⟩:=eZ j oj h1;have iG:=jJ j ((cO (gX hc kT mz kH ho) h2 hd).2 (.inl ht));rw [h4];exact jS j oj t sj kH h2 h3 iG
     ·rw [hI.yF t fun j oj hj iG iF=>?_]
      ·exact h0 t v h2
      ·have gm:j<m:=Nat.lt_of_not_le fun hm=>hI.hi j hm iG
       rcases Nat.lt_trichotomy j i with h | h | h
       ·exact h1 oj (List.mem_of_getElem? (by rw [List.getElem?_take,if_pos h];exact dI j oj gm hj)) iF
       ·subst h;exact hn iG
       ·have hw:=(cO (gX hc h gm ho hj) hd iF).2 (.inr ht);obtain ⟨e,he,hb,mU⟩:=cH hw;have:=hI.dc j oj hj iG e he hb;rw [mU] at this;exact hn this
    have sR:∀ t v,cJ (Cr β) t=some v->t<c.nt:=by
     intro t v hv;rcases o8 β t v hv with ⟨j,oj,sj,h1,h2,_,_⟩ | ⟨_,h2⟩
     ·have kT:j<i:=by have:=(List.getElem?_eq_some_iff.1 h1).1;rw [List.length_take] at this;omega
      rw [List.getElem?_take,if_pos kT] at h1;obtain ⟨d',_,_,ug,vW,_⟩:=eI j oj (Zi _) h1;rw [h2] at ug;cases ug;exact vW
     ·have:=h0 t v h2;rw [<- Gm];exact (Array.getElem?_eq_some_iff.1 this).1
    obtain ⟨a',kK,iT,_⟩:=mW hI.size sR hT;have sT:js c hs (S.take i) B β w:=by
     rintro A (rfl | ⟨j,hj,sj,h1,rfl⟩)
     ·exact hm.sublist ((List.sublist_append_left _ _).trans (List.sublist_append_right _ _))
     ·have kT:j<i:=by have:=(List.getElem?_eq_some_iff.1 h1).1;rw [List.length_take] at this;omega
      rw [List.getElem?_take,if_pos kT] at h1;have iG:=Dx j (hB j hj).1;exact hm.sublist ((oN (lst:=pk tk (fun i=>listed.getD i false)) (i:=0) h1 (by rw [Nat.zero_add];unfold pk;dsimp only;rw [(hB j hj).2,show listed.getD j false=true from iG];rfl)).append (List.sublist_append_left _ _))
    have Nw:listed.getD i false=false:=by have h:¬ listed.getD i false=true:=hn;simpa using h
    have TQ:∀ j,ed tk i j=true->eL o j=true:=fun j h=>by
     unfold ed at h;rw [Bool.and_eq_true] at h;exact Dw j (by simpa using h.2) (by simpa [Nat.blt_eq] using h.1)
    have TT:∀ j,ed tk i j=true->j<i:=fun j h=>by
     obtain ⟨e,he,hb,mU⟩:=cH (TQ j h);have:=iR hc.ac ho e he hb;omega
    have Xm:∀ j,ed tk i j=true->pk tk (fun i=>listed.getD i false) j=true:=fun j h=>by
     have h1:listed.getD j false=true:=jJ j (TQ j h);have h2:tk j=i:=by unfold ed at h;rw [Bool.and_eq_true] at h;simpa using h.2
     unfold pk;dsimp only;rw [h1,h2,Nw];simp
    have YE:dA β (fun j=>pk tk (fun i=>listed.getD i false) j&&ed tk i j) S 0=dA β (ed tk i) (S.take i) 0:=by
     rw [oO (n:=i) fun j hj=>by
      rw [Nat.zero_add] at hj;cases ht:ed tk i j with
      | false=>rw [Bool.and_false]
      | true=>have:=TT j ht;omega]
     refine fN fun j sj _=>⟨?_,fun _=>rfl⟩;rw [Nat.zero_add];cases ht:ed tk i j with
     | false=>rw [Bool.and_false]
     | true=>rw [Xm j ht];rfl
    have Uk:=hm.perm ((qJ (β:=β) (pk tk (fun i=>listed.getD i false)) (ed tk i) S 0).append_right _)
    rw [Zh,YE] at Uk;obtain ⟨oe,_,I9,J5⟩:=Mem.yk Uk;have hq:=gA β a' w oe kK sT I9;have hex:=gR (o:=o) (ops:=l.toArray) Ah iT
    -- LR a done operation Qh RZ not RF on this one
    have l5:∀ j,Ls listed j->∀ x k,sf l j k=true->β k=ss β i x k:=by
     intro j iG x k hk;refine (qF fun e=>?_).symm;subst e;unfold sf at hk;rw [Bool.or_eq_true] at hk;rcases hk with hk | hk
     ·have:j=k:=by simpa using hk
      subst this;exact hn iG
     ·have Nz:j<l.length:=by
       have gm:j<m:=Nat.lt_of_not_le fun hm=>hI.hi j hm iG
       omega
      exact hn (gF hI.dc hc.ac j Nz iG k hk)
    have fT:∀ v w',FB i s β w oe v w'->wpAnyIn (FR r0) 0 P .any l.toArray Q fuel (listed.setIfInBounds i true) (a.put o.dst v) w':=by
     rintro v w' ⟨x,rfl,hk,fp,jf,gQ,pX⟩;refine ih _ _ _ ⟨by simpa using hI.sz,?_,?_,by rw [hd];exact hI.defers,by simpa [Act.put,hd] using hI.size,?_,?_,ss β i x,?_,?_⟩
     ·intro k ok pV hL e he hb;rw [bP il] at hL ⊢;rcases hL with e' | hL
      ·subst e';rw [ho] at pV;cases pV;exact .inr (ko e he hb)
      ·exact .inr (hI.dc k ok pV hL e he hb)
     ·intro k pV hL;rw [bP il] at hL;rcases hL with e | hL
      ·omega
      ·exact hI.hi k pV hL
     ·intro t ht;have h1:d≠t:=fun e=>by subst e;exact ht i o ho ((bP il).2 (.inl rfl)) hd
      rw [hd];simp only [Act.put,Array.getElem?_setIfInBounds_ne h1];exact hI.yF t fun j oj hj hL=>ht j oj hj ((bP il).2 (.inr hL))
     ·obtain ⟨U,tS,nX,qm⟩:=hI.left;refine ⟨U.erase i,tS.erase i,fun k=>?_,?_⟩
      ·rw [tS.mem_erase_iff,nX k,bP il];constructor
       ·rintro ⟨h1,h2,h3⟩;exact ⟨h2,fun h=>h.elim h1 h3⟩
       ·rintro ⟨h1,h2⟩;exact ⟨fun e=>h2 (.inl e),h1,fun h=>h2 (.inr h)⟩
      ·have NA:i∈U:=(nX i).2 ⟨by omega,hn⟩;rw [List.length_erase_of_mem NA,qm];rfl
     ·have k9:=J5 _ w' hk ⟨fp,jf,gQ,pX⟩;have e1:dA β (fun j=>pk tk (fun i=>listed.getD i false) j&&!ed tk i j) S 0=dA (ss β i x) (fun j=>pk tk (fun i=>listed.getD i false) j&&!ed tk i j) S 0:=fN fun j sj hj=>by
       refine ⟨I,fun hl=>?_⟩;rw [Nat.zero_add] at hl;have hl:listed.getD j false=true:=by
        unfold pk at hl;simp only [Bool.and_eq_true] at hl;exact hl.1.1
       have gm:j<m:=by have:=(List.getElem?_eq_some_iff.1 hj).1;omega
       obtain ⟨oj,Gl⟩:∃ oj,l[j]? = some oj:=⟨l[j]'(by omega),Zc (by omega)⟩;obtain ⟨_,_,s2,_,_,hs2,_,pe⟩:=eI j oj (Zi _) (dI j oj gm Gl);rw [hj] at hs2;cases hs2;exact pe.Ae _ _ (l5 j hl x)
      rw [e1,<- Zh] at k9;have mw:∀ k,(listed.setIfInBounds i true).getD k false=(listed.getD k false||Nat.beq k i):=fun k=>by
       by_cases JZ:k=i
       ·subst JZ;rw [show Nat.beq k k=true by simp,Bool.or_true];exact (bP il).2 (.inl I)
       ·rw [show Nat.beq k i=false from Bool.eq_false_iff.2 fun h=>JZ (Nat.eq_of_beq_eq_true h),Bool.or_false]
        simp [Array.getD_eq_getD_getElem?,Array.getElem?_setIfInBounds_ne (Ne.symm JZ)]
      refine k9.perm ((oP (k:=i) qB ?_ ?_ ?_).append_right _)
      ·rw [Nat.zero_add];unfold pk;dsimp only;rw [Nw];rfl
      ·rw [Nat.zero_add];unfold pk;dsimp only;rw [mw,show Nat.beq i i=true by simp,Bool.or_true,Bool.true_and];by_cases Ly:tk i=0
       ·rw [Ly];rfl
       ·have Q1:0<tk i:=Nat.pos_of_ne_zero Ly;have rT:listed.getD (tk i) false=false:=by
         cases hh:listed.getD (tk i) false with
         | false=>rfl
         | true =>
          exfalso;have UN:Ls listed (tk i):=hh;have SB:tk i<m:=Nat.lt_of_not_le fun hm=>hI.hi _ hm UN
          obtain ⟨ot,Ub⟩:∃ ot,l[tk i]? = some ot:=⟨l[tk i]'(by omega),Zc (by omega)⟩;obtain ⟨_,_,_,_,_,_,_,Rg⟩:=eI (tk i) ot (Zi _) (dI _ ot SB Ub);obtain ⟨e,he,hb,mU⟩:=cH (Rg.waits i rfl Q1);have:=hI.dc (tk i) ot Ub UN e he hb;rw [mU] at this;exact hn this
        have hne:Nat.beq (tk i) i=false:=by
         cases hh:Nat.beq (tk i) i with
         | false=>rfl
         | true =>
          exfalso;have e:tk i=i:=by simpa using hh
          have:=TT i (by unfold ed;rw [hh,Bool.and_true];rw [e] at Q1;simpa [Nat.blt_eq] using Q1);omega
        rw [mw,rT,hne];simp
      ·intro j hj;rw [Nat.zero_add] at hj;unfold pk;dsimp only;rw [mw,mw,show Nat.beq j i=false from Bool.eq_false_iff.2 fun h=>hj (Nat.eq_of_beq_eq_true h),Bool.or_false]
       unfold ed;cases h1:Nat.beq (tk j) i with
       | false=>simp
       | true =>
        have e:tk j=i:=by simpa using h1
        rw [e,Nw];cases Nat.blt 0 i <;> simp
     ·intro j oj e sj hj he jA hL;rw [bP il] at hL;by_cases kT:j=i
      ·subst kT;rw [ho] at hj;cases hj;rw [hd] at he;cases he;rw [qB] at jA;cases jA;rw [hd];simp [Act.put,hI.size,fH]
      ·have w7:=hL.resolve_left kT;have gm:j<m:=Nat.lt_of_not_le fun hm=>hI.hi j hm w7
       obtain ⟨_,_,s2,_,_,hs2,_,pe⟩:=eI j oj (Zi _) (dI j oj gm hj);rw [jA] at hs2;cases hs2;rw [hd];simp only [Act.put,Array.getElem?_setIfInBounds_ne (nR j oj e hj gm kT he)];rw [<- pe.Ad _ _ (l5 j w7 x)];exact jS j oj e sj hj he jA w7
    have GY:=hq;refine ⟨?_,fun Rm=>?_⟩
    rotate_left
    ·subst Rm;exact (Dz mz).elim
    unfold wpOpIn;rw [show l.toArray[i]? = some o from by simpa using ho];simp only [];rw [gn iT] at hq;split
    ·rename_i hw;rw [if_pos hw] at hq;refine ⟨dO _ _ _ _ _,?_⟩;rw [Oper.semAt_eq _ _ _ (fun cc he=>by simp [mu,he] at Ah),<- hex]
     unfold mB at hq
     revert hq
     generalize (execOp a'.eval o).run P w=res;intro hq
     match res,hq with
     | .ok (.value v) w',hq=>exact fT v w' hq
     | .ok (.enter f args) w', ⟨e, cn⟩ =>
      subst e;refine ⟨by simp [FR,Fence.wide],(gT cn).mono fun e uZ h=>?_⟩;obtain ⟨v,rfl,hq⟩:=h;exact fT v uZ hq
    ·rename_i hw;rw [if_neg hw] at hq;exact ⟨fun _ _=>trivial,fT undef w hq⟩
   by_cases hp:p<m/\p∈Region.ready .any l.toArray listed
   ·exact (main p hp.2 hp.1).2 I
   ·refine ⟨fun hr=>?_,fun i hi=>?_⟩
    ·obtain ⟨i,hi⟩:=iA hI.sz hc.ac ⟨i0,by omega,mV⟩;rw [hr] at hi;cases hi
    ·have mz:i<m:=Nat.lt_of_not_le fun hm=>by
      have E1:=oR hc hI.sz hI.dc hi hm;by_cases CB:p<m
      ·by_cases Pk:Ls listed p
       ·exact mV (by
         by_cases e:i0=p
         ·rw [e];exact Pk
         ·exact E1 i0 pW e)
       ·refine hp ⟨CB,(dz hI.sz).2 ⟨l[p]'(by omega),Zc (by omega),Pk,fun e he hb=>?_⟩⟩;have aL:=iR hc.ac (Zc (show p<l.length by omega)) e he hb;exact E1 e.on (by omega) (by omega)
      ·exact mV (E1 i0 pW (by omega))
     exact (main i hi mz).1
def lG (tk:Nat->Nat) (P:Program) (r0:Option Nat) (c:Cx) (D:List Nat) (hs:List a8) (l:List Oper) (Q:Exit->Act->World->Prop) (m i n:Nat) (rest:List Oper) (SL:(Nat->Value)->aI) (S:List cI):Prop:=
 ∃ S' lH,si P c hs l tk i (rest.take n) SL S S' lH/\∀ β,Tr c D (lH β) (dA β (pk tk (fun i=>Nat.blt i m)) S' 0++hs) (zi P r0 l.toArray Q (l.length-m) (jB l.length m))
theorem u5 {id:Nat} (m:Nat) (tk:Nat->Nat) [pf:PO P] (jk:C6 l m=true) (k:lG tk P r0 c D hs l Q m 0 m l (fun _=>sl) []):Tr c D sl hs (WP P r0 (.region id l.toArray true) Q):=fun a w a7=>by
 obtain ⟨S,lH,hp,ht⟩:=k;have h:(Code.region id l.toArray true).wpIn (FR r0) 0 P (NP Q) a w:=wpIn_region_any pf.eq (by
  refine Db (tk:=tk) (p:=m) (oQ jk) (fun h=>absurd h (Nat.lt_irrefl _)) (fun c a w h=>h.elim) hp a7.cP a7.size (fun β a w a7=>ht β a w a7) l.toArray.size _ _ _ ⟨by simp,?_,?_,a7.defers,a7.size,fun t _=>rfl,?_,fun _=>undef,?_,?_⟩
  ·exact fun k o _ hL=>absurd hL (ei _ _)
  ·exact fun k _ hL=>ei _ _ hL
  ·exact ⟨List.range l.length,List.nodup_range,fun i=>⟨fun h=>⟨by simpa using h,ei _ _⟩,fun h=>by simpa using h.1⟩,by simp⟩
  ·have e:∀ (T:List cI) (i:Nat),dA (fun _=>undef) (pk tk (fun i=>(Array.replicate l.toArray.size false).getD i false)) T i=[]:=by
    intro T
    induction T with
    | nil=>intro i;rfl
    | cons s T ih =>
     intro i;have:=ei l.toArray.size i;unfold Ls at this;unfold dA;rw [if_neg (by unfold pk;simp only [Bool.and_eq_true];exact fun h=>this h.1),ih];rfl
   rw [e];exact a7.mem.drew
  ·exact fun j o d s _ _ _ hL=>absurd hL (ei _ _))
 exact wpIn_mono h fun e a' w' h=>by
  cases e with
  | panic c=>exact h.elim
  | _=>exact h
end
section
variable {P:Program} {c:Cx} {D:List Nat} {sl:aI} {hs hs':List a8} {X:Act->World->Prop} {Q:Exit->Act->World->Prop} {l:List Oper} {m i n d:Nat} {lU:List (Nat×Nat)} {op:Op} {ty:TypeId} {pos:String} {af:Array Edge} {rest:List Oper} {SL:(Nat->Value)->aI} {S:List cI}
variable {r0:Option Nat}
theorem mb {o:Oper} {s:cI} (hd:o.dst=some d) (fH:Nat.blt d c.nt=true) (h:FA P c hs l (gU lU) i o SL S s) (k:lG (gU lU) P r0 c D hs l Q m (i+1) n rest (fun β=>(d,s.F β)::SL β) (S++[s])):lG (gU lU) P r0 c D hs l Q m i (n+1) (o::rest) SL S:=by
 obtain ⟨S',lH,hp,ht⟩:=k;exact ⟨S',lH,.step hd (by simpa [Nat.blt_eq] using fH) h hp,ht⟩
theorem D8 (k:∀ β,Tr c D (SL β) (dA β (pk (gU lU) (fun i=>Nat.blt i m)) S 0++hs) (zi P r0 l.toArray Q (l.length-m) (jB l.length m))):lG (gU lU) P r0 c D hs l Q m i 0 rest SL S:=
 ⟨S,SL,.nil,k⟩
theorem La {ι:Type} {Φ:ι->Prop} {val:ι->Value} {own:ι->List a8} (g:Value->ι) (hg:∀ x,∃ v,g v=x) {f:FuncId} {args:(Nat->Value)->List Value} (B:List Nat)
  (hB:(B.all fun j=>oB l ⟨some d,op,ty,pos,af,none⟩ j&&Nat.beq (gU lU j) 0)=true) (hn:(lU.all fun p=>!Nat.beq p.2 i)=true)
  (hr:∀ β,lR P (SL β) ⟨some d,op,ty,pos,af,none⟩ f (args β)) (hd:Nat.blt d c.nt=true) (hc:∀ β w,js c hs S B β w->bh P f (args β) w [] Φ val own)
  (k:lG (gU lU) P r0 c D hs l Q m (i+1) n rest (fun β=>(d,val (g (β i)))::SL β) (S++[⟨fun β=>val (g (β i)),fun β=>own (g (β i))⟩])) :
  lG (gU lU) P r0 c D hs l Q m i (n+1) (⟨some d,op,ty,pos,af,none⟩::rest) SL S:=by
 refine mb (s:=⟨fun β=>val (g (β i)),fun β=>own (g (β i))⟩) I hd ⟨fun β β' h=>by simp only [h i (fX l i)],fun β β' h=>by simp only [h i (fX l i)],⟨B,fun j hj=>?_,fun β a w oe rf sT _=>?_⟩,fun j hj hp=>(pL hn hj hp).elim⟩ k
 ·have:=List.all_eq_true.1 hB j hj;rw [Bool.and_eq_true] at this;exact ⟨this.1,by simpa using this.2⟩
 rw [if_pos (by simp [Region.wanted])];unfold mB;rw [(hr β).2 a w rf];refine ⟨I,(hc β w sT).mono fun e w' ⟨x,he,_,hk,fp,hn,hs',hf⟩=>?_⟩;obtain ⟨v,hv⟩:=hg x;refine ⟨val x,he,v,by simp only [gI,hv],hk.mono (by simp),fp,hn,by simp only [gI,hv];exact hs',fun b hb=>?_⟩;rcases hf b hb with h | h
 ·cases h
 ·exact .inr h
theorem iQ {F:(Nat->Value)->Value} (hr:∀ β,cQ P c (SL β) hs ⟨some d,op,ty,pos,af,none⟩ (F β)) (hi:pC l i F) (hd:Nat.blt d c.nt=true) (hn:(lU.all fun p=>!Nat.beq p.2 i)=true) (k:lG (gU lU) P r0 c D hs l Q m (i+1) n rest (fun β=>(d,F β)::SL β) (S++[⟨F,fun _=>[]⟩])) :
  lG (gU lU) P r0 c D hs l Q m i (n+1) (⟨some d,op,ty,pos,af,none⟩::rest) SL S:=
 mb (s:=⟨F,fun _=>[]⟩) I hd ⟨hi,fun _ _ _=>rfl,⟨[],by simp,fun β a w oe h1 h2 _=>by
  rw [if_pos (by simp [Region.wanted])];unfold mB;rw [(hr β).2 a w h1 h2.mem];exact ⟨β i,by rw [rn],.refl _ _,[],List.nodup_nil,I,by simp⟩⟩,fun j hj hp=>(pL hn hj hp).elim⟩ k
theorem sh {V:Nat->Value} {ob:(Nat->Value)->Obj} (hr:∀ β,qp P c (SL β) hs ⟨some d,op,ty,pos,af,none⟩ V (ob β)) (hi:∀ β β',(∀ k,k≠i->sf l i k=true->β k=β' k)->ob β=ob β') (hd:Nat.blt d c.nt=true) (hn:(lU.all fun p=>!Nat.beq p.2 i)=true)
  (k:lG (gU lU) P r0 c D hs l Q m (i+1) n rest (fun β=>(d,V (eM (β i)))::SL β) (S++[⟨fun β=>V (eM (β i)),fun β=>[bC (eM (β i)) (ob β)]⟩])) :
  lG (gU lU) P r0 c D hs l Q m i (n+1) (⟨some d,op,ty,pos,af,none⟩::rest) SL S:=
 mb (s:=⟨fun β=>V (eM (β i)),fun β=>[bC (eM (β i)) (ob β)]⟩) I hd ⟨fun β β' h=>by simp only [h i (fX l i)],fun β β' h=>by simp only [h i (fX l i),hi β β' fun k _ hk=>h k hk],⟨[],by simp,fun β a w oe h1 h2 _=>by
  rw [if_pos (by simp [Region.wanted])];unfold mB;rw [(hr β).2 a w h1 h2.mem];have e:ob (ss β i (.int .i64 (w.heap.size:Int)))=ob β:=hi _ _ fun k hk _=>qF hk
  exact ⟨.int .i64 (w.heap.size:Int),by simp only [gI,kV],.alloc _ _ _,[w.heap.size],by simp,⟨[w.heap.size],[],I,⟨by simp only [gI,kV],by simp only [gI,kV];rw [e];exact World.alloc_heap_new w (ob β)⟩,I⟩,by simp⟩⟩,fun j hj hp=>(pL hn hj hp).elim⟩ k
end
end Go.SL.KR
namespace Go.SL.KR
open Go Go.SL
section
variable {P:Program} {c:Cx} {D:List Nat} {sl:aI} {hs hs':List a8} {X:Act->World->Prop} {Q:Exit->Act->World->Prop} {l:List Oper} {m i n d:Nat} {lU:List (Nat×Nat)} {op:Op} {ty:TypeId} {pos:String} {af:Array Edge} {rest:List Oper} {SL:(Nat->Value)->aI} {S:List cI}
variable {r0:Option Nat}
theorem D9 {t e:TypeId} {agg:Bool} {size bytes jx n0:Nat} {z:Value} {x y:Operand} {Vx Vy:(Nat->Value)->Value} {Ax:(Nat->Value)->List a8} {xs:List Value} {news:List (List Value)} [hu:iU P t (.slice e)] [hT:Ty P e agg size] [hZ:lQ P e z] [Yv:wV P e bytes] (B:List Nat)
  (hB:(B.all fun j=>oB l ⟨some d,.call ⟨.builtin .append,#[x,y],#[t,t]⟩,ty,pos,af,none⟩ j&&Nat.beq (gU lU j) 0)=true)
  (hS:S[jx]? = some ⟨Vx,Ax⟩) (hrow:∀ β w fp,ch (hp w) (Ax β) fp->(row e size (Vx β) n0 xs).sat (hp w) fp)
  (htk:∀ k,gU lU k=i->k=jx) (hti:gU lU jx=i) (h0:Nat.blt 0 i=true) (hwx:eL ⟨some d,.call ⟨.builtin .append,#[x,y],#[t,t]⟩,ty,pos,af,none⟩ jx=true)
  (hx:∀ β,Is (SL β) x (Vx β)) (hy:∀ β,Is (SL β) y (Vy β)) (hsrc:∀ β w,js c hs S B β w->Rd w (Vy β) size news) (h1:∀ r∈news,∀ u∈r,u.oneCell'=true) (hz:z.cells.size=size) (hsz:Nat.blt 0 size=true) (hb0:Nat.blt 0 bytes=true)
  (hb:(n0+news.length)*bytes<=140737488355328) (hd:Nat.blt d c.nt=true) (hne:news≠[])
  (k:lG (gU lU) P r0 c D hs l Q m (i+1) n rest (fun β=>(d,.slice (w8 (β i)).1 (n0+news.length) (w8 (β i)).2)::SL β) (S++[⟨fun β=>.slice (w8 (β i)).1 (n0+news.length) (w8 (β i)).2,fun β=>[row e size (.slice (w8 (β i)).1 (n0+news.length) (w8 (β i)).2) (n0+news.length) (xs++news.flatten)]⟩])) :
  lG (gU lU) P r0 c D hs l Q m i (n+1) (⟨some d,.call ⟨.builtin .append,#[x,y],#[t,t]⟩,ty,pos,af,none⟩::rest) SL S:=by
 refine mb (s:=⟨fun β=>.slice (w8 (β i)).1 (n0+news.length) (w8 (β i)).2,fun β=>[row e size (.slice (w8 (β i)).1 (n0+news.length) (w8 (β i)).2) (n0+news.length) (xs++news.flatten)]⟩) I hd ⟨fun β β' h=>by simp only [h i (fX l i)],fun β β' h=>by simp only [h i (fX l i)],⟨B,fun j hj=>?_,fun β a w oe rf sT gQ=>?_⟩,fun j hj _=>by rw [htk j hj];exact hwx⟩ k
 ·have:=List.all_eq_true.1 hB j hj;rw [Bool.and_eq_true] at this;exact ⟨this.1,by simpa using this.2⟩
 rw [if_pos (by simp [Region.wanted])];rw [vo (i:=0) hS fun k=>by
  rw [Nat.zero_add];unfold ed;rw [h0,Bool.true_and];by_cases e:k=jx
  ·subst e;rw [hti];simp
  ·rw [show Nat.beq k jx=false from Bool.eq_false_iff.2 fun h=>e (Nat.eq_of_beq_eq_true h)]
   exact Bool.eq_false_iff.2 fun h=>e (htk k (Nat.eq_of_beq_eq_true h))] at gQ
 have Lz:=hrow β w oe gQ;have hR:=hsrc β w sT;have VK:=hx β a rf;have O0:=hy β a rf;have hlen:=fU hR.sz;obtain ⟨aa,cap,b2,o2,hV,c8,bV,Yk,SK⟩:=hR;have:=Yk hne;subst this;rw [hV] at O0;obtain ⟨de,ii,lM,B0,_,gG⟩:=Ty.parts (P:=P) (t:=e) (agg:=agg) (n:=size);have hzero:ii.zero=some z:=by have:=hZ.eq;rw [B0] at this;simpa using this
 have gi:ii.bytes=bytes:=by have:=Yv.eq;rw [B0] at this;simpa using this
 have wa:0<bytes:=by simpa using hb0
 have pb:=vf Lz;have BX:n0+news.length<=maxLen:=by
  have:(n0+news.length)*1<=(n0+news.length)*bytes:=Nat.mul_le_mul_left _ wa;unfold maxLen;omega
 have hn:∀ (j:Nat) (u:Value),news.flatten[j]? = some u->w.cell? ⟨b2,o2+j,none⟩=some u:=lu SK;have xD:∀ u∈news.flatten,u.oneCell'=true:=fun u hu=>by obtain ⟨r,hr,QV⟩:=List.mem_flatten.1 hu;exact h1 r hr u QV
 obtain ⟨v',w',gA,o9,rV,_⟩:=run_append_own (P:=P) w 0 t ty e ii z size bytes hu.eq B0 hzero gG gi hz (by simpa using hsz) (Vx β) n0 xs pb ⟨b2,o2,none⟩ news.length cap news.flatten hlen
  (fun j u hj=>by rw [ez];exact hn j u hj) xD BX hb (Zi _)
 have sQ:=nM (P:=P) (t:=t) (ty:=ty) hu.eq B0 hzero (by rw [gG];exact pb) (a:=⟨b2,o2,none⟩) (m:=news.length) (cp:=cap) (by rw [gG];exact hlen) (fun j u hj=>by rw [ez];exact hn j u hj) xD BX (by rw [gi];exact hb) gA
 have hex:(execOp a.eval ⟨some d,.call ⟨.builtin .append,#[x,y],#[t,t]⟩,ty,pos,af,none⟩).run P w=.ok (.value v') w':=by
  simp [execOp,resolve,invoke,builtin,VK,O0,gA]
 unfold mB;rw [hex];have CD:oe=(Vx β).ownBlock.toList:=Lz.1;have hN:0<n0+news.length:=by have:=List.length_pos_iff.2 hne;omega
 have VL:v'=.slice (w8 v').1 (n0+news.length) (w8 v').2:=by
  rcases o9.2 with ⟨_,e2⟩ | ⟨g,cp,cur,e2,_⟩
  ·omega
  ·rw [e2];rfl
 refine ⟨v',by simp only [gI];exact VL,⟨rV.os,rV.tape,rV.output,sQ.2,rV.size,fun q hq Uf=>rV.block q hq (fun he=>Uf ?_)⟩,v'.ownBlock.toList,by cases v'.ownBlock <;> simp,⟨v'.ownBlock.toList,[],(List.append_nil _).symm,by simp only [gI];rw [<- VL];exact ke o9,I⟩,fun q hq=>?_⟩
 ·rw [CD,<- he];simp
 ·have tJ:v'.ownBlock=some q:=by simpa [Option.mem_toList] using hq
  rcases sQ.1 with h | h
  ·left;rw [CD,<- h,tJ];simp
  ·right
   rw [h] at tJ;cases tJ;exact Nat.le_refl _
end
end Go.SL.KR
namespace Go.Proofs.A1
open Go Go.SL
open Tryz
open Tryz renaming prog->T_
def AD (x:Wy):a8:=row 3 1 x.v (gz x.p).length (gz x.p)
theorem AE:∀ kJ:List Wy,fA 3 (kJ.map Wy.v) (kJ.map fun x=>gz x.p)=kJ.map AD
 | []=>rfl
 | x::l=>by simp only [List.map_cons,fA,AE l];rfl
theorem Bb:∀ (l:List a8) (A:a8) (m:List a8),Take (l++A::m) A (l++m)
 | [],_,_=>.here
 | _::l,A,m=>.there (Bb l A m)
theorem yg (A:a8):∀ (l m:List a8),bn (A::(l++m)) l (A::m)
 | [],_=>.nil
 | _::l,m=>.cons (.there .here) (yg A l m)
theorem u7 {c:Cx} {D:List Nat} {sl:aI} {hs hs':List a8} {X:Act->World->Prop} {kJ:List Wy} {x:Wy} (hx:x∈kJ) (ht:Take hs (iP kJ) hs')
  (k:∀ oh,(∀ y,y∈kJ↔y=x\/y∈oh)->Tr c D sl (iP oh::row 3 1 x.v x.p.length (gz x.p)::hs') X):Tr c D sl hs X:=by
 obtain ⟨l1,l2,rfl⟩:=List.append_of_mem hx;have hk:=k (l1++l2) (fun y=>by simp only [List.mem_append,List.mem_cons];constructor <;> (intro h;rcases h with h | h | h <;> simp [h]))
 refine xV (As:=fA 3 ((l1++x::l2).map Wy.v) ((l1++x::l2).map fun x=>gz x.p)) (show Take hs (Lj (fA 3 ((l1++x::l2).map Wy.v) ((l1++x::l2).map fun x=>gz x.p))) hs' from ht) ?_;rw [AE,List.map_append,List.map_cons,Zh,Zb];refine uu (Bb (l1.map AD) (AD x) (l2.map AD++hs')) (fun _ _ h=>h) ?_;rw [<- Zh,<- List.map_append];refine su (yg (AD x) ((l1++l2).map AD) hs') ?_;have e:iP (l1++l2)=Lj ((l1++l2).map AD):=by rw [<- AE];rfl
 rw [<- e];have e2:AD x=row 3 1 x.v x.p.length (gz x.p):=by unfold AD gz;rw [Zd]
 rw [e2];exact hk
theorem IA (p:List Nat):(gz p).length=p.length:=by unfold gz;rw [Zd]
theorem BG {p:List Nat} {k:Nat} (h:k<p.length) (cur:List Value):(gz p++cur)[k*1]? = some (.int .i64 (p[k]:Nat)):=by
 rw [Nat.mul_one,List.getElem?_append_left (by rw [IA];exact h)];unfold gz;rw [List.getElem?_map,Zc h];rfl
theorem BE (p:List Nat) (i:Nat):(nz p).contains (i:Int)=p.contains i:=by
 induction p with
 | nil=>rfl
 | cons x l ih =>
  show (((i:Int)==(x:Int))||(nz l).contains (i:Int))=((i==x)||l.contains i);rw [ih];congr 1;rw [Bool.eq_iff_iff,beq_iff_eq,beq_iff_eq];omega
theorem qz {α:Type} {l:List Oper} {i:Nat} {x:α}:pC l i (fun _:Nat->Value=>x):=fun _ _ _=>rfl
theorem Gd {N:Wn} {dm:Int} (h:N.D5=dm):N.least dm []:=by
 refine ⟨N.ny,h,fun q _ _=>?_⟩;rcases Wn.IE (N:=N) (show [] <+: q from List.nil_prefix) with e | e
 ·rw [<- e];exact N.lt_irrefl []
 ·cases hb:N.lt q [] with
  | false=>rfl
  | true=>have:=Wn.lt_trans e hb;rw [N.lt_irrefl] at this;cases this
set_option maxHeartbeats 4000000 in
theorem OH {r:Ro} {s d t p:Value} (v:Int) (so de:ByteArray) {w:World} (h:RR w r s d t p) (hn:qh r) (hV:jl r r.po) (hd:CG r) (rR:so∈ct r) (fH:de∈cz r) :
  bh T_ 175 [RA r s d t p,.int .i64 v,.string so,.string de] w [] (fun x:Bool×Wy×List Wy=>(x.1=true->(dE r r.po v so).least (jV r de) x.2.1.p/\(x.2.1∈x.2.2\/x.2.1=⟨.slice none 0 0,[],0⟩))/\(x.1=false->∀ q,(dE r r.po v so).ok q->(dE r r.po v so).fin q≠jV r de)/\x.2.1.v.oneCell'=true)
   (fun x=>.tuple #[.agg x.2.1.cells.toArray,.bool x.1]) (fun x=>[iP x.2.2]):=by
 have h6:r.ti.length<=6:=by have:=hn.Tc;unfold cd at this;rwa [Zd] at this
 obtain ⟨h1,h2,h3,h4⟩:=h.one;have hti:=h.ti;obtain ⟨a,cp,b,o',rfl,c8,bV,ha,hc⟩:=hti;have Np:=h.sr;obtain ⟨a2,l8,b2,o2,rfl,jK,eE,iT,jL⟩:=Np;have lM:=h.de;obtain ⟨a3,pq,b3,o3,rfl,lo,fD,qA,nW⟩:=lM;rw [bO] at *;rw [cu] at *;rw [bZ] at *;unfold maxLen at bV eE fD;obtain ⟨i0,pW⟩:∃ i:Nat,bd (ct r) so=(i:Nat):=⟨(bd (ct r) so).toNat,by have:=di rR;omega⟩;have Ai:i0<r.sr.length:=by
  obtain ⟨hl,_⟩:=eD (l:=ct r) (s:=so) (by omega);rw [pW,Int.toNat_natCast] at hl;unfold ct at hl;rwa [Zd] at hl
 obtain ⟨j0,tM⟩:∃ i:Nat,bd (cz r) de=(i:Nat):=⟨(bd (cz r) de).toNat,by have:=di fH;omega⟩;have xz:j0<r.de.length:=by
  obtain ⟨hl,_⟩:=eD (l:=cz r) (s:=de) (by omega);rw [tM,Int.toNat_natCast] at hl;unfold cz at hl;rwa [Zd] at hl
 have xy:mi r so=(r.sr[i0]).mx:=by unfold mi;rw [pW,Int.toNat_natCast,List.getD_eq_getElem?_getD,Zc Ai];rfl
 have Rv:jV r de=(r.de[j0]).mx:=by unfold jV;rw [tM,Int.toNat_natCast,List.getD_eq_getElem?_getD,Zc xz];rfl
 have hsrc:∀ w',aD [] w w'->aj T_ 180 [.agg #[.int .i64 r.lv,.int .i64 r.ma,.slice a2 r.sr.length l8,.slice a3 r.de.length pq,.slice a r.ti.length cp,p],.string so] w' (.int .i64 (i0:Nat)):=fun w' hk=>pW ▸ mO so (h.keeps hk)
 have qk:∀ w',aD [] w w'->aj T_ 155 [.agg #[.int .i64 r.lv,.int .i64 r.ma,.slice a2 r.sr.length l8,.slice a3 r.de.length pq,.slice a r.ti.length cp,p],.string de] w' (.int .i64 (j0:Nat)):=fun w' hk=>tM ▸ fw de (h.keeps hk)
 have ql:=iT (gL Ai);have eB:=(jL i0 _ (fk Ai)).2;unfold Sr.cells at eB;have O6:=eB 1 _ I;have ui:=qA (gS xz);have ll:=(nW j0 _ (fu xz)).2;unfold De.cells at ll;have xC:=ll 1 _ I;unfold RA;refine aR func175 I I ?_
 (refine Jr<|Jy I I fun _ _=>Jz I I fun _ _=>Ja I<|Jn<|Hr ?_;refine Jq ?_)
 rename_i b4 uQ b8 ZF
 with_reducible refine cW 18 (by kernel_rfl) ?_
 (refine mG I I ae ?_;refine aA (gD (.there .here)) I ?_;refine aA (cr (.there .here)) I ?_;refine iv I I ?_;refine c6 aX I (fun w' aq=>(hsrc w' (Mem.keeps aq))) ?_;refine aA (az (.of I) (.of I) ql (by omega) (by omega) ba) I ?_;refine mG I I ae ?_;refine aA (ag (.of I) (At.base O6 I)) I ?_;refine mG I I ae ?_;refine aA (gD (.there .here)) I ?_;refine aA (cr (.there .here)) I ?_;refine iv I I ?_;refine c6 aX I (fun w' aq=>(qk w' (Mem.keeps aq))) ?_;refine aA (az (.of I) (.of I) ui (by omega) (by omega) ba) I ?_;refine mG I I ae ?_;refine aA (ag (.of I) (At.base xC I)) I ?_;refine aA (cF (.of I)) I ?_;refine aA (cF (.of I)) I ?_)
 with_reducible refine cZ ?_
 rw [<- xy,<- Rv]
 (refine Jn<|Jq<|Jr<|Jv I<|Jv I<|JC I<|Jn<|gl I (fun ar=>?_) fun ar=>?_;refine Jr<|ab (aT .nil an) I ?_;refine au (.of I) (.of I) .here I I (ie I I) (bF I) an ?_;refine Ja I<|Jn<|Ju<|sx ?_;rotate_left;refine Jk<|Jr<|ab (cr (.there .here)) I ?_;refine Jv I<|Jv I ?_;rotate_right)
 ·refine yb ?_
  first | with_reducible apply aN | with_reducible apply aO
  case he=>exact sY I inferInstance I (.there .here) an (by rfl) (by rfl)
  case hR=>
   intro w' aq;exact aG (true,⟨.slice none 0 0,[],0⟩,[]) ⟨fun _=>⟨Gd (show jR r so=_ by rw [oI rR];exact ar),.inr I⟩,(fun e=>by cases e),I⟩ (by exact .cons .here .nil) aq I
 refine JN dH I (fun w1 aS=>KW (s:=.slice a2 r.sr.length l8) (d:=.slice a3 r.de.length pq) (t:=.slice a r.ti.length cp) (p:=p) v so (h.keeps aS.keeps) (by omega) rR) ?_;rintro ⟨wv,W⟩ hW;have hS:=qn.begin hn hV v (de:=de) rR h6 ar hW;clear ar;dsimp only [id_eq,Zb,Za];refine aW (E:=244) (sz:=2) (by exact .here) fun va vc e=>?_;subst e
 (refine Jz I I fun _ _=>au (.of I) (.of I) .here I I (eF I) (bF I) an ?_;refine Ji<|Jz I I fun _ _=>Ji<|Ja I<|Jn<|Jq<|Hu ?_;refine Jt<|Jq<|J0 ?_)
 rename_i K0 Yg Se ad8;refine FI (E:=244) (sz:=2) bT ?_
 refine En (ι:=Value×List Wy×List Wy) (fun x=>qn (dE r r.po v so) (jV r de) x.2.1 x.2.2)
  (fun x=>[(14,.bool false),(13,.pointer (some ⟨Se,0,none⟩)),(12,.pointer (some ⟨K0,0,none⟩)),(11,.int .i64 (jV r de)),(8,.pointer (some ⟨b8,0,none⟩)),(4,.pointer (some ⟨b4,0,none⟩)),(1,.int .i64 v)])
  (fun x=>[bC K0 (.cells #[x.1] 329 (0,0)),kN 244 2 x.1 x.2.1.length (nk x.2.1),iP x.2.2,bC Se (.cells #[.slice none 0 0,.int .i64 0] 244 (0,0)),bC b8 (.cells #[.slice none 0 0,.int .i64 0] 244 (0,0)),
   JP b4 r (.slice a2 r.sr.length l8) (.slice a3 r.de.length pq) (.slice a r.ti.length cp) p]) (fun x=>(dE r r.po v so).wt (x.2.1.map Wy.p)) ?_ ?_
 ·apply xU (.slice va W.length vc,W,W) hS
  case hs1=>exact cj
  case ht=>
   show bn _ [bC K0 (.cells #[.slice va W.length vc] 329 (0,0)),kN 244 2 (.slice va W.length vc) W.length (nk W),iP W,bC Se (.cells #[.slice none 0 0,.int .i64 0] 244 (0,0)),bC b8 (.cells #[.slice none 0 0,.int .i64 0] 244 (0,0)),
    JP b4 r (.slice a2 r.sr.length l8) (.slice a3 r.de.length pq) (.slice a r.ti.length cp) p] _
   exact .cons bT (.cons .here (.cons (.there .here) (.cons .here (.cons .here (.cons .here .nil)))))
 rintro ⟨wv,Q,kJ⟩ hS D;dsimp only at hS ⊢;have ZM:=hS.len;refine xW (by exact Take.there .here) fun qa qc e SE T6=>?_;subst e;by_cases V9:Q.length=0
 ·have JR:Q=[]:=List.eq_nil_of_length_eq_zero V9;subst JR
  (refine Jq<|Jr<|JL I .here I<|JI I<|JE I<|Jn<|Jc I fun ar=>Jp<|Jl<|Jo<|Jt<|Jr<|ab (cr db) I ?_;refine Jv I<|au (.of I) (.of I) fg I I (ie I I) (bF I) an ?_;refine Ja I<|Jn<|Je<|sx ?_)
  first | with_reducible apply aN | with_reducible apply aO
  case he=>exact sY I inferInstance I .here an (by rfl) (by rfl)
  case hR=>
   intro w' aq;exact aG (false,⟨.slice none 0 0,[],0⟩,kJ) ⟨(fun e=>by cases e),(fun _=>Wn.IU hS.inv),I⟩ (by exact .cons db .nil) aq I
 ·refine Jq<|Jr<|JL I .here I<|JI I<|JE I<|Jn<|Jd I fun ar=>Jk<|J0<|Jr<|JL I .here I ?_
  with_reducible apply gp (As:=[kN 244 2 (.slice qa Q.length qc) Q.length (nk Q),iP kJ])
  case hr=>exact aX
  case hd=>rfl
  case ht=>exact oA
  case hc=>
   intro w1 AS aS vQ hs1 CF _;exact HJ vQ hs1 I hS.sub (by omega) hS.one
  rintro Q' ⟨gZ,TY⟩;have UL:Q'.length=Q.length:=gZ.length_eq
  replace hS:=hS.perm gZ
  dsimp only [id_eq,Zb,Za];have hwt:=Wn.Eg (N:=dE r r.po v so) (gZ.map Wy.p);rw [<- UL] at V9 ZM SE ⊢;clear gZ;cases Q' with
  | nil=>exact absurd rfl V9
  | cons x R =>
   clear V9 UL;obtain ⟨xv,xp,xf⟩:=x;have VG:=hS.sub ⟨xv,xp,xf⟩ (by simp);have VI:xv.oneCell'=true:=hS.one ⟨xv,xp,xf⟩ VG;have tH:(dE r r.po v so).ok xp/\xp≠[]:=hS.inv.ok xp (by simp);have hwx:nk (⟨xv,xp,xf⟩::R)=[xv,.int .i64 (xf:Nat)]++nk R:=rfl;have Zp:((⟨xv,xp,xf⟩:Wy)::R).length=R.length+1:=rfl;rw [Zp] at SE ZM;rw [Zp,hwx];refine Ji<|JL I bT I ?_;refine A0 (by exact .here) (Nat.succ_pos _) fun g off iu pre cur e j5 kc aS hfit hlen=>?_;cases e;have c0:eu (pre++([xv,.int .i64 (xf:Nat)]++nk R)++cur) (off+0*2) 2=[xv,.int .i64 (xf:Nat)]:=by
    rw [jr,Zh,Nat.zero_mul,Nat.add_zero,<- j5,List.drop_left];rfl
   (refine ab (az (.of I) (.of I) I (by omega) (by omega) ba) I ?_;refine ab (cm (.of I) .here c0 I) I ?_;refine Jz I I fun _ _=>au (.of I) (.of I) .here I I (ie VI I) (bF I) an ?_;refine Ji<|JL I db I<|ab (qI (.of I) (.of I) (by omega) (by omega)) I ?_;refine au (.of I) (.of I) db I I (eF I) (bF I) an ?_;refine Jn<|Jq ?_)
   rename_i Sd Yf;refine AZ (n:=R.length+1) (sz:=2) (cap:=qc) bT j5 kc aS hfit hlen ?_;refine AY (by exact .here) ?_;rw [show ([xv,.int .i64 (xf:Nat)]++nk R).drop 2=nk R from I];refine u7 VG db fun oh RD=>?_;have OZ:0<xp.length:=List.length_pos_iff.2 tH.2;have VF:xp.length<=r.ti.length:=Wn.sH tH.1;have hxf:xf<=6:=by
    have h0:xf=(dE r r.po v so).rY xp:=hS.rY ⟨xv,xp,xf⟩ (by simp);have:=List.countP_le_length (p:=(dE r r.po v so).fe) (l:=xp);unfold Wn.rY at h0;omega
   refine c7 (by exact Take.there .here) OZ fun g2 dB YH e Ry Xx sP E2=>?_;cases e;obtain ⟨l,hl⟩:∃ l,xp[xp.length-1]=l:=⟨_,rfl⟩;have Nv:l<r.ti.length:=Wn.tw tH.1 l (hl ▸ Zj _);have c1:(gz xp++YH)[((xp.length:Int)-1).toNat*1]? = some (.int .i64 (l:Nat)):=by
    rw [show ((xp.length:Int)-1).toNat=xp.length-1 by omega,BG (by omega),hl]
   have NK:=ha (eO Nv);have iH:=(hc l _ (dY Nv)).2;unfold Ti.cells at iH;have Yc:=iH 2 _ I;have lk:(dE r r.po v so).fin xp=(r.ti[l]).to:=by
    unfold Wn.fin;rw [List.getLast?_eq_getElem?,Zc (by omega),hl];show (gq r l).to=_;rw [lV Nv]
   with_reducible refine cW 14 (by kernel_rfl) ?_
   (refine mG I I ae ?_;refine aA (gD Cu) I ?_;refine mG I I ae ?_;refine aA (gD fg) I ?_;refine mG I I ae ?_;refine aA (gD fg) I ?_;refine aA (cg (.of I)) I ?_;refine aA (sD (.of I) (.of I) (QO (by omega))) I ?_;refine aA (az (.of I) (.of I) I (by omega) (by omega) ba) I ?_;refine aA (ag (.of I) (At.lP .here c1)) I ?_;refine aA (az (.of I) (.of I) NK (by omega) (by omega) ba) I ?_;refine mG I I ae ?_;refine aA (ag (.of I) (At.base Yc I)) I ?_;refine aA (cF (.of I)) I ?_)
   with_reducible refine cZ ?_
   rw [<- lk];refine dx (by exact .here) Ry Xx sP E2 ?_;refine pH (W:=oh) ⟨.slice (some ⟨g2,0,none⟩) xp.length dB,xp,xf⟩ (n:=xp.length) (x:=gz xp) (by exact Take.there .here) (by exact .here) I I ?_;have UD:∀ y,y∈oh++[(⟨.slice (some ⟨g2,0,none⟩) xp.length dB,xp,xf⟩:Wy)]↔y∈kJ:=fun y=>by rw [RD,List.mem_append,List.mem_singleton];exact Or.comm
   generalize oh++[(⟨.slice (some ⟨g2,0,none⟩) xp.length dB,xp,xf⟩:Wy)]=Sc at UD ⊢
   (refine Jn<|Jq<|Jr<|Jv I<|Jv I<|JC I<|Jn<|gl I (fun ar=>?_) fun ar=>?_;refine Jr<|ab (cr db) I ?_;refine au (.of I) (.of I) fg I I (ie I I) (bF I) an ?_;refine Ja I<|Jn<|Jp<|u6 I ?_;refine Jl<|Jo<|Jt<|Jr<|ab (cr .here) I ?_;refine Jv I<|au (.of I) (.of I) fy I I (ie I I) (bF I) an ?_;refine Ja I<|Jn<|Je<|sx ?_;rotate_left;refine Jk<|Jr<|ab (cr re) I ?_;refine Jv I<|Jv I ?_;rotate_right)
   ·first | with_reducible apply aN | with_reducible apply aO
    case he=>exact sY I inferInstance I .here an (by rfl) (by rfl)
    case hR=>
     intro w' aq;exact aG (true,⟨.slice (some ⟨g2,0,none⟩) xp.length dB,xp,xf⟩,Sc) ⟨(fun _=>⟨qn.found hS TY ar,.inl ((UD _).2 VG)⟩),(fun e=>by cases e),I⟩ (by exact .cons bT .nil) aq I
   with_reducible apply jh
   case hr=>exact dH
   case hd=>rfl
   case ht=>exact bn.nil
   case hc=>
    intro w1 fp aS _ hs1;obtain rfl:fp=[]:=hs1;exact sO (s:=.slice a2 r.sr.length l8) (d:=.slice a3 r.de.length pq) (t:=.slice a r.ti.length cp) (p:=p) v ((dE r r.po v so).fin xp) (h.keeps aS.keeps)
   intro y _;dsimp only [id_eq,Zb,Za];have tN:(fJ r v ((dE r r.po v so).fin xp) r.ti.length).length<=r.ti.length:=by
    have:=List.length_filter_le (B5 r v ((dE r r.po v so).fin xp)) (List.range r.ti.length);rw [List.length_range] at this;exact this
   refine Jn<|J0 ?_
   refine jt (ps:=[73,74]) (f:=240) (first:=[]) (cap:=[.pointer (some ⟨y.1,0,none⟩),.pointer (some ⟨y.2.1,0,none⟩),.pointer (some ⟨y.2.2,0,none⟩)]) (ι:=Value×List Wy×List Wy) (κ:=Empty)
    (rst:=[bC Se (.cells #[.slice none 0 0,.int .i64 0] 244 (0,0)),bC b8 (.cells #[.slice none 0 0,.int .i64 0] 244 (0,0)),JP b4 r (.slice a2 r.sr.length l8) (.slice a3 r.de.length pq) (.slice a r.ti.length cp) p]) ?hg
    [JP y.1 r (.slice a2 r.sr.length l8) (.slice a3 r.de.length pq) (.slice a r.ti.length cp) p,bC y.2.1 (.cells #[.int .i64 ((dE r r.po v so).fin xp)] 3 (0,0)),bC y.2.2 (.cells #[.int .i64 v] 3 (0,0))] (Lu r v ((dE r r.po v so).fin xp)) ?hit
    (fun k x=>x.2.1.map wk=(((fJ r v ((dE r r.po v so).fin xp) r.ti.length).take k).filter fun i=>!xp.contains i).map (fun i=>(xf+1,xp++[i]))/\(∀ z∈R++x.2.1,z∈x.2.2)/\(∀ z∈x.2.2,z.v.oneCell'=true)/\(⟨.slice (some ⟨g2,0,none⟩) xp.length dB,xp,xf⟩:Wy)∈x.2.2)
    (fun x=>[bC K0 (.cells #[x.1] 329 (0,0)),kN 244 2 x.1 (R.length+x.2.1.length) (nk (R++x.2.1)),iP x.2.2,bC Sd (.cells #[.slice (some ⟨g2,0,none⟩) xp.length dB,.int .i64 (xf:Nat)] 244 (0,0))])
    (fun _=>False) (fun _=>[]) (fun _=>.ret) (Go.sliced (some ⟨g,off,none⟩) 1 (R.length+1) qc 2,[],Sc) ⟨I,(fun z hz=>(UD z).2 (hS.sub z (by rw [List.append_nil] at hz;exact List.mem_cons_of_mem _ hz))),(fun z hz=>hS.one z ((UD z).1 hz)),(UD _).2 VG⟩ ?ht ?hlen ?hps ?round ?kn ?kj
   case hg=>exact Is.of I
   case hit=>intro w' aq;exact ID v _ h RO.nil (by omega)
   case ht=>
    show bn _ [bC K0 (.cells #[Go.sliced (some ⟨g,off,none⟩) 1 (R.length+1) qc 2] 329 (0,0)),kN 244 2 (Go.sliced (some ⟨g,off,none⟩) 1 (R.length+1) qc 2) R.length (nk (R++[])),iP Sc,bC Sd (.cells #[.slice (some ⟨g2,0,none⟩) xp.length dB,.int .i64 (xf:Nat)] 244 (0,0)),
     JP y.1 r (.slice a2 r.sr.length l8) (.slice a3 r.de.length pq) (.slice a r.ti.length cp) p,bC y.2.1 (.cells #[.int .i64 ((dE r r.po v so).fin xp)] 3 (0,0)),bC y.2.2 (.cells #[.int .i64 v] 3 (0,0))] _
    rw [List.append_nil];exact .cons fy (.cons fg (.cons db (.cons db (.cons .here (.cons .here (.cons .here .nil))))))
   case hlen=>intro vs o6;obtain ⟨x,_,rfl⟩:=List.mem_map.1 o6;rfl
   case hps=>intro t ht;simp only [List.mem_cons,List.not_mem_nil,or_false] at ht;rcases ht with rfl | rfl <;> exact Nat.le_of_ble_eq_true rfl
   case kj=>intro y;cases y
   case kn=>
    rintro ⟨PU,W,Cm⟩ D2 ⟨hW,iY,ir,Dv⟩;dsimp only [Zb,Za] at hW iY ir Dv ⊢;rw [uN,List.take_length] at hW;obtain ⟨V8,fE⟩:=qn.next hS ar iY ir hW;refine Jj<|Jj<|Jt ?_;apply A3 (PU,R++W,Cm) V8 (by rw [<- hwt];exact fE)
    case hs1=>exact cj
    case ht=>
     show bn _ [bC K0 (.cells #[PU] 329 (0,0)),kN 244 2 PU (R++W).length (nk (R++W)),iP Cm,bC Se (.cells #[.slice none 0 0,.int .i64 0] 244 (0,0)),bC b8 (.cells #[.slice none 0 0,.int .i64 0] 244 (0,0)),
      JP b4 r (.slice a2 r.sr.length l8) (.slice a3 r.de.length pq) (.slice a r.ti.length cp) p] _
     rw [Zg];exact .cons .here (.cons .here (.cons .here (.cons fg (.cons fg (.cons fg .nil)))))
   case round=>
    rintro l2 rc W2 UW k ⟨PU,W,Cm⟩ vs hsz hk ⟨hW,iY,ir,Dv⟩ hB hF;dsimp only at hW iY ir Dv;obtain ⟨i,hi,rfl,il,Rp⟩:=Dp hk;obtain ⟨wZ,J7⟩:=List.getElem?_eq_some_iff.1 hi;have htk:(fJ r v ((dE r r.po v so).fin xp) r.ti.length).take (k+1)=(fJ r v ((dE r r.po v so).fin xp) r.ti.length).take k++[i]:=by rw [List.take_succ_eq_append_getElem wZ,J7]
    have RG:(nk (R++W)).length=(R.length+W.length)*2:=by rw [pE,Zg]
    have ZJ:W.length<=6:=by
     have:=congrArg List.length hW;rw [Zd,Zd] at this;rw [this];refine Nat.le_trans (List.length_filter_le _ _) ?_;rw [List.length_take];omega
    dsimp only [Ti.cells,List.zip_cons_cons,List.zip_nil_right,mq,Zb,Za];refine Jg<|Ja I<|Jn ?_
    with_reducible apply mL
    case ht=>exact .here
    (refine J0<|Jr<|bK I I ae ?_;refine JL I fg I<|Jv I ?_)
    refine ai aX I (fun w' aq=>lB (l:=nz xp) (i:Nat) (D1 aq db Dv)) ?_;rw [BE];cases Gt:xp.contains i with
    | true =>
     have AP:((fJ r v ((dE r r.po v so).fin xp) r.ti.length).take (k+1)).filter (fun i=>!xp.contains i)=((fJ r v ((dE r r.po v so).fin xp) r.ti.length).take k).filter (fun i=>!xp.contains i):=by
      rw [htk,List.filter_append];simp only [List.filter_cons,Gt,List.filter_nil];simp
     (refine JH I<|Jn<|bR (.of I) ?_;refine Jw<|Jj ?_)
     apply lT (PU,W,Cm)
     case ht=>exact .here
     case hx=>exact ⟨by rw [AP];exact hW,iY,ir,Dv⟩
     case h2=>exact .cons .here (.cons .here (.cons .here (.cons .here .nil)))
    | false =>
     have AP:((fJ r v ((dE r r.po v so).fin xp) r.ti.length).take (k+1)).filter (fun i=>!xp.contains i)=((fJ r v ((dE r r.po v so).fin xp) r.ti.length).take k).filter (fun i=>!xp.contains i)++[i]:=by
      rw [htk,List.filter_append];simp only [List.filter_cons,Gt,List.filter_nil];simp
     refine JH I<|Jn<|cE (.of I) ?_;have rT:(nz xp).length=xp.length:=sK xp;have Uj:(nz xp).map (Value.int .i64)=gz xp:=by unfold nz gz;rw [List.map_map];rfl
     with_reducible refine KR.u5 12 (gU [(3,6)]) (by kernel_rfl) ?_
     refine KR.iQ (fun β=>(ag (.of I) (At.lit (.there .here) I))) qz I I ?_;refine KR.iQ (fun β=>(ao (.of I) ae)) qz I I ?_;refine KR.iQ (fun β=>(ag (.of I) (At.lit fg I))) qz I I ?_;dsimp only [Nat.zero_add,Nat.reduceAdd]
     with_reducible apply KR.La (ι:=Value) (Φ:=fun _=>True) (val:=id) (own:=fun v=>[row 3 1 v xp.length (gz xp)]) (g:=id) (B:=[]) (args:=fun _=>[.slice (some ⟨g2,0,none⟩) xp.length dB])
     case hg=>exact fun x=>⟨x,I⟩
     case hB=>rfl
     case hr=>exact fun β=>bj (.of I) (.cons (.of I) .nil) inferInstance I
     case hd=>rfl
     case hn=>rfl
     case hc=>
      intro β w' hb;have:=Oc (l:=nz xp) (D1 hb.mem db Dv) (by rw [sK];omega);rwa [rT,Uj] at this
     dsimp only [id_eq,Nat.reduceAdd];refine KR.iQ (fun β=>(aZ (.of I))) qz I I ?_;refine KR.sh (fun β=>(aB (.cons (.of I) .nil) I I I I)) (fun _ _ _=>rfl) I I ?_;dsimp only [Nat.reduceAdd]
     with_reducible apply KR.D9 (jx:=3) (n0:=xp.length) (xs:=gz xp) (news:=[[.int .i64 (i:Nat)]]) (Vx:=fun β=>β 3) (Vy:=fun β=>.slice (some ⟨eM (β 5),0,none⟩) 1 1) (Ax:=fun β=>[row 3 1 (β 3) xp.length (gz xp)]) (B:=[5])
     case hB=>kernel_rfl
     case hS=>rfl
     case hrow=>exact fun β w' fp ⟨f1,f2,e,h,h0⟩=>by obtain rfl:f2=[]:=h0;rw [e,List.append_nil];exact h
     case htk=>exact pK I I
     case hti=>rfl
     case h0=>rfl
     case hwx=>kernel_rfl
     case hx=>exact fun β=>.of I
     case hy=>exact fun β=>.of I
     case hsrc=>
      intro β w' hb;have m6:=hb.at 5 (by simp) (s:=⟨fun β=>.slice (some ⟨eM (β 5),0,none⟩) 1 1,fun β=>[bC (eM (β 5)) (.cells #[.int .i64 (i:Nat)] 3 (0,0))]⟩) (by kernel_rfl)
      dsimp only [Zb,Za] at m6;exact Mem.df m6 (by exact .here) I I
     case h1=>
      intro r hr u hu;simp only [List.mem_singleton] at hr;subst hr;simp only [List.mem_singleton] at hu;subst hu;rfl
     case hz=>rfl
     case hsz=>rfl
     case hb0=>rfl
     case hb=>simp only [List.length_singleton];omega
     case hd=>rfl
     case hne=>simp
     rw [show ([[Value.int .i64 (i:Nat)]]:List (List Value)).flatten=[.int .i64 (i:Nat)] from I,show ([[Value.int .i64 (i:Nat)]]:List (List Value)).length=1 from I];dsimp only [Nat.reduceAdd];refine KR.iQ (fun β=>(ao (.of I) ae)) qz I I ?_;refine KR.iQ (fun β=>(ag (.of I) (At.lit fg I))) qz I I ?_;refine KR.iQ (fun β=>(H0 (.of I) (.of I) (QO (by omega)))) qz I I ?_
     with_reducible apply KR.iQ (F:=fun β=>.agg #[.slice (w8 (β 6)).1 (xp.length+1) (w8 (β 6)).2,.int .i64 ((xf:Nat)+1)])
     case hr=>(intro β;exact aT (.cons (.of I) (.cons (.of I) .nil)) an)
     case hi=>exact fun β β' h=>by simp only [h 6 (by kernel_rfl)]
     case hd=>rfl
     case hn=>rfl
     dsimp only [Nat.reduceAdd]
     with_reducible apply KR.sh (V:=fun b=>.slice (some ⟨b,0,none⟩) 1 1) (ob:=fun β=>.cells #[.slice (w8 (β 6)).1 (xp.length+1) (w8 (β 6)).2,.int .i64 ((xf:Nat)+1)] 244 (0,0))
     case hr=>(intro β;exact bu (.cons (.of I) .nil) I I bW bW an)
     case hi=>exact fun β β' h=>by simp only [h 6 (by decide) (by kernel_rfl)]
     case hd=>rfl
     case hn=>rfl
     dsimp only [Nat.reduceAdd];refine KR.D8 fun β=>?_
     change Tr _ _ _ [bC (eM (β 5)) (.cells #[.int .i64 (i:Nat)] 3 (0,0)),row 3 1 (.slice (w8 (β 6)).1 (xp.length+1) (w8 (β 6)).2) (xp.length+1) (gz xp++[.int .i64 (i:Nat)]),bC (eM (β 11)) (.cells #[.slice (w8 (β 6)).1 (xp.length+1) (w8 (β 6)).2,.int .i64 ((xf:Nat)+1)] 244 (0,0)),
      bC l2 (gy rc .busy none),bC K0 (.cells #[PU] 329 (0,0)),kN 244 2 PU (R.length+W.length) (nk (R++W)),iP Cm,bC Sd (.cells #[.slice (some ⟨g2,0,none⟩) xp.length dB,.int .i64 (xf:Nat)] 244 (0,0))] _
     generalize eM (β 5)=b5;generalize eM (β 11)=PG;generalize (w8 (β 6)).1=ea;generalize (w8 (β 6)).2=ec;refine tB (rs:=[12]) (by kernel_rfl) (by simp) (List.forall_mem_cons.2 ⟨?_,fun _ h=>absurd h List.not_mem_nil⟩);refine vA I ?_
     with_reducible apply CP
     case hx=>exact Is.of I
     case hy=>exact Is.of I
     case ht=>exact fy
     case hn=>exact eU.bC bT (show eu [.slice ea (xp.length+1) ec,.int .i64 ((xf:Nat)+1)] 0 2=[.slice ea (xp.length+1) ec,.int .i64 ((xf:Nat)+1)] from I)
     case hl=>rfl
     case h1=>exact bJ I (eF I)
     case hz=>exact I
     case hsz=>exact I
     case hb0=>exact I
     case hb=>omega
     case hd=>rfl
     intro v';refine xW (by exact .here) fun a' iu e Nt yO=>?_;subst e;refine Jn ?_;refine tB (rs:=[13]) (by kernel_rfl) (by simp) (List.forall_mem_cons.2 ⟨?_,fun _ h=>absurd h List.not_mem_nil⟩);refine vA I ?_
     (refine au (.of I) (.of I) fy I I (eF I) (bF I) an ?_;refine Jn ?_)
     with_reducible refine Dq (by kernel_rfl) ?_
     refine qu ?_;refine pH (W:=Cm) ⟨.slice ea (xp.length+1) ec,xp++[i],xf+1⟩ (n:=xp.length+1) (x:=gz xp++[.int .i64 (i:Nat)]) re db (by simp) (by unfold gz;rw [List.map_append];rfl) ?_;have TP:nk (R++(W++[⟨.slice ea (xp.length+1) ec,xp++[i],xf+1⟩]))=nk (R++W)++[.slice ea (xp.length+1) ec,.int .i64 ((xf:Nat)+1)]:=by rw [<- Zh];exact zk (R++W) _
     have TO:R.length+(W++[(⟨.slice ea (xp.length+1) ec,xp++[i],xf+1⟩:Wy)]).length=R.length+W.length+1:=by simp [Nat.add_assoc]
     apply lT (.slice a' (R.length+W.length+1) iu,W++[⟨.slice ea (xp.length+1) ec,xp++[i],xf+1⟩],Cm++[⟨.slice ea (xp.length+1) ec,xp++[i],xf+1⟩])
     case ht=>exact fy
     case hx=>
      refine ⟨?_,?_,?_,?_⟩
      ·rw [AP,List.map_append,List.map_append,hW];rfl
      ·intro z hz;rw [<- Zh] at hz;rcases List.mem_append.1 hz with hz | hz
       ·exact List.mem_append_left _ (iY z hz)
       ·exact List.mem_append_right _ hz
      ·intro z hz;rcases List.mem_append.1 hz with hz | hz
       ·exact ir z hz
       ·rw [List.mem_singleton.1 hz];rfl
      ·exact List.mem_append_left _ Dv
     case h2=>
      show bn _ [bC K0 (.cells #[.slice a' (R.length+W.length+1) iu] 329 (0,0)),kN 244 2 (.slice a' (R.length+W.length+1) iu) (R.length+(W++[(⟨.slice ea (xp.length+1) ec,xp++[i],xf+1⟩:Wy)]).length) (nk (R++(W++[⟨.slice ea (xp.length+1) ec,xp++[i],xf+1⟩]))),iP (Cm++[⟨.slice ea (xp.length+1) ec,xp++[i],xf+1⟩]),bC Sd (.cells #[.slice (some ⟨g2,0,none⟩) xp.length dB,.int .i64 (xf:Nat)] 244 (0,0))] _;rw [TO,TP];exact .cons (.there .here) (.cons (.there .here) (.cons .here (.cons bT .nil)))
end Go.Proofs.A1
