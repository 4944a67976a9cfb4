/- Parts of the proof: GkAppO GkRegK GkRegL GkRegR GkRegS KJ KL KM KNq TryzSort KN. -/
import Derived.Test.YteonnodafmegaaaGreatDoorWM07
import Derived.Test.YteonnodafmegaaaGreatDoorWM06
import Derived.Test.YteonnodafmegaaaGreatDoorWM04
import Derived.Test.YteonnodafmegaaaGreatDoorWM03
import Derived.Test.YteonnodafmegaaaGreatDoorWM02
import Derived.Shelf.Sort.Plain
import Derived.Ground.NamesProg
import Derived.Ground.Names2Prog
import Derived.Test.YteonnodafmegaaaGreatDoorProg
import Derived.Shelf.Slices.In.SortNone
set_option linter.unusedSectionVars false
set_option linter.unusedVariables false
set_option linter.unusedSimpArgs false
namespace Go.SL
open Go
theorem EN {h:Nat→Option Obj} {E:TypeId} {sz:Nat} {v:Value} {n:Nat} {xs:List Value} {fp:List Nat} (hr:(kI E sz v n xs).sat h fp):fp=v.ownBlock.toList:=by
 obtain ⟨_,h1⟩:=hr
 rcases h1 with ⟨rfl,rfl,_⟩ | ⟨g,off,cap,cur,rfl,rfl,_⟩
 ·simp [Value.ownBlock]
 ·simp [Value.ownBlock]
section
variable {P:Program} {c:Cx} {D:List Nat} {sl:aH} {hs hs':List bd} {d:Nat} {ty:TypeId} {pos:String} {af:Array Edge} {r:Option Nat} {ops:Array Oper} {Q:Exit→Act→World→Prop} {rest:List Oper}
theorem C7 {t e:TypeId} {agg:Bool} {size bytes:Nat} {z:Value} {x y:Operand} {v:Value} {n b o m cp:Nat} {xs news:List Value} [hu:iV P t (.slice e)] [hT:Ty P e agg size] [hZ:lZ P e z] [hB:wE P e bytes]
  (hx:Is sl x v) (hy:Is sl y (.slice (some ⟨b,o,none⟩) m cp)) (ht:Take hs (kI e size v n xs) hs') (hn:ew c hs b o news) (hl:news.length=m*size) (h1:∀ u∈news,u.oneCell'=true) (hz:z.cells.size=size) (hsz:Nat.blt 0 size=true) (hb0:Nat.blt 0 bytes=true)
  (hb:(n+m)*bytes≤140737488355328) (hd:Nat.blt d c.nt=true)
  (k:∀ v',Tr c D ((d,v')::sl) (kI e size v' (n+m) (xs++news)::hs') (WL P r ops Q rest)) :
  Tr c D sl hs (WL P r ops Q (⟨some d,.call ⟨.builtin .append,#[x,y],#[t,t]⟩,ty,pos,af,none⟩::rest)):=fun a w bh=>by
 obtain ⟨de,i,mq,hi,_,iH⟩:=Ty.parts (P:=P) (t:=e) (agg:=agg) (n:=size)
 have hzero:i.zero=some z:=by have:=hZ.eq;rw [hi] at this;simpa using this
 have gK:i.bytes=bytes:=by have:=hB.eq;rw [hi] at this;simpa using this
 have VJ:=bh.rn
 have hm:=bh.mem.take (ht.append _)
 obtain ⟨kk,fp,lj,⟨f1,f2,rfl,OP,h2⟩,DU⟩:=hm
 obtain ⟨hlen,hrow⟩:=id OP
 have B9:0<bytes:=by simpa using hb0
 have TP:0<size:=by simpa using hsz
 have bV:n+m≤maxLen:=by
  have:(n+m)*1≤(n+m)*bytes:=Zbq _ B9
  unfold maxLen;omega
 have rD:∀ j u,news[j]? = some u→w.cell? ((⟨b,o,none⟩:Addr).add j)=some u:=fun j u hj=>by rw [eK];exact hn.get j u hj w VJ
 have VK:(xs++news).length=(n+m)*size:=by rw [Zg,hlen,hl,Nat.add_mul]
 have key:∃ v' w' lH,(Builtin.append_ #[t,t] ty #[v,.slice (some ⟨b,o,none⟩) m cp]).run P w=.ok v' w'∧aJ f1 w w'∧lH.Nodup∧(kI e size v' (n+m) (xs++news)).sat (hp w') lH∧∀ q∈lH,q∈f1∨w.heap.size≤q:=by
  rcases hrow with ⟨rfl,rfl,rfl⟩ | ⟨g,off,cap,cur,rfl,rfl,hg,hnc,hcm,hfit,htk⟩
  ·have rC:w.ownsRow 0 e size (.slice none 0 0) 0 xs:=⟨hlen,.inl ⟨rfl,rfl⟩⟩
   obtain ⟨v',w',gF,rB,vD,_⟩:=run_append_own (P:=P) w 0 t ty e i z size bytes hu.eq hi hzero iH gK hz (by simpa using hsz) _ 0 xs rC ⟨b,o,none⟩ m cp news hl rD h1 bV hb (Zi _)
   have wX:=qD (P:=P) (t:=t) (ty:=ty) hu.eq hi hzero (by rw [iH];exact rC) (a:=⟨b,o,none⟩) (m:=m) (cp:=cp) (by rw [iH];exact hl) rD h1 bV (by rw [gK];exact hb) gF
   refine ⟨v',w',v'.ownBlock.toList,gF,⟨vD.os,vD.tape,vD.output,wX.2,vD.size,fun q hq _=>vD.block q hq (by simp [Value.ownBlock])⟩,by cases v'.ownBlock <;> simp,og (lQ rB),fun q hq=>?_⟩
   have wx:v'.ownBlock=some q:=by simpa [Option.mem_toList] using hq
   rcases wX.1 with h | h
   ·rw [wx] at h;simp [Value.ownBlock] at h
   ·rw [h] at wx;cases wx;exact .inr (Zz _)
  ·have Uo:w.heap[g]? = some (.cells cur e (0,0)):=hg
   have hgs:g<w.heap.size:=(ZY.1 Uo).1
   have QN:cur.toList=cur.toList.take off++(xs++cur.toList.drop (off+n*size)):=by
    rw [← htk]
    conv=>lhs;rw [← ZZ off cur.toList]
    congr 1
    conv=>lhs;rw [← ZZ (n*size) (cur.toList.drop off)]
    rw [Zbe]
   have O2:cur.size=cur.toList.length:=by simp
   have hns:n*size≤cap*size:=Z7 _ hnc
   have AL:(cur.toList.take off).length=off:=by rw [Zr];omega
   by_cases yy:n+m≤cap
   ·have hms:(n+m)*size≤cap*size:=Z7 _ yy
    rw [Nat.add_mul] at hms
    have Rm:w.heap[g]? = some (.cells cur.toList.toArray e (0,0)):=by rw [ZaW];exact Uo
    obtain ⟨w',h3,h4,h5⟩:=jb (P:=P) (o:=off+n*size) news 0 cur.toList w Rm h1 (by omega)
    have hfc:=run_firstCells_some (P:=P) w i.size m ⟨b,o,none⟩ m cp news (by rw [iH];exact hl) rD
    refine ⟨.slice (some ⟨g,off,none⟩) (n+m) cap,w',[g],?_,h4,by simp,⟨VK,.inr ⟨g,off,cap,_,rfl,rfl,h5,yy,hcm,?_,?_⟩⟩,fun q hq=>.inl hq⟩
    ·subst iH
     have Kk:(⟨g,off,none⟩:Addr).add (n*i.size)=⟨g,off+n*i.size,none⟩:=eK _ _ _
     simp [Builtin.append_,aV hu.eq,sizeOf,typeInfo,hi,Builtin.lenOf,yy,hfc,Kk,h3]
    ·rw [Zbm,kl,← O2];exact hfit
    ·show ((setCells cur.toList (off+n*size+0) news).drop off).take ((n+m)*size)=xs++news
     have e1:setCells cur.toList (off+n*size+0) news=cur.toList.take off++xs++(news++(cur.toList.drop (off+n*size)).drop news.length):=by
      have X1:cur.toList.drop (off+n*size)=(cur.toList.drop (off+n*size)).take news.length++(cur.toList.drop (off+n*size)).drop news.length:=(ZZ _ _).symm
      have hle:((cur.toList.drop (off+n*size)).take news.length).length=news.length:=by rw [Zr,Zbd];omega
      have e2:cur.toList=(cur.toList.take off++xs)++((cur.toList.drop (off+n*size)).take news.length++(cur.toList.drop (off+n*size)).drop news.length):=by rw [← X1,Zh];exact QN
      have Rz:(cur.toList.take off++xs).length=off+n*size+0:=by rw [Zg,AL,hlen,Zaw]
      conv=>lhs;rw [e2]
      rw [← Rz]
      exact zl _ _ _ _ hle.symm
     rw [e1,Zh,← AL]
     conv=>lhs;rw [AL]
     rw [List.drop_left' AL,← VK,← Zh,List.take_left]
   ·have holds:∀ j u,xs[j]? = some u→w.cell? ((⟨g,off,none⟩:Addr).add j)=some u:=fun j u hj=>by
     rw [eK]
     simp only [World.cell?,Uo]
     rw [← htk] at hj
     have aM:j<n*size:=by
      have:=(Zl.1 hj).1
      rw [Zr] at this;omega
     rw [List.getElem?_take_of_lt aM,Zbf] at hj
     simpa using hj
    obtain ⟨v',w',gF,rB,vD⟩:=run_append_arg_grows (P:=P) (w:=w) t ty e i z size bytes hu.eq hi hzero iH gK hz TP ⟨g,off,none⟩ n cap xs hlen holds ⟨b,o,none⟩ m cp news hl rD (by omega) bV hb
    have hr:=run_append_grow (P:=P) w t ty e i z hu.eq hi hzero ⟨g,off,none⟩ n cap xs (by rw [iH];exact hlen) holds ⟨b,o,none⟩ m cp news (by rw [iH];exact hl) rD (by omega) (by unfold maxLen at bV;omega) (growslice_fits (by omega) (by rw [gK];exact hb))
    have DV:w.drawn≤w'.drawn∧v'.ownBlock=some w.heap.size:=by
     rw [gF] at hr
     cases hr
     exact ⟨Nat.le_succ _,rfl⟩
    have T4:w'.ownsRow 0 e size v' (n+m) (xs++news):=⟨rB.1,rB.2.imp id fun ⟨g',gL,YE,e1,_,r⟩=>⟨g',gL,YE,e1,Zi _,r⟩⟩
    refine ⟨v',w',v'.ownBlock.toList,gF,⟨vD.os,vD.tape,vD.output,DV.1,vD.size,fun q hq _=>vD.block q hq (by simp)⟩,by cases v'.ownBlock <;> simp,og (lQ T4),fun q hq=>?_⟩
    rw [DV.2] at hq
    simp at hq
    exact .inr (by omega)
 obtain ⟨v',w',lH,gF,hk,hnf,iz,wX⟩:=key
 refine mr rfl ⟨dN _ _ _ _ _,?_⟩
 rw [Oper.semAt_eq _ _ _ (by simp)]
 have:(execOp a.eval ⟨some d,.call ⟨.builtin .append,#[x,y],#[t,t]⟩,ty,pos,af,none⟩).run P w=.ok (.value v') w':=by
  simp [execOp,resolve,invoke,builtin,hx a bh.c5,hy a bh.c5,gF]
 rw [this]
 refine k v' _ _ ((bh.put (by simpa [Z2] using hd) v').heap ?_)
 have ml:Mem c ([kI e size v n xs]++(hs'++mE D)) w:=bh.mem.take (ht.append _)
 have:=Mem.change (Bs:=[kI e size v' (n+m) (xs++news)]) (w':=w') ml fun fp uo hf=>by
  obtain ⟨g1,g2,e1,hr,e2⟩:=hf
  obtain rfl:g2=[]:=e2
  have h3:=EN hr
  have h4:=EN OP
  rw [ZU] at e1
  subst e1
  rw [h3,← h4]
  exact ⟨hk,lH,hnf,⟨lH,[],by simp,iz,rfl⟩,wX⟩
 exact this
end
end Go.SL
namespace Go.SL
open Go
theorem Mem.F7 {c:Cx} {As hs':List bd} {w:World} (hm:Mem c (As++hs') w):∃ fp:List Nat,fp.Nodup∧ct (hp w) As fp ∧
  ∀ (Bs:List bd) (w':World),aJ fp w w'→(∃ lH:List Nat,lH.Nodup∧ct (hp w') Bs lH∧∀ b∈lH,b∈fp∨w.heap.size≤b)→Mem c (Bs++hs') w':=by
 obtain ⟨kk,fp,hn,iz,hb⟩:=hm
 obtain ⟨f1,f2,rfl,h1,h2⟩:=ct.append_iff.1 iz
 obtain ⟨n1,n2,n12⟩:=ZH.1 hn
 refine ⟨f1,n1,h1,fun Bs w' hk ⟨lH,uo,hs',yC⟩=>?_⟩
 have aM:∀ b∈f2,b<w.heap.size:=fun b dz=>let ⟨o,ho⟩:=h2.own b dz;j8 ho
 refine ⟨?_,lH++f2,?_,ct.append_iff.2 ⟨lH,f2,rfl,hs',h2.loc fun b dz=>?_⟩,?_⟩
 ·refine ⟨hk.os.trans kk.os,hk.tape.trans kk.tape,hk.output.trans kk.output,ZX kk.dr hk.dr,ZX kk.size hk.size,fun b dz hm=>?_⟩
  rw [← kk.block b dz hm]
  refine hk.block b (ZaI dz kk.size) (fun hf=>?_)
  rcases hb b (ZE _ hf) with h | h
  ·omega
  ·exact hm h
 ·refine ZH.2 ⟨uo,n2,fun x hx y hy e=>?_⟩
  subst e
  rcases yC x hx with h | h
  ·exact n12 x h x hy rfl
  ·have:=aM x hy;omega
 ·exact hk.block b (aM b dz) (fun hf=>n12 b hf b dz rfl)
 ·intro b dz
  rcases Zx.1 dz with h | h
  ·rcases yC b h with h | h
   ·exact hb b (ZE _ h)
   ·exact .inl (ZX kk.size h)
  ·exact hb b (ZT _ h)
theorem uX {β:Nat→Value} (p q:Nat→Bool):∀ (S:List cI) (i:Nat),(dR β p S i).Perm (dR β (fun j=>p j&&q j) S i++dR β (fun j=>p j&&!q j) S i)
 | [],_=>.nil
 | s :: S, i => by
  have ih:=uX (β:=β) p q S (i+1)
  unfold dR
  cases hp:p i <;> cases hq:q i <;> simp only [Bool.and_true,Bool.and_false,Bool.not_true,Bool.not_false,Bool.false_and,ZaA,if_true,if_false,Za,reduceIte]
  ·simpa using ih
  ·simpa using ih
  ·simp only [ZaT,if_false,Za]
   refine (ih.append_left _).trans ?_
   rw [← Zh,← Zh]
   exact List.perm_append_comm.append_right _
  ·simp only [ZaT,if_false,Za]
   rw [Zh]
   exact ih.append_left _
theorem q8 {β:Nat→Value} {q:Nat→Bool}:∀ {S:List cI} {n i:Nat},(∀ j,i+n≤j→q j=false)→dR β q S i=dR β q (S.take n) i
 | [],n,i,_=>by rw [List.take_nil]
 | s :: S, 0, i, h => by
  rw [Ze]
  unfold dR
  rw [h i (by omega),q8 (n:=0) fun j hj=>h j (by omega),Ze];rfl
 | s :: S, n + 1, i, h => by
  rw [List.take_succ_cons]
  unfold dR
  rw [q8 (n:=n) (i:=i+1) fun j hj=>h j (by omega)]
def pk (tk:Nat→Nat) (lst:Nat→Bool) (j:Nat):Bool:=lst j&&!(Nat.blt 0 (tk j)&&lst (tk j))
def iL (tk:Nat→Nat) (i j:Nat):Bool:=Nat.blt 0 i&&Nat.beq (tk j) i
section
variable {P:Program} {c:Cx} {D:List Nat} {sl:aH} {hs:List bd} {Q:Exit→Act→World→Prop} {l:List Oper} {m:Nat} {tk:Nat→Nat}
def Le (i:Nat) (s:cI) (β:Nat→Value) (w:World) (sC:List Nat) (v:Value) (w':World):Prop:=∃ x,v=s.F (uD β i x)∧aJ sC w w'∧∃ fp:List Nat,fp.Nodup∧ct (hp w') (s.A (uD β i x)) fp∧∀ b∈fp,b∈sC∨w.heap.size≤b
structure Lc (P:Program) (c:Cx) (hs:List bd) (l:List Oper) (tk:Nat→Nat) (i:Nat) (o:Oper) (SL:(Nat→Value)→aH) (S:List cI) (s:cI):Prop where
 zV:mQ l i s.F
 zW:mQ l i s.A
 run:∃ B:List Nat,(∀ j∈B,jO l o j=true∧tk j=0)∧∀ β a w sC,bU (SL β) a→jJ c hs S B β w→ct (hp w) (dR β (iL tk i) S 0) sC→if Region.wanted o (yielded l.toArray a.tmps)=true then oU P o a w (Le i s β w sC) else Le i s β w sC undef w
 waits:∀ j,tk j=i→0<i→eY o j=true
inductive wg (P:Program) (c:Cx) (hs:List bd) (l:List Oper) (tk:Nat→Nat):Nat→List Oper→((Nat→Value)→aH)→List cI→List cI→((Nat→Value)→aH)→Prop
 | nil {i:Nat} {SL:(Nat→Value)→aH} {S:List cI}:wg P c hs l tk i [] SL S S SL
 | step {i d:Nat} {o:Oper} {rest:List Oper} {SL ny:(Nat→Value)→aH} {S S':List cI} {s:cI} (hd:o.dst=some d) (fJ:d<c.nt) (h:Lc P c hs l tk i o SL S s)
   (t:wg P c hs l tk (i+1) rest (fun β=>(d,s.F β)::SL β) (S++[s]) S' ny):wg P c hs l tk i (o::rest) SL S S' ny
theorem wg.spec {i:Nat} {rest:List Oper} {SL ny:(Nat→Value)→aH} {S S':List cI} (h:wg P c hs l tk i rest SL S S' ny):∀ pre:List Oper,pre.length=i→S.length=i→nG sl pre SL S →
  S'.length=i+rest.length∧S <+: S'∧nG sl (pre++rest) ny S'∧∀ k o,i≤k→(pre++rest)[k]? = some o→∃ d FM s,o.dst=some d∧d<c.nt∧S'[k]? = some s∧nG sl ((pre++rest).take k) FM (S'.take k)∧Lc P c hs l tk k o FM (S'.take k) s:=by
 induction h with
 | @nil i SL S =>
  intro pre hp hS kP
  refine ⟨by simpa using hS,List.prefix_rfl,by simpa using kP,fun k o hk ho=>?_⟩
  have:=(Zl.1 ho).1
  simp at this;omega
 | @step i d o rest SL ny S S' s hd fJ bh t ih =>
  intro pre hp hS kP
  obtain ⟨h1,h2,h3,h4⟩:=ih (pre++[o]) (by simp [hp]) (by simp [hS]) (kP.step (by omega) hd)
  rw [Zh,List.singleton_append] at h3 h4
  have Gw:S <+: S':=(Zbh S [s]).trans h2
  have rF:S'[i]? = some s:=by
   obtain ⟨r,rfl⟩:=h2
   rw [Zh,ZK (by omega),hS];simp
  have Yo:S'.take i=S:=by
   obtain ⟨r,rfl⟩:=Gw
   rw [← hS];simp
  refine ⟨by rw [h1];simp;omega,Gw,h3,fun k ok hk ho=>?_⟩
  by_cases e:k=i
  ·subst e
   have Fc:ok=o:=by
    rw [ZK (by omega),hp] at ho
    simpa using ho.symm
   subst Fc
   have htk:(pre++ok::rest).take k=pre:=by rw [← hp];simp
   rw [htk,Yo]
   exact ⟨d,SL,s,hd,fJ,rF,kP,bh⟩
  ·exact h4 k ok (by omega) ho
structure Vo (c:Cx) (D:List Nat) (hs:List bd) (l:List Oper) (tk:Nat→Nat) (m:Nat) (S:List cI) (a0:Act) (fuel:Nat) (listed:Array Bool) (a:Act) (w:World):Prop where
 sz:listed.size=l.length
 dc:DC l (Ls listed)
 hi:∀ k,m≤k→¬ Ls listed k
 defers:a.defers=D.map mark
 size:a.tmps.size=c.nt
 BH:∀ t,(∀ (j:Nat) (o:Oper),l[j]? = some o→Ls listed j→o.dst≠some t)→a.tmps[t]? = a0.tmps[t]?
 left:∃ U:List Nat,U.Nodup∧(∀ i,i∈U↔i<l.length∧¬ Ls listed i)∧U.length=fuel
 own:∃ β:Nat→Value,Mem c (dR β (pk tk (fun i=>listed.getD i false)) S 0++(hs++mE D)) w∧∀ (j:Nat) (o:Oper) (d:Nat) (s:cI),l[j]? = some o→o.dst=some d→S[j]? = some s→Ls listed j→a.tmps[d]? = some (s.F β)
end
end Go.SL
namespace Go.SL
open Go
def k9:List (Nat×Nat)→Nat→Nat
 | [],_=>0
 | p::r,j=>bif Nat.beq p.1 j then p.2 else k9 r j
theorem tW:∀ {rP:List (Nat×Nat)} {i j:Nat},(rP.all fun p=>!Nat.beq p.2 i)=true→k9 rP j=i→0<i→False
 | [], i, j, _, h, hp => by
  have h:0=i:=h
  omega
 | p :: r, i, j, h, h2, hp => by
  rw [List.all_cons,Zm] at h
  unfold k9 at h2
  cases e:Nat.beq p.1 j with
  | true=>rw [e] at h2;have h2:p.2=i:=h2;rw [h2] at h;simp at h
  | false=>rw [e] at h2;exact tW h.2 h2 hp
theorem xN:∀ {rP:List (Nat×Nat)} {i jx:Nat},(rP.all fun p=>!Nat.beq p.2 i||Nat.beq p.1 jx)=true→Nat.blt 0 i=true→∀ k,k9 rP k=i→k=jx
 | [], i, jx, _, h0, k, h => by
  have h:0=i:=h
  subst h;cases h0
 | p :: r, i, jx, h, h0, k, hk => by
  rw [List.all_cons,Zm] at h
  unfold k9 at hk
  cases e:Nat.beq p.1 k with
  | true =>
   rw [e] at hk
   have hk:p.2=i:=hk
   have h1:=h.1
   rw [hk,show Nat.beq i i=true by simp] at h1
   have e1:=Zag e
   have e2:=Zag (show Nat.beq p.1 jx=true by simpa using h1)
   omega
  | false=>rw [e] at hk;exact xN h.2 h0 k hk
section
variable {P:Program} {c:Cx} {D:List Nat} {sl:aH} {hs hs':List bd} {X:Act→World→Prop} {Q:Exit→Act→World→Prop} {l:List Oper} {m i n d:Nat} {rP:List (Nat×Nat)} {op:Op} {ty:TypeId} {pos:String} {af:Array Edge} {rest:List Oper} {SL:(Nat→Value)→aH} {S:List cI}
theorem BA {β:Nat→Value} {p:Nat→Bool} {s:cI}:∀ {S:List cI} {i jx:Nat},S[jx]? = some s→(∀ k,p k=Nat.beq k (i+jx))→dR β p S i=s.A β
 | [],_,_,h,_=>by simp at h
 | s0 :: S, i, 0, h, hp => by
  simp only [Zay,Option.some.injEq] at h
  subst h
  unfold dR
  rw [hp i,show Nat.beq i (i+0)=true by simp,if_pos rfl]
  have:dR β p S (i+1)=[]:=by
   have h:=q8 (β:=β) (q:=p) (S:=S) (n:=0) (i:=i+1) fun j hj=>by
    rw [hp j]
    exact ZaY.2 fun e=>by have:=Zag e;omega
   rw [h,Ze];rfl
  rw [this,ZU]
 | s0 :: S, i, jx + 1, h, hp => by
  unfold dR
  rw [hp i,show Nat.beq i (i+(jx+1))=false from ZaY.2 fun e=>by have:=Zag e;omega]
  simp only [ZaT,if_false,Za]
  exact BA (i:=i+1) (jx:=jx) (by simpa using h) fun k=>by rw [hp k,show i+(jx+1)=i+1+jx by omega]
end
end Go.SL
namespace Go.SL.KR
open Go Go.SL
section
variable {P:Program} {c:Cx} {D:List Nat} {sl:aH} {hs:List bd} {Q:Exit→Act→World→Prop} {l:List Oper} {m:Nat} {tk:Nat→Nat}
variable {r0:Option Nat}
theorem Qi {p:Nat} (hc:Lg l m p) (Gw:p<m→False) (VX:∀ c a w,¬ Q (.panic c) a w) {S:List cI} {ny:(Nat→Value)→aH} (T3:wg P c hs l tk 0 (l.take m) (fun _=>sl) [] S ny) {a0:Act} (h0:bU sl a0) (JX:a0.tmps.size=c.nt)
  (tail:∀ β a w,St c D (ny β) (dR β (pk tk (fun i=>Nat.blt i m)) S 0++hs) a w→wpAnyIn (FR r0) 0 P .any l.toArray Q (l.length-m) (lK l.length m) a w) :
  ∀ (fuel:Nat) (listed:Array Bool) (a:Act) (w:World),Vo c D hs l tk m S a0 fuel listed a w→wpAnyIn (FR r0) 0 P .any l.toArray Q fuel listed a w:=by
 have hle:=hc.le
 have JO:nG sl [] (fun _=>sl) []:=fun β t v hv=>.inr ⟨fun oj h=>(Zp h).elim,hv⟩
 obtain ⟨Cd,_,kP,fU⟩:=T3.spec (sl:=sl) [] rfl rfl JO
 rw [Za] at kP fU
 rw [ZC,Zr,Zbk hle] at Cd
 have dY:∀ (j:Nat) (o:Oper),j<m→l[j]? = some o→(l.take m)[j]? = some o:=fun j o hj ho=>by rw [ZG,if_pos hj];exact ho
 have fy:∀ (j:Nat) (o:Oper),(l.take m)[j]? = some o→j<m∧l[j]? = some o:=fun j o ho=>by
  rw [ZG] at ho
  split at ho
  ·exact ⟨by assumption,ho⟩
  ·cases ho
 have O7:∀ j,j<m→∃ s,S[j]? = some s:=fun j hj=>⟨S[j]'(by omega),Zc (by omega)⟩
 have mH:∀ fuel listed a w,Vo c D hs l tk m S a0 fuel listed a w→(∀ i,i<m→Ls listed i)→wpAnyIn (FR r0) 0 P .any l.toArray Q fuel listed a w:=by
  intro fuel listed a w hI dZ
  have hL:∀ i,i<l.length→(Ls listed i↔i<m):=fun i _=>⟨fun h=>ZR fun hm=>hI.hi i hm h,dZ i⟩
  obtain ⟨U,xg,qm,sA⟩:=hI.left
  have ig:U.Perm (List.range' m (l.length-m)):=by
   rw [Zaz xg (Zbz)]
   intro i
   rw [qm i,ZaM]
   constructor
   ·rintro ⟨h1,h2⟩
    exact ⟨ZaS fun h=>h2 (dZ i h),by omega⟩
   ·rintro ⟨h1,h2⟩
    exact ⟨by omega,hI.hi i h1⟩
  have hlen:fuel=l.length-m:=by rw [← sA,ig.length_eq,Zbv]
  have JY:listed=lK l.length m:=by
   have vr:(lK l.length m).size=l.length:=by simp [lK];omega
   apply Array.ext
   ·rw [hI.sz,vr]
   ·intro i h1 h2
    rw [hI.sz] at h1
    have h3:=hL i h1
    unfold Ls at h3
    rw [Zy,Zar (by rw [hI.sz];exact h1),Zab] at h3
    have h4:(lK l.length m)[i]=decide (i<m):=by
     simp only [lK,List.getElem_toArray]
     by_cases hi:i<m
     ·rw [Zat (by simpa using hi)];simp [hi]
     ·rw [Zao (by simpa using hi)];simp [hi]
    rw [h4]
    by_cases hi:i<m
    ·rw [h3.2 hi];simp [hi]
    ·have:¬ listed[i]=true:=fun h=>hi (h3.1 h)
     simp [hi,this]
  subst hlen
  rw [JY]
  obtain ⟨β,hm,jt⟩:=hI.own
  have Rb:∀ i,listed.getD i false=Nat.blt i m:=fun i=>by
   by_cases hi:i<m
   ·rw [show Nat.blt i m=true from by simpa [Z2] using hi];exact dZ i hi
   ·have h1:¬ listed.getD i false=true:=hI.hi i (by omega)
    have h2:¬ Nat.blt i m=true:=by simpa [Z2] using hi
    rw [Zau] at h1 h2
    rw [h1,h2]
  have e:dR β (pk tk (fun i=>listed.getD i false)) S 0=dR β (pk tk (fun i=>Nat.blt i m)) S 0:=ix fun j s hj=>⟨by unfold pk;simp only [Rb],fun _=>rfl⟩
  rw [e] at hm
  refine tail β a w ⟨by rw [Zh];exact hm,fun t v hv=>?_,hI.size,hI.defers⟩
  rcases kP β t v hv with ⟨j,oj,s,h1,h2,h3,h4⟩ | ⟨h1,h2⟩
  ·obtain ⟨iq,mm⟩:=fy j oj h1
   rw [h4];exact jt j oj t s mm h2 h3 (dZ j iq)
  ·rw [hI.BH t fun j oj hj jK=>h1 oj (ZV (dY j oj (ZR fun hm=>hI.hi j hm jK) hj))]
   exact h0 t v h2
 intro fuel
 induction fuel with
 | zero =>
  intro listed a w hI
  obtain ⟨U,_,qm,sA⟩:=hI.left
  have hU:U=[]:=Zan.1 sA
  refine mH 0 listed a w hI fun i hi=>Classical.byContradiction fun hn=>?_
  have:=(qm i).2 ⟨by omega,hn⟩
  rw [hU] at this;cases this
 | succ fuel ih =>
  intro listed a w hI
  by_cases dZ:∀ i,i<m→Ls listed i
  ·exact mH _ listed a w hI dZ
  ·have hex:∃ i,i<m∧¬ Ls listed i:=Classical.byContradiction fun hh=>dZ fun i hi=>Classical.byContradiction fun hn=>hh ⟨i,hi,hn⟩
   obtain ⟨i0,wZ,pC⟩:=hex
   have main:∀ i,i∈Region.ready .any l.toArray listed→i<m→wpOpIn (FR r0) 0 P l.toArray Q i (wpAnyIn (FR r0) 0 P .any l.toArray Q fuel (listed.setIfInBounds i true)) a w∧(i=p→wpAnyIn (FR r0) 0 P .any l.toArray Q (fuel+1) listed a w):=by
    intro i hi pf
    obtain ⟨o,ho,hn,lV⟩:=(dD hI.sz).1 hi
    obtain ⟨d,FM,s,hd,fJ,rF,tt,eJ⟩:=fU i o (Zi _) (dY i o pf ho)
    obtain ⟨zV,zW,⟨B,hB,gF⟩,QG⟩:=eJ
    obtain ⟨β,hm,jt⟩:=hI.own
    have kD:∀ (j:Nat),eY o j=true→Ls listed j:=fun j hw=>by
     obtain ⟨e,he,hb,nP⟩:=df hw
     rw [← nP];exact lV e he hb
    have vq:∀ (j:Nat),jO l o j=true→Ls listed j:=fun j hw=>by
     unfold jO at hw
     rw [ZO] at hw
     rcases hw with hw | hw
     ·exact kD j hw
     ·obtain ⟨k,_,hk⟩:=ZM.1 hw
      rw [Zm] at hk
      have GI:=kD k hk.1
      cases hq:l[k]? with
      | none=>rw [hq] at hk;cases hk.2
      | some q =>
       rw [hq] at hk
       obtain ⟨e,he,hb,nP⟩:=df hk.2
       rw [← nP]
       exact hI.dc k q hq GI e he hb
    have pL:∀ (j:Nat) (oj:Oper) (e:Nat),l[j]? = some oj→j<m→j≠i→oj.dst=some e→d≠e:=by
     intro j oj e hj iq hne he
     rcases Zbo j i with h | h
     ·exact fun e'=>(dq (j5 hc h pf hj ho) he hd).1 e'.symm
     ·exact (dq (j5 hc (show i<j by omega) iq ho hj) hd he).1
    have gU:i<listed.size:=by rw [hI.sz];omega
    have CO:nf o=true:=hc.op o (ZV ho)
    -- AJ c5 PV AJ operation looks at
    have hT:∀ t∈o.looksAt l.toArray,∀ v,cS (FM β) t=some v→a.tmps[t]? = some v:=by
     intro t ht v hv
     rcases tt β t v hv with ⟨j,oj,sj,h1,h2,h3,h4⟩ | ⟨h1,h2⟩
     ·have nC:j<i:=by have:=(Zl.1 h1).1;rw [Zr] at this;omega
      rw [ZG,if_pos nC] at h1 h3
      obtain ⟨iq,mm⟩:=fy j oj h1
      have jK:=kD j ((dq (j5 hc nC pf mm ho) h2 hd).2 (.inl ht))
      rw [h4];exact jt j oj t sj mm h2 h3 jK
     ·rw [hI.BH t fun j oj hj jK iI=>?_]
      ·exact h0 t v h2
      ·have iq:j<m:=ZR fun hm=>hI.hi j hm jK
       rcases Zam j i with h | h | h
       ·exact h1 oj (ZV (by rw [ZG,if_pos h];exact dY j oj iq hj)) iI
       ·subst h;exact hn jK
       ·have hw:=(dq (j5 hc h iq ho hj) hd iI).2 (.inr ht)
        obtain ⟨e,he,hb,nP⟩:=df hw
        have:=hI.dc j oj hj jK e he hb
        rw [nP] at this
        exact hn this
    have vC:∀ t v,cS (FM β) t=some v→t<c.nt:=by
     intro t v hv
     rcases tt β t v hv with ⟨j,oj,sj,h1,h2,_,_⟩ | ⟨_,h2⟩
     ·have nC:j<i:=by have:=(Zl.1 h1).1;rw [Zr] at this;omega
      rw [ZG,if_pos nC] at h1
      obtain ⟨d',_,_,wz,Ab,_⟩:=fU j oj (Zi _) h1
      rw [h2] at wz;cases wz
      exact Ab
     ·have:=h0 t v h2
      rw [← JX]
      exact (ZY.1 this).1
    obtain ⟨a',lW,jD,_⟩:=oL hI.size vC hT
    have Ad:jJ c hs (S.take i) B β w:=by
     rintro A (rfl | ⟨j,hj,sj,h1,rfl⟩)
     ·exact hm.sublist ((ZaG _ _).trans (ZaQ _ _))
     ·have nC:j<i:=by have:=(Zl.1 h1).1;rw [Zr] at this;omega
      rw [ZG,if_pos nC] at h1
      have jK:=vq j (hB j hj).1
      exact hm.sublist ((q7 (lst:=pk tk (fun i=>listed.getD i false)) (i:=0) h1 (by rw [Nat.zero_add];unfold pk;dsimp only;rw [(hB j hj).2,show listed.getD j false=true from jK];rfl)).append (List.sublist_append_left _ _))
    have Lx:listed.getD i false=false:=by have h:¬ listed.getD i false=true:=hn;simpa using h
    have Y7:∀ j,iL tk i j=true→eY o j=true:=fun j h=>by
     unfold iL at h
     rw [Zm] at h
     exact QG j (by simpa using h.2) (by simpa [Z2] using h.1)
    have Y8:∀ j,iL tk i j=true→j<i:=fun j h=>by
     obtain ⟨e,he,hb,nP⟩:=df (Y7 j h)
     have:=jX hc.ac ho e he hb
     omega
    have hpk:∀ j,iL tk i j=true→pk tk (fun i=>listed.getD i false) j=true:=fun j h=>by
     have h1:listed.getD j false=true:=kD j (Y7 j h)
     have h2:tk j=i:=by unfold iL at h;rw [Zm] at h;simpa using h.2
     unfold pk;dsimp only
     rw [h1,h2,Lx]
     simp
    have etk:dR β (fun j=>pk tk (fun i=>listed.getD i false) j&&iL tk i j) S 0=dR β (iL tk i) (S.take i) 0:=by
     rw [q8 (n:=i) fun j hj=>by
      rw [ZC] at hj
      cases ht:iL tk i j with
      | false=>rw [Bool.and_false]
      | true=>have:=Y8 j ht;omega]
     refine ix fun j sj _=>⟨?_,fun _=>rfl⟩
     rw [ZC]
     cases ht:iL tk i j with
     | false=>rw [Bool.and_false]
     | true=>rw [hpk j ht];rfl
    have hmS:=hm.perm ((uX (β:=β) (pk tk (fun i=>listed.getD i false)) (iL tk i) S 0).append_right _)
    rw [Zh,etk] at hmS
    obtain ⟨sC,_,TT,Up⟩:=Mem.F7 hmS
    have hq:=gF β a' w sC lW Ad TT
    have hex:=iA (o:=o) (ops:=l.toArray) CO jD
    -- PL a done operation S8 U2 not UC on this one
    have oH:∀ j,Ls listed j→∀ x k,wb l j k=true→β k=uD β i x k:=by
     intro j jK x k hk
     refine (uC fun e=>?_).symm
     subst e
     unfold wb at hk
     rw [ZO] at hk
     rcases hk with hk | hk
     ·have:j=k:=by simpa using hk
      subst this;exact hn jK
     ·have Lz:j<l.length:=by
       have iq:j<m:=ZR fun hm=>hI.hi j hm jK
       omega
      exact hn (ia hI.dc hc.ac j Lz jK k hk)
    have gO:∀ v w',Le i s β w sC v w'→wpAnyIn (FR r0) 0 P .any l.toArray Q fuel (listed.setIfInBounds i true) (a.put o.dst v) w':=by
     rintro v w' ⟨x,rfl,hk,fp,lj,iz,w7⟩
     refine ih _ _ _ ⟨by simpa using hI.sz,?_,?_,by rw [hd];exact hI.defers,by simpa [Act.put,hd] using hI.size,?_,?_,uD β i x,?_,?_⟩
     ·intro k ok rQ hL e he hb
      rw [cA gU] at hL ⊢
      rcases hL with e' | hL
      ·subst e'
       rw [ho] at rQ;cases rQ
       exact .inr (lV e he hb)
      ·exact .inr (hI.dc k ok rQ hL e he hb)
     ·intro k rQ hL
      rw [cA gU] at hL
      rcases hL with e | hL
      ·omega
      ·exact hI.hi k rQ hL
     ·intro t ht
      have h1:d≠t:=fun e=>by subst e;exact ht i o ho ((cA gU).2 (.inl rfl)) hd
      rw [hd]
      simp only [Act.put,ZJ h1]
      exact hI.BH t fun j oj hj hL=>ht j oj hj ((cA gU).2 (.inr hL))
     ·obtain ⟨U,xg,qm,sA⟩:=hI.left
      refine ⟨U.erase i,xg.erase i,fun k=>?_,?_⟩
      ·rw [xg.mem_erase_iff,qm k,cA gU]
       constructor
       ·rintro ⟨h1,h2,h3⟩
        exact ⟨h2,fun h=>h.elim h1 h3⟩
       ·rintro ⟨h1,h2⟩
        exact ⟨fun e=>h2 (.inl e),h1,fun h=>h2 (.inr h)⟩
      ·have Ri:i∈U:=(qm i).2 ⟨by omega,hn⟩
       rw [ZaF Ri,sA];rfl
     ·have ml:=Up _ w' hk ⟨fp,lj,iz,w7⟩
      have e1:dR β (fun j=>pk tk (fun i=>listed.getD i false) j&&!iL tk i j) S 0=dR (uD β i x) (fun j=>pk tk (fun i=>listed.getD i false) j&&!iL tk i j) S 0:=ix fun j sj hj=>by
       refine ⟨rfl,fun hl=>?_⟩
       rw [ZC] at hl
       have hl:listed.getD j false=true:=by
        unfold pk at hl
        simp only [Zm] at hl
        exact hl.1.1
       have iq:j<m:=by have:=(Zl.1 hj).1;omega
       obtain ⟨oj,JU⟩:∃ oj,l[j]? = some oj:=⟨l[j]'(by omega),Zc (by omega)⟩
       obtain ⟨_,_,s2,_,_,hs2,_,vz⟩:=fU j oj (Zi _) (dY j oj iq JU)
       rw [hj] at hs2;cases hs2
       exact vz.zW _ _ (oH j hl x)
      rw [e1,← Zh] at ml
      have pB:∀ k,(listed.setIfInBounds i true).getD k false=(listed.getD k false||Nat.beq k i):=fun k=>by
       by_cases Rg:k=i
       ·subst Rg
        rw [show Nat.beq k k=true by simp,Bool.or_true]
        exact (cA gU).2 (.inl rfl)
       ·rw [show Nat.beq k i=false from ZaY.2 fun h=>Rg (Zag h),Bool.or_false]
        simp [Zy,ZJ (Ne.symm Rg)]
      refine ml.perm ((rb (k:=i) rF ?_ ?_ ?_).append_right _)
      ·rw [ZC]
       unfold pk;dsimp only
       rw [Lx];rfl
      ·rw [ZC]
       unfold pk;dsimp only
       rw [pB,show Nat.beq i i=true by simp,Bool.or_true,ZaA]
       by_cases QL:tk i=0
       ·rw [QL];rfl
       ·have WU:0<tk i:=Nat.pos_of_ne_zero QL
        have qh:listed.getD (tk i) false=false:=by
         cases hh:listed.getD (tk i) false with
         | false=>rfl
         | true =>
          exfalso
          have hLt:Ls listed (tk i):=hh
          have VC:tk i<m:=ZR fun hm=>hI.hi _ hm hLt
          obtain ⟨ot,hot⟩:∃ ot,l[tk i]? = some ot:=⟨l[tk i]'(by omega),Zc (by omega)⟩
          obtain ⟨_,_,_,_,_,_,_,Xm⟩:=fU (tk i) ot (Zi _) (dY _ ot VC hot)
          obtain ⟨e,he,hb,nP⟩:=df (Xm.waits i rfl WU)
          have:=hI.dc (tk i) ot hot hLt e he hb
          rw [nP] at this
          exact hn this
        have hne:Nat.beq (tk i) i=false:=by
         cases hh:Nat.beq (tk i) i with
         | false=>rfl
         | true =>
          exfalso
          have e:tk i=i:=by simpa using hh
          have:=Y8 i (by unfold iL;rw [hh,Bool.and_true];rw [e] at WU;simpa [Z2] using WU)
          omega
        rw [pB,qh,hne];simp
      ·intro j hj
       rw [ZC] at hj
       unfold pk;dsimp only
       rw [pB,pB,show Nat.beq j i=false from ZaY.2 fun h=>hj (Zag h),Bool.or_false]
       unfold iL
       cases h1:Nat.beq (tk j) i with
       | false=>simp
       | true =>
        have e:tk j=i:=by simpa using h1
        rw [e,Lx]
        cases Nat.blt 0 i <;> simp
     ·intro j oj e sj hj he jN hL
      rw [cA gU] at hL
      by_cases nC:j=i
      ·subst nC
       rw [ho] at hj;cases hj
       rw [hd] at he;cases he
       rw [rF] at jN;cases jN
       rw [hd]
       simp [Act.put,hI.size,fJ]
      ·have AS:=hL.resolve_left nC
       have iq:j<m:=ZR fun hm=>hI.hi j hm AS
       obtain ⟨_,_,s2,_,_,hs2,_,vz⟩:=fU j oj (Zi _) (dY j oj iq hj)
       rw [jN] at hs2;cases hs2
       rw [hd]
       simp only [Act.put,ZJ (pL j oj e hj iq nC he)]
       rw [← vz.zV _ _ (oH j AS x)]
       exact jt j oj e sj hj he jN AS
    have OT:=hq
    refine ⟨?_,fun Uk=>?_⟩
    rotate_left
    ·subst Uk
     exact (Gw pf).elim
    unfold wpOpIn
    rw [show l.toArray[i]? = some o from by simpa using ho]
    simp only []
    rw [gX jD] at hq
    split
    ·rename_i hw
     rw [if_pos hw] at hq
     refine ⟨dN _ _ _ _ _,?_⟩
     rw [Oper.semAt_eq _ _ _ (fun cc he=>by simp [nf,he] at CO),← hex]
     unfold oU at hq
     revert hq
     generalize (execOp a'.eval o).run P w=res
     intro hq
     match res,hq with
     | .ok (.value v) w',hq=>exact gO v w' hq
     | .ok (.enter f args) w', ⟨e, cz⟩ =>
      subst e
      refine ⟨by simp [FR,Fence.wide],(ij cz).mono fun e wG h=>?_⟩
      obtain ⟨v,rfl,hq⟩:=h
      exact gO v wG hq
    ·rename_i hw
     rw [if_neg hw] at hq
     exact ⟨fun _ _=>trivial,gO undef w hq⟩
   by_cases hp:p<m∧p∈Region.ready .any l.toArray listed
   ·exact (main p hp.2 hp.1).2 rfl
   ·refine ⟨fun hr=>?_,fun i hi=>?_⟩
    ·obtain ⟨i,hi⟩:=jq hI.sz hc.ac ⟨i0,by omega,pC⟩
     rw [hr] at hi;cases hi
    ·have pf:i<m:=ZR fun hm=>by
      have Lw:=tb hc hI.sz hI.dc hi hm
      by_cases Js:p<m
      ·by_cases UI:Ls listed p
       ·exact pC (by
         by_cases e:i0=p
         ·rw [e];exact UI
         ·exact Lw i0 wZ e)
       ·refine hp ⟨Js,(dD hI.sz).2 ⟨l[p]'(by omega),Zc (by omega),UI,fun e he hb=>?_⟩⟩
        have aM:=jX hc.ac (Zc (show p<l.length by omega)) e he hb
        exact Lw e.on (by omega) (by omega)
      ·exact pC (Lw i0 wZ (by omega))
     exact (main i hi pf).1
def tT (tk:Nat→Nat) (P:Program) (r0:Option Nat) (c:Cx) (D:List Nat) (hs:List bd) (l:List Oper) (Q:Exit→Act→World→Prop) (m i n:Nat) (rest:List Oper) (SL:(Nat→Value)→aH) (S:List cI):Prop:=
 ∃ S' ny,wg P c hs l tk i (rest.take n) SL S S' ny∧∀ β,Tr c D (ny β) (dR β (pk tk (fun i=>Nat.blt i m)) S' 0++hs) (yS P r0 l.toArray Q (l.length-m) (lK l.length m))
theorem Hv {id:Nat} (m:Nat) (tk:Nat→Nat) [qi:Sl P] (eQ:H0 l m=true) (k:tT tk P r0 c D hs l Q m 0 m l (fun _=>sl) []):Tr c D sl hs (WP P r0 (.region id l.toArray true) Q):=fun a w bh=>by
 obtain ⟨S,ny,hp,ht⟩:=k
 have h:(Code.region id l.toArray true).wpIn (FR r0) 0 P (NP Q) a w:=wpIn_region_any qi.eq (by
  refine Qi (tk:=tk) (p:=m) (sZ eQ) (fun h=>absurd h (Nat.lt_irrefl _)) (fun c a w h=>h.elim) hp bh.c5 bh.size (fun β a w bh=>ht β a w bh) l.toArray.size _ _ _ ⟨by simp,?_,?_,bh.defers,bh.size,fun t _=>rfl,?_,fun _=>undef,?_,?_⟩
  ·exact fun k o _ hL=>absurd hL (eS _ _)
  ·exact fun k _ hL=>eS _ _ hL
  ·exact ⟨List.range l.length,Zbs,fun i=>⟨fun h=>⟨by simpa using h,eS _ _⟩,fun h=>by simpa using h.1⟩,by simp⟩
  ·have e:∀ (T:List cI) (i:Nat),dR (fun _=>undef) (pk tk (fun i=>(Array.replicate l.toArray.size false).getD i false)) T i=[]:=by
    intro T
    induction T with
    | nil=>intro i;rfl
    | cons s T ih =>
     intro i
     have:=eS l.toArray.size i
     unfold Ls at this
     unfold dR
     rw [if_neg (by unfold pk;simp only [Zm];exact fun h=>this h.1),ih];rfl
   rw [e]
   exact bh.mem.drew
  ·exact fun j o d s _ _ _ hL=>absurd hL (eS _ _))
 exact wpIn_mono h fun e a' w' h=>by
  cases e with
  | panic c=>exact h.elim
  | _=>exact h
end
section
variable {P:Program} {c:Cx} {D:List Nat} {sl:aH} {hs hs':List bd} {X:Act→World→Prop} {Q:Exit→Act→World→Prop} {l:List Oper} {m i n d:Nat} {rP:List (Nat×Nat)} {op:Op} {ty:TypeId} {pos:String} {af:Array Edge} {rest:List Oper} {SL:(Nat→Value)→aH} {S:List cI}
variable {r0:Option Nat}
theorem uz {o:Oper} {s:cI} (hd:o.dst=some d) (fJ:Nat.blt d c.nt=true) (h:Lc P c hs l (k9 rP) i o SL S s) (k:tT (k9 rP) P r0 c D hs l Q m (i+1) n rest (fun β=>(d,s.F β)::SL β) (S++[s])):tT (k9 rP) P r0 c D hs l Q m i (n+1) (o::rest) SL S:=by
 obtain ⟨S',ny,hp,ht⟩:=k
 exact ⟨S',ny,.step hd (by simpa [Z2] using fJ) h hp,ht⟩
theorem Si (k:∀ β,Tr c D (SL β) (dR β (pk (k9 rP) (fun i=>Nat.blt i m)) S 0++hs) (yS P r0 l.toArray Q (l.length-m) (lK l.length m))):tT (k9 rP) P r0 c D hs l Q m i 0 rest SL S:=
 ⟨S,SL,.nil,k⟩
theorem K9 {ι:Type} {Φ:ι→Prop} {val:ι→Value} {own:ι→List bd} (g:Value→ι) (hg:∀ x,∃ v,g v=x) {f:FuncId} {args:(Nat→Value)→List Value} (B:List Nat)
  (hB:(B.all fun j=>jO l ⟨some d,op,ty,pos,af,none⟩ j&&Nat.beq (k9 rP j) 0)=true) (hn:(rP.all fun p=>!Nat.beq p.2 i)=true)
  (hr:∀ β,lJ P (SL β) ⟨some d,op,ty,pos,af,none⟩ f (args β)) (hd:Nat.blt d c.nt=true) (hc:∀ β w,jJ c hs S B β w→bu P f (args β) w [] Φ val own)
  (k:tT (k9 rP) P r0 c D hs l Q m (i+1) n rest (fun β=>(d,val (g (β i)))::SL β) (S++[⟨fun β=>val (g (β i)),fun β=>own (g (β i))⟩])) :
  tT (k9 rP) P r0 c D hs l Q m i (n+1) (⟨some d,op,ty,pos,af,none⟩::rest) SL S:=by
 refine uz (s:=⟨fun β=>val (g (β i)),fun β=>own (g (β i))⟩) rfl hd ⟨fun β β' h=>by simp only [h i (jh l i)],fun β β' h=>by simp only [h i (jh l i)],⟨B,fun j hj=>?_,fun β a w sC vv Ad _=>?_⟩,fun j hj hp=>(tW hn hj hp).elim⟩ k
 ·have:=Zaa.1 hB j hj
  rw [Zm] at this
  exact ⟨this.1,by simpa using this.2⟩
 rw [if_pos (by simp [Region.wanted])]
 unfold oU
 rw [(hr β).2 a w vv]
 refine ⟨rfl,(hc β w Ad).mono fun e w' ⟨x,he,_,hk,fp,hn,hs',hf⟩=>?_⟩
 obtain ⟨v,hv⟩:=hg x
 refine ⟨val x,he,v,by simp only [kh,hv],hk.mono (by simp),fp,hn,by simp only [kh,hv];exact hs',fun b hb=>?_⟩
 rcases hf b hb with h | h
 ·cases h
 ·exact .inr h
theorem lY {F:(Nat→Value)→Value} (hr:∀ β,cY P c (SL β) hs ⟨some d,op,ty,pos,af,none⟩ (F β)) (hi:mQ l i F) (hd:Nat.blt d c.nt=true) (hn:(rP.all fun p=>!Nat.beq p.2 i)=true) (k:tT (k9 rP) P r0 c D hs l Q m (i+1) n rest (fun β=>(d,F β)::SL β) (S++[⟨F,fun _=>[]⟩])) :
  tT (k9 rP) P r0 c D hs l Q m i (n+1) (⟨some d,op,ty,pos,af,none⟩::rest) SL S:=
 uz (s:=⟨F,fun _=>[]⟩) rfl hd ⟨hi,fun _ _ _=>rfl,⟨[],by simp,fun β a w sC h1 h2 _=>by
  rw [if_pos (by simp [Region.wanted])]
  unfold oU
  rw [(hr β).2 a w h1 h2.mem]
  exact ⟨β i,by rw [qP],.refl _ _,[],Zaj,rfl,by simp⟩⟩,fun j hj hp=>(tW hn hj hp).elim⟩ k
theorem FK {V:Nat→Value} {ob:(Nat→Value)→Obj} (hr:∀ β,qI P c (SL β) hs ⟨some d,op,ty,pos,af,none⟩ V (ob β)) (hi:∀ β β',(∀ k,k≠i→wb l i k=true→β k=β' k)→ob β=ob β') (hd:Nat.blt d c.nt=true) (hn:(rP.all fun p=>!Nat.beq p.2 i)=true)
  (k:tT (k9 rP) P r0 c D hs l Q m (i+1) n rest (fun β=>(d,V (fm (β i)))::SL β) (S++[⟨fun β=>V (fm (β i)),fun β=>[bH (fm (β i)) (ob β)]⟩])) :
  tT (k9 rP) P r0 c D hs l Q m i (n+1) (⟨some d,op,ty,pos,af,none⟩::rest) SL S:=
 uz (s:=⟨fun β=>V (fm (β i)),fun β=>[bH (fm (β i)) (ob β)]⟩) rfl hd ⟨fun β β' h=>by simp only [h i (jh l i)],fun β β' h=>by simp only [h i (jh l i),hi β β' fun k _ hk=>h k hk],⟨[],by simp,fun β a w sC h1 h2 _=>by
  rw [if_pos (by simp [Region.wanted])]
  unfold oU
  rw [(hr β).2 a w h1 h2.mem]
  have e:ob (uD β i (.int .i64 (w.heap.size:Int)))=ob β:=hi _ _ fun k hk _=>uC hk
  exact ⟨.int .i64 (w.heap.size:Int),by simp only [kh,pg],.alloc _ _ _,[w.heap.size],by simp,⟨[w.heap.size],[],rfl,⟨by simp only [kh,pg],by simp only [kh,pg];rw [e];exact World.alloc_heap_new w (ob β)⟩,rfl⟩,by simp⟩⟩,fun j hj hp=>(tW hn hj hp).elim⟩ k
end
end Go.SL.KR
namespace Go.SL.KR
open Go Go.SL
section
variable {P:Program} {c:Cx} {D:List Nat} {sl:aH} {hs hs':List bd} {X:Act→World→Prop} {Q:Exit→Act→World→Prop} {l:List Oper} {m i n d:Nat} {rP:List (Nat×Nat)} {op:Op} {ty:TypeId} {pos:String} {af:Array Edge} {rest:List Oper} {SL:(Nat→Value)→aH} {S:List cI}
variable {r0:Option Nat}
theorem Em {t e:TypeId} {agg:Bool} {size bytes jx n0:Nat} {z:Value} {x y:Operand} {Vx Vy:(Nat→Value)→Value} {Ax:(Nat→Value)→List bd} {xs:List Value} {news:List (List Value)} [hu:iV P t (.slice e)] [hT:Ty P e agg size] [hZ:lZ P e z] [hBy:wE P e bytes] (B:List Nat)
  (hB:(B.all fun j=>jO l ⟨some d,.call ⟨.builtin .append,#[x,y],#[t,t]⟩,ty,pos,af,none⟩ j&&Nat.beq (k9 rP j) 0)=true)
  (hS:S[jx]? = some ⟨Vx,Ax⟩) (hrow:∀ β w fp,ct (hp w) (Ax β) fp→(row e size (Vx β) n0 xs).sat (hp w) fp)
  (htk:∀ k,k9 rP k=i→k=jx) (hti:k9 rP jx=i) (h0:Nat.blt 0 i=true) (hwx:eY ⟨some d,.call ⟨.builtin .append,#[x,y],#[t,t]⟩,ty,pos,af,none⟩ jx=true)
  (hx:∀ β,Is (SL β) x (Vx β)) (hy:∀ β,Is (SL β) y (Vy β)) (hsrc:∀ β w,jJ c hs S B β w→Rd w (Vy β) size news) (h1:∀ r∈news,∀ u∈r,u.oneCell'=true) (hz:z.cells.size=size) (hsz:Nat.blt 0 size=true) (hb0:Nat.blt 0 bytes=true)
  (hb:(n0+news.length)*bytes≤140737488355328) (hd:Nat.blt d c.nt=true) (hne:news≠[])
  (k:tT (k9 rP) P r0 c D hs l Q m (i+1) n rest (fun β=>(d,.slice (wB (β i)).1 (n0+news.length) (wB (β i)).2)::SL β) (S++[⟨fun β=>.slice (wB (β i)).1 (n0+news.length) (wB (β i)).2,fun β=>[row e size (.slice (wB (β i)).1 (n0+news.length) (wB (β i)).2) (n0+news.length) (xs++news.flatten)]⟩])) :
  tT (k9 rP) P r0 c D hs l Q m i (n+1) (⟨some d,.call ⟨.builtin .append,#[x,y],#[t,t]⟩,ty,pos,af,none⟩::rest) SL S:=by
 refine uz (s:=⟨fun β=>.slice (wB (β i)).1 (n0+news.length) (wB (β i)).2,fun β=>[row e size (.slice (wB (β i)).1 (n0+news.length) (wB (β i)).2) (n0+news.length) (xs++news.flatten)]⟩) rfl hd ⟨fun β β' h=>by simp only [h i (jh l i)],fun β β' h=>by simp only [h i (jh l i)],⟨B,fun j hj=>?_,fun β a w sC vv Ad iz=>?_⟩,fun j hj _=>by rw [htk j hj];exact hwx⟩ k
 ·have:=Zaa.1 hB j hj
  rw [Zm] at this
  exact ⟨this.1,by simpa using this.2⟩
 rw [if_pos (by simp [Region.wanted])]
 rw [BA (i:=0) hS fun k=>by
  rw [ZC]
  unfold iL
  rw [h0,ZaA]
  by_cases e:k=jx
  ·subst e;rw [hti];simp
  ·rw [show Nat.beq k jx=false from ZaY.2 fun h=>e (Zag h)]
   exact ZaY.2 fun h=>e (htk k (Zag h))] at iz
 have VG:=hrow β w sC iz
 have hR:=hsrc β w Ad
 have hvx:=hx β a vv
 have Y3:=hy β a vv
 have hlen:=fG hR.sz
 obtain ⟨aa,cap,b2,o2,hV,dj,bV,haa,hcc⟩:=hR
 have:=haa hne
 subst this
 rw [hV] at Y3
 obtain ⟨de,ii,mq,G2,_,iH⟩:=Ty.parts (P:=P) (t:=e) (agg:=agg) (n:=size)
 have hzero:ii.zero=some z:=by have:=hZ.eq;rw [G2] at this;simpa using this
 have gK:ii.bytes=bytes:=by have:=hBy.eq;rw [G2] at this;simpa using this
 have B9:0<bytes:=by simpa using hb0
 have rC:=Bo VG
 have OV:n0+news.length≤maxLen:=by
  have:(n0+news.length)*1≤(n0+news.length)*bytes:=Zbq _ B9
  unfold maxLen;omega
 have hn:∀ (j:Nat) (u:Value),news.flatten[j]? = some u→w.cell? ⟨b2,o2+j,none⟩=some u:=ns hcc
 have CR:∀ u∈news.flatten,u.oneCell'=true:=fun u hu=>by obtain ⟨r,hr,TI⟩:=List.mem_flatten.1 hu;exact h1 r hr u TI
 obtain ⟨v',w',gF,rB,vD,_⟩:=run_append_own (P:=P) w 0 t ty e ii z size bytes hu.eq G2 hzero iH gK hz (by simpa using hsz) (Vx β) n0 xs rC ⟨b2,o2,none⟩ news.length cap news.flatten hlen
  (fun j u hj=>by rw [eK];exact hn j u hj) CR OV hb (Zi _)
 have wX:=qD (P:=P) (t:=t) (ty:=ty) hu.eq G2 hzero (by rw [iH];exact rC) (a:=⟨b2,o2,none⟩) (m:=news.length) (cp:=cap) (by rw [iH];exact hlen) (fun j u hj=>by rw [eK];exact hn j u hj) CR OV (by rw [gK];exact hb) gF
 have hex:(execOp a.eval ⟨some d,.call ⟨.builtin .append,#[x,y],#[t,t]⟩,ty,pos,af,none⟩).run P w=.ok (.value v') w':=by
  simp [execOp,resolve,invoke,builtin,hvx,Y3,gF]
 unfold oU
 rw [hex]
 have GB:sC=(Vx β).ownBlock.toList:=VG.1
 have hN:0<n0+news.length:=by have:=List.length_pos_iff.2 hne;omega
 have Y9:v'=.slice (wB v').1 (n0+news.length) (wB v').2:=by
  rcases rB.2 with ⟨_,e2⟩ | ⟨g,cp,cur,e2,_⟩
  ·omega
  ·rw [e2];rfl
 refine ⟨v',by simp only [kh];exact Y9,⟨vD.os,vD.tape,vD.output,wX.2,vD.size,fun q hq Xo=>vD.block q hq (fun he=>Xo ?_)⟩,v'.ownBlock.toList,by cases v'.ownBlock <;> simp,⟨v'.ownBlock.toList,[],(ZU _).symm,by simp only [kh];rw [← Y9];exact lQ rB,rfl⟩,fun q hq=>?_⟩
 ·rw [GB,← he];simp
 ·have wx:v'.ownBlock=some q:=by simpa [Option.mem_toList] using hq
  rcases wX.1 with h | h
  ·left;rw [GB,← h,wx];simp
  ·right
   rw [h] at wx
   cases wx
   exact Zz _
end
end Go.SL.KR
namespace Go.Proofs.A1
open Go Go.SL
def Au (x:Wy):bd:=row 3 1 x.v (fS x.p).length (fS x.p)
theorem Av:∀ kz:List Wy,gj 3 (kz.map Wy.v) (kz.map fun x=>fS x.p)=kz.map Au
 | []=>rfl
 | x::l=>by simp only [Z8,gj,Av l];rfl
theorem Bd:∀ (l:List bd) (A:bd) (m:List bd),Take (l++A::m) A (l++m)
 | [],_,_=>.here
 | _::l,A,m=>.there (Bd l A m)
theorem xO (A:bd):∀ (l m:List bd),bD (A::(l++m)) l (A::m)
 | [],_=>.nil
 | _::l,m=>.cons (.there .here) (xO A l m)
theorem uH {c:Cx} {D:List Nat} {sl:aH} {hs hs':List bd} {X:Act→World→Prop} {kz:List Wy} {x:Wy} (hx:x∈kz) (ht:Take hs (iD kz) hs')
  (k:∀ nL,(∀ y,y∈kz↔y=x∨y∈nL)→Tr c D sl (iD nL::row 3 1 x.v x.p.length (fS x.p)::hs') X):Tr c D sl hs X:=by
 obtain ⟨l1,l2,rfl⟩:=List.append_of_mem hx
 have hk:=k (l1++l2) (fun y=>by simp only [Zx,ZS];constructor <;> (intro h;rcases h with h | h | h <;> simp [h]))
 refine xI (As:=gj 3 ((l1++x::l2).map Wy.v) ((l1++x::l2).map fun x=>fS x.p)) (show Take hs (Lj (gj 3 ((l1++x::l2).map Wy.v) ((l1++x::l2).map fun x=>fS x.p))) hs' from ht) ?_
 rw [Av,Zs,Z8,Zh,Zb]
 refine tU (Bd (l1.map Au) (Au x) (l2.map Au++hs')) (fun _ _ h=>h) ?_
 rw [← Zh,← Zs]
 refine rS (xO (Au x) ((l1++l2).map Au) hs') ?_
 have e:iD (l1++l2)=Lj ((l1++l2).map Au):=by rw [← Av];rfl
 rw [← e]
 have e2:Au x=row 3 1 x.v x.p.length (fS x.p):=by unfold Au fS;rw [Zd]
 rw [e2];exact hk
theorem Iy (p:List Nat):(fS p).length=p.length:=by unfold fS;rw [Zd]
theorem BN {p:List Nat} {k:Nat} (h:k<p.length) (cur:List Value):(fS p++cur)[k*1]? = some (.int .i64 (p[k]:Nat)):=by
 rw [Zaq,ZD (by rw [Iy];exact h)]
 unfold fS
 rw [ZF,Zc h];rfl
theorem BL (p:List Nat) (i:Nat):(nz p).contains (i:Int)=p.contains i:=by
 induction p with
 | nil=>rfl
 | cons x l ih =>
  show (((i:Int)==(x:Int))||(nz l).contains (i:Int))=((i==x)||l.contains i)
  rw [ih]
  congr 1
  rw [Zba,beq_iff_eq,beq_iff_eq]
  omega
theorem vp {α:Type} {l:List Oper} {i:Nat} {x:α}:mQ l i (fun _:Nat→Value=>x):=fun _ _ _=>rfl
theorem Gp {N:Wn} {dm:Int} (h:N.Ek=dm):N.least dm []:=by
 refine ⟨N.sg,h,fun q _ _=>?_⟩
 rcases Wn.IC (N:=N) (show [] <+: q from List.nil_prefix) with e | e
 ·rw [← e];exact N.lt_irrefl []
 ·cases hb:N.lt q [] with
  | false=>rfl
  | true=>have:=Wn.lt_trans e hb;rw [N.lt_irrefl] at this;cases this
set_option maxHeartbeats 4000000 in
theorem OA {r:Ro} {s d t p:Value} (v:Int) (so de:ByteArray) {w:World} (h:RR w r s d t p) (hn:pR r) (hV:iJ r r.po) (hd:CT r) (rz:so∈cF r) (fJ:de∈cq r) :
  bu Tryz.prog 175 [RA r s d t p,.int .i64 v,.string so,.string de] w [] (fun x:Bool×Wy×List Wy=>(x.1=true→(fB r r.po v so).least (nQ r de) x.2.1.p∧(x.2.1∈x.2.2∨x.2.1=⟨.slice none 0 0,[],0⟩))∧(x.1=false→∀ q,(fB r r.po v so).ok q→(fB r r.po v so).fin q≠nQ r de)∧x.2.1.v.oneCell'=true)
   (fun x=>.tuple #[.agg x.2.1.cells.toArray,.bool x.1]) (fun x=>[iD x.2.2]):=by
 have h6:r.ti.length≤6:=by have:=hn.Su;unfold cM at this;rwa [Zd] at this
 have h1:=Rd.one h.sr
 have h2:=Rd.one h.de
 have h3:=Rd.one h.ti
 have h4:=Rd.one h.po
 have hti:=h.ti
 obtain ⟨a,cp,b,o',rfl,dj,bV,ha,hc⟩:=hti
 have QM:=h.sr
 obtain ⟨a2,nR,b2,o2,rfl,kE,fk,jD,jS⟩:=QM
 have mq:=h.de
 obtain ⟨a3,sK,b3,o3,rfl,nD,gG,tM,ql⟩:=mq
 rw [cd] at *
 rw [cO] at *
 rw [cn] at *
 unfold maxLen at bV fk gG
 obtain ⟨i0,wZ⟩:∃ i:Nat,bE (cF r) so=(i:Nat):=⟨(bE (cF r) so).toNat,by have:=eG rz;omega⟩
 have J6:i0<r.sr.length:=by
  obtain ⟨hl,_⟩:=fq (l:=cF r) (s:=so) (by omega)
  rw [wZ,ZI] at hl
  unfold cF at hl;rwa [Zd] at hl
 obtain ⟨j0,z8⟩:∃ i:Nat,bE (cq r) de=(i:Nat):=⟨(bE (cq r) de).toNat,by have:=eG fJ;omega⟩
 have AN:j0<r.de.length:=by
  obtain ⟨hl,_⟩:=fq (l:=cq r) (s:=de) (by omega)
  rw [z8,ZI] at hl
  unfold cq at hl;rwa [Zd] at hl
 have z6:qU r so=(r.sr[i0]).mx:=by unfold qU;rw [wZ,ZI,Zk,Zc J6];rfl
 have Us:nQ r de=(r.de[j0]).mx:=by unfold nQ;rw [z8,ZI,Zk,Zc AN];rfl
 have hsrc:∀ w',aJ [] w w'→aj Tryz.prog 180 [.agg #[.int .i64 r.lv,.int .i64 r.ma,.slice a2 r.sr.length nR,.slice a3 r.de.length sK,.slice a r.ti.length cp,p],.string so] w' (.int .i64 (i0:Nat)):=fun w' hk=>wZ ▸ n9 so (h.keeps hk)
 have w9:∀ w',aJ [] w w'→aj Tryz.prog 155 [.agg #[.int .i64 r.lv,.int .i64 r.ma,.slice a2 r.sr.length nR,.slice a3 r.de.length sK,.slice a r.ti.length cp,p],.string de] w' (.int .i64 (j0:Nat)):=fun w' hk=>z8 ▸ fL de (h.keeps hk)
 have tN:=jD (iM J6)
 have eT:=(jS i0 _ (fN J6)).2
 unfold Sr.cells at eT
 have SG:=eT 1 _ rfl
 have GG:=tM (fW AN)
 have oI:=(ql j0 _ (eR AN)).2
 unfold De.cells at oI
 have vF:=oI 1 _ rfl
 unfold RA
 refine aS Tryz.func175 rfl rfl ?_
 (refine Jr<|Jy rfl rfl fun _ _=>Jz rfl rfl fun _ _=>Ja rfl<|Jn<|Hp<|Jq ?_)
 rename_i b4 wA b8 hb8
 with_reducible refine dE 18 (by kernel_rfl) ?_
 (refine nF rfl rfl ae<|aF (gT (.there .here)) rfl<|aF (cR (.there .here)) rfl<|ju rfl rfl<|fI bj rfl (fun w' aA=>(hsrc w' (Mem.keeps aA)))<|aF (ar (.of rfl) (.of rfl) tN (by omega) (by omega) bb) rfl<|nF rfl rfl ae<|aF (ag (.of rfl) (At.base SG rfl)) rfl<|nF rfl rfl ae<|aF (gT (.there .here)) rfl<|aF (cR (.there .here)) rfl<|ju rfl rfl<|fI bj rfl (fun w' aA=>(w9 w' (Mem.keeps aA)))<|aF (ar (.of rfl) (.of rfl) GG (by omega) (by omega) bb) rfl<|nF rfl rfl ae<|aF (ag (.of rfl) (At.base vF rfl)) rfl<|aF (cB (.of rfl)) rfl<|aF (cB (.of rfl)) rfl ?_)
 with_reducible refine dI ?_
 rw [← z6,← Us]
 (refine Jn<|Jq<|Jr<|Jv rfl<|Jv rfl<|JC rfl<|Jn<|gm rfl (fun az=>?_) fun az=>?_;refine Jr<|ab (aU .nil ak) rfl<|aq (.of rfl) (.of rfl) .here rfl rfl (fY rfl rfl) (bG rfl) ak<|Ja rfl<|Jn<|Ju<|rU ?_;rotate_left;refine Jk<|Jr<|ab (cR (.there .here)) rfl<|Jv rfl<|Jv rfl ?_;rotate_right)
 ·refine xL ?_
  first | with_reducible apply aO | with_reducible apply aP
  case he=>exact sG rfl inferInstance rfl (.there .here) ak (by rfl) (by rfl)
  case hR=>
   intro w' aA
   exact aG (true,⟨.slice none 0 0,[],0⟩,[]) ⟨fun _=>⟨Gp (show j7 r so=_ by rw [rZ rz];exact az),.inr rfl⟩,(fun e=>by cases e),rfl⟩ (by exact .cons .here .nil) aA rfl
 refine JN eM rfl (fun w1 aR=>KV (s:=.slice a2 r.sr.length nR) (d:=.slice a3 r.de.length sK) (t:=.slice a r.ti.length cp) (p:=p) v so (h.keeps aR.keeps) (by omega) rz) ?_
 rintro ⟨wv,W⟩ hW
 have hS:=pD.begin hn hV v (de:=de) rz h6 az hW
 clear az
 dsimp only [id_eq,Zb,Za]
 refine aT (E:=244) (sz:=2) (by exact .here) fun va vc e=>?_
 subst e
 (refine Jz rfl rfl fun _ _=>aq (.of rfl) (.of rfl) .here rfl rfl (en rfl) (bG rfl) ak<|Ji<|Jz rfl rfl fun _ _=>Ji<|Ja rfl<|Jn<|Jq<|Ht<|Jt<|Jq<|J0 ?_)
 rename_i KY Yh Sd afA
 refine FY (E:=244) (sz:=2) bL ?_
 refine EA (ι:=Value×List Wy×List Wy) (fun x=>pD (fB r r.po v so) (nQ r de) x.2.1 x.2.2)
  (fun x=>[(14,.bool false),(13,.pointer (some ⟨Sd,0,none⟩)),(12,.pointer (some ⟨KY,0,none⟩)),(11,.int .i64 (nQ r de)),(8,.pointer (some ⟨b8,0,none⟩)),(4,.pointer (some ⟨b4,0,none⟩)),(1,.int .i64 v)])
  (fun x=>[bH KY (.cells #[x.1] 329 (0,0)),kI 244 2 x.1 x.2.1.length (mR x.2.1),iD x.2.2,bH Sd (.cells #[.slice none 0 0,.int .i64 0] 244 (0,0)),bH b8 (.cells #[.slice none 0 0,.int .i64 0] 244 (0,0)),
   JP b4 r (.slice a2 r.sr.length nR) (.slice a3 r.de.length sK) (.slice a r.ti.length cp) p]) (fun x=>(fB r r.po v so).wt (x.2.1.map Wy.p)) ?_ ?_
 ·apply xH (.slice va W.length vc,W,W) hS
  case hs1=>exact cg
  case ht=>
   show bD _ [bH KY (.cells #[.slice va W.length vc] 329 (0,0)),kI 244 2 (.slice va W.length vc) W.length (mR W),iD W,bH Sd (.cells #[.slice none 0 0,.int .i64 0] 244 (0,0)),bH b8 (.cells #[.slice none 0 0,.int .i64 0] 244 (0,0)),
    JP b4 r (.slice a2 r.sr.length nR) (.slice a3 r.de.length sK) (.slice a r.ti.length cp) p] _
   exact .cons bL (.cons .here (.cons (.there .here) (.cons .here (.cons .here (.cons .here .nil)))))
 rintro ⟨wv,Q,kz⟩ hS D
 dsimp only at hS ⊢
 have hQl:=hS.len
 refine xJ (by exact Take.there .here) fun qa qc e OS Xe=>?_
 subst e
 by_cases VY:Q.length=0
 ·have JV:Q=[]:=Z0 VY
  subst JV
  (refine Jq<|Jr<|JL rfl .here rfl<|JI rfl<|JE rfl<|Jn<|Jc rfl fun az=>Jp<|Jl<|Jo<|Jt<|Jr<|ab (cR cW) rfl<|Jv rfl<|aq (.of rfl) (.of rfl) dT rfl rfl (fY rfl rfl) (bG rfl) ak<|Ja rfl<|Jn<|Je<|rU ?_)
  first | with_reducible apply aO | with_reducible apply aP
  case he=>exact sG rfl inferInstance rfl .here ak (by rfl) (by rfl)
  case hR=>
   intro w' aA
   exact aG (false,⟨.slice none 0 0,[],0⟩,kz) ⟨(fun e=>by cases e),(fun _=>Wn.IQ hS.inv),rfl⟩ (by exact .cons cW .nil) aA rfl
 ·refine Jq<|Jr<|JL rfl .here rfl<|JI rfl<|JE rfl<|Jn<|Jd rfl fun az=>Jk<|J0<|Jr<|JL rfl .here rfl ?_
  with_reducible apply fP (As:=[kI 244 2 (.slice qa Q.length qc) Q.length (mR Q),iD kz])
  case hr=>exact bj
  case hd=>rfl
  case ht=>exact l6
  case hc=>
   intro w1 AT aR vA hs1 CQ _
   exact HJ vA hs1 rfl hS.sub (by omega) hS.one
  rintro Q' ⟨ig,TQ⟩
  have UG:Q'.length=Q.length:=ig.length_eq
  replace hS:=hS.perm ig
  dsimp only [id_eq,Zb,Za]
  have hwt:=Wn.Et (N:=fB r r.po v so) (ig.map Wy.p)
  rw [← UG] at VY hQl OS ⊢
  clear ig
  cases Q' with
  | nil=>exact absurd rfl VY
  | cons x R =>
   clear VY UG
   obtain ⟨xv,xp,xf⟩:=x
   have SC:=hS.sub ⟨xv,xp,xf⟩ (by simp)
   have VB:xv.oneCell'=true:=hS.one ⟨xv,xp,xf⟩ SC
   have tr:(fB r r.po v so).ok xp∧xp≠[]:=hS.inv.ok xp (by simp)
   have hwx:mR (⟨xv,xp,xf⟩::R)=[xv,.int .i64 (xf:Nat)]++mR R:=rfl
   have hlR:((⟨xv,xp,xf⟩:Wy)::R).length=R.length+1:=rfl
   rw [hlR] at OS hQl
   rw [hlR,hwx]
   refine Ji<|JL rfl bL rfl ?_
   refine A6 (by exact .here) (Nat.succ_pos _) fun g off gL pre cur e kP kF aR hfit hlen=>?_
   cases e
   have c0:ed (pre++([xv,.int .i64 (xf:Nat)]++mR R)++cur) (off+0*2) 2=[xv,.int .i64 (xf:Nat)]:=by
    rw [jm,Zh,Zbu,Zaw,← kP,List.drop_left];rfl
   (refine ab (ar (.of rfl) (.of rfl) rfl (by omega) (by omega) bb) rfl<|ab (bT (.of rfl) .here c0 rfl) rfl<|Jz rfl rfl fun _ _=>aq (.of rfl) (.of rfl) .here rfl rfl (fY VB rfl) (bG rfl) ak<|Ji<|JL rfl cW rfl<|ab (pW (.of rfl) (.of rfl) (by omega) (by omega)) rfl<|aq (.of rfl) (.of rfl) cW rfl rfl (en rfl) (bG rfl) ak<|Jn<|Jq ?_)
   rename_i Sc Yg
   refine A5 (n:=R.length+1) (sz:=2) (cap:=qc) bL kP kF aR hfit hlen ?_
   refine A4 (by exact .here) ?_
   rw [show ([xv,.int .i64 (xf:Nat)]++mR R).drop 2=mR R from rfl]
   refine uH SC cW fun nL Rw=>?_
   have ON:0<xp.length:=List.length_pos_iff.2 tr.2
   have Vz:xp.length≤r.ti.length:=Wn.u9 tr.1
   have hxf:xf≤6:=by
    have h0:xf=(fB r r.po v so).tP xp:=hS.tP ⟨xv,xp,xf⟩ (by simp)
    have:=List.countP_le_length (p:=(fB r r.po v so).fe) (l:=xp)
    unfold Wn.tP at h0
    omega
   refine cU (by exact Take.there .here) ON fun g2 dA YD e Rv Xt vr Fe=>?_
   cases e
   obtain ⟨l,hl⟩:∃ l,xp[xp.length-1]=l:=⟨_,rfl⟩
   have Rb:l<r.ti.length:=Wn.BJ tr.1 l (hl ▸ Zj _)
   have c1:(fS xp++YD)[((xp.length:Int)-1).toNat*1]? = some (.int .i64 (l:Nat)):=by
    rw [show ((xp.length:Int)-1).toNat=xp.length-1 by omega,BN (by omega),hl]
   have Rz:=ha (fw Rb)
   have iT:=(hc l _ (eE Rb)).2
   unfold Ti.cells at iT
   have Yc:=iT 2 _ rfl
   have mH:(fB r r.po v so).fin xp=(r.ti[l]).to:=by
    unfold Wn.fin
    rw [List.getLast?_eq_getElem?,Zc (by omega),hl]
    show (iK r l).to=_
    rw [mW Rb]
   with_reducible refine dE 14 (by kernel_rfl) ?_
   (refine nF rfl rfl ae ?_;refine aF (gT AH) rfl ?_;refine nF rfl rfl ae ?_;refine aF (gT dT) rfl ?_;refine nF rfl rfl ae ?_;refine aF (gT dT) rfl ?_;refine aF (bJ (.of rfl)) rfl ?_;refine aF (uP (.of rfl) (.of rfl) (SB (by omega))) rfl ?_;refine aF (ar (.of rfl) (.of rfl) rfl (by omega) (by omega) bb) rfl ?_;refine aF (ag (.of rfl) (At.jL .here c1)) rfl ?_;refine aF (ar (.of rfl) (.of rfl) Rz (by omega) (by omega) bb) rfl ?_;refine nF rfl rfl ae ?_;refine aF (ag (.of rfl) (At.base Yc rfl)) rfl ?_;refine aF (cB (.of rfl)) rfl ?_)
   with_reducible refine dI ?_
   rw [← mH]
   refine cN (by exact .here) Rv Xt vr Fe ?_
   refine oX (W:=nL) ⟨.slice (some ⟨g2,0,none⟩) xp.length dA,xp,xf⟩ (n:=xp.length) (x:=fS xp) (by exact Take.there .here) (by exact .here) rfl rfl ?_
   have Uw:∀ y,y∈nL++[(⟨.slice (some ⟨g2,0,none⟩) xp.length dA,xp,xf⟩:Wy)]↔y∈kz:=fun y=>by rw [Rw,Zx,ZB];exact Or.comm
   generalize nL++[(⟨.slice (some ⟨g2,0,none⟩) xp.length dA,xp,xf⟩:Wy)]=Sa at Uw ⊢
   (refine Jn<|Jq<|Jr<|Jv rfl<|Jv rfl<|JC rfl<|Jn<|gm rfl (fun az=>?_) fun az=>?_;refine Jr<|ab (cR cW) rfl<|aq (.of rfl) (.of rfl) dT rfl rfl (fY rfl rfl) (bG rfl) ak<|Ja rfl<|Jn<|Jp<|uG rfl<|Jl<|Jo<|Jt<|Jr<|ab (cR .here) rfl<|Jv rfl<|aq (.of rfl) (.of rfl) eX rfl rfl (fY rfl rfl) (bG rfl) ak<|Ja rfl<|Jn<|Je<|rU ?_;rotate_left;refine Jk<|Jr<|ab (cR pz) rfl<|Jv rfl<|Jv rfl ?_;rotate_right)
   ·first | with_reducible apply aO | with_reducible apply aP
    case he=>exact sG rfl inferInstance rfl .here ak (by rfl) (by rfl)
    case hR=>
     intro w' aA
     exact aG (true,⟨.slice (some ⟨g2,0,none⟩) xp.length dA,xp,xf⟩,Sa) ⟨(fun _=>⟨pD.found hS TQ az,.inl ((Uw _).2 SC)⟩),(fun e=>by cases e),rfl⟩ (by exact .cons bL .nil) aA rfl
   with_reducible apply jw
   case hr=>exact eM
   case hd=>rfl
   case ht=>exact bD.nil
   case hc=>
    intro w1 fp aR _ hs1
    obtain rfl:fp=[]:=hs1
    exact su (s:=.slice a2 r.sr.length nR) (d:=.slice a3 r.de.length sK) (t:=.slice a r.ti.length cp) (p:=p) v ((fB r r.po v so).fin xp) (h.keeps aR.keeps)
   intro y _
   dsimp only [id_eq,Zb,Za]
   have sy:(fv r v ((fB r r.po v so).fin xp) r.ti.length).length≤r.ti.length:=by
    have:=Z6 (Cf r v ((fB r r.po v so).fin xp)) (List.range r.ti.length)
    rw [ZaN] at this
    exact this
   refine Jn<|J0 ?_
   refine jn (ps:=[73,74]) (f:=240) (first:=[]) (cap:=[.pointer (some ⟨y.1,0,none⟩),.pointer (some ⟨y.2.1,0,none⟩),.pointer (some ⟨y.2.2,0,none⟩)]) (ι:=Value×List Wy×List Wy) (κ:=Empty)
    (rst:=[bH Sd (.cells #[.slice none 0 0,.int .i64 0] 244 (0,0)),bH b8 (.cells #[.slice none 0 0,.int .i64 0] 244 (0,0)),JP b4 r (.slice a2 r.sr.length nR) (.slice a3 r.de.length sK) (.slice a r.ti.length cp) p]) ?hg
    [JP y.1 r (.slice a2 r.sr.length nR) (.slice a3 r.de.length sK) (.slice a r.ti.length cp) p,bH y.2.1 (.cells #[.int .i64 ((fB r r.po v so).fin xp)] 3 (0,0)),bH y.2.2 (.cells #[.int .i64 v] 3 (0,0))] (Lr r v ((fB r r.po v so).fin xp)) ?hit
    (fun k x=>x.2.1.map wk=(((fv r v ((fB r r.po v so).fin xp) r.ti.length).take k).filter fun i=>!xp.contains i).map (fun i=>(xf+1,xp++[i]))∧(∀ z∈R++x.2.1,z∈x.2.2)∧(∀ z∈x.2.2,z.v.oneCell'=true)∧(⟨.slice (some ⟨g2,0,none⟩) xp.length dA,xp,xf⟩:Wy)∈x.2.2)
    (fun x=>[bH KY (.cells #[x.1] 329 (0,0)),kI 244 2 x.1 (R.length+x.2.1.length) (mR (R++x.2.1)),iD x.2.2,bH Sc (.cells #[.slice (some ⟨g2,0,none⟩) xp.length dA,.int .i64 (xf:Nat)] 244 (0,0))])
    (fun _=>False) (fun _=>[]) (fun _=>.ret) (Go.sliced (some ⟨g,off,none⟩) 1 (R.length+1) qc 2,[],Sa) ⟨rfl,(fun z hz=>(Uw z).2 (hS.sub z (by rw [ZU] at hz;exact ZW _ hz))),(fun z hz=>hS.one z ((Uw z).1 hz)),(Uw _).2 SC⟩ ?ht ?hlen ?hps ?round ?kn ?kj
   case hg=>exact Is.of rfl
   case hit=>intro w' aA;exact IB v _ h RO.nil (by omega)
   case ht=>
    show bD _ [bH KY (.cells #[Go.sliced (some ⟨g,off,none⟩) 1 (R.length+1) qc 2] 329 (0,0)),kI 244 2 (Go.sliced (some ⟨g,off,none⟩) 1 (R.length+1) qc 2) R.length (mR (R++[])),iD Sa,bH Sc (.cells #[.slice (some ⟨g2,0,none⟩) xp.length dA,.int .i64 (xf:Nat)] 244 (0,0)),
     JP y.1 r (.slice a2 r.sr.length nR) (.slice a3 r.de.length sK) (.slice a r.ti.length cp) p,bH y.2.1 (.cells #[.int .i64 ((fB r r.po v so).fin xp)] 3 (0,0)),bH y.2.2 (.cells #[.int .i64 v] 3 (0,0))] _
    rw [ZU]
    exact .cons eX (.cons dT (.cons cW (.cons cW (.cons .here (.cons .here (.cons .here .nil))))))
   case hlen=>intro vs oF;obtain ⟨x,_,rfl⟩:=Zt.1 oF;rfl
   case hps=>intro t ht;simp only [ZS,Zp,or_false] at ht;rcases ht with rfl | rfl <;> exact Zav rfl
   case kj=>intro y;cases y
   case kn=>
    rintro ⟨PI,W,CC⟩ D2 ⟨hW,iR,gR,DL⟩
    dsimp only [Zb,Za] at hW iR gR DL ⊢
    rw [uk,ZN] at hW
    obtain ⟨VW,ep⟩:=pD.next hS az iR gR hW
    refine Jj<|Jj<|Jt ?_
    apply A7 (PI,R++W,CC) VW (by rw [← hwt];exact ep)
    case hs1=>exact cg
    case ht=>
     show bD _ [bH KY (.cells #[PI] 329 (0,0)),kI 244 2 PI (R++W).length (mR (R++W)),iD CC,bH Sd (.cells #[.slice none 0 0,.int .i64 0] 244 (0,0)),bH b8 (.cells #[.slice none 0 0,.int .i64 0] 244 (0,0)),
      JP b4 r (.slice a2 r.sr.length nR) (.slice a3 r.de.length sK) (.slice a r.ti.length cp) p] _
     rw [Zg]
     exact .cons .here (.cons .here (.cons .here (.cons dT (.cons dT (.cons dT .nil)))))
   case round=>
    rintro l2 rc W2 US k ⟨PI,W,CC⟩ vs hsz hk ⟨hW,iR,gR,DL⟩ hB hF
    dsimp only at hW iR gR DL
    obtain ⟨i,hi,rfl,gU,VQ⟩:=DG hk
    obtain ⟨tu,J8⟩:=Zl.1 hi
    have htk:(fv r v ((fB r r.po v so).fin xp) r.ti.length).take (k+1)=(fv r v ((fB r r.po v so).fin xp) r.ti.length).take k++[i]:=by rw [Zn tu,J8]
    have RD:(mR (R++W)).length=(R.length+W.length)*2:=by rw [oV,Zg]
    have hWk:W.length≤6:=by
     have:=congrArg List.length hW
     rw [Zd,Zd] at this
     rw [this]
     refine ZX (Z6 _ _) ?_
     rw [Zr];omega
    dsimp only [Ti.cells,List.zip_cons_cons,List.zip_nil_right,mh,Zb,Za]
    refine Jg<|Ja rfl<|Jn ?_
    with_reducible apply mw
    case ht=>exact .here
    (refine J0<|Jr<|bS rfl rfl ae<|JL rfl dT rfl<|Jv rfl ?_)
    refine ai bj rfl (fun w' aA=>ly (l:=nz xp) (i:Nat) (Ei aA cW DL)) ?_
    rw [BL]
    cases GF:xp.contains i with
    | true =>
     have wy:((fv r v ((fB r r.po v so).fin xp) r.ti.length).take (k+1)).filter (fun i=>!xp.contains i)=((fv r v ((fB r r.po v so).fin xp) r.ti.length).take k).filter (fun i=>!xp.contains i):=by
      rw [htk,Zbg]
      simp only [List.filter_cons,GF,List.filter_nil]
      simp
     (refine JH rfl<|Jn<|bK (.of rfl)<|Jw<|Jj ?_)
     apply lM (PI,W,CC)
     case ht=>exact .here
     case hx=>exact ⟨by rw [wy];exact hW,iR,gR,DL⟩
     case h2=>exact .cons .here (.cons .here (.cons .here (.cons .here .nil)))
    | false =>
     have wy:((fv r v ((fB r r.po v so).fin xp) r.ti.length).take (k+1)).filter (fun i=>!xp.contains i)=((fv r v ((fB r r.po v so).fin xp) r.ti.length).take k).filter (fun i=>!xp.contains i)++[i]:=by
      rw [htk,Zbg]
      simp only [List.filter_cons,GF,List.filter_nil]
      simp
     refine JH rfl<|Jn<|cP (.of rfl) ?_
     have qh:(nz xp).length=xp.length:=sn xp
     have Ub:(nz xp).map (Value.int .i64)=fS xp:=by unfold nz fS;rw [ZaH];rfl
     with_reducible refine KR.Hv 12 (k9 [(3,6)]) (by kernel_rfl) ?_
     refine KR.lY (fun β=>(ag (.of rfl) (At.lit (.there .here) rfl))) vp rfl rfl ?_
     refine KR.lY (fun β=>(au (.of rfl) ae)) vp rfl rfl ?_
     refine KR.lY (fun β=>(ag (.of rfl) (At.lit dT rfl))) vp rfl rfl ?_
     dsimp only [Nat.zero_add,Nat.reduceAdd]
     with_reducible apply KR.K9 (ι:=Value) (Φ:=fun _=>True) (val:=id) (own:=fun v=>[row 3 1 v xp.length (fS xp)]) (g:=id) (B:=[]) (args:=fun _=>[.slice (some ⟨g2,0,none⟩) xp.length dA])
     case hg=>exact fun x=>⟨x,rfl⟩
     case hB=>rfl
     case hr=>exact fun β=>aZ (.of rfl) (.cons (.of rfl) .nil) inferInstance rfl
     case hd=>rfl
     case hn=>rfl
     case hc=>
      intro β w' hb
      have:=N7 (l:=nz xp) (Ei hb.mem cW DL) (by rw [sn];omega)
      rwa [qh,Ub] at this
     dsimp only [id_eq,Nat.reduceAdd]
     refine KR.lY (fun β=>(aN (.of rfl))) vp rfl rfl ?_
     refine KR.FK (fun β=>(aC (.cons (.of rfl) .nil) rfl rfl rfl rfl)) (fun _ _ _=>rfl) rfl rfl ?_
     dsimp only [Nat.reduceAdd]
     with_reducible apply KR.Em (jx:=3) (n0:=xp.length) (xs:=fS xp) (news:=[[.int .i64 (i:Nat)]]) (Vx:=fun β=>β 3) (Vy:=fun β=>.slice (some ⟨fm (β 5),0,none⟩) 1 1) (Ax:=fun β=>[row 3 1 (β 3) xp.length (fS xp)]) (B:=[5])
     case hB=>kernel_rfl
     case hS=>rfl
     case hrow=>exact fun β w' fp ⟨f1,f2,e,h,h0⟩=>by obtain rfl:f2=[]:=h0;rw [e,ZU];exact h
     case htk=>exact xN rfl rfl
     case hti=>rfl
     case h0=>rfl
     case hwx=>kernel_rfl
     case hx=>exact fun β=>.of rfl
     case hy=>exact fun β=>.of rfl
     case hsrc=>
      intro β w' hb
      have m6:=hb.at 5 (by simp) (s:=⟨fun β=>.slice (some ⟨fm (β 5),0,none⟩) 1 1,fun β=>[bH (fm (β 5)) (.cells #[.int .i64 (i:Nat)] 3 (0,0))]⟩) (by kernel_rfl)
      dsimp only [Zb,Za] at m6
      exact Mem.dw m6 (by exact .here) rfl rfl
     case h1=>
      intro r hr u hu
      simp only [ZB] at hr
      subst hr
      simp only [ZB] at hu
      subst hu;rfl
     case hz=>rfl
     case hsz=>rfl
     case hb0=>rfl
     case hb=>simp only [ZaE];omega
     case hd=>rfl
     case hne=>simp
     rw [show ([[Value.int .i64 (i:Nat)]]:List (List Value)).flatten=[.int .i64 (i:Nat)] from rfl,show ([[Value.int .i64 (i:Nat)]]:List (List Value)).length=1 from rfl]
     dsimp only [Nat.reduceAdd]
     refine KR.lY (fun β=>(au (.of rfl) ae)) vp rfl rfl ?_
     refine KR.lY (fun β=>(ag (.of rfl) (At.lit dT rfl))) vp rfl rfl ?_
     refine KR.lY (fun β=>(HY (.of rfl) (.of rfl) (SB (by omega)))) vp rfl rfl ?_
     with_reducible apply KR.lY (F:=fun β=>.agg #[.slice (wB (β 6)).1 (xp.length+1) (wB (β 6)).2,.int .i64 ((xf:Nat)+1)])
     case hr=>(intro β;exact aU (.cons (.of rfl) (.cons (.of rfl) .nil)) ak)
     case hi=>exact fun β β' h=>by simp only [h 6 (by kernel_rfl)]
     case hd=>rfl
     case hn=>rfl
     dsimp only [Nat.reduceAdd]
     with_reducible apply KR.FK (V:=fun b=>.slice (some ⟨b,0,none⟩) 1 1) (ob:=fun β=>.cells #[.slice (wB (β 6)).1 (xp.length+1) (wB (β 6)).2,.int .i64 ((xf:Nat)+1)] 244 (0,0))
     case hr=>(intro β;exact bB (.cons (.of rfl) .nil) rfl rfl bQ bQ ak)
     case hi=>exact fun β β' h=>by simp only [h 6 (by decide) (by kernel_rfl)]
     case hd=>rfl
     case hn=>rfl
     dsimp only [Nat.reduceAdd]
     refine KR.Si fun β=>?_
     change Tr _ _ _ [bH (fm (β 5)) (.cells #[.int .i64 (i:Nat)] 3 (0,0)),row 3 1 (.slice (wB (β 6)).1 (xp.length+1) (wB (β 6)).2) (xp.length+1) (fS xp++[.int .i64 (i:Nat)]),bH (fm (β 11)) (.cells #[.slice (wB (β 6)).1 (xp.length+1) (wB (β 6)).2,.int .i64 ((xf:Nat)+1)] 244 (0,0)),
      bH l2 (fR rc .busy none),bH KY (.cells #[PI] 329 (0,0)),kI 244 2 PI (R.length+W.length) (mR (R++W)),iD CC,bH Sc (.cells #[.slice (some ⟨g2,0,none⟩) xp.length dA,.int .i64 (xf:Nat)] 244 (0,0))] _
     generalize fm (β 5)=b5
     generalize fm (β 11)=Pu
     generalize (wB (β 6)).1=ea
     generalize (wB (β 6)).2=ec
     refine tg (rs:=[12]) (by kernel_rfl) (by simp) (ZA.2 ⟨?_,fun _ h=>absurd h Zp⟩)
     refine vb rfl ?_
     with_reducible apply C7
     case hx=>exact Is.of rfl
     case hy=>exact Is.of rfl
     case ht=>exact eX
     case hn=>exact ew.bH bL (show ed [.slice ea (xp.length+1) ec,.int .i64 ((xf:Nat)+1)] 0 2=[.slice ea (xp.length+1) ec,.int .i64 ((xf:Nat)+1)] from rfl)
     case hl=>rfl
     case h1=>exact bM rfl (en rfl)
     case hz=>exact rfl
     case hsz=>exact rfl
     case hb0=>exact rfl
     case hb=>omega
     case hd=>rfl
     intro v'
     refine xJ (by exact .here) fun a' gL e Nt yz=>?_
     subst e
     refine Jn ?_
     refine tg (rs:=[13]) (by kernel_rfl) (by simp) (ZA.2 ⟨?_,fun _ h=>absurd h Zp⟩)
     refine vb rfl ?_
     (refine aq (.of rfl) (.of rfl) eX rfl rfl (en rfl) (bG rfl) ak<|Jn ?_)
     with_reducible refine DH (by kernel_rfl) ?_
     refine pG ?_
     refine oX (W:=CC) ⟨.slice ea (xp.length+1) ec,xp++[i],xf+1⟩ (n:=xp.length+1) (x:=fS xp++[.int .i64 (i:Nat)]) pz cW (by simp) (by unfold fS;rw [Zs];rfl) ?_
     have TG:mR (R++(W++[⟨.slice ea (xp.length+1) ec,xp++[i],xf+1⟩]))=mR (R++W)++[.slice ea (xp.length+1) ec,.int .i64 ((xf:Nat)+1)]:=by rw [← Zh];exact yU (R++W) _
     have TF:R.length+(W++[(⟨.slice ea (xp.length+1) ec,xp++[i],xf+1⟩:Wy)]).length=R.length+W.length+1:=by simp [Nat.add_assoc]
     apply lM (.slice a' (R.length+W.length+1) gL,W++[⟨.slice ea (xp.length+1) ec,xp++[i],xf+1⟩],CC++[⟨.slice ea (xp.length+1) ec,xp++[i],xf+1⟩])
     case ht=>exact eX
     case hx=>
      refine ⟨?_,?_,?_,?_⟩
      ·rw [wy,Zs,Zs,hW];rfl
      ·intro z hz
       rw [← Zh] at hz
       rcases Zx.1 hz with hz | hz
       ·exact ZE _ (iR z hz)
       ·exact ZT _ hz
      ·intro z hz
       rcases Zx.1 hz with hz | hz
       ·exact gR z hz
       ·rw [ZB.1 hz];rfl
      ·exact ZE _ DL
     case h2=>
      show bD _ [bH KY (.cells #[.slice a' (R.length+W.length+1) gL] 329 (0,0)),kI 244 2 (.slice a' (R.length+W.length+1) gL) (R.length+(W++[(⟨.slice ea (xp.length+1) ec,xp++[i],xf+1⟩:Wy)]).length) (mR (R++(W++[⟨.slice ea (xp.length+1) ec,xp++[i],xf+1⟩]))),iD (CC++[⟨.slice ea (xp.length+1) ec,xp++[i],xf+1⟩]),bH Sc (.cells #[.slice (some ⟨g2,0,none⟩) xp.length dA,.int .i64 (xf:Nat)] 244 (0,0))] _
      rw [TF,TG]
      exact .cons (.there .here) (.cons (.there .here) (.cons .here (.cons bL .nil)))
def qO (r:Ro) (v:Int) (so de:ByteArray):Option (List Nat):=match (fB r r.po v so).all (nQ r de) ((fB r r.po v so).n+1) [] with
 | []=>none
 | a::l=>some (tE (fB r r.po v so).lt a l)
theorem xD {r:Ro} {v:Int} {so de:ByteArray} {p:List Nat} (h:(fB r r.po v so).least (nQ r de) p):qO r v so de=some p:=by
 unfold qO
 split
 ·rename_i e
  exact absurd h.2.1 (Wn.all_none e p h.1)
 ·rename_i a l e
  rw [Wn.DI (Wn.R7 e) h]
theorem xE {r:Ro} {v:Int} {so de:ByteArray} (h:∀ q,(fB r r.po v so).ok q→(fB r r.po v so).fin q≠nQ r de):qO r v so de=none:=by
 unfold qO
 split
 ·rfl
 ·rename_i a l e
  have:=Wn.R7 e
  exact absurd this.2.1 (h _ this.1)
theorem LP {r:Ro} {v:Int} {so de:ByteArray} {p:List Nat} (h:(fB r r.po v so).least (nQ r de) p):∀ i∈p,i<r.ti.length:=Wn.BJ h.1
def pS (r:Ro) (v:Int) (so de:ByteArray):Int:=aX [fX r,CN r v,P2 r so,ph r de]
theorem Ox {n:Int} (h0:0≤n) (h1:n<9223372036854775808):IntKind.i64.wrap n=n:=by simp [IntKind.wrap,IntKind.bits,IntKind.signed];omega
theorem yX {r:Ro} {v:Int} {so de:ByteArray} (h:pS r v so de=0):rR r∧(0≤v∧v<r.lv)∧so∈cF r∧de∈cq r:=by
 unfold pS at h
 rw [cy] at h
 have h1:=CM (h _ Zq)
 have h2:=h (CN r v) (by simp)
 have h3:=(bO (by decide)).1 (h (P2 r so) (by simp))
 have h4:=(bO (by decide)).1 (h (ph r de) (by simp))
 have hl:=h1.lim
 unfold CN at h2
 rw [Ox (by omega) (by omega),gn] at h2
 rw [decide_eq_false_iff_not,cm,Classical.not_not] at h3 h4
 exact ⟨h1,by omega,h3,h4⟩
theorem qA {r:Ro} {s d t p:Value} (v:Int) (so de:ByteArray) {w:World} (h:RR w r s d t p) (cT:lD r):aj Tryz.prog 151 [RA r s d t p,.int .i64 v,.string so,.string de] w (.int .i64 (pS r v so de)):=by
 have h1:=Rd.one h.sr
 have h2:=Rd.one h.de
 have h3:=Rd.one h.ti
 have h4:=Rd.one h.po
 have eQ:∀ w',aJ [] w w'→aj Tryz.prog 34 [.agg #[.int .i64 r.lv,.int .i64 r.ma,s,d,t,p]] w' (.int .i64 (fX r)):=fun w' hk=>eH (h.keeps hk) cT
 have hle:∀ w',aJ [] w w'→aj Tryz.prog 114 [.agg #[.int .i64 r.lv,.int .i64 r.ma,s,d,t,p],.int .i64 v] w' (.int .i64 (CN r v)):=fun w' hk=>kT v (h.keeps hk)
 have wW:∀ w',aJ [] w w'→aj Tryz.prog 122 [.agg #[.int .i64 r.lv,.int .i64 r.ma,s,d,t,p],.string so] w' (.int .i64 (P2 r so)):=fun w' hk=>pP so (h.keeps hk)
 have mq:∀ w',aJ [] w w'→aj Tryz.prog 112 [.agg #[.int .i64 r.lv,.int .i64 r.ma,s,d,t,p],.string de] w' (.int .i64 (ph r de)):=fun w' hk=>eA de (h.keeps hk)
 unfold RA
 refine ah Tryz.func151 rfl rfl ?_
 refine Jr<|Jy rfl rfl fun _ _=>Ja rfl<|Jn<|Jq ?_
 with_reducible refine cZ 12 (by kernel_rfl) ?_
 (refine ao (cR .here) rfl<|aY bN rfl (fun w' aA=>(eQ w' (Mem.keeps aA)))<|ao (cR .here) rfl<|ao l7 rfl<|aY bj rfl (fun w' aA=>(hle w' (Mem.keeps aA)))<|ao (cR .here) rfl<|ao l7 rfl<|aY bj rfl (fun w' aA=>(wW w' (Mem.keeps aA)))<|ao (cR .here) rfl<|ao l7 rfl<|aY bj rfl (fun w' aA=>(mq w' (Mem.keeps aA)))<|eB (aC (.cons (.of rfl) (.cons (.of rfl) (.cons (.of rfl) (.cons (.of rfl) .nil)))) rfl rfl rfl rfl) rfl rfl ?_)
 with_reducible refine dB rfl fun bq nq=>?_
 (refine ai bN rfl (fun w' aA=>(dO (Mem.dw aA .here rfl rfl) (bY.cons (bY.cons (bY.cons (bY.cons bY.nil))))))<|Ja rfl<|Jn<|Je<|JT ?_)
 rfl
theorem Qx {lv:Value} {l:List Nat} {g:Nat→ByteArray} {f:FuncId} {first cap:List Value} [bR Tryz.prog f] {w:World} (h:Rd w lv 1 (ints (nz l))) (hn:l.length≤1000000)
  (cz:∀ i∈l,∀ w',aJ [] w w'→aj Tryz.prog f (first++[.int .i64 (i:Nat)]++cap) w' (.string (g i))) :
  bu Tryz.prog 176 [lv,.func (.func f) first.toArray cap.toArray] w [] (fun _:Value=>True) id (fun v=>[row 9 1 v l.length (aL (l.map g))]):=by
 obtain ⟨a,cp,b,o,rfl,dj,bV,ha,hc⟩:=h
 rw [c8,sn] at *
 unfold maxLen at bV
 refine aS Tryz.func176 rfl rfl ?_
 refine Jr<|Ja rfl<|Ji<|Ja rfl<|Jn<|Jq<|Jr<|Jv rfl<|JI rfl<|Jv rfl<|Jn<|J0 ?_
 refine aQ 9 1 ?_
 refine aW (ι:=Nat×Value) (fun x=>x.1≤l.length) (fun x=>[(10,.int .i64 x.1),(9,.int .i64 l.length),(8,.slice a l.length cp),(5,x.2),(1,.func (.func f) first.toArray cap.toArray)]) (fun x=>[row 9 1 x.2 x.1 (aL ((l.take x.1).map g))]) (fun x=>l.length-x.1) ?_ ?_
 ·apply aI (0,.slice none 0 0) (Zi _)
  case hs1=>exact cg
  case ht=>
   exact .cons .here .nil
 rintro ⟨k,v⟩ hk
 dsimp only at hk ⊢
 by_cases aM:k<l.length
 ·have hlz:k<(nz l).length:=by rw [sn];exact aM
  have cG:=ha (jC hlz)
  have hgz:(nz l)[k]=((l[k]:Nat):Int):=by simp [nz]
  have c0:w.cell? ⟨b,o+k*1,none⟩=some (.int .i64 (l[k]:Nat)):=by rw [← hgz];exact (hc k _ (ib hlz)).2 0 _ rfl
  have iT:=cz _ (Zj aM)
  have I4:aL ((l.take (k+1)).map g)=aL ((l.take k).map g)++[.string (g l[k])]:=by
   rw [Zn aM,Zs,eU];rfl
  have tu:(aL ((l.take k).map g)).length=k*1:=by rw [c7,Zd,ZaK (by omega),Zaq]
  generalize g l[k]=gk at iT I4
  (refine Jr<|JA rfl<|Jn<|Jq<|Jd rfl fun az=>Jk<|Jq<|J0<|Jr<|ab (fM cG az) rfl<|ab (ag (.of rfl) (At.base c0 rfl)) rfl<|Ja rfl<|Jn<|Jg<|Jv rfl<|Jv rfl<|Jv rfl ?_)
  refine ai bN rfl (fun w' aA=>(iT w' (Mem.keeps aA))) ?_
  refine br (aC (.cons (.of rfl) .nil) rfl rfl rfl rfl) rfl (fun _ _=>?_)
  refine bF (.of rfl) (.of rfl) (.there .here) .here ak (by rfl) (en rfl) (by rfl) (by rfl) (by rfl) eC (by rfl) ?_
  intro v'
  refine Ja rfl<|Jx<|Jj<|Jt<|Jg<|JB rfl (by omega)<|Jv rfl<|Jn ?_
  apply aK (k+1,v') (by show k+1≤l.length;omega) (by show l.length-(k+1)<l.length-k;omega)
  case hs1=>exact cg
  case ht=>
   show bD _ [row 9 1 v' (k+1) (aL ((l.take (k+1)).map g))] _
   rw [I4]
   exact .cons .here .nil
 ·obtain rfl:k=l.length:=by omega
  rw [ZN]
  refine Jr<|JA rfl<|Jn<|Jq<|Jc rfl fun az=>Jp<|Jl<|Jo<|Jt<|Jr<|Jv rfl<|Ja rfl<|Jn<|Je ?_
  first | with_reducible apply aO | with_reducible apply aP
  case he=>exact dH rfl rfl
  case hR=>
   intro w' aA
   exact aG v trivial (by exact .cons .here .nil) aA rfl
theorem PO {r:Ro} {s d t p:Value} (i:Nat) (hi:i<r.ti.length) {b1:Nat} {w:World} (h:RR w r s d t p) (hA:BR w b1 (RC r s d t p)) :
  aj Tryz.prog 177 [.int .i64 (i:Nat),.pointer (some ⟨b1,0,none⟩)] w (.string (gP r i)):=by
 have yx:gP r i=(r.ti[i]).nm:=by unfold gP;rw [mW hi]
 have hti:=h.ti
 obtain ⟨a,cp,b,o',rfl,dj,bV,ha,hc⟩:=hti
 rw [cd] at *
 have cG:=ha (fw hi)
 have aB:=(hc i _ (eE hi)).2
 unfold Ti.cells at aB
 have c0:=aB 0 _ rfl
 have c4:w.cell? ⟨b1,4,none⟩=some (.slice a r.ti.length cp):=hA 4 _ rfl
 rw [yx]
 refine ah Tryz.func177 rfl rfl ?_
 (refine Jr<|Ja rfl<|Ji<|bS rfl rfl ae<|ab (ag (.of rfl) (At.base c4 rfl)) rfl<|Jv rfl<|ab (ar (.of rfl) (.of rfl) cG (by omega) (by omega) bb) rfl<|bS rfl rfl ae<|ab (ag (.of rfl) (At.base c0 rfl)) rfl<|Ja rfl<|Jn<|Je<|JT ?_)
 rfl
def FQ (r:Ro) (v:Int) (so de:ByteArray):Int:=if pS r v so de≠0 then pS r v so de else if (qO r v so de).isNone then 18 else 0
def C1 (r:Ro) (v:Int) (so de:ByteArray):List ByteArray:=if pS r v so de≠0 then [] else ((qO r v so de).getD []).map (gP r)
theorem Vk {r:Ro} {s d t p:Value} (v:Int) (so de:ByteArray) {w:World} (h:RR w r s d t p) (cT:lD r):bu Tryz.prog 70 [RA r s d t p,.int .i64 v,.string so,.string de] w [] (fun _:Value=>True) (fun x=>.tuple #[x,.int .i64 (FQ r v so de)]) (fun x=>[row 9 1 x (C1 r v so de).length (aL (C1 r v so de))]):=by
 have h1:=Rd.one h.sr
 have h2:=Rd.one h.de
 have h3:=Rd.one h.ti
 have h4:=Rd.one h.po
 unfold RA
 refine aS Tryz.func70 rfl rfl ?_
 (refine Jr<|Jy rfl rfl fun _ _=>Ja rfl<|Ja rfl<|Jn<|Jq<|Jr<|ab (cR .here) rfl<|Jv rfl<|Jv rfl<|Jv rfl ?_)
 rename_i b4 wA
 refine ai wj rfl (fun w' aA=>qA (s:=s) (d:=d) (t:=t) (p:=p) v so de (h.keeps aA.keeps) cT) ?_
 (refine Ja rfl<|Ji<|Jv rfl<|JD rfl<|Jn<|gm rfl (fun az=>?_) fun az=>?_;refine Jr<|Jv rfl<|Ja rfl<|Ja rfl<|Jn<|Ju ?_;rotate_left;refine Jk<|Jr<|ab (cR .here) rfl<|Jv rfl<|Jv rfl<|Jv rfl ?_;rotate_right)
 ·have e1:C1 r v so de=[]:=if_pos az
  have e2:FQ r v so de=pS r v so de:=if_pos az
  rw [e1,e2]
  refine aQ 9 1 ?_
  first | with_reducible apply aO | with_reducible apply aP
  case he=>exact fV rfl rfl rfl
  case hR=>
   intro w' aA
   exact aG (.slice none 0 0) trivial (by exact .cons .here .nil) aA rfl
 have e0:pS r v so de=0:=Zo.1 az
 obtain ⟨eJ,hv,rz,fJ⟩:=yX e0
 have e1:C1 r v so de=((qO r v so de).getD []).map (gP r):=if_neg az
 have e2:FQ r v so de=if (qO r v so de).isNone then 18 else 0:=if_neg az
 clear az
 rw [e1,e2]
 refine JN wj rfl (fun w1 aR=>OA (s:=s) (d:=d) (t:=t) (p:=p) v so de (h.keeps aR.keeps) eJ.ui eJ.val eJ.Pp rz fJ) ?_
 rintro ⟨V1,⟨xv,xp,xf⟩,kz⟩ ⟨VB,VA,TE⟩
 dsimp only [Wy.cells] at VB VA TE ⊢
 dsimp only [id_eq,Zb,Za]
 cases V1 with
 | false =>
  rw [xE (VA rfl)]
  (refine Jv rfl<|JJ rfl rfl<|JJ rfl rfl<|Jz rfl rfl fun _ _=>aq (.of rfl) (.of rfl) .here rfl rfl (fY TE rfl) (bG rfl) ak<|Ja rfl<|Jn<|Jq<|Jr<|Jv rfl<|JH rfl<|Jn<|cP (.of rfl)<|Jr<|Ja rfl<|Ja rfl<|Jn<|Ju ?_)
  refine aQ 9 1 ?_
  first | with_reducible apply aO | with_reducible apply aP
  case he=>exact fV rfl rfl rfl
  case hR=>
   intro w' aA
   exact aG (.slice none 0 0) trivial (by exact .cons .here .nil) aA rfl
 | true =>
  obtain ⟨hl,oG⟩:=VB rfl
  rw [xD hl]
  have hrw:(((some xp).getD []:List Nat).map (gP r)).length=xp.length:=by simp
  rw [hrw]
  have aM:=LP hl
  have aax:xp.length≤6:=ZX (Wn.u9 hl.1) eJ.len.2.2
  (refine Jv rfl<|JJ rfl rfl<|JJ rfl rfl<|Jz rfl rfl fun _ _=>aq (.of rfl) (.of rfl) .here rfl rfl (fY TE rfl) (bG rfl) ak<|Ja rfl<|Jn<|Jq<|Jr<|Jv rfl<|JH rfl<|Jn<|bK (.of rfl)<|Jk<|Jr<|bS rfl rfl ae<|JL rfl .here rfl<|ab (bC .nil (.cons (.of rfl) .nil)) rfl ?_)
  with_reducible apply jw
  case hr=>exact bj
  case hd=>rfl
  case ht=>exact bD.nil
  case hc=>
   intro w1 fp aR _ hs1
   obtain rfl:fp=[]:=hs1
   have hA:BR w1 b4 [.int .i64 r.lv,.int .i64 r.ma,s,d,t,p]:=BR.of aR bL
   have hR:=h.keeps aR.keeps
   have hrd:Rd w1 xv 1 (ints (nz xp)):=by
    rcases oG with oG | oG
    ·exact Ei aR (by exact Take.there .here) oG
    ·cases oG
     exact Rd.nil w1 1
   exact Qx (f:=177) (g:=gP r) (first:=[]) (cap:=[.pointer (some ⟨b4,0,none⟩)]) hrd (by omega) (fun i hi w2 eF=>PO i (aM i hi) (hR.keeps eF) (hA.keeps eF))
  intro x _
  dsimp only [id_eq,Zb,Za]
  refine Ja rfl<|Ja rfl<|Jn<|Je ?_
  first | with_reducible apply aO | with_reducible apply aP
  case he=>exact fV rfl rfl rfl
  case hR=>
   intro w' aA
   exact aG x trivial (by exact .cons .here .nil) aA rfl

def gB (r:Ro) (v:Int) (so:ByteArray):Nat→List Int
  | 0=>[qU r so]
  | k+1=>if xq r v so k&&!(gB r v so k).contains (iK r k).to then gB r v so k++[(iK r k).to] else gB r v so k
theorem Bp (r:Ro) (v:Int) (so:ByteArray):∀ k,(gB r v so k).length≤k+1
  | 0=>Zz _
  | k + 1 => by
    have:=Bp r v so k
    unfold gB
    split
    · rw [Zg];simp;omega
    · omega
theorem uO (r:Ro) (v:Int) (so:ByteArray):∀ k,(gB r v so k).Nodup
  | 0=>by simp [gB]
  | k + 1 => by
    have:=uO r v so k
    unfold gB
    split
    · rename_i h
      rw [Zm] at h
      rw [ZH]
      refine ⟨this,by simp,fun a ha b hb e=>?_⟩
      rw [ZB] at hb
      subst hb;subst e
      have:=h.2
      rw [Zbj.2 ha] at this
      cases this
    · exact this
theorem xZ (r:Ro) (v:Int) (so:ByteArray) {m:Int}:∀ {a b:Nat},a≤b→m∈gB r v so a→m∈gB r v so b:=by
  intro a b h
  induction h with
  | refl=>exact id
  | step _ ih =>
    intro hm
    have:=ih hm
    rw [gB]
    split
    · exact ZE _ this
    · exact this
theorem HW (r:Ro) (v:Int) (so:ByteArray) (k:Nat):qU r so∈gB r v so k:=xZ r v so (Zi k) (by simp [gB])
theorem My {r:Ro} {v:Int} {so:ByteArray} {k t:Nat} (ht:t<k) (h:xq r v so t=true):(iK r t).to∈gB r v so k:=by
  refine xZ r v so (show t+1≤k from ht) ?_
  rw [gB]
  split
  · exact ZT _ (by simp)
  · rename_i hc
    rw [h,ZaA,Zbp,Bool.not_eq_false] at hc
    exact Zbj.1 hc
theorem zt {r:Ro} (eJ:rR r) {v:Int} {so:ByteArray} (hs:so∈cF r):∀ k,k≤r.ti.length→∀ m∈gB r v so k,(fB r r.po v so).Rc m
  | 0, _, m, hm => by
    rw [gB,ZB] at hm
    subst hm
    rw [← rZ hs]
    exact Wn.Rc.Ek
  | k + 1, hk, m, hm => by
    rw [gB] at hm
    split at hm
    · rename_i h
      rcases Zx.1 hm with hm | hm
      · exact zt eJ hs k (by omega) m hm
      · rw [ZB] at hm
        subst hm
        rw [Zm,vY eJ.ui eJ.val] at h
        exact Wn.Rc.ca (N:=fB r r.po v so) (show k<r.ti.length from hk) h.1
    · exact zt eJ hs k (by omega) m hm
theorem uZ {r:Ro} (eJ:rR r) {v:Int} {so:ByteArray} (hs:so∈cF r) {m:Int} (h:(fB r r.po v so).Rc m):0≤m∧m<r.ma:=by
  have SD:∀ i,i<r.ti.length→0≤(iK r i).to∧(iK r i).to<r.ma:=fun i hi=>by
    rw [mW hi];exact (eJ.tm _ (Zj hi)).2.1
  cases h with
  | Ek =>
    show 0≤j7 r so∧j7 r so<r.ma
    rw [rZ hs]
    unfold qU
    obtain ⟨hl,_⟩:=fq (l:=cF r) (s:=so) (eG hs)
    have B5:(bE (cF r) so).toNat<r.sr.length:=by
                                                           have e:(cF r).length=r.sr.length:=by unfold cF;rw [Zd]
                                                           omega
    rw [Zk,Zc B5]
    exact eJ.sm _ (Zj B5)
  | ca hi _=>exact SD _ hi
  | fe hi _ _=>exact SD _ hi
structure wo (r:Ro) (v:Int) (so:ByteArray) (L:List Int) (i:Nat):Prop where
  nd:L.Nodup
  rc:∀ m∈L,(fB r r.po v so).Rc m
  rt:∀ m∈gB r v so r.ti.length,m∈L
  dn:∀ j x,j<i→L[j]? = some x→∀ t,t<r.ti.length→Cf r v x t=true→(iK r t).to∈L
theorem E7 {L:List Int} {n:Nat} (lj:L.Nodup) (h:∀ m∈L,0≤m∧m<(n:Nat)):L.length≤n:=by
  have:=kX n (L.map Int.toNat) (by
    show List.Pairwise (fun a b=>a≠b) (L.map Int.toNat)
    rw [ZbA]
    refine List.Pairwise.imp_of_mem (fun {a b} ha hb hne e=>hne ?_) lj
    have:=h a ha;have:=h b hb;omega) (fun x hx=>by
    obtain ⟨m,hm,rfl⟩:=Zt.1 hx
    have:=h m hm;omega)
  rwa [Zd] at this
theorem wo.D8 {r:Ro} (eJ:rR r) {v:Int} {so:ByteArray} (hs:so∈cF r) {L:List Int} {i:Nat} (h:wo r v so L i):L.length≤4:=by
  have hl:=eJ.lim
  refine E7 h.nd fun m hm=>?_
  have:=uZ eJ hs (h.rc m hm)
  omega
theorem wo.begin {r:Ro} (eJ:rR r) {v:Int} {so:ByteArray} (hs:so∈cF r):wo r v so (gB r v so r.ti.length) 0:=
  ⟨uO r v so _,zt eJ hs _ (Zz _),fun _ h=>h,fun j x h=>absurd h (ZP _)⟩
theorem wo.done {r:Ro} (eJ:rR r) {v:Int} {so:ByteArray} (hs:so∈cF r) {L:List Int} (h:wo r v so L L.length) (m:Int):m∈L↔(fB r r.po v so).Rc m:=by
  refine Wn.ME (S:=fun m=>m∈L) ⟨?_,fun i hi hc=>?_⟩ (fun m hm=>h.rc m hm) m
  · show j7 r so∈L
    rw [rZ hs]
    exact h.rt _ (HW r v so _)
  · rcases hc with hc | ⟨hf,w7⟩
    · rw [← vY eJ.ui eJ.val] at hc
      exact h.rt _ (My hi hc)
    · obtain ⟨j,hj,e⟩:=Zu w7
      refine h.dn j _ hj (Zc hj) i hi ?_
      rw [qp v so,e,hf]
      simp
def Lm (r:Ro) (v:Int) (so:ByteArray) (m:Int):Bool:=!((fB r r.po v so).all m ((fB r r.po v so).n+1) []).isEmpty
theorem H3 (r:Ro) (v:Int) (so:ByteArray) (m:Int):Lm r v so m=true↔(fB r r.po v so).Rc m:=by
  unfold Lm
  rw [Zbp,List.isEmpty_eq_false_iff]
  constructor
  · intro h
    obtain ⟨q,hq⟩:=List.exists_mem_of_ne_nil _ h
    obtain ⟨h1,h2⟩:=Wn.zO (Wn.sg _) hq
    rw [← h2]
    exact Wn.Tf h1
  · intro h e
    obtain ⟨p,hp,hf⟩:=Wn.Tu h
    exact Wn.all_none e p hp hf
def vP (r:Ro) (v:Int) (so:ByteArray):List Int:=((List.range r.ma.toNat).map fun i:Nat=>(i:Int)).filter (Lm r v so)
theorem Cp (r:Ro) (v:Int) (so:ByteArray):(vP r v so).Pairwise (fun a b=>a<b):=by
  unfold vP
  refine List.Pairwise.filter _ ?_
  rw [ZbA]
  exact List.pairwise_lt_range.imp fun h=>by omega
theorem KC {r:Ro} (eJ:rR r) {v:Int} {so:ByteArray} (hs:so∈cF r) {m:Int}:m∈vP r v so↔(fB r r.po v so).Rc m:=by
  unfold vP
  rw [Zv,H3]
  constructor
  · exact fun h=>h.2
  · intro h
    have:=uZ eJ hs h
    exact ⟨Zt.2 ⟨m.toNat,ZQ.2 (by omega),by omega⟩,h⟩
theorem KA {r:Ro} (eJ:rR r) {v:Int} {so:ByteArray} (hs:so∈cF r) {L S:List Int} (lj:L.Nodup) (hL:∀ m,m∈L↔(fB r r.po v so).Rc m) (hp:S.Perm L) (Np:S.Pairwise (fun a b=>a≤b)):S=vP r v so:=by
  have hSn:S.Nodup:=hp.nodup_iff.2 lj
  have hSs:S.Pairwise (fun a b=>a<b):=(Np.and hSn).imp fun ⟨h1,h2⟩=>by omega
  refine nW (R:=fun a b:Int=>a<b) (fun a b h h'=>by omega) hSs (Cp r v so) ?_
  refine (Zaz hSn ((Cp r v so).imp fun h=>by omega)).2 fun m=>?_
  rw [hp.mem_iff,hL,KC eJ hs]
end Go.Proofs.A1
namespace Go.Proofs
open Go.Shelf
def Tryz.BV:Go.Shelf.Ren:=⟨fun | 189=>156 | 125=>245 | 257=>244 | 128=>312 | 129=>313 | 294=>303 | 295=>304 | 296=>305 | 297=>306 | 298=>307 | 299=>308 | 216=>309 | 300=>310 | 301=>311 | 328=>343 | 329=>344 | 330=>345 | 331=>346 | 332=>347 | 215=>342 | 343=>367 | n=>n,fun | 28=>49 | 3=>3 | 46=>318 | 0=>0 | 51=>381 | 53=>383 | 4=>4 | 183=>374 | 182=>373 | 131=>272 | 5=>5 | 9=>9 | 218=>409 | 222=>413 | 228=>428 | 229=>359 | n=>n,fun | n=>n⟩
theorem Tryz.E4:Go.Proofs.Lays.n189 Tryz.prog Tryz.BV:={
 mixed:=by kernel_rfl
 f125:=Tryz.func245.trans (congrArg some (by kernel_rfl))
 f128:=Tryz.func312.trans (congrArg some (by kernel_rfl))
 f129:=Tryz.func313.trans (congrArg some (by kernel_rfl))
 f189:=Tryz.func156.trans (congrArg some (by kernel_rfl))
 f215:=Tryz.func342.trans (congrArg some (by kernel_rfl))
 f216:=Tryz.func309.trans (congrArg some (by kernel_rfl))
 f257:=Tryz.func244.trans (congrArg some (by kernel_rfl))
 f294:=Tryz.func303.trans (congrArg some (by kernel_rfl))
 f295:=Tryz.func304.trans (congrArg some (by kernel_rfl))
 f296:=Tryz.func305.trans (congrArg some (by kernel_rfl))
 f297:=Tryz.func306.trans (congrArg some (by kernel_rfl))
 f298:=Tryz.func307.trans (congrArg some (by kernel_rfl))
 f299:=Tryz.func308.trans (congrArg some (by kernel_rfl))
 f300:=Tryz.func310.trans (congrArg some (by kernel_rfl))
 f301:=Tryz.func311.trans (congrArg some (by kernel_rfl))
 f328:=Tryz.func343.trans (congrArg some (by kernel_rfl))
 f329:=Tryz.func344.trans (congrArg some (by kernel_rfl))
 f330:=Tryz.func345.trans (congrArg some (by kernel_rfl))
 f331:=Tryz.func346.trans (congrArg some (by kernel_rfl))
 f332:=Tryz.func347.trans (congrArg some (by kernel_rfl))
 f343:=Tryz.func367.trans (congrArg some (by kernel_rfl))
 t0:=Tryz.underlying0
 a0:=Tryz.isAgg0
 z0:=Tryz.sizeOf0
 v0:=Tryz.zeroValue0
 t3:=Tryz.underlying3
 a3:=Tryz.isAgg3
 z3:=Tryz.sizeOf3
 v3:=Tryz.zeroValue3
 t4:=Tryz.underlying4
 a4:=Tryz.isAgg4
 z4:=Tryz.sizeOf4
 v4:=Tryz.zeroValue4
 t5:=Tryz.underlying5
 a5:=Tryz.isAgg5
 z5:=Tryz.sizeOf5
 v5:=Tryz.zeroValue5
 t9:=Tryz.underlying9
 a9:=Tryz.isAgg9
 z9:=Tryz.sizeOf9
 v9:=Tryz.zeroValue9
 t28:=Tryz.underlying49
 a28:=Tryz.isAgg49
 z28:=Tryz.sizeOf49
 v28:=Tryz.zeroValue49
 t46:=Tryz.underlying318
 a46:=Tryz.isAgg318
 z46:=Tryz.sizeOf318
 v46:=Tryz.zeroValue318
 t51:=Tryz.underlying381
 a51:=Tryz.isAgg381
 z51:=Tryz.sizeOf381
 v51:=Tryz.zeroValue381
 t53:=Tryz.underlying383
 a53:=Tryz.isAgg383
 z53:=Tryz.sizeOf383
 v53:=Tryz.zeroValue383
 t131:=Tryz.underlying272
 a131:=Tryz.isAgg272
 z131:=Tryz.sizeOf272
 v131:=Tryz.zeroValue272
 t182:=Tryz.underlying373
 a182:=Tryz.isAgg373
 z182:=Tryz.sizeOf373
 v182:=Tryz.zeroValue373
 t183:=Tryz.underlying374
 a183:=Tryz.isAgg374
 z183:=Tryz.sizeOf374
 v183:=Tryz.zeroValue374
 t218:=Tryz.underlying409
 a218:=Tryz.isAgg409
 z218:=Tryz.sizeOf409
 v218:=Tryz.zeroValue409
 t222:=Tryz.underlying413
 a222:=Tryz.isAgg413
 z222:=Tryz.sizeOf413
 v222:=Tryz.zeroValue413
 t228:=Tryz.underlying428
 a228:=Tryz.isAgg428
 z228:=Tryz.sizeOf428
 v228:=Tryz.zeroValue428
 t229:=Tryz.underlying359
 a229:=Tryz.isAgg359
 z229:=Tryz.sizeOf359
 v229:=Tryz.zeroValue359 }
open Go.Sort Go.RowKit in
theorem Tryz.slices_Sort_int (bH off cap:Nat) (zs:List Int) (w:World) (hH:Holds (Value.int .i64) w bH off zs.toArray) (hblk:bH<w.heap.size) (hsz:zs.length<4611686018427387904) :
  Calls Tryz.prog 156 #[.slice (some ⟨bH,off,none⟩) zs.length cap] w fun e w'=>
   e=.returned (.tuple #[])∧∃ n os,w'=grow (putRow (Value.int .i64) (Sort.ahead w n) bH off (zs.mergeSort fun x y=>decide (x≤y)).toArray) os:=Any.slices_Sort_int Tryz.E4 bH off cap zs w hH hblk hsz
end Go.Proofs
namespace Go.Proofs.A1
open Go Go.SL
theorem Nb (l:List Int):∀ r∈ints l,r.length=1:=fun r hr=>by obtain ⟨x,_,rfl⟩:=Zt.1 hr;rfl
theorem kO {c:Cx} {hs hs':List bd} {w:World} {l:List Int} {E:TypeId} {v:Value} {n:Nat} (hm:Mem c hs w) (ht:Take hs (row E 1 v n (l.map (Value.int .i64))) hs') (hn:l.length=n):Rd w v 1 (ints l):=hm.om ht (yu l) (Nb l) (by rw [c8,hn])
set_option maxHeartbeats 1000000 in
theorem EO {r:Ro} {s d t p:Value} (v:Int) (so:ByteArray) {w:World} (h:RR w r s d t p) (cT:r.ti.length≤1000) (QP:so∈cF r) :
  bu Tryz.prog 152 [RA r s d t p,.int .i64 v,.string so] w [] (fun _:Value=>True) id (fun x=>[row 3 1 x (gB r v so r.ti.length).length ((gB r v so r.ti.length).map (Value.int .i64))]):=by
 have h1:=Rd.one h.sr
 have h2:=Rd.one h.de
 have h3:=Rd.one h.ti
 have h4:=Rd.one h.po
 have hti:=h.ti
 obtain ⟨a,cp,b,o',rfl,dj,bV,ha,hc⟩:=hti
 have QM:=h.sr
 obtain ⟨a2,nR,b2,o2,rfl,kE,fk,jD,jS⟩:=QM
 rw [cd] at *
 rw [cO] at *
 unfold maxLen at bV fk
 obtain ⟨i0,wZ⟩:∃ i:Nat,bE (cF r) so=(i:Nat):=⟨(bE (cF r) so).toNat,by have:=eG QP;omega⟩
 have J6:i0<r.sr.length:=by
  obtain ⟨hl,_⟩:=fq (l:=cF r) (s:=so) (by omega)
  rw [wZ,ZI] at hl
  unfold cF at hl;rwa [Zd] at hl
 have z6:qU r so=(r.sr[i0]).mx:=by unfold qU;rw [wZ,ZI,Zk,Zc J6];rfl
 have hsrc:∀ w',aJ [] w w'→aj Tryz.prog 180 [.agg #[.int .i64 r.lv,.int .i64 r.ma,.slice a2 r.sr.length nR,d,.slice a r.ti.length cp,p],.string so] w' (.int .i64 (i0:Nat)):=fun w' hk=>wZ ▸ n9 so (h.keeps hk)
 have tN:=jD (iM J6)
 have eT:=(jS i0 _ (fN J6)).2
 unfold Sr.cells at eT
 have SG:=eT 1 _ rfl
 unfold RA
 refine aS Tryz.func152 rfl rfl ?_
 refine Jr<|Jy rfl rfl fun _ _=>Ja rfl<|Jn<|Jq ?_
 rename_i b3 vI
 with_reducible refine cZ 9 (by kernel_rfl) ?_
 (refine ao kZ rfl<|ao (gT .here) rfl<|ao (cR .here) rfl<|ao l7 rfl<|aY bj rfl (fun w' aA=>(hsrc w' (Mem.keeps aA)))<|ao (ar (.of rfl) (.of rfl) tN (by omega) (by omega) bb) rfl<|ao kZ rfl<|ao (ag (.of rfl) (At.base SG rfl)) rfl<|eB (aC (.cons (.of rfl) .nil) rfl rfl rfl rfl) rfl rfl ?_)
 with_reducible refine dB rfl fun bq nq=>?_
 rw [← z6]
 (refine Ja rfl<|Jn<|Jq<|Jr<|bS rfl rfl ae<|JL rfl (.there .here) rfl<|JI rfl<|Jv rfl<|Jn<|J0 ?_)
 refine bZ (g:=bq) (E:=3) (ys:=[.int .i64 (qU r so)]) 1 1 (by exact .here) rfl rfl rfl ?_
 refine aW (ι:=Nat×Value) (fun x=>x.1≤r.ti.length) (fun x=>[(22,.int .i64 (x.1:Nat)),(21,.int .i64 (r.ti.length:Nat)),(20,.slice a r.ti.length cp),(7,x.2),(3,.pointer (some ⟨b3,0,none⟩)),(1,.int .i64 v),(2,.string so)])
  (fun x=>[row 3 1 x.2 (gB r v so x.1).length ((gB r v so x.1).map (Value.int .i64)),JP b3 r (.slice a2 r.sr.length nR) d (.slice a r.ti.length cp) p]) (fun x=>r.ti.length-x.1) ?_ ?_
 ·apply aI (0,.slice (some ⟨bq,0,none⟩) 1 1) (Zi _)
  case hs1=>exact cg
  case ht=>
   exact .cons .here (.cons .here .nil)
 rintro ⟨k,ov⟩ hk
 dsimp only at hk ⊢
 have W5:=Bp r v so k
 by_cases aM:k<r.ti.length
 ·have cG:=ha (fw aM)
  have aB:=(hc k _ (eE aM)).2
  unfold Ti.cells at aB
  have zZ:=mW aM
  have yx:gP r k=(r.ti[k]).nm:=by unfold gP;rw [zZ]
  have W1:gB r v so (k+1)=if xq r v so k&&!(gB r v so k).contains (r.ti[k]).to then gB r v so k++[(r.ti[k]).to] else gB r v so k:=by rw [gB,zZ]
  generalize hL:gB r v so k=L at W5 W1 ⊢
  have Fi:L.length=L.length:=rfl
  have B7:∀ w',aJ [] w w'→aj Tryz.prog 121 [.agg #[.int .i64 r.lv,.int .i64 r.ma,.slice a2 r.sr.length nR,d,.slice a r.ti.length cp,p],.int .i64 v,.string (r.ti[k]).nm] w' (.bool (gV r.po v (r.ti[k]).nm)):=fun w' hk=>qC v _ (h.keeps hk)
  have AQ:∀ w',aJ [] w w'→aj Tryz.prog 126 [.agg #[.int .i64 r.lv,.int .i64 r.ma,.slice a2 r.sr.length nR,d,.slice a r.ti.length cp,p],.int .i64 v,.string (r.ti[k]).nm] w' (.string (jG r v (r.ti[k]).nm)):=fun w' hk=>pq v _ (h.keeps hk) (by omega)
  have Kc:∀ (w':World),Rd w' ov 1 (ints L)→aj Tryz.prog 154 [ov,.int .i64 (r.ti[k]).to] w' (.bool (L.contains (r.ti[k]).to)):=fun w' hr=>ly _ hr
  have skip:(xq r v so k&&!L.contains (r.ti[k]).to)=false→gB r v so (k+1)=L:=fun e=>by rw [W1,e];rfl
  cases AR:gV r.po v (r.ti[k]).nm with
  | false =>
   have B8:∀ w',aJ [] w w'→aj Tryz.prog 121 [.agg #[.int .i64 r.lv,.int .i64 r.ma,.slice a2 r.sr.length nR,d,.slice a r.ti.length cp,p],.int .i64 v,.string (r.ti[k]).nm] w' (.bool false):=fun w' hk=>AR ▸ B7 w' hk
   have TR:=skip (by unfold xq;rw [yx,AR];rfl)
   (refine Jr<|JA rfl<|Jn<|Jq<|Jd rfl fun az=>Jk<|Jq<|J0<|Jr<|ab (fM cG az) rfl<|ab (gW (ew.base aB rfl)) rfl<|Jz rfl rfl fun _ _=>aq (.of rfl) (.of rfl) .here rfl rfl (fo rfl rfl rfl) (bG rfl) ak<|Ji<|ab (cR bL) rfl<|Jv rfl<|bS rfl rfl ae<|JL rfl .here rfl<|ai eM rfl (fun w' aA=>(B8 w' (Mem.keeps aA)))<|Jv rfl<|aD rfl rfl inferInstance (fun hg bA=>(bT (.of rfl) bL ak (by rfl))) rfl<|il rfl rfl rfl rfl<|aD rfl rfl inferInstance (fun hg bA=>(au (.of rfl) ae)) rfl<|aD rfl rfl inferInstance (fun hg bA=>(ag (.bI bA rfl) (At.lit .here rfl))) rfl<|dC rfl rfl rfl rfl<|il rfl rfl rfl rfl<|dC rfl rfl rfl rfl<|ab (cX (.of rfl) (.of rfl) (.of rfl) rfl) rfl<|Jv rfl<|il rfl rfl rfl rfl<|aD rfl rfl inferInstance (fun hg bA=>(au (.of rfl) ae)) rfl<|aD rfl rfl inferInstance (fun hg bA=>(ag (.bI bA rfl) (At.lit .here rfl))) rfl<|dC rfl rfl rfl rfl<|aD rfl rfl inferInstance (fun hg bA=>(dU (.bI bA rfl))) rfl<|ab (cX (.of rfl) (.of rfl) (.of rfl) rfl) rfl<|Jn<|bK (.of rfl)<|Jw<|Jj<|Jt<|Jg<|JB rfl (by omega)<|Jv rfl<|Jn ?_)
   apply aK (k+1,ov) (show k+1≤r.ti.length by omega) (show r.ti.length-(k+1)<r.ti.length-k by omega)
   case hs1=>exact cg
   case ht=>
    rw [TR]
    exact .cons (.there .here) (.cons (.there .here) .nil)
  | true =>
   have B8:∀ w',aJ [] w w'→aj Tryz.prog 121 [.agg #[.int .i64 r.lv,.int .i64 r.ma,.slice a2 r.sr.length nR,d,.slice a r.ti.length cp,p],.int .i64 v,.string (r.ti[k]).nm] w' (.bool true):=fun w' hk=>AR ▸ B7 w' hk
   by_cases wW:jG r v (r.ti[k]).nm=so
   ·cases GF:L.contains (r.ti[k]).to with
    | true =>
     have NB:∀ (w':World),Rd w' ov 1 (ints L)→aj Tryz.prog 154 [ov,.int .i64 (r.ti[k]).to] w' (.bool true):=fun w' hr=>GF ▸ Kc w' hr
     have TR:=skip (by rw [GF,Bool.not_true,Bool.and_false])
     (refine Jr<|JA rfl<|Jn<|Jq<|Jd rfl fun az=>Jk<|Jq<|J0<|Jr<|ab (fM cG az) rfl<|ab (gW (ew.base aB rfl)) rfl<|Jz rfl rfl fun _ _=>aq (.of rfl) (.of rfl) .here rfl rfl (fo rfl rfl rfl) (bG rfl) ak<|Ji<|ab (cR bL) rfl<|Jv rfl<|bS rfl rfl ae<|JL rfl .here rfl<|ai eM rfl (fun w' aA=>(B8 w' (Mem.keeps aA)))<|Jv rfl<|JK rfl rfl<|ab (cR bL) rfl<|JK rfl rfl<|Jv rfl<|JK rfl rfl<|bS rfl rfl ae<|JK rfl rfl<|JL rfl .here rfl<|JK rfl rfl<|ai eM rfl (fun w' aA=>(AQ w' (Mem.keeps aA)))<|JK rfl rfl<|Jv rfl<|JK rfl rfl<|ab (uV (.of rfl) (.of rfl) wW) rfl<|ab (eN (.of rfl) (.of rfl) (.of rfl) rfl) rfl<|Jv rfl<|JK rfl rfl<|Jv rfl<|JK rfl rfl<|bS rfl rfl ae<|JK rfl rfl<|JL rfl .here rfl<|JK rfl rfl<|ai bj rfl (fun w' aA=>(NB w' (kO aA (.there .here) Fi)))<|JK rfl rfl<|JH rfl<|ab (cX (.of rfl) (.of rfl) (.of rfl) rfl) rfl<|Jn<|bK (.of rfl)<|Jw<|Jj<|Jt<|Jg<|JB rfl (by omega)<|Jv rfl<|Jn ?_)
     apply aK (k+1,ov) (show k+1≤r.ti.length by omega) (show r.ti.length-(k+1)<r.ti.length-k by omega)
     case hs1=>exact cg
     case ht=>
      rw [TR]
      exact .cons (.there .here) (.cons (.there .here) .nil)
    | false =>
     have NB:∀ (w':World),Rd w' ov 1 (ints L)→aj Tryz.prog 154 [ov,.int .i64 (r.ti[k]).to] w' (.bool false):=fun w' hr=>GF ▸ Kc w' hr
     have nP:gB r v so (k+1)=L++[(r.ti[k]).to]:=by rw [W1,GF];unfold xq;rw [yx,AR,decide_eq_true wW];rfl
     have Rb:(L.map (Value.int .i64)).length=L.length*1:=by rw [Zd,Zaq]
     (refine Jr<|JA rfl<|Jn<|Jq<|Jd rfl fun az=>Jk<|Jq<|J0<|Jr<|ab (fM cG az) rfl<|ab (gW (ew.base aB rfl)) rfl<|Jz rfl rfl fun _ _=>aq (.of rfl) (.of rfl) .here rfl rfl (fo rfl rfl rfl) (bG rfl) ak<|Ji<|ab (cR bL) rfl<|Jv rfl<|bS rfl rfl ae<|JL rfl .here rfl<|ai eM rfl (fun w' aA=>(B8 w' (Mem.keeps aA)))<|Jv rfl<|JK rfl rfl<|ab (cR bL) rfl<|JK rfl rfl<|Jv rfl<|JK rfl rfl<|bS rfl rfl ae<|JK rfl rfl<|JL rfl .here rfl<|JK rfl rfl<|ai eM rfl (fun w' aA=>(AQ w' (Mem.keeps aA)))<|JK rfl rfl<|Jv rfl<|JK rfl rfl<|ab (uV (.of rfl) (.of rfl) wW) rfl<|ab (eN (.of rfl) (.of rfl) (.of rfl) rfl) rfl<|Jv rfl<|JK rfl rfl<|Jv rfl<|JK rfl rfl<|bS rfl rfl ae<|JK rfl rfl<|JL rfl .here rfl<|JK rfl rfl<|ai bj rfl (fun w' aA=>(NB w' (kO aA (.there .here) Fi)))<|JK rfl rfl<|JH rfl<|ab (eN (.of rfl) (.of rfl) (.of rfl) rfl) rfl<|Jn<|cP (.of rfl)<|Jg<|Jv rfl<|bS rfl rfl ae<|JL rfl .here rfl<|br (aC (.cons (.of rfl) .nil) rfl rfl rfl rfl) rfl fun _ _=>?_)
     refine bF (.of rfl) (.of rfl) bL .here ak (by rfl) (en rfl) (by rfl) (by rfl) (by rfl) eC (by rfl) ?_
     intro v'
     refine Ja rfl<|Jx<|Jj<|Jt<|Jg<|JB rfl (by omega)<|Jv rfl<|Jn ?_
     apply aK (k+1,v') (show k+1≤r.ti.length by omega) (show r.ti.length-(k+1)<r.ti.length-k by omega)
     case hs1=>exact cg
     case ht=>
      rw [nP,Zg,Zs]
      exact .cons .here (.cons bL .nil)
   ·have TR:=skip (by unfold xq;rw [yx,AR,decide_eq_false wW];rfl)
    (refine Jr<|JA rfl<|Jn<|Jq<|Jd rfl fun az=>Jk<|Jq<|J0<|Jr<|ab (fM cG az) rfl<|ab (gW (ew.base aB rfl)) rfl<|Jz rfl rfl fun _ _=>aq (.of rfl) (.of rfl) .here rfl rfl (fo rfl rfl rfl) (bG rfl) ak<|Ji<|ab (cR bL) rfl<|Jv rfl<|bS rfl rfl ae<|JL rfl .here rfl<|ai eM rfl (fun w' aA=>(B8 w' (Mem.keeps aA)))<|Jv rfl<|JK rfl rfl<|ab (cR bL) rfl<|JK rfl rfl<|Jv rfl<|JK rfl rfl<|bS rfl rfl ae<|JK rfl rfl<|JL rfl .here rfl<|JK rfl rfl<|ai eM rfl (fun w' aA=>(AQ w' (Mem.keeps aA)))<|JK rfl rfl<|Jv rfl<|JK rfl rfl<|ab (Bz (.of rfl) (.of rfl) wW) rfl<|ab (cX (.of rfl) (.of rfl) (.of rfl) rfl) rfl<|Jv rfl<|il rfl rfl rfl rfl<|aD rfl rfl inferInstance (fun hg bA=>(au (.of rfl) ae)) rfl<|aD rfl rfl inferInstance (fun hg bA=>(ag (.bI bA rfl) (At.lit .here rfl))) rfl<|dC rfl rfl rfl rfl<|aD rfl rfl inferInstance (fun hg bA=>(dU (.bI bA rfl))) rfl<|ab (cX (.of rfl) (.of rfl) (.of rfl) rfl) rfl<|Jn<|bK (.of rfl)<|Jw<|Jj<|Jt<|Jg<|JB rfl (by omega)<|Jv rfl<|Jn ?_)
    apply aK (k+1,ov) (show k+1≤r.ti.length by omega) (show r.ti.length-(k+1)<r.ti.length-k by omega)
    case hs1=>exact cg
    case ht=>
     rw [TR]
     exact .cons (.there .here) (.cons (.there .here) .nil)
 ·obtain rfl:k=r.ti.length:=by omega
  refine Jr<|JA rfl<|Jn<|Jq<|Jc rfl fun az=>Jp<|Jl<|Jo<|Jt<|Jr<|Jv rfl<|Ja rfl<|Jn<|Je ?_
  first | with_reducible apply aO | with_reducible apply aP
  case he=>exact dH rfl rfl
  case hR=>
   intro w' aA
   exact aG ov trivial (by exact .cons .here .nil) aA rfl
end Go.Proofs.A1
