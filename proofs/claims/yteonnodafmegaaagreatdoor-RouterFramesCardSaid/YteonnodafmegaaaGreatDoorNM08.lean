/- Parts of the proof: GkAppO GkRegK GkRegL GkRegR GkRegS KJ KL KM KNq TryzSort KN. -/
import Derived.Test.YteonnodafmegaaaGreatDoorNM07
import Derived.Test.YteonnodafmegaaaGreatDoorNM06
import Derived.Test.YteonnodafmegaaaGreatDoorNM04
import Derived.Test.YteonnodafmegaaaGreatDoorNM03
import Derived.Test.YteonnodafmegaaaGreatDoorNM02
import Derived.Shelf.Sort.Plain
import Derived.Ground.NamesProg
import Derived.Ground.Names2Prog
import Derived.Test.YteonnodafmegaaaGreatDoorProg
import Derived.Shelf.Slices.In.SortNone
set_option linter.unusedSectionVars false
set_option linter.unusedVariables false
set_option linter.unusedSimpArgs false
namespace Go.SL
open Go
theorem EH {h:Nat→Option Obj} {E:TypeId} {sz:Nat} {v:Value} {n:Nat} {xs:List Value} {fp:List Nat} (hr:(kD E sz v n xs).sat h fp):fp=v.ownBlock.toList:=by
 obtain ⟨_,h1⟩:=hr
 rcases h1 with ⟨rfl,rfl,_⟩ | ⟨g,off,cap,cur,rfl,rfl,_⟩
 ·simp [Value.ownBlock]
 ·simp [Value.ownBlock]
section
variable {P:Program} {c:Cx} {D:List Nat} {sl:aG} {hs hs':List a8} {d:Nat} {ty:TypeId} {pos:String} {af:Array Edge} {r:Option Nat} {ops:Array Oper} {Q:Exit→Act→World→Prop} {rest:List Oper}
theorem C1 {t e:TypeId} {agg:Bool} {size bytes:Nat} {z:Value} {x y:Operand} {v:Value} {n b o m cp:Nat} {xs news:List Value} [hu:iF P t (.slice e)] [hT:Ty P e agg size] [hZ:lF P e z] [hB:ug P e bytes]
  (hx:Is sl x v) (hy:Is sl y (.slice (some ⟨b,o,none⟩) m cp)) (ht:Take hs (kD e size v n xs) hs') (hn:eF c hs b o news) (hl:news.length=m*size) (h1:∀ u∈news,u.oneCell'=true) (hz:z.cells.size=size) (hsz:Nat.blt 0 size=true) (hb0:Nat.blt 0 bytes=true)
  (hb:(n+m)*bytes≤140737488355328) (hd:Nat.blt d c.nt=true)
  (k:∀ v',Tr c D ((d,v')::sl) (kD e size v' (n+m) (xs++news)::hs') (WL P r ops Q rest)) :
  Tr c D sl hs (WL P r ops Q (⟨some d,.call ⟨.builtin .append,#[x,y],#[t,t]⟩,ty,pos,af,none⟩::rest)):=fun a w bb=>by
 obtain ⟨de,i,mh,hi,_,iD⟩:=Ty.parts (P:=P) (t:=e) (agg:=agg) (n:=size)
 have hzero:i.zero=some z:=by have:=hZ.eq;rw [hi] at this;simpa using this
 have gI:i.bytes=bytes:=by have:=hB.eq;rw [hi] at this;simpa using this
 have Wm:=bb.rb
 have hm:=bb.mem.take (ht.append _)
 obtain ⟨kk,fp,kU,⟨f1,f2,rfl,O1,h2⟩,DP⟩:=hm
 obtain ⟨hlen,hrow⟩:=id O1
 have B3:0<bytes:=by simpa using hb0
 have Ui:0<size:=by simpa using hsz
 have bQ:n+m≤maxLen:=by
  have:(n+m)*1≤(n+m)*bytes:=Zbo _ B3
  unfold maxLen;omega
 have rn:∀ j u,news[j]? = some u→w.cell? ((⟨b,o,none⟩:Addr).add j)=some u:=fun j u hj=>by rw [eI];exact hn.get j u hj w Wm
 have Wo:(xs++news).length=(n+m)*size:=by rw [Zg,hlen,hl,Nat.add_mul]
 have key:∃ v' w' lD,(Builtin.append_ #[t,t] ty #[v,.slice (some ⟨b,o,none⟩) m cp]).run P w=.ok v' w'∧aH f1 w w'∧lD.Nodup∧(kD e size v' (n+m) (xs++news)).sat (hp w') lD∧∀ q∈lD,q∈f1∨w.heap.size≤q:=by
  rcases hrow with ⟨rfl,rfl,rfl⟩ | ⟨g,off,cap,cur,rfl,rfl,hg,hnc,hcm,hfit,htk⟩
  ·have rm:w.ownsRow 0 e size (.slice none 0 0) 0 xs:=⟨hlen,.inl ⟨rfl,rfl⟩⟩
   obtain ⟨v',w',iu,rk,vk,_⟩:=run_append_own (P:=P) w 0 t ty e i z size bytes hu.eq hi hzero iD gI hz (by simpa using hsz) _ 0 xs rm ⟨b,o,none⟩ m cp news hl rn h1 bQ hb (Zi _)
   have wE:=qy (P:=P) (t:=t) (ty:=ty) hu.eq hi hzero (by rw [iD];exact rm) (a:=⟨b,o,none⟩) (m:=m) (cp:=cp) (by rw [iD];exact hl) rn h1 bQ (by rw [gI];exact hb) iu
   refine ⟨v',w',v'.ownBlock.toList,iu,⟨vk.os,vk.tape,vk.output,wE.2,vk.size,fun q hq _=>vk.block q hq (by simp [Value.ownBlock])⟩,by cases v'.ownBlock <;> simp,nW (lN rk),fun q hq=>?_⟩
   have vY:v'.ownBlock=some q:=by simpa [Option.mem_toList] using hq
   rcases wE.1 with h | h
   ·rw [vY] at h;simp [Value.ownBlock] at h
   ·rw [h] at vY;cases vY;exact .inr (Zz _)
  ·have UT:w.heap[g]? = some (.cells cur e (0,0)):=hg
   have hgs:g<w.heap.size:=(ZX.1 UT).1
   have Q8:cur.toList=cur.toList.take off++(xs++cur.toList.drop (off+n*size)):=by
    rw [← htk]
    conv=>lhs;rw [← ZZ off cur.toList]
    congr 1
    conv=>lhs;rw [← ZZ (n*size) (cur.toList.drop off)]
    rw [Zbb]
   have Pe:cur.size=cur.toList.length:=by simp
   have hns:n*size≤cap*size:=Z9 _ hnc
   have AG:(cur.toList.take off).length=off:=by rw [Zp];omega
   by_cases yb:n+m≤cap
   ·have hms:(n+m)*size≤cap*size:=Z9 _ yb
    rw [Nat.add_mul] at hms
    have RI:w.heap[g]? = some (.cells cur.toList.toArray e (0,0)):=by rw [ZaU];exact UT
    obtain ⟨w',h3,h4,h5⟩:=iU (P:=P) (o:=off+n*size) news 0 cur.toList w RI h1 (by omega)
    have hfc:=run_firstCells_some (P:=P) w i.size m ⟨b,o,none⟩ m cp news (by rw [iD];exact hl) rn
    refine ⟨.slice (some ⟨g,off,none⟩) (n+m) cap,w',[g],?_,h4,by simp,⟨Wo,.inr ⟨g,off,cap,_,rfl,rfl,h5,yb,hcm,?_,?_⟩⟩,fun q hq=>.inl hq⟩
    ·subst iD
     have Kv:(⟨g,off,none⟩:Addr).add (n*i.size)=⟨g,off+n*i.size,none⟩:=eI _ _ _
     simp [Builtin.append_,aU hu.eq,sizeOf,typeInfo,hi,Builtin.lenOf,yb,hfc,Kv,h3]
    ·rw [Zbk,ke,← Pe];exact hfit
    ·show ((setCells cur.toList (off+n*size+0) news).drop off).take ((n+m)*size)=xs++news
     have e1:setCells cur.toList (off+n*size+0) news=cur.toList.take off++xs++(news++(cur.toList.drop (off+n*size)).drop news.length):=by
      have Yu:cur.toList.drop (off+n*size)=(cur.toList.drop (off+n*size)).take news.length++(cur.toList.drop (off+n*size)).drop news.length:=(ZZ _ _).symm
      have hle:((cur.toList.drop (off+n*size)).take news.length).length=news.length:=by rw [Zp,Zba];omega
      have e2:cur.toList=(cur.toList.take off++xs)++((cur.toList.drop (off+n*size)).take news.length++(cur.toList.drop (off+n*size)).drop news.length):=by rw [← Yu,Zh];exact Q8
      have R1:(cur.toList.take off++xs).length=off+n*size+0:=by rw [Zg,AG,hlen,Zaw]
      conv=>lhs;rw [e2]
      rw [← R1]
      exact yZ _ _ _ _ hle.symm
     rw [e1,Zh,← AG]
     conv=>lhs;rw [AG]
     rw [List.drop_left' AG,← Wo,← Zh,List.take_left]
   ·have holds:∀ j u,xs[j]? = some u→w.cell? ((⟨g,off,none⟩:Addr).add j)=some u:=fun j u hj=>by
     rw [eI]
     simp only [World.cell?,UT]
     rw [← htk] at hj
     have aK:j<n*size:=by
      have:=(Zl.1 hj).1
      rw [Zp] at this;omega
     rw [List.getElem?_take_of_lt aK,Zbc] at hj
     simpa using hj
    obtain ⟨v',w',iu,rk,vk⟩:=run_append_arg_grows (P:=P) (w:=w) t ty e i z size bytes hu.eq hi hzero iD gI hz Ui ⟨g,off,none⟩ n cap xs hlen holds ⟨b,o,none⟩ m cp news hl rn (by omega) bQ hb
    have hr:=run_append_grow (P:=P) w t ty e i z hu.eq hi hzero ⟨g,off,none⟩ n cap xs (by rw [iD];exact hlen) holds ⟨b,o,none⟩ m cp news (by rw [iD];exact hl) rn (by omega) (by unfold maxLen at bQ;omega) (growslice_fits (by omega) (by rw [gI];exact hb))
    have DQ:w.drawn≤w'.drawn∧v'.ownBlock=some w.heap.size:=by
     rw [iu] at hr
     cases hr
     exact ⟨Nat.le_succ _,rfl⟩
    have Uw:w'.ownsRow 0 e size v' (n+m) (xs++news):=⟨rk.1,rk.2.imp id fun ⟨g',gQ,Y8,e1,_,r⟩=>⟨g',gQ,Y8,e1,Zi _,r⟩⟩
    refine ⟨v',w',v'.ownBlock.toList,iu,⟨vk.os,vk.tape,vk.output,DQ.1,vk.size,fun q hq _=>vk.block q hq (by simp)⟩,by cases v'.ownBlock <;> simp,nW (lN Uw),fun q hq=>?_⟩
    rw [DQ.2] at hq
    simp at hq
    exact .inr (by omega)
 obtain ⟨v',w',lD,iu,hk,hnf,ir,wE⟩:=key
 refine mi rfl ⟨dM _ _ _ _ _,?_⟩
 rw [Oper.semAt_eq _ _ _ (by simp)]
 have:(execOp a.eval ⟨some d,.call ⟨.builtin .append,#[x,y],#[t,t]⟩,ty,pos,af,none⟩).run P w=.ok (.value v') w':=by
  simp [execOp,resolve,invoke,builtin,hx a bb.cS,hy a bb.cS,iu]
 rw [this]
 refine k v' _ _ ((bb.put (by simpa [Z4] using hd) v').heap ?_)
 have l7:Mem c ([kD e size v n xs]++(hs'++mw D)) w:=bb.mem.take (ht.append _)
 have:=Mem.change (Bs:=[kD e size v' (n+m) (xs++news)]) (w':=w') l7 fun fp tX hf=>by
  obtain ⟨g1,g2,e1,hr,e2⟩:=hf
  obtain rfl:g2=[]:=e2
  have h3:=EH hr
  have h4:=EH O1
  rw [ZU] at e1
  subst e1
  rw [h3,← h4]
  exact ⟨hk,lD,hnf,⟨lD,[],by simp,ir,rfl⟩,wE⟩
 exact this
end
end Go.SL
namespace Go.SL
open Go
theorem Mem.FZ {c:Cx} {As hs':List a8} {w:World} (hm:Mem c (As++hs') w):∃ fp:List Nat,fp.Nodup∧ch (hp w) As fp ∧
  ∀ (Bs:List a8) (w':World),aH fp w w'→(∃ lD:List Nat,lD.Nodup∧ch (hp w') Bs lD∧∀ b∈lD,b∈fp∨w.heap.size≤b)→Mem c (Bs++hs') w':=by
 obtain ⟨kk,fp,hn,ir,hb⟩:=hm
 obtain ⟨f1,f2,rfl,h1,h2⟩:=ch.append_iff.1 ir
 obtain ⟨n1,n2,n12⟩:=ZF.1 hn
 refine ⟨f1,n1,h1,fun Bs w' hk ⟨lD,tX,hs',yh⟩=>?_⟩
 have aK:∀ b∈f2,b<w.heap.size:=fun b dA=>let ⟨o,ho⟩:=h2.own b dA;j5 ho
 refine ⟨?_,lD++f2,?_,ch.append_iff.2 ⟨lD,f2,rfl,hs',h2.loc fun b dA=>?_⟩,?_⟩
 ·refine ⟨hk.os.trans kk.os,hk.tape.trans kk.tape,hk.output.trans kk.output,ZY kk.dr hk.dr,ZY kk.size hk.size,fun b dA hm=>?_⟩
  rw [← kk.block b dA hm]
  refine hk.block b (Zay dA kk.size) (fun hf=>?_)
  rcases hb b (ZE _ hf) with h | h
  ·omega
  ·exact hm h
 ·refine ZF.2 ⟨tX,n2,fun x hx y hy e=>?_⟩
  subst e
  rcases yh x hx with h | h
  ·exact n12 x h x hy rfl
  ·have:=aK x hy;omega
 ·exact hk.block b (aK b dA) (fun hf=>n12 b hf b dA rfl)
 ·intro b dA
  rcases Zx.1 dA with h | h
  ·rcases yh b h with h | h
   ·exact hb b (ZE _ h)
   ·exact .inl (ZY kk.size h)
  ·exact hb b (ZS _ h)
theorem uM {β:Nat→Value} (p q:Nat→Bool):∀ (S:List cD) (i:Nat),(dQ β p S i).Perm (dQ β (fun j=>p j&&q j) S i++dQ β (fun j=>p j&&!q j) S i)
 | [],_=>.nil
 | s :: S, i => by
  have ih:=uM (β:=β) p q S (i+1)
  unfold dQ
  cases hp:p i <;> cases hq:q i <;> simp only [Bool.and_true,Bool.and_false,Bool.not_true,Bool.not_false,Bool.false_and,Zaq,if_true,if_false,Za,reduceIte]
  ·simpa using ih
  ·simpa using ih
  ·simp only [ZaR,if_false,Za]
   refine (ih.append_left _).trans ?_
   rw [← Zh,← Zh]
   exact List.perm_append_comm.append_right _
  ·simp only [ZaR,if_false,Za]
   rw [Zh]
   exact ih.append_left _
theorem qU {β:Nat→Value} {q:Nat→Bool}:∀ {S:List cD} {n i:Nat},(∀ j,i+n≤j→q j=false)→dQ β q S i=dQ β q (S.take n) i
 | [],n,i,_=>by rw [List.take_nil]
 | s :: S, 0, i, h => by
  rw [Ze]
  unfold dQ
  rw [h i (by omega),qU (n:=0) fun j hj=>h j (by omega),Ze];rfl
 | s :: S, n + 1, i, h => by
  rw [List.take_succ_cons]
  unfold dQ
  rw [qU (n:=n) (i:=i+1) fun j hj=>h j (by omega)]
def pk (tk:Nat→Nat) (lst:Nat→Bool) (j:Nat):Bool:=lst j&&!(Nat.blt 0 (tk j)&&lst (tk j))
def iH (tk:Nat→Nat) (i j:Nat):Bool:=Nat.blt 0 i&&Nat.beq (tk j) i
section
variable {P:Program} {c:Cx} {D:List Nat} {sl:aG} {hs:List a8} {Q:Exit→Act→World→Prop} {l:List Oper} {m:Nat} {tk:Nat→Nat}
def Lt (i:Nat) (s:cD) (β:Nat→Value) (w:World) (r9:List Nat) (v:Value) (w':World):Prop:=∃ x,v=s.F (uq β i x)∧aH r9 w w'∧∃ fp:List Nat,fp.Nodup∧ch (hp w') (s.A (uq β i x)) fp∧∀ b∈fp,b∈r9∨w.heap.size≤b
structure Lq (P:Program) (c:Cx) (hs:List a8) (l:List Oper) (tk:Nat→Nat) (i:Nat) (o:Oper) (SL:(Nat→Value)→aG) (S:List cD) (s:cD):Prop where
 zI:nw l i s.F
 zJ:nw l i s.A
 run:∃ B:List Nat,(∀ j∈B,kc l o j=true∧tk j=0)∧∀ β a w r9,bR (SL β) a→jD c hs S B β w→ch (hp w) (dQ β (iH tk i) S 0) r9→if Region.wanted o (yielded l.toArray a.tmps)=true then pz P o a w (Lt i s β w r9) else Lt i s β w r9 undef w
 waits:∀ j,tk j=i→0<i→eR o j=true
inductive vQ (P:Program) (c:Cx) (hs:List a8) (l:List Oper) (tk:Nat→Nat):Nat→List Oper→((Nat→Value)→aG)→List cD→List cD→((Nat→Value)→aG)→Prop
 | nil {i:Nat} {SL:(Nat→Value)→aG} {S:List cD}:vQ P c hs l tk i [] SL S S SL
 | step {i d:Nat} {o:Oper} {rest:List Oper} {SL nH:(Nat→Value)→aG} {S S':List cD} {s:cD} (hd:o.dst=some d) (fH:d<c.nt) (h:Lq P c hs l tk i o SL S s)
   (t:vQ P c hs l tk (i+1) rest (fun β=>(d,s.F β)::SL β) (S++[s]) S' nH):vQ P c hs l tk i (o::rest) SL S S' nH
theorem vQ.spec {i:Nat} {rest:List Oper} {SL nH:(Nat→Value)→aG} {S S':List cD} (h:vQ P c hs l tk i rest SL S S' nH):∀ pre:List Oper,pre.length=i→S.length=i→nu sl pre SL S →
  S'.length=i+rest.length∧S <+: S'∧nu sl (pre++rest) nH S'∧∀ k o,i≤k→(pre++rest)[k]? = some o→∃ d FE s,o.dst=some d∧d<c.nt∧S'[k]? = some s∧nu sl ((pre++rest).take k) FE (S'.take k)∧Lq P c hs l tk k o FE (S'.take k) s:=by
 induction h with
 | @nil i SL S =>
  intro pre hp hS kL
  refine ⟨by simpa using hS,List.prefix_rfl,by simpa using kL,fun k o hk ho=>?_⟩
  have:=(Zl.1 ho).1
  simp at this;omega
 | @step i d o rest SL nH S S' s hd fH bb t ih =>
  intro pre hp hS kL
  obtain ⟨h1,h2,h3,h4⟩:=ih (pre++[o]) (by simp [hp]) (by simp [hS]) (kL.step (by omega) hd)
  rw [Zh,List.singleton_append] at h3 h4
  have Gv:S <+: S':=(Zbe S [s]).trans h2
  have rp:S'[i]? = some s:=by
   obtain ⟨r,rfl⟩:=h2
   rw [Zh,ZN (by omega),hS];simp
  have YS:S'.take i=S:=by
   obtain ⟨r,rfl⟩:=Gv
   rw [← hS];simp
  refine ⟨by rw [h1];simp;omega,Gv,h3,fun k ok hk ho=>?_⟩
  by_cases e:k=i
  ·subst e
   have E7:ok=o:=by
    rw [ZN (by omega),hp] at ho
    simpa using ho.symm
   subst E7
   have htk:(pre++ok::rest).take k=pre:=by rw [← hp];simp
   rw [htk,YS]
   exact ⟨d,SL,s,hd,fH,rp,kL,bb⟩
  ·exact h4 k ok (by omega) ho
structure V2 (c:Cx) (D:List Nat) (hs:List a8) (l:List Oper) (tk:Nat→Nat) (m:Nat) (S:List cD) (a0:Act) (fuel:Nat) (listed:Array Bool) (a:Act) (w:World):Prop where
 sz:listed.size=l.length
 dc:DC l (Ls listed)
 hi:∀ k,m≤k→¬ Ls listed k
 defers:a.defers=D.map mark
 size:a.tmps.size=c.nt
 BA:∀ t,(∀ (j:Nat) (o:Oper),l[j]? = some o→Ls listed j→o.dst≠some t)→a.tmps[t]? = a0.tmps[t]?
 left:∃ U:List Nat,U.Nodup∧(∀ i,i∈U↔i<l.length∧¬ Ls listed i)∧U.length=fuel
 own:∃ β:Nat→Value,Mem c (dQ β (pk tk (fun i=>listed.getD i false)) S 0++(hs++mw D)) w∧∀ (j:Nat) (o:Oper) (d:Nat) (s:cD),l[j]? = some o→o.dst=some d→S[j]? = some s→Ls listed j→a.tmps[d]? = some (s.F β)
end
end Go.SL
namespace Go.SL
open Go
def kZ:List (Nat×Nat)→Nat→Nat
 | [],_=>0
 | p::r,j=>bif Nat.beq p.1 j then p.2 else kZ r j
theorem tJ:∀ {rG:List (Nat×Nat)} {i j:Nat},(rG.all fun p=>!Nat.beq p.2 i)=true→kZ rG j=i→0<i→False
 | [], i, j, _, h, hp => by
  have h:0=i:=h
  omega
 | p :: r, i, j, h, h2, hp => by
  rw [List.all_cons,Zm] at h
  unfold kZ at h2
  cases e:Nat.beq p.1 j with
  | true=>rw [e] at h2;have h2:p.2=i:=h2;rw [h2] at h;simp at h
  | false=>rw [e] at h2;exact tJ h.2 h2 hp
theorem xx:∀ {rG:List (Nat×Nat)} {i jx:Nat},(rG.all fun p=>!Nat.beq p.2 i||Nat.beq p.1 jx)=true→Nat.blt 0 i=true→∀ k,kZ rG k=i→k=jx
 | [], i, jx, _, h0, k, h => by
  have h:0=i:=h
  subst h;cases h0
 | p :: r, i, jx, h, h0, k, hk => by
  rw [List.all_cons,Zm] at h
  unfold kZ at hk
  cases e:Nat.beq p.1 k with
  | true =>
   rw [e] at hk
   have hk:p.2=i:=hk
   have h1:=h.1
   rw [hk,show Nat.beq i i=true by simp] at h1
   have e1:=Zae e
   have e2:=Zae (show Nat.beq p.1 jx=true by simpa using h1)
   omega
  | false=>rw [e] at hk;exact xx h.2 h0 k hk
section
variable {P:Program} {c:Cx} {D:List Nat} {sl:aG} {hs hs':List a8} {X:Act→World→Prop} {Q:Exit→Act→World→Prop} {l:List Oper} {m i n d:Nat} {rG:List (Nat×Nat)} {op:Op} {ty:TypeId} {pos:String} {af:Array Edge} {rest:List Oper} {SL:(Nat→Value)→aG} {S:List cD}
theorem Bu {β:Nat→Value} {p:Nat→Bool} {s:cD}:∀ {S:List cD} {i jx:Nat},S[jx]? = some s→(∀ k,p k=Nat.beq k (i+jx))→dQ β p S i=s.A β
 | [],_,_,h,_=>by simp at h
 | s0 :: S, i, 0, h, hp => by
  simp only [Zax,Option.some.injEq] at h
  subst h
  unfold dQ
  rw [hp i,show Nat.beq i (i+0)=true by simp,if_pos rfl]
  have:dQ β p S (i+1)=[]:=by
   have h:=qU (β:=β) (q:=p) (S:=S) (n:=0) (i:=i+1) fun j hj=>by
    rw [hp j]
    exact ZaW.2 fun e=>by have:=Zae e;omega
   rw [h,Ze];rfl
  rw [this,ZU]
 | s0 :: S, i, jx + 1, h, hp => by
  unfold dQ
  rw [hp i,show Nat.beq i (i+(jx+1))=false from ZaW.2 fun e=>by have:=Zae e;omega]
  simp only [ZaR,if_false,Za]
  exact Bu (i:=i+1) (jx:=jx) (by simpa using h) fun k=>by rw [hp k,show i+(jx+1)=i+1+jx by omega]
end
end Go.SL
namespace Go.SL.KR
open Go Go.SL
section
variable {P:Program} {c:Cx} {D:List Nat} {sl:aG} {hs:List a8} {Q:Exit→Act→World→Prop} {l:List Oper} {m:Nat} {tk:Nat→Nat}
variable {r0:Option Nat}
theorem QC {p:Nat} (hc:Lv l m p) (Gv:p<m→False) (WC:∀ c a w,¬ Q (.panic c) a w) {S:List cD} {nH:(Nat→Value)→aG} (Uv:vQ P c hs l tk 0 (l.take m) (fun _=>sl) [] S nH) {a0:Act} (h0:bR sl a0) (Kc:a0.tmps.size=c.nt)
  (tail:∀ β a w,St c D (nH β) (dQ β (pk tk (fun i=>Nat.blt i m)) S 0++hs) a w→wpAnyIn (FR r0) 0 P .any l.toArray Q (l.length-m) (lH l.length m) a w) :
  ∀ (fuel:Nat) (listed:Array Bool) (a:Act) (w:World),V2 c D hs l tk m S a0 fuel listed a w→wpAnyIn (FR r0) 0 P .any l.toArray Q fuel listed a w:=by
 have hle:=hc.le
 have J8:nu sl [] (fun _=>sl) []:=fun β t v hv=>.inr ⟨fun oj h=>(Zq h).elim,hv⟩
 obtain ⟨B6,_,kL,fW⟩:=Uv.spec (sl:=sl) [] rfl rfl J8
 rw [Za] at kL fW
 rw [ZB,Zp,Zbi hle] at B6
 have dY:∀ (j:Nat) (o:Oper),j<m→l[j]? = some o→(l.take m)[j]? = some o:=fun j o hj ho=>by rw [ZC,if_pos hj];exact ho
 have fu:∀ (j:Nat) (o:Oper),(l.take m)[j]? = some o→j<m∧l[j]? = some o:=fun j o ho=>by
  rw [ZC] at ho
  split at ho
  ·exact ⟨by assumption,ho⟩
  ·cases ho
 have Pm:∀ j,j<m→∃ s,S[j]? = some s:=fun j hj=>⟨S[j]'(by omega),Zc (by omega)⟩
 have mA:∀ fuel listed a w,V2 c D hs l tk m S a0 fuel listed a w→(∀ i,i<m→Ls listed i)→wpAnyIn (FR r0) 0 P .any l.toArray Q fuel listed a w:=by
  intro fuel listed a w hI dT
  have hL:∀ i,i<l.length→(Ls listed i↔i<m):=fun i _=>⟨fun h=>ZQ fun hm=>hI.hi i hm h,dT i⟩
  obtain ⟨U,wK,ql,r7⟩:=hI.left
  have ic:U.Perm (List.range' m (l.length-m)):=by
   rw [Zaz wK (Zby)]
   intro i
   rw [ql i,ZaK]
   constructor
   ·rintro ⟨h1,h2⟩
    exact ⟨ZaQ fun h=>h2 (dT i h),by omega⟩
   ·rintro ⟨h1,h2⟩
    exact ⟨by omega,hI.hi i h1⟩
  have hlen:fuel=l.length-m:=by rw [← r7,ic.length_eq,Zbv]
  have Kd:listed=lH l.length m:=by
   have u9:(lH l.length m).size=l.length:=by simp [lH];omega
   apply Array.ext
   ·rw [hI.sz,u9]
   ·intro i h1 h2
    rw [hI.sz] at h1
    have h3:=hL i h1
    unfold Ls at h3
    rw [Zy,Zas (by rw [hI.sz];exact h1),Zaj] at h3
    have h4:(lH l.length m)[i]=decide (i<m):=by
     simp only [lH,List.getElem_toArray]
     by_cases hi:i<m
     ·rw [Zat (by simpa using hi)];simp [hi]
     ·rw [Zao (by simpa using hi)];simp [hi]
    rw [h4]
    by_cases hi:i<m
    ·rw [h3.2 hi];simp [hi]
    ·have:¬ listed[i]=true:=fun h=>hi (h3.1 h)
     simp [hi,this]
  subst hlen
  rw [Kd]
  obtain ⟨β,hm,gH⟩:=hI.own
  have Rx:∀ i,listed.getD i false=Nat.blt i m:=fun i=>by
   by_cases hi:i<m
   ·rw [show Nat.blt i m=true from by simpa [Z4] using hi];exact dT i hi
   ·have h1:¬ listed.getD i false=true:=hI.hi i (by omega)
    have h2:¬ Nat.blt i m=true:=by simpa [Z4] using hi
    rw [Zau] at h1 h2
    rw [h1,h2]
  have e:dQ β (pk tk (fun i=>listed.getD i false)) S 0=dQ β (pk tk (fun i=>Nat.blt i m)) S 0:=im fun j s hj=>⟨by unfold pk;simp only [Rx],fun _=>rfl⟩
  rw [e] at hm
  refine tail β a w ⟨by rw [Zh];exact hm,fun t v hv=>?_,hI.size,hI.defers⟩
  rcases kL β t v hv with ⟨j,oj,s,h1,h2,h3,h4⟩ | ⟨h1,h2⟩
  ·obtain ⟨ig,l8⟩:=fu j oj h1
   rw [h4];exact gH j oj t s l8 h2 h3 (dT j ig)
  ·rw [hI.BA t fun j oj hj jF=>h1 oj (ZW (dY j oj (ZQ fun hm=>hI.hi j hm jF) hj))]
   exact h0 t v h2
 intro fuel
 induction fuel with
 | zero =>
  intro listed a w hI
  obtain ⟨U,_,ql,r7⟩:=hI.left
  have hU:U=[]:=Zan.1 r7
  refine mA 0 listed a w hI fun i hi=>Classical.byContradiction fun hn=>?_
  have:=(ql i).2 ⟨by omega,hn⟩
  rw [hU] at this;cases this
 | succ fuel ih =>
  intro listed a w hI
  by_cases dT:∀ i,i<m→Ls listed i
  ·exact mA _ listed a w hI dT
  ·have hex:∃ i,i<m∧¬ Ls listed i:=Classical.byContradiction fun hh=>dT fun i hi=>Classical.byContradiction fun hn=>hh ⟨i,hi,hn⟩
   obtain ⟨i0,wG,px⟩:=hex
   have main:∀ i,i∈Region.ready .any l.toArray listed→i<m→wpOpIn (FR r0) 0 P l.toArray Q i (wpAnyIn (FR r0) 0 P .any l.toArray Q fuel (listed.setIfInBounds i true)) a w∧(i=p→wpAnyIn (FR r0) 0 P .any l.toArray Q (fuel+1) listed a w):=by
    intro i hi o8
    obtain ⟨o,ho,hn,lQ⟩:=(dE hI.sz).1 hi
    obtain ⟨d,FE,s,hd,fH,rp,sU,eG⟩:=fW i o (Zi _) (dY i o o8 ho)
    obtain ⟨zI,zJ,⟨B,hB,iu⟩,Q2⟩:=eG
    obtain ⟨β,hm,gH⟩:=hI.own
    have kr:∀ (j:Nat),eR o j=true→Ls listed j:=fun j hw=>by
     obtain ⟨e,he,hb,nL⟩:=c5 hw
     rw [← nL];exact lQ e he hb
    have u7:∀ (j:Nat),kc l o j=true→Ls listed j:=fun j hw=>by
     unfold kc at hw
     rw [ZP] at hw
     rcases hw with hw | hw
     ·exact kr j hw
     ·obtain ⟨k,_,hk⟩:=ZM.1 hw
      rw [Zm] at hk
      have GK:=kr k hk.1
      cases hq:l[k]? with
      | none=>rw [hq] at hk;cases hk.2
      | some q =>
       rw [hq] at hk
       obtain ⟨e,he,hb,nL⟩:=c5 hk.2
       rw [← nL]
       exact hI.dc k q hq GK e he hb
    have pI:∀ (j:Nat) (oj:Oper) (e:Nat),l[j]? = some oj→j<m→j≠i→oj.dst=some e→d≠e:=by
     intro j oj e hj ig hne he
     rcases Zbm j i with h | h
     ·exact fun e'=>(di (jX hc h o8 hj ho) he hd).1 e'.symm
     ·exact (di (jX hc (show i<j by omega) ig ho hj) hd he).1
    have iw:i<listed.size:=by rw [hI.sz];omega
    have CI:mU o=true:=hc.op o (ZW ho)
    -- AD cS P9 AD operation looks at
    have hT:∀ t∈o.looksAt l.toArray,∀ v,cK (FE β) t=some v→a.tmps[t]? = some v:=by
     intro t ht v hv
     rcases sU β t v hv with ⟨j,oj,sj,h1,h2,h3,h4⟩ | ⟨h1,h2⟩
     ·have nq:j<i:=by have:=(Zl.1 h1).1;rw [Zp] at this;omega
      rw [ZC,if_pos nq] at h1 h3
      obtain ⟨ig,l8⟩:=fu j oj h1
      have jF:=kr j ((di (jX hc nq o8 l8 ho) h2 hd).2 (.inl ht))
      rw [h4];exact gH j oj t sj l8 h2 h3 jF
     ·rw [hI.BA t fun j oj hj jF iE=>?_]
      ·exact h0 t v h2
      ·have ig:j<m:=ZQ fun hm=>hI.hi j hm jF
       rcases Zak j i with h | h | h
       ·exact h1 oj (ZW (by rw [ZC,if_pos h];exact dY j oj ig hj)) iE
       ·subst h;exact hn jF
       ·have hw:=(di (jX hc h ig ho hj) hd iE).2 (.inr ht)
        obtain ⟨e,he,hb,nL⟩:=c5 hw
        have:=hI.dc j oj hj jF e he hb
        rw [nL] at this
        exact hn this
    have vj:∀ t v,cK (FE β) t=some v→t<c.nt:=by
     intro t v hv
     rcases sU β t v hv with ⟨j,oj,sj,h1,h2,_,_⟩ | ⟨_,h2⟩
     ·have nq:j<i:=by have:=(Zl.1 h1).1;rw [Zp] at this;omega
      rw [ZC,if_pos nq] at h1
      obtain ⟨d',_,_,wa,zU,_⟩:=fW j oj (Zi _) h1
      rw [h2] at wa;cases wa
      exact zU
     ·have:=h0 t v h2
      rw [← Kc]
      exact (ZX.1 this).1
    obtain ⟨a',lR,jz,_⟩:=oG hI.size vj hT
    have zW:jD c hs (S.take i) B β w:=by
     rintro A (rfl | ⟨j,hj,sj,h1,rfl⟩)
     ·exact hm.sublist ((ZaE _ _).trans (ZaP _ _))
     ·have nq:j<i:=by have:=(Zl.1 h1).1;rw [Zp] at this;omega
      rw [ZC,if_pos nq] at h1
      have jF:=u7 j (hB j hj).1
      exact hm.sublist ((qT (lst:=pk tk (fun i=>listed.getD i false)) (i:=0) h1 (by rw [Nat.zero_add];unfold pk;dsimp only;rw [(hB j hj).2,show listed.getD j false=true from jF];rfl)).append (List.sublist_append_left _ _))
    have LM:listed.getD i false=false:=by have h:¬ listed.getD i false=true:=hn;simpa using h
    have htw:∀ j,iH tk i j=true→eR o j=true:=fun j h=>by
     unfold iH at h
     rw [Zm] at h
     exact Q2 j (by simpa using h.2) (by simpa [Z4] using h.1)
    have htj:∀ j,iH tk i j=true→j<i:=fun j h=>by
     obtain ⟨e,he,hb,nL⟩:=c5 (htw j h)
     have:=jO hc.ac ho e he hb
     omega
    have hpk:∀ j,iH tk i j=true→pk tk (fun i=>listed.getD i false) j=true:=fun j h=>by
     have h1:listed.getD j false=true:=kr j (htw j h)
     have h2:tk j=i:=by unfold iH at h;rw [Zm] at h;simpa using h.2
     unfold pk;dsimp only
     rw [h1,h2,LM]
     simp
    have etk:dQ β (fun j=>pk tk (fun i=>listed.getD i false) j&&iH tk i j) S 0=dQ β (iH tk i) (S.take i) 0:=by
     rw [qU (n:=i) fun j hj=>by
      rw [ZB] at hj
      cases ht:iH tk i j with
      | false=>rw [Bool.and_false]
      | true=>have:=htj j ht;omega]
     refine im fun j sj _=>⟨?_,fun _=>rfl⟩
     rw [ZB]
     cases ht:iH tk i j with
     | false=>rw [Bool.and_false]
     | true=>rw [hpk j ht];rfl
    have hmS:=hm.perm ((uM (β:=β) (pk tk (fun i=>listed.getD i false)) (iH tk i) S 0).append_right _)
    rw [Zh,etk] at hmS
    obtain ⟨r9,_,Um,UU⟩:=Mem.FZ hmS
    have hq:=iu β a' w r9 lR zW Um
    have hex:=ix (o:=o) (ops:=l.toArray) CI jz
    -- PY a done operation TB VD not Vc on this one
    have oD:∀ j,Ls listed j→∀ x k,vO l j k=true→β k=uq β i x k:=by
     intro j jF x k hk
     refine (uo fun e=>?_).symm
     subst e
     unfold vO at hk
     rw [ZP] at hk
     rcases hk with hk | hk
     ·have:j=k:=by simpa using hk
      subst this;exact hn jF
     ·have RE:j<l.length:=by
       have ig:j<m:=ZQ fun hm=>hI.hi j hm jF
       omega
      exact hn (gZ hI.dc hc.ac j RE jF k hk)
    have gL:∀ v w',Lt i s β w r9 v w'→wpAnyIn (FR r0) 0 P .any l.toArray Q fuel (listed.setIfInBounds i true) (a.put o.dst v) w':=by
     rintro v w' ⟨x,rfl,hk,fp,kU,ir,r6⟩
     refine ih _ _ _ ⟨by simpa using hI.sz,?_,?_,by rw [hd];exact hI.defers,by simpa [Act.put,hd] using hI.size,?_,?_,uq β i x,?_,?_⟩
     ·intro k ok rH hL e he hb
      rw [ct iw] at hL ⊢
      rcases hL with e' | hL
      ·subst e'
       rw [ho] at rH;cases rH
       exact .inr (lQ e he hb)
      ·exact .inr (hI.dc k ok rH hL e he hb)
     ·intro k rH hL
      rw [ct iw] at hL
      rcases hL with e | hL
      ·omega
      ·exact hI.hi k rH hL
     ·intro t ht
      have h1:d≠t:=fun e=>by subst e;exact ht i o ho ((ct iw).2 (.inl rfl)) hd
      rw [hd]
      simp only [Act.put,ZH h1]
      exact hI.BA t fun j oj hj hL=>ht j oj hj ((ct iw).2 (.inr hL))
     ·obtain ⟨U,wK,ql,r7⟩:=hI.left
      refine ⟨U.erase i,wK.erase i,fun k=>?_,?_⟩
      ·rw [wK.mem_erase_iff,ql k,ct iw]
       constructor
       ·rintro ⟨h1,h2,h3⟩
        exact ⟨h2,fun h=>h.elim h1 h3⟩
       ·rintro ⟨h1,h2⟩
        exact ⟨fun e=>h2 (.inl e),h1,fun h=>h2 (.inr h)⟩
      ·have RF:i∈U:=(ql i).2 ⟨by omega,hn⟩
       rw [ZaD RF,r7];rfl
     ·have l7:=UU _ w' hk ⟨fp,kU,ir,r6⟩
      have e1:dQ β (fun j=>pk tk (fun i=>listed.getD i false) j&&!iH tk i j) S 0=dQ (uq β i x) (fun j=>pk tk (fun i=>listed.getD i false) j&&!iH tk i j) S 0:=im fun j sj hj=>by
       refine ⟨rfl,fun hl=>?_⟩
       rw [ZB] at hl
       have hl:listed.getD j false=true:=by
        unfold pk at hl
        simp only [Zm] at hl
        exact hl.1.1
       have ig:j<m:=by have:=(Zl.1 hj).1;omega
       obtain ⟨oj,J9⟩:∃ oj,l[j]? = some oj:=⟨l[j]'(by omega),Zc (by omega)⟩
       obtain ⟨_,_,s2,_,_,hs2,_,vg⟩:=fW j oj (Zi _) (dY j oj ig J9)
       rw [hj] at hs2;cases hs2
       exact vg.zJ _ _ (oD j hl x)
      rw [e1,← Zh] at l7
      have pt:∀ k,(listed.setIfInBounds i true).getD k false=(listed.getD k false||Nat.beq k i):=fun k=>by
       by_cases RD:k=i
       ·subst RD
        rw [show Nat.beq k k=true by simp,Bool.or_true]
        exact (ct iw).2 (.inl rfl)
       ·rw [show Nat.beq k i=false from ZaW.2 fun h=>RD (Zae h),Bool.or_false]
        simp [Zy,ZH (Ne.symm RD)]
      refine l7.perm ((qV (k:=i) rp ?_ ?_ ?_).append_right _)
      ·rw [ZB]
       unfold pk;dsimp only
       rw [LM];rfl
      ·rw [ZB]
       unfold pk;dsimp only
       rw [pt,show Nat.beq i i=true by simp,Bool.or_true,Zaq]
       by_cases Q6:tk i=0
       ·rw [Q6];rfl
       ·have Xr:0<tk i:=Nat.pos_of_ne_zero Q6
        have nD:listed.getD (tk i) false=false:=by
         cases hh:listed.getD (tk i) false with
         | false=>rfl
         | true =>
          exfalso
          have hLt:Ls listed (tk i):=hh
          have Wg:tk i<m:=ZQ fun hm=>hI.hi _ hm hLt
          obtain ⟨ot,hot⟩:∃ ot,l[tk i]? = some ot:=⟨l[tk i]'(by omega),Zc (by omega)⟩
          obtain ⟨_,_,_,_,_,_,_,XP⟩:=fW (tk i) ot (Zi _) (dY _ ot Wg hot)
          obtain ⟨e,he,hb,nL⟩:=c5 (XP.waits i rfl Xr)
          have:=hI.dc (tk i) ot hot hLt e he hb
          rw [nL] at this
          exact hn this
        have hne:Nat.beq (tk i) i=false:=by
         cases hh:Nat.beq (tk i) i with
         | false=>rfl
         | true =>
          exfalso
          have e:tk i=i:=by simpa using hh
          have:=htj i (by unfold iH;rw [hh,Bool.and_true];rw [e] at Xr;simpa [Z4] using Xr)
          omega
        rw [pt,nD,hne];simp
      ·intro j hj
       rw [ZB] at hj
       unfold pk;dsimp only
       rw [pt,pt,show Nat.beq j i=false from ZaW.2 fun h=>hj (Zae h),Bool.or_false]
       unfold iH
       cases h1:Nat.beq (tk j) i with
       | false=>simp
       | true =>
        have e:tk j=i:=by simpa using h1
        rw [e,LM]
        cases Nat.blt 0 i <;> simp
     ·intro j oj e sj hj he jH hL
      rw [ct iw] at hL
      by_cases nq:j=i
      ·subst nq
       rw [ho] at hj;cases hj
       rw [hd] at he;cases he
       rw [rp] at jH;cases jH
       rw [hd]
       simp [Act.put,hI.size,fH]
      ·have AN:=hL.resolve_left nq
       have ig:j<m:=ZQ fun hm=>hI.hi j hm AN
       obtain ⟨_,_,s2,_,_,hs2,_,vg⟩:=fW j oj (Zi _) (dY j oj ig hj)
       rw [jH] at hs2;cases hs2
       rw [hd]
       simp only [Act.put,ZH (pI j oj e hj ig nq he)]
       rw [← vg.zI _ _ (oD j AN x)]
       exact gH j oj e sj hj he jH AN
    have O4:=hq
    refine ⟨?_,fun UP=>?_⟩
    rotate_left
    ·subst UP
     exact (Gv o8).elim
    unfold wpOpIn
    rw [show l.toArray[i]? = some o from by simpa using ho]
    simp only []
    rw [gU jz] at hq
    split
    ·rename_i hw
     rw [if_pos hw] at hq
     refine ⟨dM _ _ _ _ _,?_⟩
     rw [Oper.semAt_eq _ _ _ (fun cc he=>by simp [mU,he] at CI),← hex]
     unfold pz at hq
     revert hq
     generalize (execOp a'.eval o).run P w=res
     intro hq
     match res,hq with
     | .ok (.value v) w',hq=>exact gL v w' hq
     | .ok (.enter f args) w', ⟨e, cr⟩ =>
      subst e
      refine ⟨by simp [FR,Fence.wide],(ie cr).mono fun e wh h=>?_⟩
      obtain ⟨v,rfl,hq⟩:=h
      exact gL v wh hq
    ·rename_i hw
     rw [if_neg hw] at hq
     exact ⟨fun _ _=>trivial,gL undef w hq⟩
   by_cases hp:p<m∧p∈Region.ready .any l.toArray listed
   ·exact (main p hp.2 hp.1).2 rfl
   ·refine ⟨fun hr=>?_,fun i hi=>?_⟩
    ·obtain ⟨i,hi⟩:=ji hI.sz hc.ac ⟨i0,by omega,px⟩
     rw [hr] at hi;cases hi
    ·have o8:i<m:=ZQ fun hm=>by
      have LL:=sH hc hI.sz hI.dc hi hm
      by_cases J6:p<m
      ·by_cases Vi:Ls listed p
       ·exact px (by
         by_cases e:i0=p
         ·rw [e];exact Vi
         ·exact LL i0 wG e)
       ·refine hp ⟨J6,(dE hI.sz).2 ⟨l[p]'(by omega),Zc (by omega),Vi,fun e he hb=>?_⟩⟩
        have aK:=jO hc.ac (Zc (show p<l.length by omega)) e he hb
        exact LL e.on (by omega) (by omega)
      ·exact px (LL i0 wG (by omega))
     exact (main i hi o8).1
def tF (tk:Nat→Nat) (P:Program) (r0:Option Nat) (c:Cx) (D:List Nat) (hs:List a8) (l:List Oper) (Q:Exit→Act→World→Prop) (m i n:Nat) (rest:List Oper) (SL:(Nat→Value)→aG) (S:List cD):Prop:=
 ∃ S' nH,vQ P c hs l tk i (rest.take n) SL S S' nH∧∀ β,Tr c D (nH β) (dQ β (pk tk (fun i=>Nat.blt i m)) S' 0++hs) (yA P r0 l.toArray Q (l.length-m) (lH l.length m))
theorem HC {id:Nat} (m:Nat) (tk:Nat→Nat) [qh:SG P] (fK:Ia l m=true) (k:tF tk P r0 c D hs l Q m 0 m l (fun _=>sl) []):Tr c D sl hs (WP P r0 (.region id l.toArray true) Q):=fun a w bb=>by
 obtain ⟨S,nH,hp,ht⟩:=k
 have h:(Code.region id l.toArray true).wpIn (FR r0) 0 P (NP Q) a w:=wpIn_region_any qh.eq (by
  refine QC (tk:=tk) (p:=m) (sG fK) (fun h=>absurd h (Nat.lt_irrefl _)) (fun c a w h=>h.elim) hp bb.cS bb.size (fun β a w bb=>ht β a w bb) l.toArray.size _ _ _ ⟨by simp,?_,?_,bb.defers,bb.size,fun t _=>rfl,?_,fun _=>undef,?_,?_⟩
  ·exact fun k o _ hL=>absurd hL (eQ _ _)
  ·exact fun k _ hL=>eQ _ _ hL
  ·exact ⟨List.range l.length,Zbs,fun i=>⟨fun h=>⟨by simpa using h,eQ _ _⟩,fun h=>by simpa using h.1⟩,by simp⟩
  ·have e:∀ (T:List cD) (i:Nat),dQ (fun _=>undef) (pk tk (fun i=>(Array.replicate l.toArray.size false).getD i false)) T i=[]:=by
    intro T
    induction T with
    | nil=>intro i;rfl
    | cons s T ih =>
     intro i
     have:=eQ l.toArray.size i
     unfold Ls at this
     unfold dQ
     rw [if_neg (by unfold pk;simp only [Zm];exact fun h=>this h.1),ih];rfl
   rw [e]
   exact bb.mem.drew
  ·exact fun j o d s _ _ _ hL=>absurd hL (eQ _ _))
 exact wpIn_mono h fun e a' w' h=>by
  cases e with
  | panic c=>exact h.elim
  | _=>exact h
end
section
variable {P:Program} {c:Cx} {D:List Nat} {sl:aG} {hs hs':List a8} {X:Act→World→Prop} {Q:Exit→Act→World→Prop} {l:List Oper} {m i n d:Nat} {rG:List (Nat×Nat)} {op:Op} {ty:TypeId} {pos:String} {af:Array Edge} {rest:List Oper} {SL:(Nat→Value)→aG} {S:List cD}
variable {r0:Option Nat}
theorem uf {o:Oper} {s:cD} (hd:o.dst=some d) (fH:Nat.blt d c.nt=true) (h:Lq P c hs l (kZ rG) i o SL S s) (k:tF (kZ rG) P r0 c D hs l Q m (i+1) n rest (fun β=>(d,s.F β)::SL β) (S++[s])):tF (kZ rG) P r0 c D hs l Q m i (n+1) (o::rest) SL S:=by
 obtain ⟨S',nH,hp,ht⟩:=k
 exact ⟨S',nH,.step hd (by simpa [Z4] using fH) h hp,ht⟩
theorem SE (k:∀ β,Tr c D (SL β) (dQ β (pk (kZ rG) (fun i=>Nat.blt i m)) S 0++hs) (yA P r0 l.toArray Q (l.length-m) (lH l.length m))):tF (kZ rG) P r0 c D hs l Q m i 0 rest SL S:=
 ⟨S,SL,.nil,k⟩
theorem Ln {ι:Type} {Φ:ι→Prop} {val:ι→Value} {own:ι→List a8} (g:Value→ι) (hg:∀ x,∃ v,g v=x) {f:FuncId} {args:(Nat→Value)→List Value} (B:List Nat)
  (hB:(B.all fun j=>kc l ⟨some d,op,ty,pos,af,none⟩ j&&Nat.beq (kZ rG j) 0)=true) (hn:(rG.all fun p=>!Nat.beq p.2 i)=true)
  (hr:∀ β,lG P (SL β) ⟨some d,op,ty,pos,af,none⟩ f (args β)) (hd:Nat.blt d c.nt=true) (hc:∀ β w,jD c hs S B β w→bh P f (args β) w [] Φ val own)
  (k:tF (kZ rG) P r0 c D hs l Q m (i+1) n rest (fun β=>(d,val (g (β i)))::SL β) (S++[⟨fun β=>val (g (β i)),fun β=>own (g (β i))⟩])) :
  tF (kZ rG) P r0 c D hs l Q m i (n+1) (⟨some d,op,ty,pos,af,none⟩::rest) SL S:=by
 refine uf (s:=⟨fun β=>val (g (β i)),fun β=>own (g (β i))⟩) rfl hd ⟨fun β β' h=>by simp only [h i (iY l i)],fun β β' h=>by simp only [h i (iY l i)],⟨B,fun j hj=>?_,fun β a w r9 ve zW _=>?_⟩,fun j hj hp=>(tJ hn hj hp).elim⟩ k
 ·have:=Z3.1 hB j hj
  rw [Zm] at this
  exact ⟨this.1,by simpa using this.2⟩
 rw [if_pos (by simp [Region.wanted])]
 unfold pz
 rw [(hr β).2 a w ve]
 refine ⟨rfl,(hc β w zW).mono fun e w' ⟨x,he,_,hk,fp,hn,hs',hf⟩=>?_⟩
 obtain ⟨v,hv⟩:=hg x
 refine ⟨val x,he,v,by simp only [kd,hv],hk.mono (by simp),fp,hn,by simp only [kd,hv];exact hs',fun b hb=>?_⟩
 rcases hf b hb with h | h
 ·cases h
 ·exact .inr h
theorem lT {F:(Nat→Value)→Value} (hr:∀ β,cR P c (SL β) hs ⟨some d,op,ty,pos,af,none⟩ (F β)) (hi:nw l i F) (hd:Nat.blt d c.nt=true) (hn:(rG.all fun p=>!Nat.beq p.2 i)=true) (k:tF (kZ rG) P r0 c D hs l Q m (i+1) n rest (fun β=>(d,F β)::SL β) (S++[⟨F,fun _=>[]⟩])) :
  tF (kZ rG) P r0 c D hs l Q m i (n+1) (⟨some d,op,ty,pos,af,none⟩::rest) SL S:=
 uf (s:=⟨F,fun _=>[]⟩) rfl hd ⟨hi,fun _ _ _=>rfl,⟨[],by simp,fun β a w r9 h1 h2 _=>by
  rw [if_pos (by simp [Region.wanted])]
  unfold pz
  rw [(hr β).2 a w h1 h2.mem]
  exact ⟨β i,by rw [um],.refl _ _,[],Zam,rfl,by simp⟩⟩,fun j hj hp=>(tJ hn hj hp).elim⟩ k
theorem FD {V:Nat→Value} {ob:(Nat→Value)→Obj} (hr:∀ β,qD P c (SL β) hs ⟨some d,op,ty,pos,af,none⟩ V (ob β)) (hi:∀ β β',(∀ k,k≠i→vO l i k=true→β k=β' k)→ob β=ob β') (hd:Nat.blt d c.nt=true) (hn:(rG.all fun p=>!Nat.beq p.2 i)=true)
  (k:tF (kZ rG) P r0 c D hs l Q m (i+1) n rest (fun β=>(d,V (fL (β i)))::SL β) (S++[⟨fun β=>V (fL (β i)),fun β=>[bG (fL (β i)) (ob β)]⟩])) :
  tF (kZ rG) P r0 c D hs l Q m i (n+1) (⟨some d,op,ty,pos,af,none⟩::rest) SL S:=
 uf (s:=⟨fun β=>V (fL (β i)),fun β=>[bG (fL (β i)) (ob β)]⟩) rfl hd ⟨fun β β' h=>by simp only [h i (iY l i)],fun β β' h=>by simp only [h i (iY l i),hi β β' fun k _ hk=>h k hk],⟨[],by simp,fun β a w r9 h1 h2 _=>by
  rw [if_pos (by simp [Region.wanted])]
  unfold pz
  rw [(hr β).2 a w h1 h2.mem]
  have e:ob (uq β i (.int .i64 (w.heap.size:Int)))=ob β:=hi _ _ fun k hk _=>uo hk
  exact ⟨.int .i64 (w.heap.size:Int),by simp only [kd,o9],.alloc _ _ _,[w.heap.size],by simp,⟨[w.heap.size],[],rfl,⟨by simp only [kd,o9],by simp only [kd,o9];rw [e];exact World.alloc_heap_new w (ob β)⟩,rfl⟩,by simp⟩⟩,fun j hj hp=>(tJ hn hj hp).elim⟩ k
end
end Go.SL.KR
namespace Go.SL.KR
open Go Go.SL
section
variable {P:Program} {c:Cx} {D:List Nat} {sl:aG} {hs hs':List a8} {X:Act→World→Prop} {Q:Exit→Act→World→Prop} {l:List Oper} {m i n d:Nat} {rG:List (Nat×Nat)} {op:Op} {ty:TypeId} {pos:String} {af:Array Edge} {rest:List Oper} {SL:(Nat→Value)→aG} {S:List cD}
variable {r0:Option Nat}
theorem Eh {t e:TypeId} {agg:Bool} {size bytes jx n0:Nat} {z:Value} {x y:Operand} {Vx Vy:(Nat→Value)→Value} {Ax:(Nat→Value)→List a8} {xs:List Value} {news:List (List Value)} [hu:iF P t (.slice e)] [hT:Ty P e agg size] [hZ:lF P e z] [hBy:ug P e bytes] (B:List Nat)
  (hB:(B.all fun j=>kc l ⟨some d,.call ⟨.builtin .append,#[x,y],#[t,t]⟩,ty,pos,af,none⟩ j&&Nat.beq (kZ rG j) 0)=true)
  (hS:S[jx]? = some ⟨Vx,Ax⟩) (hrow:∀ β w fp,ch (hp w) (Ax β) fp→(row e size (Vx β) n0 xs).sat (hp w) fp)
  (htk:∀ k,kZ rG k=i→k=jx) (hti:kZ rG jx=i) (h0:Nat.blt 0 i=true) (hwx:eR ⟨some d,.call ⟨.builtin .append,#[x,y],#[t,t]⟩,ty,pos,af,none⟩ jx=true)
  (hx:∀ β,Is (SL β) x (Vx β)) (hy:∀ β,Is (SL β) y (Vy β)) (hsrc:∀ β w,jD c hs S B β w→Rd w (Vy β) size news) (h1:∀ r∈news,∀ u∈r,u.oneCell'=true) (hz:z.cells.size=size) (hsz:Nat.blt 0 size=true) (hb0:Nat.blt 0 bytes=true)
  (hb:(n0+news.length)*bytes≤140737488355328) (hd:Nat.blt d c.nt=true) (hne:news≠[])
  (k:tF (kZ rG) P r0 c D hs l Q m (i+1) n rest (fun β=>(d,.slice (wc (β i)).1 (n0+news.length) (wc (β i)).2)::SL β) (S++[⟨fun β=>.slice (wc (β i)).1 (n0+news.length) (wc (β i)).2,fun β=>[row e size (.slice (wc (β i)).1 (n0+news.length) (wc (β i)).2) (n0+news.length) (xs++news.flatten)]⟩])) :
  tF (kZ rG) P r0 c D hs l Q m i (n+1) (⟨some d,.call ⟨.builtin .append,#[x,y],#[t,t]⟩,ty,pos,af,none⟩::rest) SL S:=by
 refine uf (s:=⟨fun β=>.slice (wc (β i)).1 (n0+news.length) (wc (β i)).2,fun β=>[row e size (.slice (wc (β i)).1 (n0+news.length) (wc (β i)).2) (n0+news.length) (xs++news.flatten)]⟩) rfl hd ⟨fun β β' h=>by simp only [h i (iY l i)],fun β β' h=>by simp only [h i (iY l i)],⟨B,fun j hj=>?_,fun β a w r9 ve zW ir=>?_⟩,fun j hj _=>by rw [htk j hj];exact hwx⟩ k
 ·have:=Z3.1 hB j hj
  rw [Zm] at this
  exact ⟨this.1,by simpa using this.2⟩
 rw [if_pos (by simp [Region.wanted])]
 rw [Bu (i:=0) hS fun k=>by
  rw [ZB]
  unfold iH
  rw [h0,Zaq]
  by_cases e:k=jx
  ·subst e;rw [hti];simp
  ·rw [show Nat.beq k jx=false from ZaW.2 fun h=>e (Zae h)]
   exact ZaW.2 fun h=>e (htk k (Zae h))] at ir
 have Wj:=hrow β w r9 ir
 have hR:=hsrc β w zW
 have hvx:=hx β a ve
 have hvy:=hy β a ve
 have hlen:=fg hR.sz
 obtain ⟨aa,cap,b2,o2,hV,c7,bQ,haa,hcc⟩:=hR
 have:=haa hne
 subst this
 rw [hV] at hvy
 obtain ⟨de,ii,mh,Hb,_,iD⟩:=Ty.parts (P:=P) (t:=e) (agg:=agg) (n:=size)
 have hzero:ii.zero=some z:=by have:=hZ.eq;rw [Hb] at this;simpa using this
 have gI:ii.bytes=bytes:=by have:=hBy.eq;rw [Hb] at this;simpa using this
 have B3:0<bytes:=by simpa using hb0
 have rm:=Bi Wj
 have O7:n0+news.length≤maxLen:=by
  have:(n0+news.length)*1≤(n0+news.length)*bytes:=Zbo _ B3
  unfold maxLen;omega
 have hn:∀ (j:Nat) (u:Value),news.flatten[j]? = some u→w.cell? ⟨b2,o2+j,none⟩=some u:=ni hcc
 have CL:∀ u∈news.flatten,u.oneCell'=true:=fun u hu=>by obtain ⟨r,hr,T9⟩:=List.mem_flatten.1 hu;exact h1 r hr u T9
 obtain ⟨v',w',iu,rk,vk,_⟩:=run_append_own (P:=P) w 0 t ty e ii z size bytes hu.eq Hb hzero iD gI hz (by simpa using hsz) (Vx β) n0 xs rm ⟨b2,o2,none⟩ news.length cap news.flatten hlen
  (fun j u hj=>by rw [eI];exact hn j u hj) CL O7 hb (Zi _)
 have wE:=qy (P:=P) (t:=t) (ty:=ty) hu.eq Hb hzero (by rw [iD];exact rm) (a:=⟨b2,o2,none⟩) (m:=news.length) (cp:=cap) (by rw [iD];exact hlen) (fun j u hj=>by rw [eI];exact hn j u hj) CL O7 (by rw [gI];exact hb) iu
 have hex:(execOp a.eval ⟨some d,.call ⟨.builtin .append,#[x,y],#[t,t]⟩,ty,pos,af,none⟩).run P w=.ok (.value v') w':=by
  simp [execOp,resolve,invoke,builtin,hvx,hvy,iu]
 unfold pz
 rw [hex]
 have GD:r9=(Vx β).ownBlock.toList:=Wj.1
 have hN:0<n0+news.length:=by have:=List.length_pos_iff.2 hne;omega
 have hsv:v'=.slice (wc v').1 (n0+news.length) (wc v').2:=by
  rcases rk.2 with ⟨_,e2⟩ | ⟨g,cp,cur,e2,_⟩
  ·omega
  ·rw [e2];rfl
 refine ⟨v',by simp only [kd];exact hsv,⟨vk.os,vk.tape,vk.output,wE.2,vk.size,fun q hq XV=>vk.block q hq (fun he=>XV ?_)⟩,v'.ownBlock.toList,by cases v'.ownBlock <;> simp,⟨v'.ownBlock.toList,[],(ZU _).symm,by simp only [kd];rw [← hsv];exact lN rk,rfl⟩,fun q hq=>?_⟩
 ·rw [GD,← he];simp
 ·have vY:v'.ownBlock=some q:=by simpa [Option.mem_toList] using hq
  rcases wE.1 with h | h
  ·left;rw [GD,← h,vY];simp
  ·right
   rw [h] at vY
   cases vY
   exact Zz _
end
end Go.SL.KR
namespace Go.Proofs.A1
open Go Go.SL
def An (x:Wy):a8:=row 3 1 x.v (fV x.p).length (fV x.p)
theorem Ao:∀ ko:List Wy,gj 3 (ko.map Wy.v) (ko.map fun x=>fV x.p)=ko.map An
 | []=>rfl
 | x::l=>by simp only [Z8,gj,Ao l];rfl
theorem A5:∀ (l:List a8) (A:a8) (m:List a8),Take (l++A::m) A (l++m)
 | [],_,_=>.here
 | _::l,A,m=>.there (A5 l A m)
theorem xy (A:a8):∀ (l m:List a8),bz (A::(l++m)) l (A::m)
 | [],_=>.nil
 | _::l,m=>.cons (.there .here) (xy A l m)
theorem ux {c:Cx} {D:List Nat} {sl:aG} {hs hs':List a8} {X:Act→World→Prop} {ko:List Wy} {x:Wy} (hx:x∈ko) (ht:Take hs (iB ko) hs')
  (k:∀ nG,(∀ y,y∈ko↔y=x∨y∈nG)→Tr c D sl (iB nG::row 3 1 x.v x.p.length (fV x.p)::hs') X):Tr c D sl hs X:=by
 obtain ⟨l1,l2,rfl⟩:=List.append_of_mem hx
 have hk:=k (l1++l2) (fun y=>by simp only [Zx,ZR];constructor <;> (intro h;rcases h with h | h | h <;> simp [h]))
 refine xl (As:=gj 3 ((l1++x::l2).map Wy.v) ((l1++x::l2).map fun x=>fV x.p)) (show Take hs (EE (gj 3 ((l1++x::l2).map Wy.v) ((l1++x::l2).map fun x=>fV x.p))) hs' from ht) ?_
 rw [Ao,Zr,Z8,Zh,Zb]
 refine tH (A5 (l1.map An) (An x) (l2.map An++hs')) (fun _ _ h=>h) ?_
 rw [← Zh,← Zr]
 refine oS (xy (An x) ((l1++l2).map An) hs') ?_
 have e:iB (l1++l2)=EE ((l1++l2).map An):=by rw [← Ao];rfl
 rw [← e]
 have e2:An x=row 3 1 x.v x.p.length (fV x.p):=by unfold An fV;rw [Zd]
 rw [e2];exact hk
theorem IQ (p:List Nat):(fV p).length=p.length:=by unfold fV;rw [Zd]
theorem BF {p:List Nat} {k:Nat} (h:k<p.length) (cur:List Value):(fV p++cur)[k*1]? = some (.int .i64 (p[k]:Nat)):=by
 rw [Zar,ZI (by rw [IQ];exact h)]
 unfold fV
 rw [ZD,Zc h];rfl
theorem BD (p:List Nat) (i:Nat):(nz p).contains (i:Int)=p.contains i:=by
 induction p with
 | nil=>rfl
 | cons x l ih =>
  show (((i:Int)==(x:Int))||(nz l).contains (i:Int))=((i==x)||l.contains i)
  rw [ih]
  congr 1
  rw [ZaY,beq_iff_eq,beq_iff_eq]
  omega
theorem u6 {α:Type} {l:List Oper} {i:Nat} {x:α}:nw l i (fun _:Nat→Value=>x):=fun _ _ _=>rfl
theorem Gl {N:Wn} {dm:Int} (h:N.Ef=dm):N.least dm []:=by
 refine ⟨N.rU,h,fun q _ _=>?_⟩
 rcases Wn.IV (N:=N) (show [] <+: q from List.nil_prefix) with e | e
 ·rw [← e];exact N.lt_irrefl []
 ·cases hb:N.lt q [] with
  | false=>rfl
  | true=>have:=Wn.lt_trans e hb;rw [N.lt_irrefl] at this;cases this
set_option maxHeartbeats 4000000 in
theorem ON {r:Ro} {s d t p:Value} (v:Int) (so de:ByteArray) {w:World} (h:RR w r s d t p) (hn:pP r) (hV:iZ r r.po) (hd:CN r) (r5:so∈cC r) (fH:de∈cy r) :
  bh Tryz.prog 175 [RA r s d t p,.int .i64 v,.string so,.string de] w [] (fun x:Bool×Wy×List Wy=>(x.1=true→(fw r r.po v so).least (nM r de) x.2.1.p∧(x.2.1∈x.2.2∨x.2.1=⟨.slice none 0 0,[],0⟩))∧(x.1=false→∀ q,(fw r r.po v so).ok q→(fw r r.po v so).fin q≠nM r de)∧x.2.1.v.oneCell'=true)
   (fun x=>.tuple #[.agg x.2.1.cells.toArray,.bool x.1]) (fun x=>[iB x.2.2]):=by
 have h6:r.ti.length≤6:=by have:=hn.Tz;unfold cU at this;rwa [Zd] at this
 have h1:=Rd.one h.sr
 have h2:=Rd.one h.de
 have h3:=Rd.one h.ti
 have h4:=Rd.one h.po
 have hti:=h.ti
 obtain ⟨a,cp,b,o',rfl,c7,bQ,ha,hc⟩:=hti
 have Q7:=h.sr
 obtain ⟨a2,nN,b2,o2,rfl,ku,fb,jz,j6⟩:=Q7
 have mh:=h.de
 obtain ⟨a3,sq,b3,o3,rfl,nr,gB,tw,qk⟩:=mh
 rw [bY] at *
 rw [cE] at *
 rw [cg] at *
 unfold maxLen at bQ fb gB
 obtain ⟨i0,wG⟩:∃ i:Nat,bE (cC r) so=(i:Nat):=⟨(bE (cC r) so).toNat,by have:=eC r5;omega⟩
 have Kh:i0<r.sr.length:=by
  obtain ⟨hl,_⟩:=fE (l:=cC r) (s:=so) (by omega)
  rw [wG,ZG] at hl
  unfold cC at hl;rwa [Zd] at hl
 obtain ⟨j0,zS⟩:∃ i:Nat,bE (cy r) de=(i:Nat):=⟨(bE (cy r) de).toNat,by have:=eC fH;omega⟩
 have BZ:j0<r.de.length:=by
  obtain ⟨hl,_⟩:=fE (l:=cy r) (s:=de) (by omega)
  rw [zS,ZG] at hl
  unfold cy at hl;rwa [Zd] at hl
 have zQ:qL r so=(r.sr[i0]).mx:=by unfold qL;rw [wG,ZG,Zk,Zc Kh];rfl
 have UY:nM r de=(r.de[j0]).mx:=by unfold nM;rw [zS,ZG,Zk,Zc BZ];rfl
 have hsrc:∀ w',aH [] w w'→aj Tryz.prog 180 [.agg #[.int .i64 r.lv,.int .i64 r.ma,.slice a2 r.sr.length nN,.slice a3 r.de.length sq,.slice a r.ti.length cp,p],.string so] w' (.int .i64 (i0:Nat)):=fun w' hk=>wG ▸ nS so (h.keeps hk)
 have wI:∀ w',aH [] w w'→aj Tryz.prog 155 [.agg #[.int .i64 r.lv,.int .i64 r.ma,.slice a2 r.sr.length nN,.slice a3 r.de.length sq,.slice a r.ti.length cp,p],.string de] w' (.int .i64 (j0:Nat)):=fun w' hk=>zS ▸ fM de (h.keeps hk)
 have tx:=jz (iJ Kh)
 have dZ:=(j6 i0 _ (fQ Kh)).2
 unfold Sr.cells at dZ
 have SZ:=dZ 1 _ rfl
 have GH:=tw (gJ BZ)
 have kl:=(qk j0 _ (fj BZ)).2
 unfold De.cells at kl
 have wJ:=kl 1 _ rfl
 unfold RA
 refine aQ Tryz.func175 rfl rfl ?_
 (refine Jr<|Jy rfl rfl fun _ _=>Jz rfl rfl fun _ _=>Ja rfl<|Jn<|Hw<|Jq ?_)
 rename_i b4 wb b8 hb8
 with_reducible refine en 18 (by kernel_rfl) ?_
 (refine oO rfl rfl ae<|aL (gT (.there .here)) rfl<|aL (cL (.there .here)) rfl<|ly rfl rfl<|gD bd rfl (fun w' aB=>(hsrc w' (Mem.keeps aB)))<|aL (az (.of rfl) (.of rfl) tx (by omega) (by omega) bj) rfl<|oO rfl rfl ae<|aL (ag (.of rfl) (At.base SZ rfl)) rfl<|oO rfl rfl ae<|aL (gT (.there .here)) rfl<|aL (cL (.there .here)) rfl<|ly rfl rfl<|gD bd rfl (fun w' aB=>(wI w' (Mem.keeps aB)))<|aL (az (.of rfl) (.of rfl) GH (by omega) (by omega) bj) rfl<|oO rfl rfl ae<|aL (ag (.of rfl) (At.base wJ rfl)) rfl<|aL (cA (.of rfl)) rfl<|aL (cA (.of rfl)) rfl ?_)
 with_reducible refine eo ?_
 rw [← zQ,← UY]
 (refine Jn<|Jq<|Jr<|Jv rfl<|Jv rfl<|JC rfl<|Jn<|fP rfl (fun ar=>?_) fun ar=>?_;refine Jr<|ab (aS .nil ak) rfl<|aq (.of rfl) (.of rfl) .here rfl rfl (fN rfl rfl) (bF rfl) ak<|Ja rfl<|Jn<|Ju<|rJ ?_;rotate_left;refine Jk<|Jr<|ab (cL (.there .here)) rfl<|Jv rfl<|Jv rfl ?_;rotate_right)
 ·refine xu ?_
  first | with_reducible apply aN | with_reducible apply aO
  case he=>exact sh rfl inferInstance rfl (.there .here) ak (by rfl) (by rfl)
  case hR=>
   intro w' aB
   exact aF (true,⟨.slice none 0 0,[],0⟩,[]) ⟨fun _=>⟨Gl (show jZ r so=_ by rw [rM r5];exact ar),.inr rfl⟩,(fun e=>by cases e),rfl⟩ (by exact .cons .here .nil) aB rfl
 refine JN eK rfl (fun w1 aR=>La (s:=.slice a2 r.sr.length nN) (d:=.slice a3 r.de.length sq) (t:=.slice a r.ti.length cp) (p:=p) v so (h.keeps aR.keeps) (by omega) r5) ?_
 rintro ⟨wv,W⟩ hW
 have hS:=py.begin hn hV v (de:=de) r5 h6 ar hW
 clear ar
 dsimp only [id_eq,Zb,Za]
 refine aW (E:=244) (sz:=2) (by exact .here) fun va vc e=>?_
 subst e
 (refine Jz rfl rfl fun _ _=>aq (.of rfl) (.of rfl) .here rfl rfl (eE rfl) (bF rfl) ak<|Ji<|Jz rfl rfl fun _ _=>Ji<|Ja rfl<|Jn<|Jq<|HB<|Jt<|Jq<|J0 ?_)
 rename_i Ld YJ CM YI
 refine FO (E:=244) (sz:=2) bT ?_
 refine Ev (ι:=Value×List Wy×List Wy) (fun x=>py (fw r r.po v so) (nM r de) x.2.1 x.2.2)
  (fun x=>[(14,.bool false),(13,.pointer (some ⟨CM,0,none⟩)),(12,.pointer (some ⟨Ld,0,none⟩)),(11,.int .i64 (nM r de)),(8,.pointer (some ⟨b8,0,none⟩)),(4,.pointer (some ⟨b4,0,none⟩)),(1,.int .i64 v)])
  (fun x=>[bG Ld (.cells #[x.1] 329 (0,0)),kD 244 2 x.1 x.2.1.length (mL x.2.1),iB x.2.2,bG CM (.cells #[.slice none 0 0,.int .i64 0] 244 (0,0)),bG b8 (.cells #[.slice none 0 0,.int .i64 0] 244 (0,0)),
   JP b4 r (.slice a2 r.sr.length nN) (.slice a3 r.de.length sq) (.slice a r.ti.length cp) p]) (fun x=>(fw r r.po v so).wt (x.2.1.map Wy.p)) ?_ ?_
 ·apply xk (.slice va W.length vc,W,W) hS
  case hs1=>exact cd
  case ht=>
   show bz _ [bG Ld (.cells #[.slice va W.length vc] 329 (0,0)),kD 244 2 (.slice va W.length vc) W.length (mL W),iB W,bG CM (.cells #[.slice none 0 0,.int .i64 0] 244 (0,0)),bG b8 (.cells #[.slice none 0 0,.int .i64 0] 244 (0,0)),
    JP b4 r (.slice a2 r.sr.length nN) (.slice a3 r.de.length sq) (.slice a r.ti.length cp) p] _
   exact .cons bT (.cons .here (.cons (.there .here) (.cons .here (.cons .here (.cons .here .nil)))))
 rintro ⟨wv,Q,ko⟩ hS D
 dsimp only at hS ⊢
 have hQl:=hS.len
 refine xo (by exact Take.there .here) fun qa qc e SX XG=>?_
 subst e
 by_cases WD:Q.length=0
 ·have Kb:Q=[]:=Z2 WD
  subst Kb
  (refine Jq<|Jr<|JL rfl .here rfl<|JI rfl<|JE rfl<|Jn<|Jc rfl fun ar=>Jp<|Jl<|Jo<|Jt<|Jr<|ab (cL c6) rfl<|Jv rfl<|aq (.of rfl) (.of rfl) dO rfl rfl (fN rfl rfl) (bF rfl) ak<|Ja rfl<|Jn<|Je<|rJ ?_)
  first | with_reducible apply aN | with_reducible apply aO
  case he=>exact sh rfl inferInstance rfl .here ak (by rfl) (by rfl)
  case hR=>
   intro w' aB
   exact aF (false,⟨.slice none 0 0,[],0⟩,ko) ⟨(fun e=>by cases e),(fun _=>Wn.I8 hS.inv),rfl⟩ (by exact .cons c6 .nil) aB rfl
 ·refine Jq<|Jr<|JL rfl .here rfl<|JI rfl<|JE rfl<|Jn<|Jd rfl fun ar=>Jk<|J0<|Jr<|JL rfl .here rfl ?_
  with_reducible apply fS (As:=[kD 244 2 (.slice qa Q.length qc) Q.length (mL Q),iB ko])
  case hr=>exact bd
  case hd=>rfl
  case ht=>exact lU
  case hc=>
   intro w1 AO aR vh hs1 CK _
   exact HP vh hs1 rfl hS.sub (by omega) hS.one
  rintro Q' ⟨ic,Uk⟩
  have Vg:Q'.length=Q.length:=ic.length_eq
  replace hS:=hS.perm ic
  dsimp only [id_eq,Zb,Za]
  have hwt:=Wn.Eo (N:=fw r r.po v so) (ic.map Wy.p)
  rw [← Vg] at WD hQl SX ⊢
  clear ic
  cases Q' with
  | nil=>exact absurd rfl WD
  | cons x R =>
   clear WD Vg
   obtain ⟨xv,xp,xf⟩:=x
   have Wc:=hS.sub ⟨xv,xp,xf⟩ (by simp)
   have We:xv.oneCell'=true:=hS.one ⟨xv,xp,xf⟩ Wc
   have sT:(fw r r.po v so).ok xp∧xp≠[]:=hS.inv.ok xp (by simp)
   have hwx:mL (⟨xv,xp,xf⟩::R)=[xv,.int .i64 (xf:Nat)]++mL R:=rfl
   have hlR:((⟨xv,xp,xf⟩:Wy)::R).length=R.length+1:=rfl
   rw [hlR] at SX hQl
   rw [hlR,hwx]
   refine Ji<|JL rfl bT rfl ?_
   refine AV (by exact .here) (Nat.succ_pos _) fun g off gQ pre cur e kL kz aR hfit hlen=>?_
   cases e
   have c0:ed (pre++([xv,.int .i64 (xf:Nat)]++mL R)++cur) (off+0*2) 2=[xv,.int .i64 (xf:Nat)]:=by
    rw [jf,Zh,Zbu,Zaw,← kL,List.drop_left];rfl
   (refine ab (az (.of rfl) (.of rfl) rfl (by omega) (by omega) bj) rfl<|ab (bS (.of rfl) .here c0 rfl) rfl<|Jz rfl rfl fun _ _=>aq (.of rfl) (.of rfl) .here rfl rfl (fN We rfl) (bF rfl) ak<|Ji<|JL rfl c6 rfl<|ab (pU (.of rfl) (.of rfl) (by omega) (by omega)) rfl<|aq (.of rfl) (.of rfl) c6 rfl rfl (eE rfl) (bF rfl) ak<|Jn<|Jq ?_)
   rename_i Sy YH
   refine AU (n:=R.length+1) (sz:=2) (cap:=qc) bT kL kz aR hfit hlen ?_
   refine AT (by exact .here) ?_
   rw [show ([xv,.int .i64 (xf:Nat)]++mL R).drop 2=mL R from rfl]
   refine ux Wc c6 fun nG RT=>?_
   have OZ:0<xp.length:=List.length_pos_iff.2 sT.2
   have Wb:xp.length≤r.ti.length:=Wn.uS sT.1
   have hxf:xf≤6:=by
    have h0:xf=(fw r r.po v so).tB xp:=hS.tB ⟨xv,xp,xf⟩ (by simp)
    have:=List.countP_le_length (p:=(fw r r.po v so).fe) (l:=xp)
    unfold Wn.tB at h0
    omega
   refine dd (by exact Take.there .here) OZ fun g2 dB Y7 e RQ X0 u9 E8=>?_
   cases e
   obtain ⟨l,hl⟩:∃ l,xp[xp.length-1]=l:=⟨_,rfl⟩
   have Rx:l<r.ti.length:=Wn.BC sT.1 l (hl ▸ Zj _)
   have c1:(fV xp++Y7)[((xp.length:Int)-1).toNat*1]? = some (.int .i64 (l:Nat)):=by
    rw [show ((xp.length:Int)-1).toNat=xp.length-1 by omega,BF (by omega),hl]
   have R1:=ha (fq Rx)
   have iP:=(hc l _ (eB Rx)).2
   unfold Ti.cells at iP
   have YD:=iP 2 _ rfl
   have mA:(fw r r.po v so).fin xp=(r.ti[l]).to:=by
    unfold Wn.fin
    rw [List.getLast?_eq_getElem?,Zc (by omega),hl]
    show (iG r l).to=_
    rw [mR Rx]
   with_reducible refine en 14 (by kernel_rfl) ?_
   (refine oO rfl rfl ae ?_;refine aL (gT AB) rfl ?_;refine oO rfl rfl ae ?_;refine aL (gT dO) rfl ?_;refine oO rfl rfl ae ?_;refine aL (gT dO) rfl ?_;refine aL (bD (.of rfl)) rfl ?_;refine aL (rR (.of rfl) (.of rfl) (QV (by omega))) rfl ?_;refine aL (az (.of rfl) (.of rfl) rfl (by omega) (by omega) bj) rfl ?_;refine aL (ag (.of rfl) (At.mF .here c1)) rfl ?_;refine aL (az (.of rfl) (.of rfl) R1 (by omega) (by omega) bj) rfl ?_;refine oO rfl rfl ae ?_;refine aL (ag (.of rfl) (At.base YD rfl)) rfl ?_;refine aL (cA (.of rfl)) rfl ?_)
   with_reducible refine eo ?_
   rw [← mA]
   refine cN (by exact .here) RQ X0 u9 E8 ?_
   refine oU (W:=nG) ⟨.slice (some ⟨g2,0,none⟩) xp.length dB,xp,xf⟩ (n:=xp.length) (x:=fV xp) (by exact Take.there .here) (by exact .here) rfl rfl ?_
   have U4:∀ y,y∈nG++[(⟨.slice (some ⟨g2,0,none⟩) xp.length dB,xp,xf⟩:Wy)]↔y∈ko:=fun y=>by rw [RT,Zx,ZK];exact Or.comm
   generalize nG++[(⟨.slice (some ⟨g2,0,none⟩) xp.length dB,xp,xf⟩:Wy)]=Sx at U4 ⊢
   (refine Jn<|Jq<|Jr<|Jv rfl<|Jv rfl<|JC rfl<|Jn<|fP rfl (fun ar=>?_) fun ar=>?_;refine Jr<|ab (cL c6) rfl<|aq (.of rfl) (.of rfl) dO rfl rfl (fN rfl rfl) (bF rfl) ak<|Ja rfl<|Jn<|Jp<|uw rfl<|Jl<|Jo<|Jt<|Jr<|ab (cL .here) rfl<|Jv rfl<|aq (.of rfl) (.of rfl) fk rfl rfl (fN rfl rfl) (bF rfl) ak<|Ja rfl<|Jn<|Je<|rJ ?_;rotate_left;refine Jk<|Jr<|ab (cL jo) rfl<|Jv rfl<|Jv rfl ?_;rotate_right)
   ·first | with_reducible apply aN | with_reducible apply aO
    case he=>exact sh rfl inferInstance rfl .here ak (by rfl) (by rfl)
    case hR=>
     intro w' aB
     exact aF (true,⟨.slice (some ⟨g2,0,none⟩) xp.length dB,xp,xf⟩,Sx) ⟨(fun _=>⟨py.found hS Uk ar,.inl ((U4 _).2 Wc)⟩),(fun e=>by cases e),rfl⟩ (by exact .cons bT .nil) aB rfl
   with_reducible apply jr
   case hr=>exact eK
   case hd=>rfl
   case ht=>exact bz.nil
   case hc=>
    intro w1 fp aR _ hs1
    obtain rfl:fp=[]:=hs1
    exact rZ (s:=.slice a2 r.sr.length nN) (d:=.slice a3 r.de.length sq) (t:=.slice a r.ti.length cp) (p:=p) v ((fw r r.po v so).fin xp) (h.keeps aR.keeps)
   intro y _
   dsimp only [id_eq,Zb,Za]
   have rI:(fm r v ((fw r r.po v so).fin xp) r.ti.length).length≤r.ti.length:=by
    have:=Z7 (B7 r v ((fw r r.po v so).fin xp)) (List.range r.ti.length)
    rw [ZaL] at this
    exact this
   refine Jn<|J0 ?_
   refine jh (ps:=[73,74]) (f:=240) (first:=[]) (cap:=[.pointer (some ⟨y.1,0,none⟩),.pointer (some ⟨y.2.1,0,none⟩),.pointer (some ⟨y.2.2,0,none⟩)]) (ι:=Value×List Wy×List Wy) (κ:=Empty)
    (rst:=[bG CM (.cells #[.slice none 0 0,.int .i64 0] 244 (0,0)),bG b8 (.cells #[.slice none 0 0,.int .i64 0] 244 (0,0)),JP b4 r (.slice a2 r.sr.length nN) (.slice a3 r.de.length sq) (.slice a r.ti.length cp) p]) ?hg
    [JP y.1 r (.slice a2 r.sr.length nN) (.slice a3 r.de.length sq) (.slice a r.ti.length cp) p,bG y.2.1 (.cells #[.int .i64 ((fw r r.po v so).fin xp)] 3 (0,0)),bG y.2.2 (.cells #[.int .i64 v] 3 (0,0))] (LD r v ((fw r r.po v so).fin xp)) ?hit
    (fun k x=>x.2.1.map wk=(((fm r v ((fw r r.po v so).fin xp) r.ti.length).take k).filter fun i=>!xp.contains i).map (fun i=>(xf+1,xp++[i]))∧(∀ z∈R++x.2.1,z∈x.2.2)∧(∀ z∈x.2.2,z.v.oneCell'=true)∧(⟨.slice (some ⟨g2,0,none⟩) xp.length dB,xp,xf⟩:Wy)∈x.2.2)
    (fun x=>[bG Ld (.cells #[x.1] 329 (0,0)),kD 244 2 x.1 (R.length+x.2.1.length) (mL (R++x.2.1)),iB x.2.2,bG Sy (.cells #[.slice (some ⟨g2,0,none⟩) xp.length dB,.int .i64 (xf:Nat)] 244 (0,0))])
    (fun _=>False) (fun _=>[]) (fun _=>.ret) (Go.sliced (some ⟨g,off,none⟩) 1 (R.length+1) qc 2,[],Sx) ⟨rfl,(fun z hz=>(U4 z).2 (hS.sub z (by rw [ZU] at hz;exact ZV _ hz))),(fun z hz=>hS.one z ((U4 z).1 hz)),(U4 _).2 Wc⟩ ?ht ?hlen ?hps ?round ?kn ?kj
   case hg=>exact Is.of rfl
   case hit=>intro w' aB;exact IU v _ h RO.nil (by omega)
   case ht=>
    show bz _ [bG Ld (.cells #[Go.sliced (some ⟨g,off,none⟩) 1 (R.length+1) qc 2] 329 (0,0)),kD 244 2 (Go.sliced (some ⟨g,off,none⟩) 1 (R.length+1) qc 2) R.length (mL (R++[])),iB Sx,bG Sy (.cells #[.slice (some ⟨g2,0,none⟩) xp.length dB,.int .i64 (xf:Nat)] 244 (0,0)),
     JP y.1 r (.slice a2 r.sr.length nN) (.slice a3 r.de.length sq) (.slice a r.ti.length cp) p,bG y.2.1 (.cells #[.int .i64 ((fw r r.po v so).fin xp)] 3 (0,0)),bG y.2.2 (.cells #[.int .i64 v] 3 (0,0))] _
    rw [ZU]
    exact .cons fk (.cons dO (.cons c6 (.cons c6 (.cons .here (.cons .here (.cons .here .nil))))))
   case hlen=>intro vs oB;obtain ⟨x,_,rfl⟩:=Zu.1 oB;rfl
   case hps=>intro t ht;simp only [ZR,Zq,or_false] at ht;rcases ht with rfl | rfl <;> exact Zav rfl
   case kj=>intro y;cases y
   case kn=>
    rintro ⟨PW,W,Cs⟩ D2 ⟨hW,iN,fa,DI⟩
    dsimp only [Zb,Za] at hW iN fa DI ⊢
    rw [tV,ZL] at hW
    obtain ⟨WB,eU⟩:=py.next hS ar iN fa hW
    refine Jj<|Jj<|Jt ?_
    apply AW (PW,R++W,Cs) WB (by rw [← hwt];exact eU)
    case hs1=>exact cd
    case ht=>
     show bz _ [bG Ld (.cells #[PW] 329 (0,0)),kD 244 2 PW (R++W).length (mL (R++W)),iB Cs,bG CM (.cells #[.slice none 0 0,.int .i64 0] 244 (0,0)),bG b8 (.cells #[.slice none 0 0,.int .i64 0] 244 (0,0)),
      JP b4 r (.slice a2 r.sr.length nN) (.slice a3 r.de.length sq) (.slice a r.ti.length cp) p] _
     rw [Zg]
     exact .cons .here (.cons .here (.cons .here (.cons dO (.cons dO (.cons dO .nil)))))
   case round=>
    rintro l2 rc W2 Vs k ⟨PW,W,Cs⟩ vs hsz hk ⟨hW,iN,fa,DI⟩ hB hF
    dsimp only at hW iN fa DI
    obtain ⟨i,hi,rfl,iw,Wv⟩:=DB hk
    obtain ⟨v8,Kj⟩:=Zl.1 hi
    have htk:(fm r v ((fw r r.po v so).fin xp) r.ti.length).take (k+1)=(fm r v ((fw r r.po v so).fin xp) r.ti.length).take k++[i]:=by rw [Zn v8,Kj]
    have Pk:(mL (R++W)).length=(R.length+W.length)*2:=by rw [oR,Zg]
    have hWk:W.length≤6:=by
     have:=congrArg List.length hW
     rw [Zd,Zd] at this
     rw [this]
     refine ZY (Z7 _ _) ?_
     rw [Zp];omega
    dsimp only [Ti.cells,List.zip_cons_cons,List.zip_nil_right,l5,Zb,Za]
    refine Jg<|Ja rfl<|Jn ?_
    with_reducible apply mm
    case ht=>exact .here
    (refine J0<|Jr<|bP rfl rfl ae<|JL rfl dO rfl<|Jv rfl ?_)
    refine ai bd rfl (fun w' aB=>lq (l:=nz xp) (i:Nat) (Ed aB c6 DI)) ?_
    rw [BD]
    cases AJ:xp.contains i with
    | true =>
     have sV:((fm r v ((fw r r.po v so).fin xp) r.ti.length).take (k+1)).filter (fun i=>!xp.contains i)=((fm r v ((fw r r.po v so).fin xp) r.ti.length).take k).filter (fun i=>!xp.contains i):=by
      rw [htk,Zbd]
      simp only [List.filter_cons,AJ,List.filter_nil]
      simp
     (refine JH rfl<|Jn<|bN (.of rfl)<|Jw<|Jj ?_)
     apply lJ (PW,W,Cs)
     case ht=>exact .here
     case hx=>exact ⟨by rw [sV];exact hW,iN,fa,DI⟩
     case h2=>exact .cons .here (.cons .here (.cons .here (.cons .here .nil)))
    | false =>
     have sV:((fm r v ((fw r r.po v so).fin xp) r.ti.length).take (k+1)).filter (fun i=>!xp.contains i)=((fm r v ((fw r r.po v so).fin xp) r.ti.length).take k).filter (fun i=>!xp.contains i)++[i]:=by
      rw [htk,Zbd]
      simp only [List.filter_cons,AJ,List.filter_nil]
      simp
     refine JH rfl<|Jn<|cF (.of rfl) ?_
     have nD:(nz xp).length=xp.length:=rW xp
     have UG:(nz xp).map (Value.int .i64)=fV xp:=by unfold nz fV;rw [ZaF];rfl
     with_reducible refine KR.HC 12 (kZ [(3,6)]) (by kernel_rfl) ?_
     refine KR.lT (fun β=>(ag (.of rfl) (At.lit (.there .here) rfl))) u6 rfl rfl ?_
     refine KR.lT (fun β=>(ao (.of rfl) ae)) u6 rfl rfl ?_
     refine KR.lT (fun β=>(ag (.of rfl) (At.lit dO rfl))) u6 rfl rfl ?_
     dsimp only [Nat.zero_add,Nat.reduceAdd]
     with_reducible apply KR.Ln (ι:=Value) (Φ:=fun _=>True) (val:=id) (own:=fun v=>[row 3 1 v xp.length (fV xp)]) (g:=id) (B:=[]) (args:=fun _=>[.slice (some ⟨g2,0,none⟩) xp.length dB])
     case hg=>exact fun x=>⟨x,rfl⟩
     case hB=>rfl
     case hr=>exact fun β=>aY (.of rfl) (.cons (.of rfl) .nil) inferInstance rfl
     case hd=>rfl
     case hn=>rfl
     case hc=>
      intro β w' hb
      have:=On (l:=nz xp) (Ed hb.mem c6 DI) (by rw [rW];omega)
      rwa [nD,UG] at this
     dsimp only [id_eq,Nat.reduceAdd]
     refine KR.lT (fun β=>(a7 (.of rfl))) u6 rfl rfl ?_
     refine KR.FD (fun β=>(aD (.cons (.of rfl) .nil) rfl rfl rfl rfl)) (fun _ _ _=>rfl) rfl rfl ?_
     dsimp only [Nat.reduceAdd]
     with_reducible apply KR.Eh (jx:=3) (n0:=xp.length) (xs:=fV xp) (news:=[[.int .i64 (i:Nat)]]) (Vx:=fun β=>β 3) (Vy:=fun β=>.slice (some ⟨fL (β 5),0,none⟩) 1 1) (Ax:=fun β=>[row 3 1 (β 3) xp.length (fV xp)]) (B:=[5])
     case hB=>kernel_rfl
     case hS=>rfl
     case hrow=>exact fun β w' fp ⟨f1,f2,e,h,h0⟩=>by obtain rfl:f2=[]:=h0;rw [e,ZU];exact h
     case htk=>exact xx rfl rfl
     case hti=>rfl
     case h0=>rfl
     case hwx=>kernel_rfl
     case hx=>exact fun β=>.of rfl
     case hy=>exact fun β=>.of rfl
     case hsrc=>
      intro β w' hb
      have m6:=hb.at 5 (by simp) (s:=⟨fun β=>.slice (some ⟨fL (β 5),0,none⟩) 1 1,fun β=>[bG (fL (β 5)) (.cells #[.int .i64 (i:Nat)] 3 (0,0))]⟩) (by kernel_rfl)
      dsimp only [Zb,Za] at m6
      exact Mem.dh m6 (by exact .here) rfl rfl
     case h1=>
      intro r hr u hu
      simp only [ZK] at hr
      subst hr
      simp only [ZK] at hu
      subst hu;rfl
     case hz=>rfl
     case hsz=>rfl
     case hb0=>rfl
     case hb=>simp only [Zbg];omega
     case hd=>rfl
     case hne=>simp
     rw [show ([[Value.int .i64 (i:Nat)]]:List (List Value)).flatten=[.int .i64 (i:Nat)] from rfl,show ([[Value.int .i64 (i:Nat)]]:List (List Value)).length=1 from rfl]
     dsimp only [Nat.reduceAdd]
     refine KR.lT (fun β=>(ao (.of rfl) ae)) u6 rfl rfl ?_
     refine KR.lT (fun β=>(ag (.of rfl) (At.lit dO rfl))) u6 rfl rfl ?_
     refine KR.lT (fun β=>(H8 (.of rfl) (.of rfl) (QV (by omega)))) u6 rfl rfl ?_
     with_reducible apply KR.lT (F:=fun β=>.agg #[.slice (wc (β 6)).1 (xp.length+1) (wc (β 6)).2,.int .i64 ((xf:Nat)+1)])
     case hr=>(intro β;exact aS (.cons (.of rfl) (.cons (.of rfl) .nil)) ak)
     case hi=>exact fun β β' h=>by simp only [h 6 (by kernel_rfl)]
     case hd=>rfl
     case hn=>rfl
     dsimp only [Nat.reduceAdd]
     with_reducible apply KR.FD (V:=fun b=>.slice (some ⟨b,0,none⟩) 1 1) (ob:=fun β=>.cells #[.slice (wc (β 6)).1 (xp.length+1) (wc (β 6)).2,.int .i64 ((xf:Nat)+1)] 244 (0,0))
     case hr=>(intro β;exact bu (.cons (.of rfl) .nil) rfl rfl bO bO ak)
     case hi=>exact fun β β' h=>by simp only [h 6 (by decide) (by kernel_rfl)]
     case hd=>rfl
     case hn=>rfl
     dsimp only [Nat.reduceAdd]
     refine KR.SE fun β=>?_
     change Tr _ _ _ [bG (fL (β 5)) (.cells #[.int .i64 (i:Nat)] 3 (0,0)),row 3 1 (.slice (wc (β 6)).1 (xp.length+1) (wc (β 6)).2) (xp.length+1) (fV xp++[.int .i64 (i:Nat)]),bG (fL (β 11)) (.cells #[.slice (wc (β 6)).1 (xp.length+1) (wc (β 6)).2,.int .i64 ((xf:Nat)+1)] 244 (0,0)),
      bG l2 (fU rc .busy none),bG Ld (.cells #[PW] 329 (0,0)),kD 244 2 PW (R.length+W.length) (mL (R++W)),iB Cs,bG Sy (.cells #[.slice (some ⟨g2,0,none⟩) xp.length dB,.int .i64 (xf:Nat)] 244 (0,0))] _
     generalize fL (β 5)=b5
     generalize fL (β 11)=PI
     generalize (wc (β 6)).1=ea
     generalize (wc (β 6)).2=ec
     refine sN (rs:=[12]) (by kernel_rfl) (by simp) (ZA.2 ⟨?_,fun _ h=>absurd h Zq⟩)
     refine uU rfl ?_
     with_reducible apply C1
     case hx=>exact Is.of rfl
     case hy=>exact Is.of rfl
     case ht=>exact fk
     case hn=>exact eF.bG bT (show ed [.slice ea (xp.length+1) ec,.int .i64 ((xf:Nat)+1)] 0 2=[.slice ea (xp.length+1) ec,.int .i64 ((xf:Nat)+1)] from rfl)
     case hl=>rfl
     case h1=>exact bJ rfl (eE rfl)
     case hz=>exact rfl
     case hsz=>exact rfl
     case hb0=>exact rfl
     case hb=>omega
     case hd=>rfl
     intro v'
     refine xo (by exact .here) fun a' gQ e NF ye=>?_
     subst e
     refine Jn ?_
     refine sN (rs:=[13]) (by kernel_rfl) (by simp) (ZA.2 ⟨?_,fun _ h=>absurd h Zq⟩)
     refine uU rfl ?_
     (refine aq (.of rfl) (.of rfl) fk rfl rfl (eE rfl) (bF rfl) ak<|Jn ?_)
     with_reducible refine DD (by kernel_rfl) ?_
     refine pB ?_
     refine oU (W:=Cs) ⟨.slice ea (xp.length+1) ec,xp++[i],xf+1⟩ (n:=xp.length+1) (x:=fV xp++[.int .i64 (i:Nat)]) jo c6 (by simp) (by unfold fV;rw [Zr];rfl) ?_
     have T7:mL (R++(W++[⟨.slice ea (xp.length+1) ec,xp++[i],xf+1⟩]))=mL (R++W)++[.slice ea (xp.length+1) ec,.int .i64 ((xf:Nat)+1)]:=by rw [← Zh];exact yC (R++W) _
     have T5:R.length+(W++[(⟨.slice ea (xp.length+1) ec,xp++[i],xf+1⟩:Wy)]).length=R.length+W.length+1:=by simp [Nat.add_assoc]
     apply lJ (.slice a' (R.length+W.length+1) gQ,W++[⟨.slice ea (xp.length+1) ec,xp++[i],xf+1⟩],Cs++[⟨.slice ea (xp.length+1) ec,xp++[i],xf+1⟩])
     case ht=>exact fk
     case hx=>
      refine ⟨?_,?_,?_,?_⟩
      ·rw [sV,Zr,Zr,hW];rfl
      ·intro z hz
       rw [← Zh] at hz
       rcases Zx.1 hz with hz | hz
       ·exact ZE _ (iN z hz)
       ·exact ZS _ hz
      ·intro z hz
       rcases Zx.1 hz with hz | hz
       ·exact fa z hz
       ·rw [ZK.1 hz];rfl
      ·exact ZE _ DI
     case h2=>
      show bz _ [bG Ld (.cells #[.slice a' (R.length+W.length+1) gQ] 329 (0,0)),kD 244 2 (.slice a' (R.length+W.length+1) gQ) (R.length+(W++[(⟨.slice ea (xp.length+1) ec,xp++[i],xf+1⟩:Wy)]).length) (mL (R++(W++[⟨.slice ea (xp.length+1) ec,xp++[i],xf+1⟩]))),iB (Cs++[⟨.slice ea (xp.length+1) ec,xp++[i],xf+1⟩]),bG Sy (.cells #[.slice (some ⟨g2,0,none⟩) xp.length dB,.int .i64 (xf:Nat)] 244 (0,0))] _
      rw [T5,T7]
      exact .cons (.there .here) (.cons (.there .here) (.cons .here (.cons bT .nil)))
def qG (r:Ro) (v:Int) (so de:ByteArray):Option (List Nat):=match (fw r r.po v so).all (nM r de) ((fw r r.po v so).n+1) [] with
 | []=>none
 | a::l=>some (tj (fw r r.po v so).lt a l)
theorem xg {r:Ro} {v:Int} {so de:ByteArray} {p:List Nat} (h:(fw r r.po v so).least (nM r de) p):qG r v so de=some p:=by
 unfold qG
 split
 ·rename_i e
  exact absurd h.2.1 (Wn.all_none e p h.1)
 ·rename_i a l e
  rw [Wn.DE (Wn.Ss e) h]
theorem xh {r:Ro} {v:Int} {so de:ByteArray} (h:∀ q,(fw r r.po v so).ok q→(fw r r.po v so).fin q≠nM r de):qG r v so de=none:=by
 unfold qG
 split
 ·rfl
 ·rename_i a l e
  have:=Wn.Ss e
  exact absurd this.2.1 (h _ this.1)
theorem L8 {r:Ro} {v:Int} {so de:ByteArray} {p:List Nat} (h:(fw r r.po v so).least (nM r de) p):∀ i∈p,i<r.ti.length:=Wn.BC h.1
def pQ (r:Ro) (v:Int) (so de:ByteArray):Int:=aV [gC r,EX r v,Qf r so,pb r de]
theorem Tf {n:Int} (h0:0≤n) (h1:n<9223372036854775808):IntKind.i64.wrap n=n:=by simp [IntKind.wrap,IntKind.bits,IntKind.signed];omega
theorem yE {r:Ro} {v:Int} {so de:ByteArray} (h:pQ r v so de=0):tq r∧(0≤v∧v<r.lv)∧so∈cC r∧de∈cy r:=by
 unfold pQ at h
 rw [cq] at h
 have h1:=G9 (h _ Zt)
 have h2:=h (EX r v) (by simp)
 have h3:=(bK (by decide)).1 (h (Qf r so) (by simp))
 have h4:=(bK (by decide)).1 (h (pb r de) (by simp))
 have hl:=h1.lim
 unfold EX at h2
 rw [Tf (by omega) (by omega),fx] at h2
 rw [decide_eq_false_iff_not,cm,Classical.not_not] at h3 h4
 exact ⟨h1,by omega,h3,h4⟩
theorem qv {r:Ro} {s d t p:Value} (v:Int) (so de:ByteArray) {w:World} (h:RR w r s d t p) (cI:lz r):aj Tryz.prog 151 [RA r s d t p,.int .i64 v,.string so,.string de] w (.int .i64 (pQ r v so de)):=by
 have h1:=Rd.one h.sr
 have h2:=Rd.one h.de
 have h3:=Rd.one h.ti
 have h4:=Rd.one h.po
 have fK:∀ w',aH [] w w'→aj Tryz.prog 34 [.agg #[.int .i64 r.lv,.int .i64 r.ma,s,d,t,p]] w' (.int .i64 (gC r)):=fun w' hk=>eD (h.keeps hk) cI
 have hle:∀ w',aH [] w w'→aj Tryz.prog 114 [.agg #[.int .i64 r.lv,.int .i64 r.ma,s,d,t,p],.int .i64 v] w' (.int .i64 (EX r v)):=fun w' hk=>kP v (h.keeps hk)
 have zN:∀ w',aH [] w w'→aj Tryz.prog 122 [.agg #[.int .i64 r.lv,.int .i64 r.ma,s,d,t,p],.string so] w' (.int .i64 (Qf r so)):=fun w' hk=>pM so (h.keeps hk)
 have mh:∀ w',aH [] w w'→aj Tryz.prog 112 [.agg #[.int .i64 r.lv,.int .i64 r.ma,s,d,t,p],.string de] w' (.int .i64 (pb r de)):=fun w' hk=>ew de (h.keeps hk)
 unfold RA
 refine ah Tryz.func151 rfl rfl ?_
 refine Jr<|Jy rfl rfl fun _ _=>Ja rfl<|Jn<|Jq ?_
 with_reducible refine cQ 12 (by kernel_rfl) ?_
 (refine an (cL .here) rfl<|aT bL rfl (fun w' aB=>(fK w' (Mem.keeps aB)))<|an (cL .here) rfl<|an kA rfl<|aT bd rfl (fun w' aB=>(hle w' (Mem.keeps aB)))<|an (cL .here) rfl<|an kA rfl<|aT bd rfl (fun w' aB=>(zN w' (Mem.keeps aB)))<|an (cL .here) rfl<|an kA rfl<|aT bd rfl (fun w' aB=>(mh w' (Mem.keeps aB)))<|ek (aD (.cons (.of rfl) (.cons (.of rfl) (.cons (.of rfl) (.cons (.of rfl) .nil)))) rfl rfl rfl rfl) rfl rfl ?_)
 with_reducible refine dp rfl fun bq mN=>?_
 (refine ai bL rfl (fun w' aB=>(dN (Mem.dh aB .here rfl rfl) (bU.cons (bU.cons (bU.cons (bU.cons bU.nil))))))<|Ja rfl<|Jn<|Je<|JT ?_)
 rfl
theorem QR {lv:Value} {l:List Nat} {g:Nat→ByteArray} {f:FuncId} {first cap:List Value} [bM Tryz.prog f] {w:World} (h:Rd w lv 1 (ints (nz l))) (hn:l.length≤1000000)
  (cr:∀ i∈l,∀ w',aH [] w w'→aj Tryz.prog f (first++[.int .i64 (i:Nat)]++cap) w' (.string (g i))) :
  bh Tryz.prog 176 [lv,.func (.func f) first.toArray cap.toArray] w [] (fun _:Value=>True) id (fun v=>[row 9 1 v l.length (aM (l.map g))]):=by
 obtain ⟨a,cp,b,o,rfl,c7,bQ,ha,hc⟩:=h
 rw [cY,rW] at *
 unfold maxLen at bQ
 refine aQ Tryz.func176 rfl rfl ?_
 refine Jr<|Ja rfl<|Ji<|Ja rfl<|Jn<|Jq<|Jr<|Jv rfl<|JI rfl<|Jv rfl<|Jn<|J0 ?_
 refine aP 9 1 ?_
 refine aX (ι:=Nat×Value) (fun x=>x.1≤l.length) (fun x=>[(10,.int .i64 x.1),(9,.int .i64 l.length),(8,.slice a l.length cp),(5,x.2),(1,.func (.func f) first.toArray cap.toArray)]) (fun x=>[row 9 1 x.2 x.1 (aM ((l.take x.1).map g))]) (fun x=>l.length-x.1) ?_ ?_
 ·apply aI (0,.slice none 0 0) (Zi _)
  case hs1=>exact cd
  case ht=>
   exact .cons .here .nil
 rintro ⟨k,v⟩ hk
 dsimp only at hk ⊢
 by_cases aK:k<l.length
 ·have X2:k<(nz l).length:=by rw [rW];exact aK
  have cB:=ha (jy X2)
  have hgz:(nz l)[k]=((l[k]:Nat):Int):=by simp [nz]
  have c0:w.cell? ⟨b,o+k*1,none⟩=some (.int .i64 (l[k]:Nat)):=by rw [← hgz];exact (hc k _ (hP X2)).2 0 _ rfl
  have iP:=cr _ (Zj aK)
  have JV:aM ((l.take (k+1)).map g)=aM ((l.take k).map g)++[.string (g l[k])]:=by
   rw [Zn aK,Zr,eX];rfl
  have v8:(aM ((l.take k).map g)).length=k*1:=by rw [df,Zd,ZaI (by omega),Zar]
  generalize g l[k]=gk at iP JV
  (refine Jr<|JA rfl<|Jn<|Jq<|Jd rfl fun ar=>Jk<|Jq<|J0<|Jr<|ab (fG cB ar) rfl<|ab (ag (.of rfl) (At.base c0 rfl)) rfl<|Ja rfl<|Jn<|Jg<|Jv rfl<|Jv rfl<|Jv rfl ?_)
  refine ai bL rfl (fun w' aB=>(iP w' (Mem.keeps aB))) ?_
  refine bo (aD (.cons (.of rfl) .nil) rfl rfl rfl rfl) rfl (fun _ _=>?_)
  refine bH (.of rfl) (.of rfl) (.there .here) .here ak (by rfl) (eE rfl) (by rfl) (by rfl) (by rfl) eN (by rfl) ?_
  intro v'
  refine Ja rfl<|Jx<|Jj<|Jt<|Jg<|JB rfl (by omega)<|Jv rfl<|Jn ?_
  apply aJ (k+1,v') (by show k+1≤l.length;omega) (by show l.length-(k+1)<l.length-k;omega)
  case hs1=>exact cd
  case ht=>
   show bz _ [row 9 1 v' (k+1) (aM ((l.take (k+1)).map g))] _
   rw [JV]
   exact .cons .here .nil
 ·obtain rfl:k=l.length:=by omega
  rw [ZL]
  refine Jr<|JA rfl<|Jn<|Jq<|Jc rfl fun ar=>Jp<|Jl<|Jo<|Jt<|Jr<|Jv rfl<|Ja rfl<|Jn<|Je ?_
  first | with_reducible apply aN | with_reducible apply aO
  case he=>exact dD rfl rfl
  case hR=>
   intro w' aB
   exact aF v trivial (by exact .cons .here .nil) aB rfl
theorem P0 {r:Ro} {s d t p:Value} (i:Nat) (hi:i<r.ti.length) {b1:Nat} {w:World} (h:RR w r s d t p) (hA:BR w b1 (RC r s d t p)) :
  aj Tryz.prog 177 [.int .i64 (i:Nat),.pointer (some ⟨b1,0,none⟩)] w (.string (gM r i)):=by
 have xZ:gM r i=(r.ti[i]).nm:=by unfold gM;rw [mR hi]
 have hti:=h.ti
 obtain ⟨a,cp,b,o',rfl,c7,bQ,ha,hc⟩:=hti
 rw [bY] at *
 have cB:=ha (fq hi)
 have aC:=(hc i _ (eB hi)).2
 unfold Ti.cells at aC
 have c0:=aC 0 _ rfl
 have c4:w.cell? ⟨b1,4,none⟩=some (.slice a r.ti.length cp):=hA 4 _ rfl
 rw [xZ]
 refine ah Tryz.func177 rfl rfl ?_
 (refine Jr<|Ja rfl<|Ji<|bP rfl rfl ae<|ab (ag (.of rfl) (At.base c4 rfl)) rfl<|Jv rfl<|ab (az (.of rfl) (.of rfl) cB (by omega) (by omega) bj) rfl<|bP rfl rfl ae<|ab (ag (.of rfl) (At.base c0 rfl)) rfl<|Ja rfl<|Jn<|Je<|JT ?_)
 rfl
def FH (r:Ro) (v:Int) (so de:ByteArray):Int:=if pQ r v so de≠0 then pQ r v so de else if (qG r v so de).isNone then 18 else 0
def CU (r:Ro) (v:Int) (so de:ByteArray):List ByteArray:=if pQ r v so de≠0 then [] else ((qG r v so de).getD []).map (gM r)
theorem VW {r:Ro} {s d t p:Value} (v:Int) (so de:ByteArray) {w:World} (h:RR w r s d t p) (cI:lz r):bh Tryz.prog 70 [RA r s d t p,.int .i64 v,.string so,.string de] w [] (fun _:Value=>True) (fun x=>.tuple #[x,.int .i64 (FH r v so de)]) (fun x=>[row 9 1 x (CU r v so de).length (aM (CU r v so de))]):=by
 have h1:=Rd.one h.sr
 have h2:=Rd.one h.de
 have h3:=Rd.one h.ti
 have h4:=Rd.one h.po
 unfold RA
 refine aQ Tryz.func70 rfl rfl ?_
 (refine Jr<|Jy rfl rfl fun _ _=>Ja rfl<|Ja rfl<|Jn<|Jq<|Jr<|ab (cL .here) rfl<|Jv rfl<|Jv rfl<|Jv rfl ?_)
 rename_i b4 wb
 refine ai vT rfl (fun w' aB=>qv (s:=s) (d:=d) (t:=t) (p:=p) v so de (h.keeps aB.keeps) cI) ?_
 (refine Ja rfl<|Ji<|Jv rfl<|JD rfl<|Jn<|fP rfl (fun ar=>?_) fun ar=>?_;refine Jr<|Jv rfl<|Ja rfl<|Ja rfl<|Jn<|Ju ?_;rotate_left;refine Jk<|Jr<|ab (cL .here) rfl<|Jv rfl<|Jv rfl<|Jv rfl ?_;rotate_right)
 ·have e1:CU r v so de=[]:=if_pos ar
  have e2:FH r v so de=pQ r v so de:=if_pos ar
  rw [e1,e2]
  refine aP 9 1 ?_
  first | with_reducible apply aN | with_reducible apply aO
  case he=>exact fY rfl rfl rfl
  case hR=>
   intro w' aB
   exact aF (.slice none 0 0) trivial (by exact .cons .here .nil) aB rfl
 have e0:pQ r v so de=0:=Zo.1 ar
 obtain ⟨eG,hv,r5,fH⟩:=yE e0
 have e1:CU r v so de=((qG r v so de).getD []).map (gM r):=if_neg ar
 have e2:FH r v so de=if (qG r v so de).isNone then 18 else 0:=if_neg ar
 clear ar
 rw [e1,e2]
 refine JN vT rfl (fun w1 aR=>ON (s:=s) (d:=d) (t:=t) (p:=p) v so de (h.keeps aR.keeps) eG.CH eG.val eG.PD r5 fH) ?_
 rintro ⟨WH,⟨xv,xp,xf⟩,ko⟩ ⟨We,Wd,T4⟩
 dsimp only [Wy.cells] at We Wd T4 ⊢
 dsimp only [id_eq,Zb,Za]
 cases WH with
 | false =>
  rw [xh (Wd rfl)]
  (refine Jv rfl<|JJ rfl rfl<|JJ rfl rfl<|Jz rfl rfl fun _ _=>aq (.of rfl) (.of rfl) .here rfl rfl (fN T4 rfl) (bF rfl) ak<|Ja rfl<|Jn<|Jq<|Jr<|Jv rfl<|JH rfl<|Jn<|cF (.of rfl)<|Jr<|Ja rfl<|Ja rfl<|Jn<|Ju ?_)
  refine aP 9 1 ?_
  first | with_reducible apply aN | with_reducible apply aO
  case he=>exact fY rfl rfl rfl
  case hR=>
   intro w' aB
   exact aF (.slice none 0 0) trivial (by exact .cons .here .nil) aB rfl
 | true =>
  obtain ⟨hl,oC⟩:=We rfl
  rw [xg hl]
  have hrw:(((some xp).getD []:List Nat).map (gM r)).length=xp.length:=by simp
  rw [hrw]
  have aK:=L8 hl
  have aaT:xp.length≤6:=ZY (Wn.uS hl.1) eG.len.2.2
  (refine Jv rfl<|JJ rfl rfl<|JJ rfl rfl<|Jz rfl rfl fun _ _=>aq (.of rfl) (.of rfl) .here rfl rfl (fN T4 rfl) (bF rfl) ak<|Ja rfl<|Jn<|Jq<|Jr<|Jv rfl<|JH rfl<|Jn<|bN (.of rfl)<|Jk<|Jr<|bP rfl rfl ae<|JL rfl .here rfl<|ab (bA .nil (.cons (.of rfl) .nil)) rfl ?_)
  with_reducible apply jr
  case hr=>exact bd
  case hd=>rfl
  case ht=>exact bz.nil
  case hc=>
   intro w1 fp aR _ hs1
   obtain rfl:fp=[]:=hs1
   have hA:BR w1 b4 [.int .i64 r.lv,.int .i64 r.ma,s,d,t,p]:=BR.of aR bT
   have hR:=h.keeps aR.keeps
   have hrd:Rd w1 xv 1 (ints (nz xp)):=by
    rcases oC with oC | oC
    ·exact Ed aR (by exact Take.there .here) oC
    ·cases oC
     exact Rd.nil w1 1
   exact QR (f:=177) (g:=gM r) (first:=[]) (cap:=[.pointer (some ⟨b4,0,none⟩)]) hrd (by omega) (fun i hi w2 eH=>P0 i (aK i hi) (hR.keeps eH) (hA.keeps eH))
  intro x _
  dsimp only [id_eq,Zb,Za]
  refine Ja rfl<|Ja rfl<|Jn<|Je ?_
  first | with_reducible apply aN | with_reducible apply aO
  case he=>exact fY rfl rfl rfl
  case hR=>
   intro w' aB
   exact aF x trivial (by exact .cons .here .nil) aB rfl

def gy (r:Ro) (v:Int) (so:ByteArray):Nat→List Int
  | 0=>[qL r so]
  | k+1=>if wU r v so k&&!(gy r v so k).contains (iG r k).to then gy r v so k++[(iG r k).to] else gy r v so k
theorem Bj (r:Ro) (v:Int) (so:ByteArray):∀ k,(gy r v so k).length≤k+1
  | 0=>Zz _
  | k + 1 => by
    have:=Bj r v so k
    unfold gy
    split
    · rw [Zg];simp;omega
    · omega
theorem uF (r:Ro) (v:Int) (so:ByteArray):∀ k,(gy r v so k).Nodup
  | 0=>by simp [gy]
  | k + 1 => by
    have:=uF r v so k
    unfold gy
    split
    · rename_i h
      rw [Zm] at h
      rw [ZF]
      refine ⟨this,by simp,fun a ha b hb e=>?_⟩
      rw [ZK] at hb
      subst hb;subst e
      have:=h.2
      rw [Zbh.2 ha] at this
      cases this
    · exact this
theorem xH (r:Ro) (v:Int) (so:ByteArray) {m:Int}:∀ {a b:Nat},a≤b→m∈gy r v so a→m∈gy r v so b:=by
  intro a b h
  induction h with
  | refl=>exact id
  | step _ ih =>
    intro hm
    have:=ih hm
    rw [gy]
    split
    · exact ZE _ this
    · exact this
theorem H6 (r:Ro) (v:Int) (so:ByteArray) (k:Nat):qL r so∈gy r v so k:=xH r v so (Zi k) (by simp [gy])
theorem MK {r:Ro} {v:Int} {so:ByteArray} {k t:Nat} (ht:t<k) (h:wU r v so t=true):(iG r t).to∈gy r v so k:=by
  refine xH r v so (show t+1≤k from ht) ?_
  rw [gy]
  split
  · exact ZS _ (by simp)
  · rename_i hc
    rw [h,Zaq,Zbn,Bool.not_eq_false] at hc
    exact Zbh.1 hc
theorem zf {r:Ro} (eG:tq r) {v:Int} {so:ByteArray} (hs:so∈cC r):∀ k,k≤r.ti.length→∀ m∈gy r v so k,(fw r r.po v so).Rc m
  | 0, _, m, hm => by
    rw [gy,ZK] at hm
    subst hm
    rw [← rM hs]
    exact Wn.Rc.Ef
  | k + 1, hk, m, hm => by
    rw [gy] at hm
    split at hm
    · rename_i h
      rcases Zx.1 hm with hm | hm
      · exact zf eG hs k (by omega) m hm
      · rw [ZK] at hm
        subst hm
        rw [Zm,vK eG.CH eG.val] at h
        exact Wn.Rc.ca (N:=fw r r.po v so) (show k<r.ti.length from hk) h.1
    · exact zf eG hs k (by omega) m hm
theorem uO {r:Ro} (eG:tq r) {v:Int} {so:ByteArray} (hs:so∈cC r) {m:Int} (h:(fw r r.po v so).Rc m):0≤m∧m<r.ma:=by
  have SS:∀ i,i<r.ti.length→0≤(iG r i).to∧(iG r i).to<r.ma:=fun i hi=>by
    rw [mR hi];exact (eG.tm _ (Zj hi)).2.1
  cases h with
  | Ef =>
    show 0≤jZ r so∧jZ r so<r.ma
    rw [rM hs]
    unfold qL
    obtain ⟨hl,_⟩:=fE (l:=cC r) (s:=so) (eC hs)
    have BY:(bE (cC r) so).toNat<r.sr.length:=by
                                                           have e:(cC r).length=r.sr.length:=by unfold cC;rw [Zd]
                                                           omega
    rw [Zk,Zc BY]
    exact eG.sm _ (Zj BY)
  | ca hi _=>exact SS _ hi
  | fe hi _ _=>exact SS _ hi
structure vV (r:Ro) (v:Int) (so:ByteArray) (L:List Int) (i:Nat):Prop where
  nd:L.Nodup
  rc:∀ m∈L,(fw r r.po v so).Rc m
  rt:∀ m∈gy r v so r.ti.length,m∈L
  dn:∀ j x,j<i→L[j]? = some x→∀ t,t<r.ti.length→B7 r v x t=true→(iG r t).to∈L
theorem E2 {L:List Int} {n:Nat} (kU:L.Nodup) (h:∀ m∈L,0≤m∧m<(n:Nat)):L.length≤n:=by
  have:=kT n (L.map Int.toNat) (by
    show List.Pairwise (fun a b=>a≠b) (L.map Int.toNat)
    rw [Zbz]
    refine List.Pairwise.imp_of_mem (fun {a b} ha hb hne e=>hne ?_) kU
    have:=h a ha;have:=h b hb;omega) (fun x hx=>by
    obtain ⟨m,hm,rfl⟩:=Zu.1 hx
    have:=h m hm;omega)
  rwa [Zd] at this
theorem vV.DZ {r:Ro} (eG:tq r) {v:Int} {so:ByteArray} (hs:so∈cC r) {L:List Int} {i:Nat} (h:vV r v so L i):L.length≤4:=by
  have hl:=eG.lim
  refine E2 h.nd fun m hm=>?_
  have:=uO eG hs (h.rc m hm)
  omega
theorem vV.begin {r:Ro} (eG:tq r) {v:Int} {so:ByteArray} (hs:so∈cC r):vV r v so (gy r v so r.ti.length) 0:=
  ⟨uF r v so _,zf eG hs _ (Zz _),fun _ h=>h,fun j x h=>absurd h (ZO _)⟩
theorem vV.done {r:Ro} (eG:tq r) {v:Int} {so:ByteArray} (hs:so∈cC r) {L:List Int} (h:vV r v so L L.length) (m:Int):m∈L↔(fw r r.po v so).Rc m:=by
  refine Wn.MR (S:=fun m=>m∈L) ⟨?_,fun i hi hc=>?_⟩ (fun m hm=>h.rc m hm) m
  · show jZ r so∈L
    rw [rM hs]
    exact h.rt _ (H6 r v so _)
  · rcases hc with hc | ⟨hf,r6⟩
    · rw [← vK eG.CH eG.val] at hc
      exact h.rt _ (MK hi hc)
    · obtain ⟨j,hj,e⟩:=Zs r6
      refine h.dn j _ hj (Zc hj) i hi ?_
      rw [qm v so,e,hf]
      simp
def LA (r:Ro) (v:Int) (so:ByteArray) (m:Int):Bool:=!((fw r r.po v so).all m ((fw r r.po v so).n+1) []).isEmpty
theorem Ie (r:Ro) (v:Int) (so:ByteArray) (m:Int):LA r v so m=true↔(fw r r.po v so).Rc m:=by
  unfold LA
  rw [Zbn,List.isEmpty_eq_false_iff]
  constructor
  · intro h
    obtain ⟨q,hq⟩:=List.exists_mem_of_ne_nil _ h
    obtain ⟨h1,h2⟩:=Wn.zA (Wn.rU _) hq
    rw [← h2]
    exact Wn.TI h1
  · intro h e
    obtain ⟨p,hp,hf⟩:=Wn.TV h
    exact Wn.all_none e p hp hf
def vA (r:Ro) (v:Int) (so:ByteArray):List Int:=((List.range r.ma.toNat).map fun i:Nat=>(i:Int)).filter (LA r v so)
theorem Cg (r:Ro) (v:Int) (so:ByteArray):(vA r v so).Pairwise (fun a b=>a<b):=by
  unfold vA
  refine List.Pairwise.filter _ ?_
  rw [Zbz]
  exact List.pairwise_lt_range.imp fun h=>by omega
theorem KU {r:Ro} (eG:tq r) {v:Int} {so:ByteArray} (hs:so∈cC r) {m:Int}:m∈vA r v so↔(fw r r.po v so).Rc m:=by
  unfold vA
  rw [Zv,Ie]
  constructor
  · exact fun h=>h.2
  · intro h
    have:=uO eG hs h
    exact ⟨Zu.2 ⟨m.toNat,ZT.2 (by omega),by omega⟩,h⟩
theorem KS {r:Ro} (eG:tq r) {v:Int} {so:ByteArray} (hs:so∈cC r) {L S:List Int} (kU:L.Nodup) (hL:∀ m,m∈L↔(fw r r.po v so).Rc m) (hp:S.Perm L) (NA:S.Pairwise (fun a b=>a≤b)):S=vA r v so:=by
  have hSn:S.Nodup:=hp.nodup_iff.2 kU
  have hSs:S.Pairwise (fun a b=>a<b):=(NA.and hSn).imp fun ⟨h1,h2⟩=>by omega
  refine nO (R:=fun a b:Int=>a<b) (fun a b h h'=>by omega) hSs (Cg r v so) ?_
  refine (Zaz hSn ((Cg r v so).imp fun h=>by omega)).2 fun m=>?_
  rw [hp.mem_iff,hL,KU eG hs]
end Go.Proofs.A1
namespace Go.Proofs
open Go.Shelf
def Tryz.BJ:Go.Shelf.Ren:=⟨fun | 189=>156 | 125=>245 | 257=>244 | 128=>312 | 129=>313 | 294=>303 | 295=>304 | 296=>305 | 297=>306 | 298=>307 | 299=>308 | 216=>309 | 300=>310 | 301=>311 | 328=>343 | 329=>344 | 330=>345 | 331=>346 | 332=>347 | 215=>342 | 343=>367 | n=>n,fun | 28=>49 | 3=>3 | 46=>318 | 0=>0 | 51=>381 | 53=>383 | 4=>4 | 183=>374 | 182=>373 | 131=>272 | 5=>5 | 9=>9 | 218=>409 | 222=>413 | 228=>428 | 229=>359 | n=>n,fun | n=>n⟩
theorem Tryz.EY:Go.Proofs.Lays.n189 Tryz.prog Tryz.BJ:={
 mixed:=by kernel_rfl
 f125:=Tryz.func245.trans (congrArg some (by kernel_rfl))
 f128:=Tryz.func312.trans (congrArg some (by kernel_rfl))
 f129:=Tryz.func313.trans (congrArg some (by kernel_rfl))
 f189:=Tryz.func156.trans (congrArg some (by kernel_rfl))
 f215:=Tryz.func342.trans (congrArg some (by kernel_rfl))
 f216:=Tryz.func309.trans (congrArg some (by kernel_rfl))
 f257:=Tryz.func244.trans (congrArg some (by kernel_rfl))
 f294:=Tryz.func303.trans (congrArg some (by kernel_rfl))
 f295:=Tryz.func304.trans (congrArg some (by kernel_rfl))
 f296:=Tryz.func305.trans (congrArg some (by kernel_rfl))
 f297:=Tryz.func306.trans (congrArg some (by kernel_rfl))
 f298:=Tryz.func307.trans (congrArg some (by kernel_rfl))
 f299:=Tryz.func308.trans (congrArg some (by kernel_rfl))
 f300:=Tryz.func310.trans (congrArg some (by kernel_rfl))
 f301:=Tryz.func311.trans (congrArg some (by kernel_rfl))
 f328:=Tryz.func343.trans (congrArg some (by kernel_rfl))
 f329:=Tryz.func344.trans (congrArg some (by kernel_rfl))
 f330:=Tryz.func345.trans (congrArg some (by kernel_rfl))
 f331:=Tryz.func346.trans (congrArg some (by kernel_rfl))
 f332:=Tryz.func347.trans (congrArg some (by kernel_rfl))
 f343:=Tryz.func367.trans (congrArg some (by kernel_rfl))
 t0:=Tryz.underlying0
 a0:=Tryz.isAgg0
 z0:=Tryz.sizeOf0
 v0:=Tryz.zeroValue0
 t3:=Tryz.underlying3
 a3:=Tryz.isAgg3
 z3:=Tryz.sizeOf3
 v3:=Tryz.zeroValue3
 t4:=Tryz.underlying4
 a4:=Tryz.isAgg4
 z4:=Tryz.sizeOf4
 v4:=Tryz.zeroValue4
 t5:=Tryz.underlying5
 a5:=Tryz.isAgg5
 z5:=Tryz.sizeOf5
 v5:=Tryz.zeroValue5
 t9:=Tryz.underlying9
 a9:=Tryz.isAgg9
 z9:=Tryz.sizeOf9
 v9:=Tryz.zeroValue9
 t28:=Tryz.underlying49
 a28:=Tryz.isAgg49
 z28:=Tryz.sizeOf49
 v28:=Tryz.zeroValue49
 t46:=Tryz.underlying318
 a46:=Tryz.isAgg318
 z46:=Tryz.sizeOf318
 v46:=Tryz.zeroValue318
 t51:=Tryz.underlying381
 a51:=Tryz.isAgg381
 z51:=Tryz.sizeOf381
 v51:=Tryz.zeroValue381
 t53:=Tryz.underlying383
 a53:=Tryz.isAgg383
 z53:=Tryz.sizeOf383
 v53:=Tryz.zeroValue383
 t131:=Tryz.underlying272
 a131:=Tryz.isAgg272
 z131:=Tryz.sizeOf272
 v131:=Tryz.zeroValue272
 t182:=Tryz.underlying373
 a182:=Tryz.isAgg373
 z182:=Tryz.sizeOf373
 v182:=Tryz.zeroValue373
 t183:=Tryz.underlying374
 a183:=Tryz.isAgg374
 z183:=Tryz.sizeOf374
 v183:=Tryz.zeroValue374
 t218:=Tryz.underlying409
 a218:=Tryz.isAgg409
 z218:=Tryz.sizeOf409
 v218:=Tryz.zeroValue409
 t222:=Tryz.underlying413
 a222:=Tryz.isAgg413
 z222:=Tryz.sizeOf413
 v222:=Tryz.zeroValue413
 t228:=Tryz.underlying428
 a228:=Tryz.isAgg428
 z228:=Tryz.sizeOf428
 v228:=Tryz.zeroValue428
 t229:=Tryz.underlying359
 a229:=Tryz.isAgg359
 z229:=Tryz.sizeOf359
 v229:=Tryz.zeroValue359 }
open Go.Sort Go.RowKit in
theorem Tryz.slices_Sort_int (bG off cap:Nat) (zs:List Int) (w:World) (hH:Holds (Value.int .i64) w bG off zs.toArray) (hblk:bG<w.heap.size) (hsz:zs.length<4611686018427387904) :
  Calls Tryz.prog 156 #[.slice (some ⟨bG,off,none⟩) zs.length cap] w fun e w'=>
   e=.returned (.tuple #[])∧∃ n os,w'=grow (putRow (Value.int .i64) (Sort.ahead w n) bG off (zs.mergeSort fun x y=>decide (x≤y)).toArray) os:=Any.slices_Sort_int Tryz.EY bG off cap zs w hH hblk hsz
end Go.Proofs
namespace Go.Proofs.A1
open Go Go.SL
theorem Np (l:List Int):∀ r∈ints l,r.length=1:=fun r hr=>by obtain ⟨x,_,rfl⟩:=Zu.1 hr;rfl
theorem kK {c:Cx} {hs hs':List a8} {w:World} {l:List Int} {E:TypeId} {v:Value} {n:Nat} (hm:Mem c hs w) (ht:Take hs (row E 1 v n (l.map (Value.int .i64))) hs') (hn:l.length=n):Rd w v 1 (ints l):=hm.n9 ht (xX l) (Np l) (by rw [cY,hn])
set_option maxHeartbeats 1000000 in
theorem EI {r:Ro} {s d t p:Value} (v:Int) (so:ByteArray) {w:World} (h:RR w r s d t p) (cI:r.ti.length≤1000) (Ra:so∈cC r) :
  bh Tryz.prog 152 [RA r s d t p,.int .i64 v,.string so] w [] (fun _:Value=>True) id (fun x=>[row 3 1 x (gy r v so r.ti.length).length ((gy r v so r.ti.length).map (Value.int .i64))]):=by
 have h1:=Rd.one h.sr
 have h2:=Rd.one h.de
 have h3:=Rd.one h.ti
 have h4:=Rd.one h.po
 have hti:=h.ti
 obtain ⟨a,cp,b,o',rfl,c7,bQ,ha,hc⟩:=hti
 have Q7:=h.sr
 obtain ⟨a2,nN,b2,o2,rfl,ku,fb,jz,j6⟩:=Q7
 rw [bY] at *
 rw [cE] at *
 unfold maxLen at bQ fb
 obtain ⟨i0,wG⟩:∃ i:Nat,bE (cC r) so=(i:Nat):=⟨(bE (cC r) so).toNat,by have:=eC Ra;omega⟩
 have Kh:i0<r.sr.length:=by
  obtain ⟨hl,_⟩:=fE (l:=cC r) (s:=so) (by omega)
  rw [wG,ZG] at hl
  unfold cC at hl;rwa [Zd] at hl
 have zQ:qL r so=(r.sr[i0]).mx:=by unfold qL;rw [wG,ZG,Zk,Zc Kh];rfl
 have hsrc:∀ w',aH [] w w'→aj Tryz.prog 180 [.agg #[.int .i64 r.lv,.int .i64 r.ma,.slice a2 r.sr.length nN,d,.slice a r.ti.length cp,p],.string so] w' (.int .i64 (i0:Nat)):=fun w' hk=>wG ▸ nS so (h.keeps hk)
 have tx:=jz (iJ Kh)
 have dZ:=(j6 i0 _ (fQ Kh)).2
 unfold Sr.cells at dZ
 have SZ:=dZ 1 _ rfl
 unfold RA
 refine aQ Tryz.func152 rfl rfl ?_
 refine Jr<|Jy rfl rfl fun _ _=>Ja rfl<|Jn<|Jq ?_
 rename_i b3 vo
 with_reducible refine cQ 9 (by kernel_rfl) ?_
 (refine an kB rfl<|an (gT .here) rfl<|an (cL .here) rfl<|an kA rfl<|aT bd rfl (fun w' aB=>(hsrc w' (Mem.keeps aB)))<|an (az (.of rfl) (.of rfl) tx (by omega) (by omega) bj) rfl<|an kB rfl<|an (ag (.of rfl) (At.base SZ rfl)) rfl<|ek (aD (.cons (.of rfl) .nil) rfl rfl rfl rfl) rfl rfl ?_)
 with_reducible refine dp rfl fun bq mN=>?_
 rw [← zQ]
 (refine Ja rfl<|Jn<|Jq<|Jr<|bP rfl rfl ae<|JL rfl (.there .here) rfl<|JI rfl<|Jv rfl<|Jn<|J0 ?_)
 refine bX (g:=bq) (E:=3) (ys:=[.int .i64 (qL r so)]) 1 1 (by exact .here) rfl rfl rfl ?_
 refine aX (ι:=Nat×Value) (fun x=>x.1≤r.ti.length) (fun x=>[(22,.int .i64 (x.1:Nat)),(21,.int .i64 (r.ti.length:Nat)),(20,.slice a r.ti.length cp),(7,x.2),(3,.pointer (some ⟨b3,0,none⟩)),(1,.int .i64 v),(2,.string so)])
  (fun x=>[row 3 1 x.2 (gy r v so x.1).length ((gy r v so x.1).map (Value.int .i64)),JP b3 r (.slice a2 r.sr.length nN) d (.slice a r.ti.length cp) p]) (fun x=>r.ti.length-x.1) ?_ ?_
 ·apply aI (0,.slice (some ⟨bq,0,none⟩) 1 1) (Zi _)
  case hs1=>exact cd
  case ht=>
   exact .cons .here (.cons .here .nil)
 rintro ⟨k,ov⟩ hk
 dsimp only at hk ⊢
 have XA:=Bj r v so k
 by_cases aK:k<r.ti.length
 ·have cB:=ha (fq aK)
  have aC:=(hc k _ (eB aK)).2
  unfold Ti.cells at aC
  have zM:=mR aK
  have xZ:gM r k=(r.ti[k]).nm:=by unfold gM;rw [zM]
  have Xy:gy r v so (k+1)=if wU r v so k&&!(gy r v so k).contains (r.ti[k]).to then gy r v so k++[(r.ti[k]).to] else gy r v so k:=by rw [gy,zM]
  generalize hL:gy r v so k=L at XA Xy ⊢
  have GJ:L.length=L.length:=rfl
  have B1:∀ w',aH [] w w'→aj Tryz.prog 121 [.agg #[.int .i64 r.lv,.int .i64 r.ma,.slice a2 r.sr.length nN,d,.slice a r.ti.length cp,p],.int .i64 v,.string (r.ti[k]).nm] w' (.bool (jq r.po v (r.ti[k]).nm)):=fun w' hk=>qx v _ (h.keeps hk)
  have AK:∀ w',aH [] w w'→aj Tryz.prog 126 [.agg #[.int .i64 r.lv,.int .i64 r.ma,.slice a2 r.sr.length nN,d,.slice a r.ti.length cp,p],.int .i64 v,.string (r.ti[k]).nm] w' (.string (jM r v (r.ti[k]).nm)):=fun w' hk=>ph v _ (h.keeps hk) (by omega)
  have Kp:∀ (w':World),Rd w' ov 1 (ints L)→aj Tryz.prog 154 [ov,.int .i64 (r.ti[k]).to] w' (.bool (L.contains (r.ti[k]).to)):=fun w' hr=>lq _ hr
  have skip:(wU r v so k&&!L.contains (r.ti[k]).to)=false→gy r v so (k+1)=L:=fun e=>by rw [Xy,e];rfl
  cases AM:jq r.po v (r.ti[k]).nm with
  | false =>
   have B2:∀ w',aH [] w w'→aj Tryz.prog 121 [.agg #[.int .i64 r.lv,.int .i64 r.ma,.slice a2 r.sr.length nN,d,.slice a r.ti.length cp,p],.int .i64 v,.string (r.ti[k]).nm] w' (.bool false):=fun w' hk=>AM ▸ B1 w' hk
   have Ul:=skip (by unfold wU;rw [xZ,AM];rfl)
   (refine Jr<|JA rfl<|Jn<|Jq<|Jd rfl fun ar=>Jk<|Jq<|J0<|Jr<|ab (fG cB ar) rfl<|ab (gS (eF.base aC rfl)) rfl<|Jz rfl rfl fun _ _=>aq (.of rfl) (.of rfl) .here rfl rfl (fo rfl rfl rfl) (bF rfl) ak<|Ji<|ab (cL bT) rfl<|Jv rfl<|bP rfl rfl ae<|JL rfl .here rfl<|ai eK rfl (fun w' aB=>(B2 w' (Mem.keeps aB)))<|Jv rfl<|aA rfl rfl inferInstance (fun hg bB=>(bS (.of rfl) bT ak (by rfl))) rfl<|gr rfl rfl rfl rfl<|aA rfl rfl inferInstance (fun hg bB=>(ao (.of rfl) ae)) rfl<|aA rfl rfl inferInstance (fun hg bB=>(ag (.bI bB rfl) (At.lit .here rfl))) rfl<|dC rfl rfl rfl rfl<|gr rfl rfl rfl rfl<|dC rfl rfl rfl rfl<|ab (cP (.of rfl) (.of rfl) (.of rfl) rfl) rfl<|Jv rfl<|gr rfl rfl rfl rfl<|aA rfl rfl inferInstance (fun hg bB=>(ao (.of rfl) ae)) rfl<|aA rfl rfl inferInstance (fun hg bB=>(ag (.bI bB rfl) (At.lit .here rfl))) rfl<|dC rfl rfl rfl rfl<|aA rfl rfl inferInstance (fun hg bB=>(dV (.bI bB rfl))) rfl<|ab (cP (.of rfl) (.of rfl) (.of rfl) rfl) rfl<|Jn<|bN (.of rfl)<|Jw<|Jj<|Jt<|Jg<|JB rfl (by omega)<|Jv rfl<|Jn ?_)
   apply aJ (k+1,ov) (show k+1≤r.ti.length by omega) (show r.ti.length-(k+1)<r.ti.length-k by omega)
   case hs1=>exact cd
   case ht=>
    rw [Ul]
    exact .cons (.there .here) (.cons (.there .here) .nil)
  | true =>
   have B2:∀ w',aH [] w w'→aj Tryz.prog 121 [.agg #[.int .i64 r.lv,.int .i64 r.ma,.slice a2 r.sr.length nN,d,.slice a r.ti.length cp,p],.int .i64 v,.string (r.ti[k]).nm] w' (.bool true):=fun w' hk=>AM ▸ B1 w' hk
   by_cases zN:jM r v (r.ti[k]).nm=so
   ·cases AJ:L.contains (r.ti[k]).to with
    | true =>
     have NN:∀ (w':World),Rd w' ov 1 (ints L)→aj Tryz.prog 154 [ov,.int .i64 (r.ti[k]).to] w' (.bool true):=fun w' hr=>AJ ▸ Kp w' hr
     have Ul:=skip (by rw [AJ,Bool.not_true,Bool.and_false])
     (refine Jr<|JA rfl<|Jn<|Jq<|Jd rfl fun ar=>Jk<|Jq<|J0<|Jr<|ab (fG cB ar) rfl<|ab (gS (eF.base aC rfl)) rfl<|Jz rfl rfl fun _ _=>aq (.of rfl) (.of rfl) .here rfl rfl (fo rfl rfl rfl) (bF rfl) ak<|Ji<|ab (cL bT) rfl<|Jv rfl<|bP rfl rfl ae<|JL rfl .here rfl<|ai eK rfl (fun w' aB=>(B2 w' (Mem.keeps aB)))<|Jv rfl<|JK rfl rfl<|ab (cL bT) rfl<|JK rfl rfl<|Jv rfl<|JK rfl rfl<|bP rfl rfl ae<|JK rfl rfl<|JL rfl .here rfl<|JK rfl rfl<|ai eK rfl (fun w' aB=>(AK w' (Mem.keeps aB)))<|JK rfl rfl<|Jv rfl<|JK rfl rfl<|ab (uK (.of rfl) (.of rfl) zN) rfl<|ab (eM (.of rfl) (.of rfl) (.of rfl) rfl) rfl<|Jv rfl<|JK rfl rfl<|Jv rfl<|JK rfl rfl<|bP rfl rfl ae<|JK rfl rfl<|JL rfl .here rfl<|JK rfl rfl<|ai bd rfl (fun w' aB=>(NN w' (kK aB (.there .here) GJ)))<|JK rfl rfl<|JH rfl<|ab (cP (.of rfl) (.of rfl) (.of rfl) rfl) rfl<|Jn<|bN (.of rfl)<|Jw<|Jj<|Jt<|Jg<|JB rfl (by omega)<|Jv rfl<|Jn ?_)
     apply aJ (k+1,ov) (show k+1≤r.ti.length by omega) (show r.ti.length-(k+1)<r.ti.length-k by omega)
     case hs1=>exact cd
     case ht=>
      rw [Ul]
      exact .cons (.there .here) (.cons (.there .here) .nil)
    | false =>
     have NN:∀ (w':World),Rd w' ov 1 (ints L)→aj Tryz.prog 154 [ov,.int .i64 (r.ti[k]).to] w' (.bool false):=fun w' hr=>AJ ▸ Kp w' hr
     have nL:gy r v so (k+1)=L++[(r.ti[k]).to]:=by rw [Xy,AJ];unfold wU;rw [xZ,AM,decide_eq_true zN];rfl
     have Rx:(L.map (Value.int .i64)).length=L.length*1:=by rw [Zd,Zar]
     (refine Jr<|JA rfl<|Jn<|Jq<|Jd rfl fun ar=>Jk<|Jq<|J0<|Jr<|ab (fG cB ar) rfl<|ab (gS (eF.base aC rfl)) rfl<|Jz rfl rfl fun _ _=>aq (.of rfl) (.of rfl) .here rfl rfl (fo rfl rfl rfl) (bF rfl) ak<|Ji<|ab (cL bT) rfl<|Jv rfl<|bP rfl rfl ae<|JL rfl .here rfl<|ai eK rfl (fun w' aB=>(B2 w' (Mem.keeps aB)))<|Jv rfl<|JK rfl rfl<|ab (cL bT) rfl<|JK rfl rfl<|Jv rfl<|JK rfl rfl<|bP rfl rfl ae<|JK rfl rfl<|JL rfl .here rfl<|JK rfl rfl<|ai eK rfl (fun w' aB=>(AK w' (Mem.keeps aB)))<|JK rfl rfl<|Jv rfl<|JK rfl rfl<|ab (uK (.of rfl) (.of rfl) zN) rfl<|ab (eM (.of rfl) (.of rfl) (.of rfl) rfl) rfl<|Jv rfl<|JK rfl rfl<|Jv rfl<|JK rfl rfl<|bP rfl rfl ae<|JK rfl rfl<|JL rfl .here rfl<|JK rfl rfl<|ai bd rfl (fun w' aB=>(NN w' (kK aB (.there .here) GJ)))<|JK rfl rfl<|JH rfl<|ab (eM (.of rfl) (.of rfl) (.of rfl) rfl) rfl<|Jn<|cF (.of rfl)<|Jg<|Jv rfl<|bP rfl rfl ae<|JL rfl .here rfl<|bo (aD (.cons (.of rfl) .nil) rfl rfl rfl rfl) rfl fun _ _=>?_)
     refine bH (.of rfl) (.of rfl) bT .here ak (by rfl) (eE rfl) (by rfl) (by rfl) (by rfl) eN (by rfl) ?_
     intro v'
     refine Ja rfl<|Jx<|Jj<|Jt<|Jg<|JB rfl (by omega)<|Jv rfl<|Jn ?_
     apply aJ (k+1,v') (show k+1≤r.ti.length by omega) (show r.ti.length-(k+1)<r.ti.length-k by omega)
     case hs1=>exact cd
     case ht=>
      rw [nL,Zg,Zr]
      exact .cons .here (.cons bT .nil)
   ·have Ul:=skip (by unfold wU;rw [xZ,AM,decide_eq_false zN];rfl)
    (refine Jr<|JA rfl<|Jn<|Jq<|Jd rfl fun ar=>Jk<|Jq<|J0<|Jr<|ab (fG cB ar) rfl<|ab (gS (eF.base aC rfl)) rfl<|Jz rfl rfl fun _ _=>aq (.of rfl) (.of rfl) .here rfl rfl (fo rfl rfl rfl) (bF rfl) ak<|Ji<|ab (cL bT) rfl<|Jv rfl<|bP rfl rfl ae<|JL rfl .here rfl<|ai eK rfl (fun w' aB=>(B2 w' (Mem.keeps aB)))<|Jv rfl<|JK rfl rfl<|ab (cL bT) rfl<|JK rfl rfl<|Jv rfl<|JK rfl rfl<|bP rfl rfl ae<|JK rfl rfl<|JL rfl .here rfl<|JK rfl rfl<|ai eK rfl (fun w' aB=>(AK w' (Mem.keeps aB)))<|JK rfl rfl<|Jv rfl<|JK rfl rfl<|ab (Bt (.of rfl) (.of rfl) zN) rfl<|ab (cP (.of rfl) (.of rfl) (.of rfl) rfl) rfl<|Jv rfl<|gr rfl rfl rfl rfl<|aA rfl rfl inferInstance (fun hg bB=>(ao (.of rfl) ae)) rfl<|aA rfl rfl inferInstance (fun hg bB=>(ag (.bI bB rfl) (At.lit .here rfl))) rfl<|dC rfl rfl rfl rfl<|aA rfl rfl inferInstance (fun hg bB=>(dV (.bI bB rfl))) rfl<|ab (cP (.of rfl) (.of rfl) (.of rfl) rfl) rfl<|Jn<|bN (.of rfl)<|Jw<|Jj<|Jt<|Jg<|JB rfl (by omega)<|Jv rfl<|Jn ?_)
    apply aJ (k+1,ov) (show k+1≤r.ti.length by omega) (show r.ti.length-(k+1)<r.ti.length-k by omega)
    case hs1=>exact cd
    case ht=>
     rw [Ul]
     exact .cons (.there .here) (.cons (.there .here) .nil)
 ·obtain rfl:k=r.ti.length:=by omega
  refine Jr<|JA rfl<|Jn<|Jq<|Jc rfl fun ar=>Jp<|Jl<|Jo<|Jt<|Jr<|Jv rfl<|Ja rfl<|Jn<|Je ?_
  first | with_reducible apply aN | with_reducible apply aO
  case he=>exact dD rfl rfl
  case hR=>
   intro w' aB
   exact aF ov trivial (by exact .cons .here .nil) aB rfl
end Go.Proofs.A1
