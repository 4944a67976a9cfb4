/- Parts of the proof: GkAppO GkRegK GkRegL GkRegR GkRegS KJ KL KM. -/
import Derived.Test.YteonnodafmegaaaGreatDoorFM07
import Derived.Test.YteonnodafmegaaaGreatDoorFM06
import Derived.Test.YteonnodafmegaaaGreatDoorFM04
import Derived.Test.YteonnodafmegaaaGreatDoorFM03
import Derived.Test.YteonnodafmegaaaGreatDoorFM02
set_option linter.unusedSectionVars false
set_option linter.unusedVariables false
set_option linter.unusedSimpArgs false
namespace Go.SL
open Go
theorem Gb {h:Nat->Option Obj} {E:TypeId} {sz:Nat} {v:Value} {n:Nat} {xs:List Value} {fp:List Nat} (hr:(lI E sz v n xs).sat h fp):fp=v.ownBlock.toList:=by
 obtain ⟨_,h1⟩:=hr;rcases h1 with ⟨rfl,rfl,_⟩ | ⟨g,off,cap,cur,rfl,rfl,_⟩
 ·simp [Value.ownBlock]
 ·simp [Value.ownBlock]
section
variable {P:Program} {c:Cx} {D:List Nat} {sl:aL} {hs hs':List bd} {d:Nat} {ty:TypeId} {pos:String} {af:Array Edge} {r:Option Nat} {ops:Array Oper} {Q:Exit->Act->World->Prop} {rest:List Oper}
theorem Ef {t e:TypeId} {agg:Bool} {size bytes:Nat} {z:Value} {x y:Operand} {v:Value} {n b o m cp:Nat} {xs news:List Value} [hu:jw P t (.slice e)] [hT:Ty P e agg size] [hZ:mL P e z] [hB:xX P e bytes]
  (hx:Is sl x v) (hy:Is sl y (.slice (some ⟨b,o,none⟩) m cp)) (ht:Take hs (lI e size v n xs) hs') (hn:eR c hs b o news) (hl:news.length=m*size) (h1:∀ u∈news,u.oneCell'=true) (hz:z.cells.size=size) (hsz:Nat.blt 0 size=true) (hb0:Nat.blt 0 bytes=true)
  (hb:(n+m)*bytes<=140737488355328) (hd:Nat.blt d c.nt=true)
  (k:∀ v',Tr c D ((d,v')::sl) (lI e size v' (n+m) (xs++news)::hs') (WL P r ops Q rest)) :
  Tr c D sl hs (WL P r ops Q (⟨some d,.call ⟨.builtin .append,#[x,y],#[t,t]⟩,ty,pos,af,none⟩::rest)):=fun a w a7=>by
 obtain ⟨de,i,nA,hi,_,hY⟩:=Ty.parts (P:=P) (t:=e) (agg:=agg) (n:=size);have hzero:i.zero=some z:=by have:=hZ.eq;rw [hi] at this;simpa using this
 have gK:i.bytes=bytes:=by have:=hB.eq;rw [hi] at this;simpa using this
 have YS:=a7.qS;have hm:=a7.mem.take (ht.append _);obtain ⟨kk,fp,jq,⟨f1,f2,rfl,Rg,h2⟩,Bn⟩:=hm;obtain ⟨hlen,hrow⟩:=id Rg;have xl:0<bytes:=by simpa using hb0
 have WH:0<size:=by simpa using hsz
 have bT:n+m<=maxLen:=by
  have:(n+m)*1<=(n+m)*bytes:=Zbg _ xl;unfold maxLen;omega
 have sS:∀ j u,news[j]? = some u->w.cell? ((⟨b,o,none⟩:Addr).add j)=some u:=fun j u hj=>by rw [eJ];exact hn.get j u hj w YS
 have YT:(xs++news).length=(n+m)*size:=by rw [Zg,hlen,hl,Nat.add_mul]
 have key:∃ v' w' mH,(Builtin.append_ #[t,t] ty #[v,.slice (some ⟨b,o,none⟩) m cp]).run P w=.ok v' w'/\aJ f1 w w'/\mH.Nodup/\(lI e size v' (n+m) (xs++news)).sat (hp w') mH/\∀ q∈mH,q∈f1\/w.heap.size<=q:=by
  rcases hrow with ⟨rfl,rfl,rfl⟩ | ⟨g,off,cap,cur,rfl,rfl,hg,hnc,hcm,hfit,htk⟩
  ·have pU:w.ownsRow 0 e size (.z) 0 xs:=⟨hlen,.inl ⟨I,I⟩⟩;obtain ⟨v',w',gW,pT,sT,_⟩:=run_append_own (P:=P) w 0 t ty e i z size bytes hu.eq hi hzero hY gK hz (by simpa using hsz) _ 0 xs pU ⟨b,o,none⟩ m cp news hl sS h1 bT hb (Zi _);have tX:=oJ (P:=P) (t:=t) (ty:=ty) hu.eq hi hzero (by rw [hY];exact pU) (a:=⟨b,o,none⟩) (m:=m) (cp:=cp) (by rw [hY];exact hl) sS h1 bT (by rw [gK];exact hb) gW;refine ⟨v',w',v'.ownBlock.toList,gW,⟨sT.os,sT.tape,sT.output,tX.2,sT.size,fun q hq _=>sT.block q hq (by simp [Value.ownBlock])⟩,by cases v'.ownBlock <;> simp,pA (kX pT),fun q hq=>?_⟩
   have uQ:v'.ownBlock=some q:=by simpa [Option.mem_toList] using hq
   rcases tX.1 with h | h
   ·rw [uQ] at h;simp [Value.ownBlock] at h
   ·rw [h] at uQ;cases uQ;exact .inr (Zz _)
  ·have Xi:w.heap[g]? = some (.cells cur e (0,0)):=hg;have hgs:g<w.heap.size:=(Z1.1 Xi).1;have TO:cur.toList=cur.toList.take off++(xs++cur.toList.drop (off+n*size)):=by
    rw [<- htk]
    conv=>lhs;rw [<- Z5 off cur.toList]
    congr 1
    conv=>lhs;rw [<- Z5 (n*size) (cur.toList.drop off)]
    rw [Zbl]
   have Ru:cur.size=cur.toList.length:=by simp
   have hns:n*size<=cap*size:=Zaa _ hnc;have xg:(cur.toList.take off).length=off:=by rw [Zq];omega
   by_cases zM:n+m<=cap
   ·have hms:(n+m)*size<=cap*size:=Zaa _ zM;rw [Nat.add_mul] at hms;have NJ:w.heap[g]? = some (.cells cur.toList.toArray e (0,0)):=by rw [Zbb];exact Xi
    obtain ⟨w',h3,h4,h5⟩:=jS (P:=P) (o:=off+n*size) news 0 cur.toList w NJ h1 (by omega);have hfc:=run_firstCells_some (P:=P) w i.size m ⟨b,o,none⟩ m cp news (by rw [hY];exact hl) sS;refine ⟨.slice (some ⟨g,off,none⟩) (n+m) cap,w',[g],?_,h4,by simp,⟨YT,.inr ⟨g,off,cap,_,I,I,h5,zM,hcm,?_,?_⟩⟩,fun q hq=>.inl hq⟩
    ·subst hY;have Mt:(⟨g,off,none⟩:Addr).add (n*i.size)=⟨g,off+n*i.size,none⟩:=eJ _ _ _;simp [Builtin.append_,aX hu.eq,sizeOf,typeInfo,hi,Builtin.lenOf,zM,hfc,Mt,h3]
    ·rw [Zbr,lq,<- Ru];exact hfit
    ·show ((setCells cur.toList (off+n*size+0) news).drop off).take ((n+m)*size)=xs++news;have e1:setCells cur.toList (off+n*size+0) news=cur.toList.take off++xs++(news++(cur.toList.drop (off+n*size)).drop news.length):=by
      have Uh:cur.toList.drop (off+n*size)=(cur.toList.drop (off+n*size)).take news.length++(cur.toList.drop (off+n*size)).drop news.length:=(Z5 _ _).symm;have hle:((cur.toList.drop (off+n*size)).take news.length).length=news.length:=by rw [Zq,Zbj];omega
      have e2:cur.toList=(cur.toList.take off++xs)++((cur.toList.drop (off+n*size)).take news.length++(cur.toList.drop (off+n*size)).drop news.length):=by rw [<- Uh,Zh];exact TO
      have Up:(cur.toList.take off++xs).length=off+n*size+0:=by rw [Zg,xg,hlen,Zaz]
      conv=>lhs;rw [e2]
      rw [<- Up];exact AJ _ _ _ _ hle.symm
     rw [e1,Zh,<- xg]
     conv=>lhs;rw [xg]
     rw [List.drop_left' xg,<- YT,<- Zh,List.take_left]
   ·have holds:∀ j u,xs[j]? = some u->w.cell? ((⟨g,off,none⟩:Addr).add j)=some u:=fun j u hj=>by
     rw [eJ];simp only [World.cell?,Xi];rw [<- htk] at hj;have aM:j<n*size:=by
      have:=(Zl.1 hj).1;rw [Zq] at this;omega
     rw [List.getElem?_take_of_lt aM,Zbm] at hj;simpa using hj
    obtain ⟨v',w',gW,pT,sT⟩:=run_append_arg_grows (P:=P) (w:=w) t ty e i z size bytes hu.eq hi hzero hY gK hz WH ⟨g,off,none⟩ n cap xs hlen holds ⟨b,o,none⟩ m cp news hl sS (by omega) bT hb;have hr:=run_append_grow (P:=P) w t ty e i z hu.eq hi hzero ⟨g,off,none⟩ n cap xs (by rw [hY];exact hlen) holds ⟨b,o,none⟩ m cp news (by rw [hY];exact hl) sS (by omega) (by unfold maxLen at bT;omega) (growslice_fits (by omega) (by rw [gK];exact hb));have yF:w.drawn<=w'.drawn/\v'.ownBlock=some w.heap.size:=by
     rw [gW] at hr;cases hr;exact ⟨Nat.le_succ _,I⟩
    have WU:w'.ownsRow 0 e size v' (n+m) (xs++news):=⟨pT.1,pT.2.imp id fun ⟨g',iz,acN,e1,_,r⟩=>⟨g',iz,acN,e1,Zi _,r⟩⟩
    refine ⟨v',w',v'.ownBlock.toList,gW,⟨sT.os,sT.tape,sT.output,yF.1,sT.size,fun q hq _=>sT.block q hq (by simp)⟩,by cases v'.ownBlock <;> simp,pA (kX WU),fun q hq=>?_⟩
    rw [yF.2] at hq;simp at hq;exact .inr (by omega)
 obtain ⟨v',w',mH,gW,hk,hnf,iv,tX⟩:=key;refine nH I ⟨dT _ _ _ _ _,?_⟩;rw [Oper.semAt_eq _ _ _ (by simp)];have:(execOp a.eval ⟨some d,.call ⟨.builtin .append,#[x,y],#[t,t]⟩,ty,pos,af,none⟩).run P w=.ok (.value v') w':=by
  simp [execOp,resolve,invoke,builtin,hx a a7.dj,hy a a7.dj,gW]
 rw [this];refine k v' _ _ ((a7.put (by simpa [Z4] using hd) v').heap ?_);have l5:Mem c ([lI e size v n xs]++(hs'++nE D)) w:=a7.mem.take (ht.append _);have:=Mem.change (Bs:=[lI e size v' (n+m) (xs++news)]) (w':=w') l5 fun fp uR hf=>by
  obtain ⟨g1,g2,e1,hr,e2⟩:=hf;obtain rfl:g2=[]:=e2;have h3:=Gb hr;have h4:=Gb Rg;rw [ZN] at e1;subst e1;rw [h3,<- h4];exact ⟨hk,mH,hnf,⟨mH,[],by simp,iv,I⟩,tX⟩
 exact this
end
end Go.SL
namespace Go.SL
open Go
theorem Mem.zi {c:Cx} {As hs':List bd} {w:World} (hm:Mem c (As++hs') w):∃ fp:List Nat,fp.Nodup/\cr (hp w) As fp /\
  ∀ (Bs:List bd) (w':World),aJ fp w w'->(∃ mH:List Nat,mH.Nodup/\cr (hp w') Bs mH/\∀ b∈mH,b∈fp\/w.heap.size<=b)->Mem c (Bs++hs') w':=by
 obtain ⟨kk,fp,hn,iv,hb⟩:=hm;obtain ⟨f1,f2,rfl,h1,h2⟩:=cr.append_iff.1 iv;obtain ⟨n1,n2,n12⟩:=ZK.1 hn;refine ⟨f1,n1,h1,fun Bs w' hk ⟨mH,uR,hs',zQ⟩=>?_⟩;have aM:∀ b∈f2,b<w.heap.size:=fun b dM=>let ⟨o,ho⟩:=h2.own b dM;lg ho
 refine ⟨?_,mH++f2,?_,cr.append_iff.2 ⟨mH,f2,I,hs',h2.loc fun b dM=>?_⟩,?_⟩
 ·refine ⟨hk.os.trans kk.os,hk.tape.trans kk.tape,hk.output.trans kk.output,ZS kk.dr hk.dr,ZS kk.size hk.size,fun b dM hm=>?_⟩;rw [<- kk.block b dM hm];refine hk.block b (ZaO dM kk.size) (fun hf=>?_);rcases hb b (ZJ _ hf) with h | h
  ·omega
  ·exact hm h
 ·refine ZK.2 ⟨uR,n2,fun x hx y hy e=>?_⟩;subst e;rcases zQ x hx with h | h
  ·exact n12 x h x hy I
  ·have:=aM x hy;omega
 ·exact hk.block b (aM b dM) (fun hf=>n12 b hf b dM I)
 ·intro b dM;rcases ZB.1 dM with h | h
  ·rcases zQ b h with h | h
   ·exact hb b (ZJ _ h)
   ·exact .inl (ZS kk.size h)
  ·exact hb b (ZW _ h)
theorem rB {β:Nat->Value} (p q:Nat->Bool):∀ (S:List cQ) (i:Nat),(dF β p S i).Perm (dF β (fun j=>p j&&q j) S i++dF β (fun j=>p j&&!q j) S i)
 | [],_=>.nil
 | s :: S, i => by
  have ih:=rB (β:=β) p q S (i+1);unfold dF;cases hp:p i <;> cases hq:q i <;> simp only [Bool.and_true,Zbw,Bool.not_true,Bool.not_false,Bool.false_and,Zau,if_true,if_false,Za,reduceIte]
  ·simpa using ih
  ·simpa using ih
  ·simp only [ZaX,if_false,Za];refine (ih.append_left _).trans ?_;rw [<- Zh,<- Zh];exact List.perm_append_comm.append_right _
  ·simp only [ZaX,if_false,Za];rw [Zh];exact ih.append_left _
theorem pD {β:Nat->Value} {q:Nat->Bool}:∀ {S:List cQ} {n i:Nat},(∀ j,i+n<=j->q j=false)->dF β q S i=dF β q (S.take n) i
 | [],n,i,_=>by rw [List.take_nil]
 | s :: S, 0, i, h => by
  rw [Ze];unfold dF;rw [h i (by omega),pD (n:=0) fun j hj=>h j (by omega),Ze];rfl
 | s :: S, n + 1, i, h => by
  rw [List.take_succ_cons];unfold dF;rw [pD (n:=n) (i:=i+1) fun j hj=>h j (by omega)]
def pk (tk:Nat->Nat) (lst:Nat->Bool) (j:Nat):Bool:=lst j&&!(Nat.blt 0 (tk j)&&lst (tk j))
def ek (tk:Nat->Nat) (i j:Nat):Bool:=Nat.blt 0 i&&Nat.beq (tk j) i
section
variable {P:Program} {c:Cx} {D:List Nat} {sl:aL} {hs:List bd} {Q:Exit->Act->World->Prop} {l:List Oper} {m:Nat} {tk:Nat->Nat}
def G8 (i:Nat) (s:cQ) (β:Nat->Value) (w:World) (oY:List Nat) (v:Value) (w':World):Prop:=∃ x,v=s.F (tA β i x)/\aJ oY w w'/\∃ fp:List Nat,fp.Nodup/\cr (hp w') (s.A (tA β i x)) fp/\∀ b∈fp,b∈oY\/w.heap.size<=b
structure G7 (P:Program) (c:Cx) (hs:List bd) (l:List Oper) (tk:Nat->Nat) (i:Nat) (o:Oper) (SL:(Nat->Value)->aL) (S:List cQ) (s:cQ):Prop where
 wZ:ni l i s.F
 w7:ni l i s.A
 run:∃ B:List Nat,(∀ j∈B,jE l o j=true/\tk j=0)/\∀ β a w oY,bU (SL β) a->jO c hs S B β w->cr (hp w) (dF β (ek tk i) S 0) oY->if Region.wanted o (yielded l.toArray a.tmps)=true then mz P o a w (G8 i s β w oY) else G8 i s β w oY undef w
 waits:∀ j,tk j=i->0<i->eO o j=true
inductive tt (P:Program) (c:Cx) (hs:List bd) (l:List Oper) (tk:Nat->Nat):Nat->List Oper->((Nat->Value)->aL)->List cQ->List cQ->((Nat->Value)->aL)->Prop
 | nil {i:Nat} {SL:(Nat->Value)->aL} {S:List cQ}:tt P c hs l tk i [] SL S S SL
 | step {i d:Nat} {o:Oper} {rest:List Oper} {SL l7:(Nat->Value)->aL} {S S':List cQ} {s:cQ} (hd:o.dst=some d) (fO:d<c.nt) (h:G7 P c hs l tk i o SL S s)
   (t:tt P c hs l tk (i+1) rest (fun β=>(d,s.F β)::SL β) (S++[s]) S' l7):tt P c hs l tk i (o::rest) SL S S' l7
theorem tt.spec {i:Nat} {rest:List Oper} {SL l7:(Nat->Value)->aL} {S S':List cQ} (h:tt P c hs l tk i rest SL S S' l7):∀ pre:List Oper,pre.length=i->S.length=i->nZ sl pre SL S ->
  S'.length=i+rest.length/\S <+: S'/\nZ sl (pre++rest) l7 S'/\∀ k o,i<=k->(pre++rest)[k]? = some o->∃ d DQ s,o.dst=some d/\d<c.nt/\S'[k]? = some s/\nZ sl ((pre++rest).take k) DQ (S'.take k)/\G7 P c hs l tk k o DQ (S'.take k) s:=by
 induction h with
 | @nil i SL S =>
  intro pre hp hS kL;refine ⟨by simpa using hS,List.prefix_rfl,by simpa using kL,fun k o hk ho=>?_⟩;have:=(Zl.1 ho).1;simp at this;omega
 | @step i d o rest SL l7 S S' s hd fO a7 t ih =>
  intro pre hp hS kL;obtain ⟨h1,h2,h3,h4⟩:=ih (pre++[o]) (by simp [hp]) (by simp [hS]) (kL.step (by omega) hd);rw [Zh,List.singleton_append] at h3 h4;have EY:S <+: S':=(ZaY S [s]).trans h2;have rh:S'[i]? = some s:=by
   obtain ⟨r,rfl⟩:=h2;rw [Zh,ZH (by omega),hS];simp
  have hSt:S'.take i=S:=by
   obtain ⟨r,rfl⟩:=EY;rw [<- hS];simp
  refine ⟨by rw [h1];simp;omega,EY,h3,fun k ok hk ho=>?_⟩;by_cases e:k=i
  ·subst e;have GA:ok=o:=by
    rw [ZH (by omega),hp] at ho;simpa using ho.symm
   subst GA;have htk:(pre++ok::rest).take k=pre:=by rw [<- hp];simp
   rw [htk,hSt];exact ⟨d,SL,s,hd,fO,rh,kL,a7⟩
  ·exact h4 k ok (by omega) ho
structure QG (c:Cx) (D:List Nat) (hs:List bd) (l:List Oper) (tk:Nat->Nat) (m:Nat) (S:List cQ) (a0:Act) (fuel:Nat) (listed:Array Bool) (a:Act) (w:World):Prop where
 sz:listed.size=l.length
 dc:DC l (Ls listed)
 hi:∀ k,m<=k->¬ Ls listed k
 defers:a.defers=D.map mark
 size:a.tmps.size=c.nt
 zD:∀ t,(∀ (j:Nat) (o:Oper),l[j]? = some o->Ls listed j->o.dst≠some t)->a.tmps[t]? = a0.tmps[t]?
 left:∃ U:List Nat,U.Nodup/\(∀ i,i∈U↔i<l.length/\¬ Ls listed i)/\U.length=fuel
 own:∃ β:Nat->Value,Mem c (dF β (pk tk (fun i=>listed.getD i false)) S 0++(hs++nE D)) w/\∀ (j:Nat) (o:Oper) (d:Nat) (s:cQ),l[j]? = some o->o.dst=some d->S[j]? = some s->Ls listed j->a.tmps[d]? = some (s.F β)
theorem EG {p:Nat} (hc:IB l m p) (EY:p<m->xR l p) (Vu:∀ c a w,¬ Q (.panic c) a w) {S:List cQ} {l7:(Nat->Value)->aL} (T0:tt P c hs l tk 0 (l.take m) (fun _=>sl) [] S l7) {a0:Act} (h0:bU sl a0) (HZ:a0.tmps.size=c.nt)
  (tail:∀ β a w,St c D (l7 β) (dF β (pk tk (fun i=>Nat.blt i m)) S 0++hs) a w->wpAnyIn (FR none) 0 P .any l.toArray Q (l.length-m) (kg l.length m) a w) :
  ∀ (fuel:Nat) (listed:Array Bool) (a:Act) (w:World),QG c D hs l tk m S a0 fuel listed a w->wpAnyIn (FR none) 0 P .any l.toArray Q fuel listed a w:=by
 have hle:=hc.le;have HX:nZ sl [] (fun _=>sl) []:=fun β t v hv=>.inr ⟨fun oj h=>(Zp h).elim,hv⟩
 obtain ⟨xu,_,kL,fg⟩:=T0.spec (sl:=sl) [] rfl rfl HX;rw [Za] at kL fg;rw [Zx,Zq,Zbf hle] at xu;have dP:∀ (j:Nat) (o:Oper),j<m->l[j]? = some o->(l.take m)[j]? = some o:=fun j o hj ho=>by rw [ZC,if_pos hj];exact ho
 have fD:∀ (j:Nat) (o:Oper),(l.take m)[j]? = some o->j<m/\l[j]? = some o:=fun j o ho=>by
  rw [ZC] at ho;split at ho
  ·exact ⟨by assumption,ho⟩
  ·cases ho
 have Mu:∀ j,j<m->∃ s,S[j]? = some s:=fun j hj=>⟨S[j]'(by omega),Zc (by omega)⟩
 have mf:∀ fuel listed a w,QG c D hs l tk m S a0 fuel listed a w->(∀ i,i<m->Ls listed i)->wpAnyIn (FR none) 0 P .any l.toArray Q fuel listed a w:=by
  intro fuel listed a w hI dK;have hL:∀ i,i<l.length->(Ls listed i↔i<m):=fun i _=>⟨fun h=>ZM fun hm=>hI.hi i hm h,dK i⟩
  obtain ⟨U,uU,oR,qV⟩:=hI.left;have iH:U.Perm (List.range' m (l.length-m)):=by
   rw [Zaw uU (Zbt)];intro i;rw [oR i,ZaL];constructor
   ·rintro ⟨h1,h2⟩;exact ⟨ZaS fun h=>h2 (dK i h),by omega⟩
   ·rintro ⟨h1,h2⟩;exact ⟨by omega,hI.hi i h1⟩
  have hlen:fuel=l.length-m:=by rw [<- qV,iH.length_eq,Zbn]
  have E3:listed=kg l.length m:=by
   have tV:(kg l.length m).size=l.length:=by simp [kg];omega
   apply Array.ext
   ·rw [hI.sz,tV]
   ·intro i h1 h2;rw [hI.sz] at h1;have h3:=hL i h1;unfold Ls at h3;rw [Zv,Zao (by rw [hI.sz];exact h1),Zam] at h3;have h4:(kg l.length m)[i]=decide (i<m):=by
     simp only [kg,List.getElem_toArray];by_cases hi:i<m
     ·rw [Zat (by simpa using hi)];simp [hi]
     ·rw [Zap (by simpa using hi)];simp [hi]
    rw [h4];by_cases hi:i<m
    ·rw [h3.2 hi];simp [hi]
    ·have:¬ listed[i]=true:=fun h=>hi (h3.1 h)
     simp [hi,this]
  subst hlen;rw [E3];obtain ⟨β,hm,jo⟩:=hI.own;have PH:∀ i,listed.getD i false=Nat.blt i m:=fun i=>by
   by_cases hi:i<m
   ·rw [show Nat.blt i m=true from by simpa [Z4] using hi];exact dK i hi
   ·have h1:¬ listed.getD i false=true:=hI.hi i (by omega);have h2:¬ Nat.blt i m=true:=by simpa [Z4] using hi
    rw [Zar] at h1 h2;rw [h1,h2]
  have e:dF β (pk tk (fun i=>listed.getD i false)) S 0=dF β (pk tk (fun i=>Nat.blt i m)) S 0:=gm fun j s hj=>⟨by unfold pk;simp only [PH],fun _=>rfl⟩
  rw [e] at hm;refine tail β a w ⟨by rw [Zh];exact hm,fun t v hv=>?_,hI.size,hI.defers⟩;rcases kL β t v hv with ⟨j,oj,s,h1,h2,h3,h4⟩ | ⟨h1,h2⟩
  ·obtain ⟨gR,ly⟩:=fD j oj h1;rw [h4];exact jo j oj t s ly h2 h3 (dK j gR)
  ·rw [hI.zD t fun j oj hj ji=>h1 oj (ZV (dP j oj (ZM fun hm=>hI.hi j hm ji) hj))]
   exact h0 t v h2
 intro fuel
 induction fuel with
 | zero =>
  intro listed a w hI;obtain ⟨U,_,oR,qV⟩:=hI.left;have hU:U=[]:=Zak.1 qV;refine mf 0 listed a w hI fun i hi=>Classical.byContradiction fun hn=>?_;have:=(oR i).2 ⟨by omega,hn⟩;rw [hU] at this;cases this
 | succ fuel ih =>
  intro listed a w hI;by_cases dK:∀ i,i<m->Ls listed i
  ·exact mf _ listed a w hI dK
  ·have hex:∃ i,i<m/\¬ Ls listed i:=Classical.byContradiction fun hh=>dK fun i hi=>Classical.byContradiction fun hn=>hh ⟨i,hi,hn⟩
   obtain ⟨i0,r7,nO⟩:=hex;have main:∀ i,i∈Region.ready .any l.toArray listed->i<m->wpOpIn (FR none) 0 P l.toArray Q i (wpAnyIn (FR none) 0 P .any l.toArray Q fuel (listed.setIfInBounds i true)) a w/\(i=p->wpAnyIn (FR none) 0 P .any l.toArray Q (fuel+1) listed a w):=by
    intro i hi nP;obtain ⟨o,ho,hn,lh⟩:=(dD hI.sz).1 hi;obtain ⟨d,DQ,s,hd,fO,rh,pS,dU⟩:=fg i o (Zi _) (dP i o nP ho);obtain ⟨wZ,w7,⟨B,hB,gW⟩,EW⟩:=dU;obtain ⟨β,hm,jo⟩:=hI.own;have jU:∀ (j:Nat),eO o j=true->Ls listed j:=fun j hw=>by
     obtain ⟨e,he,hb,mG⟩:=cz hw;rw [<- mG];exact lh e he hb
    have rL:∀ (j:Nat),jE l o j=true->Ls listed j:=fun j hw=>by
     unfold jE at hw;rw [ZR] at hw;rcases hw with hw | hw
     ·exact jU j hw
     ·obtain ⟨k,_,hk⟩:=ZQ.1 hw;rw [Zn] at hk;have DZ:=jU k hk.1;cases hq:l[k]? with
      | none=>rw [hq] at hk;cases hk.2
      | some q =>
       rw [hq] at hk;obtain ⟨e,he,hb,mG⟩:=cz hk.2;rw [<- mG];exact hI.dc k q hq DZ e he hb
    have oO:∀ (j:Nat) (oj:Oper) (e:Nat),l[j]? = some oj->j<m->j≠i->oj.dst=some e->d≠e:=by
     intro j oj e hj gR hne he;rcases Zbi j i with h | h
     ·exact fun e'=>(dh (iF hc h nP hj ho) he hd).1 e'.symm
     ·exact (dh (iF hc (show i<j by omega) gR ho hj) hd he).1
    have iw:i<listed.size:=by rw [hI.sz];omega
    have Bl:nw o=true:=hc.op o (ZV ho)
    -- ze dj Oh ze operation looks at
    have hT:∀ t∈o.looksAt l.toArray,∀ v,c5 (DQ β) t=some v->a.tmps[t]? = some v:=by
     intro t ht v hv;rcases pS β t v hv with ⟨j,oj,sj,h1,h2,h3,h4⟩ | ⟨h1,h2⟩
     ·have lE:j<i:=by have:=(Zl.1 h1).1;rw [Zq] at this;omega
      rw [ZC,if_pos lE] at h1 h3;obtain ⟨gR,ly⟩:=fD j oj h1;have ji:=jU j ((dh (iF hc lE nP ly ho) h2 hd).2 (.inl ht));rw [h4];exact jo j oj t sj ly h2 h3 ji
     ·rw [hI.zD t fun j oj hj ji jh=>?_]
      ·exact h0 t v h2
      ·have gR:j<m:=ZM fun hm=>hI.hi j hm ji
       rcases Zal j i with h | h | h
       ·exact h1 oj (ZV (by rw [ZC,if_pos h];exact dP j oj gR hj)) jh
       ·subst h;exact hn ji
       ·have hw:=(dh (iF hc h gR ho hj) hd jh).2 (.inr ht);obtain ⟨e,he,hb,mG⟩:=cz hw;have:=hI.dc j oj hj ji e he hb;rw [mG] at this;exact hn this
    have tY:∀ t v,c5 (DQ β) t=some v->t<c.nt:=by
     intro t v hv;rcases pS β t v hv with ⟨j,oj,sj,h1,h2,_,_⟩ | ⟨_,h2⟩
     ·have lE:j<i:=by have:=(Zl.1 h1).1;rw [Zq] at this;omega
      rw [ZC,if_pos lE] at h1;obtain ⟨d',_,_,u9,ub,_⟩:=fg j oj (Zi _) h1;rw [h2] at u9;cases u9;exact ub
     ·have:=h0 t v h2;rw [<- HZ];exact (Z1.1 this).1
    obtain ⟨a',lF,jB,_⟩:=nQ hI.size tY hT;have ue:jO c hs (S.take i) B β w:=by
     rintro A (rfl | ⟨j,hj,sj,h1,rfl⟩)
     ·exact hm.sublist ((ZaC _ _).trans (ZaJ _ _))
     ·have lE:j<i:=by have:=(Zl.1 h1).1;rw [Zq] at this;omega
      rw [ZC,if_pos lE] at h1;have ji:=rL j (hB j hj).1;exact hm.sublist ((pC (lst:=pk tk (fun i=>listed.getD i false)) (i:=0) h1 (by rw [Nat.zero_add];unfold pk;dsimp only;rw [(hB j hj).2,show listed.getD j false=true from ji];rfl)).append (List.sublist_append_left _ _))
    have PI:listed.getD i false=false:=by have h:¬ listed.getD i false=true:=hn;simpa using h
    have Wz:∀ j,ek tk i j=true->eO o j=true:=fun j h=>by
     unfold ek at h;rw [Zn] at h;exact EW j (by simpa using h.2) (by simpa [Z4] using h.1)
    have WC:∀ j,ek tk i j=true->j<i:=fun j h=>by
     obtain ⟨e,he,hb,mG⟩:=cz (Wz j h);have:=jv hc.ac ho e he hb;omega
    have hpk:∀ j,ek tk i j=true->pk tk (fun i=>listed.getD i false) j=true:=fun j h=>by
     have h1:listed.getD j false=true:=jU j (Wz j h);have h2:tk j=i:=by unfold ek at h;rw [Zn] at h;simpa using h.2
     unfold pk;dsimp only;rw [h1,h2,PI];simp
    have etk:dF β (fun j=>pk tk (fun i=>listed.getD i false) j&&ek tk i j) S 0=dF β (ek tk i) (S.take i) 0:=by
     rw [pD (n:=i) fun j hj=>by
      rw [Zx] at hj;cases ht:ek tk i j with
      | false=>rw [Zbw]
      | true=>have:=WC j ht;omega]
     refine gm fun j sj _=>⟨?_,fun _=>rfl⟩;rw [Zx];cases ht:ek tk i j with
     | false=>rw [Zbw]
     | true=>rw [hpk j ht];rfl
    have W4:=hm.perm ((rB (β:=β) (pk tk (fun i=>listed.getD i false)) (ek tk i) S 0).append_right _)
    rw [Zh,etk] at W4;obtain ⟨oY,_,LW,Md⟩:=Mem.zi W4;have hq:=gW β a' w oY lF ue LW;have hex:=ix (o:=o) (ops:=l.toArray) Bl jB
    -- N0 a done operation SN UF not Uo on this one
    have mZ:∀ j,Ls listed j->∀ x k,tl l j k=true->β k=tA β i x k:=by
     intro j ji x k hk;refine (rr fun e=>?_).symm;subst e;unfold tl at hk;rw [ZR] at hk;rcases hk with hk | hk
     ·have:j=k:=by simpa using hk
      subst this;exact hn ji
     ·have DX:j<l.length:=by
       have gR:j<m:=ZM fun hm=>hI.hi j hm ji
       omega
      exact hn (hG hI.dc hc.ac j DX ji k hk)
    have gB:∀ v w',G8 i s β w oY v w'->wpAnyIn (FR none) 0 P .any l.toArray Q fuel (listed.setIfInBounds i true) (a.put o.dst v) w':=by
     rintro v w' ⟨x,rfl,hk,fp,jq,iv,tZ⟩;refine ih _ _ _ ⟨by simpa using hI.sz,?_,?_,by rw [hd];exact hI.defers,by simpa [Act.put,hd] using hI.size,?_,?_,tA β i x,?_,?_⟩
     ·intro k ok qH hL e he hb;rw [bX iw] at hL ⊢;rcases hL with e' | hL
      ·subst e';rw [ho] at qH;cases qH;exact .inr (lh e he hb)
      ·exact .inr (hI.dc k ok qH hL e he hb)
     ·intro k qH hL;rw [bX iw] at hL;rcases hL with e | hL
      ·omega
      ·exact hI.hi k qH hL
     ·intro t ht;have h1:d≠t:=fun e=>by subst e;exact ht i o ho ((bX iw).2 (.inl rfl)) hd
      rw [hd];simp only [Act.put,ZF h1];exact hI.zD t fun j oj hj hL=>ht j oj hj ((bX iw).2 (.inr hL))
     ·obtain ⟨U,uU,oR,qV⟩:=hI.left;refine ⟨U.erase i,uU.erase i,fun k=>?_,?_⟩
      ·rw [uU.mem_erase_iff,oR k,bX iw];constructor
       ·rintro ⟨h1,h2,h3⟩;exact ⟨h2,fun h=>h.elim h1 h3⟩
       ·rintro ⟨h1,h2⟩;exact ⟨fun e=>h2 (.inl e),h1,fun h=>h2 (.inr h)⟩
      ·have PN:i∈U:=(oR i).2 ⟨by omega,hn⟩;rw [ZaB PN,qV];rfl
     ·have l5:=Md _ w' hk ⟨fp,jq,iv,tZ⟩;have e1:dF β (fun j=>pk tk (fun i=>listed.getD i false) j&&!ek tk i j) S 0=dF (tA β i x) (fun j=>pk tk (fun i=>listed.getD i false) j&&!ek tk i j) S 0:=gm fun j sj hj=>by
       refine ⟨I,fun hl=>?_⟩;rw [Zx] at hl;have hl:listed.getD j false=true:=by
        unfold pk at hl;simp only [Zn] at hl;exact hl.1.1
       have gR:j<m:=by have:=(Zl.1 hj).1;omega
       obtain ⟨oj,HY⟩:∃ oj,l[j]? = some oj:=⟨l[j]'(by omega),Zc (by omega)⟩;obtain ⟨_,_,s2,_,_,hs2,_,pV⟩:=fg j oj (Zi _) (dP j oj gR HY);rw [hj] at hs2;cases hs2;exact pV.w7 _ _ (mZ j hl x)
      rw [e1,<- Zh] at l5;have ny:∀ k,(listed.setIfInBounds i true).getD k false=(listed.getD k false||Nat.beq k i):=fun k=>by
       by_cases Mb:k=i
       ·subst Mb;rw [show Nat.beq k k=true by simp,Bool.or_true];exact (bX iw).2 (.inl I)
       ·rw [show Nat.beq k i=false from Zay.2 fun h=>Mb (Z7 h),Bool.or_false]
        simp [Zv,ZF (Ne.symm Mb)]
      refine l5.perm ((pE (k:=i) rh ?_ ?_ ?_).append_right _)
      ·rw [Zx];unfold pk;dsimp only;rw [PI];rfl
      ·rw [Zx];unfold pk;dsimp only;rw [ny,show Nat.beq i i=true by simp,Bool.or_true,Zau];by_cases NA:tk i=0
       ·rw [NA];rfl
       ·have TM:0<tk i:=Nat.pos_of_ne_zero NA;have qT:listed.getD (tk i) false=false:=by
         cases hh:listed.getD (tk i) false with
         | false=>rfl
         | true =>
          exfalso;have XE:Ls listed (tk i):=hh;have Vg:tk i<m:=ZM fun hm=>hI.hi _ hm XE
          obtain ⟨ot,WV⟩:∃ ot,l[tk i]? = some ot:=⟨l[tk i]'(by omega),Zc (by omega)⟩;obtain ⟨_,_,_,_,_,_,_,T2⟩:=fg (tk i) ot (Zi _) (dP _ ot Vg WV);obtain ⟨e,he,hb,mG⟩:=cz (T2.waits i rfl TM);have:=hI.dc (tk i) ot WV XE e he hb;rw [mG] at this;exact hn this
        have hne:Nat.beq (tk i) i=false:=by
         cases hh:Nat.beq (tk i) i with
         | false=>rfl
         | true =>
          exfalso;have e:tk i=i:=by simpa using hh
          have:=WC i (by unfold ek;rw [hh,Bool.and_true];rw [e] at TM;simpa [Z4] using TM);omega
        rw [ny,qT,hne];simp
      ·intro j hj;rw [Zx] at hj;unfold pk;dsimp only;rw [ny,ny,show Nat.beq j i=false from Zay.2 fun h=>hj (Z7 h),Bool.or_false]
       unfold ek;cases h1:Nat.beq (tk j) i with
       | false=>simp
       | true =>
        have e:tk j=i:=by simpa using h1
        rw [e,PI];cases Nat.blt 0 i <;> simp
     ·intro j oj e sj hj he ke hL;rw [bX iw] at hL;by_cases lE:j=i
      ·subst lE;rw [ho] at hj;cases hj;rw [hd] at he;cases he;rw [rh] at ke;cases ke;rw [hd];simp [Act.put,hI.size,fO]
      ·have yh:=hL.resolve_left lE;have gR:j<m:=ZM fun hm=>hI.hi j hm yh
       obtain ⟨_,_,s2,_,_,hs2,_,pV⟩:=fg j oj (Zi _) (dP j oj gR hj);rw [ke] at hs2;cases hs2;rw [hd];simp only [Act.put,ZF (oO j oj e hj gR lE he)];rw [<- pV.wZ _ _ (mZ j yh x)];exact jo j oj e sj hj he ke yh
    have IN:=hq;refine ⟨?_,fun NI=>?_⟩
    rotate_left
    ·subst NI;obtain ⟨d',x',k',VN,pos',Yi,yA,LU,eK⟩:=EY nP;rw [ho] at yA;cases yA;rw [if_pos (by simp [Region.wanted])] at IN;unfold mz at IN;obtain ⟨v,hv,xq⟩:=xz IN;have tZ:Region.free .any l.toArray listed i=true:=ug eK fun j hj hne hb=>by
      have ly:j<l.length:=by simpa using hj
      have dM:((jb l []).getD i 0).testBit j=true:=by
       rw [Zv] at hb;simpa [ly] using hb
      have Xb:j<listed.size:=by rw [hI.sz];exact ly
      rcases tM hc.ac hI.sz hI.dc hi dM with e | hL
      ·exact absurd e hne
      ·unfold Ls at hL;rw [Zv,Zao Xb] at hL ⊢;exact hL
     refine wpAnyIn_take (oi:=⟨some d',.extract x' k',VN,pos',Yi,none⟩) (v:=v) I (by simpa using ho) LU tZ (by simpa using hi) (fun c a w h=>(Vu c _ w h).elim) ⟨.inl ⟨by simp [Region.wanted],fun w2=>by rw [<- hex];exact xq w2⟩,fun w2=>rfl⟩ (gB v w hv)
    unfold wpOpIn;rw [show l.toArray[i]? = some o from by simpa using ho];simp only [];rw [gS jB] at hq;split
    ·rename_i hw;rw [if_pos hw] at hq;refine ⟨dT _ _ _ _ _,?_⟩;rw [Oper.semAt_eq _ _ _ (fun cc he=>by simp [nw,he] at Bl),<- hex]
     unfold mz at hq
     revert hq
     generalize (execOp a'.eval o).run P w=res;intro hq
     match res,hq with
     | .ok (.value v) w',hq=>exact gB v w' hq
     | .ok (.enter f args) w', ⟨e, cF⟩ =>
      subst e;refine ⟨by simp [FR,Fence.wide],(iA cF).mono fun e vP h=>?_⟩;obtain ⟨v,rfl,hq⟩:=h;exact gB v vP hq
    ·rename_i hw;rw [if_neg hw] at hq;exact ⟨fun _ _=>trivial,gB undef w hq⟩
   by_cases hp:p<m/\p∈Region.ready .any l.toArray listed
   ·exact (main p hp.2 hp.1).2 I
   ·refine ⟨fun hr=>?_,fun i hi=>?_⟩
    ·obtain ⟨i,hi⟩:=jc hI.sz hc.ac ⟨i0,by omega,nO⟩;rw [hr] at hi;cases hi
    ·have nP:i<m:=ZM fun hm=>by
      have GB:=pG hc hI.sz hI.dc hi hm;by_cases DW:p<m
      ·by_cases RD:Ls listed p
       ·exact nO (by
         by_cases e:i0=p
         ·rw [e];exact RD
         ·exact GB i0 r7 e)
       ·refine hp ⟨DW,(dD hI.sz).2 ⟨l[p]'(by omega),Zc (by omega),RD,fun e he hb=>?_⟩⟩;have aM:=jv hc.ac (Zc (show p<l.length by omega)) e he hb;exact GB e.on (by omega) (by omega)
      ·exact nO (GB i0 r7 (by omega))
     exact (main i hi nP).1
def mA (tk:Nat->Nat) (P:Program) (c:Cx) (D:List Nat) (hs:List bd) (l:List Oper) (Q:Exit->Act->World->Prop) (m i n:Nat) (rest:List Oper) (SL:(Nat->Value)->aL) (S:List cQ):Prop:=
 ∃ S' l7,tt P c hs l tk i (rest.take n) SL S S' l7/\∀ β,Tr c D (l7 β) (dF β (pk tk (fun i=>Nat.blt i m)) S' 0++hs) (Left P l.toArray Q (l.length-m) (kg l.length m))
theorem vS {id:Nat} (m:Nat) (tk:Nat->Nat) [pW:Sa P] (gD:EB l m=true) (k:mA tk P c D hs l Q m 0 m l (fun _=>sl) []):Tr c D sl hs (WP P none (.region id l.toArray true) Q):=fun a w a7=>by
 obtain ⟨S,l7,hp,ht⟩:=k;have h:(Code.region id l.toArray true).wpIn (FR none) 0 P (NP Q) a w:=wpIn_region_any pW.eq (by
  refine EG (tk:=tk) (p:=m) (pF gD) (fun h=>absurd h (ZbD _)) (fun c a w h=>h.elim) hp a7.dj a7.size (fun β a w a7=>ht β a w a7) l.toArray.size _ _ _ ⟨by simp,?_,?_,a7.defers,a7.size,fun t _=>rfl,?_,fun _=>undef,?_,?_⟩
  ·exact fun k o _ hL=>absurd hL (eA _ _)
  ·exact fun k _ hL=>eA _ _ hL
  ·exact ⟨List.range l.length,Zbk,fun i=>⟨fun h=>⟨by simpa using h,eA _ _⟩,fun h=>by simpa using h.1⟩,by simp⟩
  ·have e:∀ (T:List cQ) (i:Nat),dF (fun _=>undef) (pk tk (fun i=>(Array.replicate l.toArray.size false).getD i false)) T i=[]:=by
    intro T
    induction T with
    | nil=>intro i;rfl
    | cons s T ih =>
     intro i;have:=eA l.toArray.size i;unfold Ls at this;unfold dF;rw [if_neg (by unfold pk;simp only [Zn];exact fun h=>this h.1),ih];rfl
   rw [e];exact a7.mem.drew
  ·exact fun j o d s _ _ _ hL=>absurd hL (eA _ _))
 exact wpIn_mono h fun e a' w' h=>by
  cases e with
  | panic c=>exact h.elim
  | _=>exact h
end
end Go.SL
namespace Go.SL
open Go
def iC:List (Nat×Nat)->Nat->Nat
 | [],_=>0
 | p::r,j=>bif Nat.beq p.1 j then p.2 else iC r j
theorem qw:∀ {mQ:List (Nat×Nat)} {i j:Nat},(mQ.all fun p=>!Nat.beq p.2 i)=true->iC mQ j=i->0<i->False
 | [], i, j, _, h, hp => by
  have h:0=i:=h;omega
 | p :: r, i, j, h, h2, hp => by
  rw [List.all_cons,Zn] at h;unfold iC at h2;cases e:Nat.beq p.1 j with
  | true=>rw [e] at h2;have h2:p.2=i:=h2;rw [h2] at h;simp at h
  | false=>rw [e] at h2;exact qw h.2 h2 hp
theorem qv:∀ {mQ:List (Nat×Nat)} {i jx:Nat},(mQ.all fun p=>!Nat.beq p.2 i||Nat.beq p.1 jx)=true->Nat.blt 0 i=true->∀ k,iC mQ k=i->k=jx
 | [], i, jx, _, h0, k, h => by
  have h:0=i:=h;subst h;cases h0
 | p :: r, i, jx, h, h0, k, hk => by
  rw [List.all_cons,Zn] at h;unfold iC at hk;cases e:Nat.beq p.1 k with
  | true =>
   rw [e] at hk;have hk:p.2=i:=hk;have h1:=h.1;rw [hk,show Nat.beq i i=true by simp] at h1;have e1:=Z7 e;have e2:=Z7 (show Nat.beq p.1 jx=true by simpa using h1);omega
  | false=>rw [e] at hk;exact qv h.2 h0 k hk
section
variable {P:Program} {c:Cx} {D:List Nat} {sl:aL} {hs hs':List bd} {X:Act->World->Prop} {Q:Exit->Act->World->Prop} {l:List Oper} {m i n d:Nat} {mQ:List (Nat×Nat)} {op:Op} {ty:TypeId} {pos:String} {af:Array Edge} {rest:List Oper} {SL:(Nat->Value)->aL} {S:List cQ}
theorem nh {o:Oper} {s:cQ} (hd:o.dst=some d) (fO:Nat.blt d c.nt=true) (h:G7 P c hs l (iC mQ) i o SL S s) (k:mA (iC mQ) P c D hs l Q m (i+1) n rest (fun β=>(d,s.F β)::SL β) (S++[s])):mA (iC mQ) P c D hs l Q m i (n+1) (o::rest) SL S:=by
 obtain ⟨S',l7,hp,ht⟩:=k;exact ⟨S',l7,.step hd (by simpa [Z4] using fO) h hp,ht⟩
theorem Fw (k:∀ β,Tr c D (SL β) (dF β (pk (iC mQ) (fun i=>Nat.blt i m)) S 0++hs) (Left P l.toArray Q (l.length-m) (kg l.length m))):mA (iC mQ) P c D hs l Q m i 0 rest SL S:=
 ⟨S,SL,.nil,k⟩
theorem wy {β:Nat->Value} {p:Nat->Bool} {s:cQ}:∀ {S:List cQ} {i jx:Nat},S[jx]? = some s->(∀ k,p k=Nat.beq k (i+jx))->dF β p S i=s.A β
 | [],_,_,h,_=>by simp at h
 | s0 :: S, i, 0, h, hp => by
  simp only [ZaG,Option.some.injEq] at h;subst h;unfold dF;rw [hp i,show Nat.beq i (i+0)=true by simp,if_pos I];have:dF β p S (i+1)=[]:=by
   have h:=pD (β:=β) (q:=p) (S:=S) (n:=0) (i:=i+1) fun j hj=>by
    rw [hp j];exact Zay.2 fun e=>by have:=Z7 e;omega
   rw [h,Ze];rfl
  rw [this,ZN]
 | s0 :: S, i, jx + 1, h, hp => by
  unfold dF;rw [hp i,show Nat.beq i (i+(jx+1))=false from Zay.2 fun e=>by have:=Z7 e;omega]
  simp only [ZaX,if_false,Za];exact wy (i:=i+1) (jx:=jx) (by simpa using h) fun k=>by rw [hp k,show i+(jx+1)=i+1+jx by omega]
theorem Ae {t e:TypeId} {agg:Bool} {size bytes jx n0:Nat} {z:Value} {x y:Operand} {Vx Vy:(Nat->Value)->Value} {Ax:(Nat->Value)->List bd} {xs:List Value} {news:List (List Value)} [hu:jw P t (.slice e)] [hT:Ty P e agg size] [hZ:mL P e z] [hBy:xX P e bytes] (B:List Nat)
  (hB:(B.all fun j=>jE l ⟨some d,.call ⟨.builtin .append,#[x,y],#[t,t]⟩,ty,pos,af,none⟩ j&&Nat.beq (iC mQ j) 0)=true)
  (hS:S[jx]? = some ⟨Vx,Ax⟩) (hrow:∀ β w fp,cr (hp w) (Ax β) fp->(row e size (Vx β) n0 xs).sat (hp w) fp)
  (htk:∀ k,iC mQ k=i->k=jx) (hti:iC mQ jx=i) (h0:Nat.blt 0 i=true) (hwx:eO ⟨some d,.call ⟨.builtin .append,#[x,y],#[t,t]⟩,ty,pos,af,none⟩ jx=true)
  (hx:∀ β,Is (SL β) x (Vx β)) (hy:∀ β,Is (SL β) y (Vy β)) (hsrc:∀ β w,jO c hs S B β w->Rd w (Vy β) size news) (h1:∀ r∈news,∀ u∈r,u.oneCell'=true) (hz:z.cells.size=size) (hsz:Nat.blt 0 size=true) (hb0:Nat.blt 0 bytes=true)
  (hb:(n0+news.length)*bytes<=140737488355328) (hd:Nat.blt d c.nt=true)
  (k:mA (iC mQ) P c D hs l Q m (i+1) n rest (fun β=>(d,β i)::SL β) (S++[⟨fun β=>β i,fun β=>[row e size (β i) (n0+news.length) (xs++news.flatten)]⟩])) :
  mA (iC mQ) P c D hs l Q m i (n+1) (⟨some d,.call ⟨.builtin .append,#[x,y],#[t,t]⟩,ty,pos,af,none⟩::rest) SL S:=by
 refine nh (s:=⟨fun β=>β i,fun β=>[row e size (β i) (n0+news.length) (xs++news.flatten)]⟩) I hd ⟨fun β β' h=>by simp only [h i (gH l i)],fun β β' h=>by simp only [h i (gH l i)],⟨B,fun j hj=>?_,fun β a w oY uP ue iv=>?_⟩,fun j hj _=>by rw [htk j hj];exact hwx⟩ k
 ·have:=Zad.1 hB j hj;rw [Zn] at this;exact ⟨this.1,by simpa using this.2⟩
 rw [if_pos (by simp [Region.wanted])];rw [wy (i:=0) hS fun k=>by
  rw [Zx];unfold ek;rw [h0,Zau];by_cases e:k=jx
  ·subst e;rw [hti];simp
  ·rw [show Nat.beq k jx=false from Zay.2 fun h=>e (Z7 h)]
   exact Zay.2 fun h=>e (htk k (Z7 h))] at iv
 have NB:=hrow β w oY iv;have hR:=hsrc β w ue;have YJ:=hx β a uP;have Rb:=hy β a uP;have hlen:=fH hR.sz;by_cases hne:news=[]
 ·subst hne;obtain ⟨aa,cap,b,o,hV,_⟩:=hR;rw [hV] at Rb;have Vi:(Vx β=.slice none 0 0/\n0=0)\/∃ g cap,Vx β=.slice (some ⟨g,0,none⟩) n0 cap/\n0<=cap:=by
   obtain ⟨_,_,h1⟩:=NB;exact h1.imp id fun ⟨g,cap,cur,e,_,hc,_⟩=>⟨g,cap,e,hc⟩
  have gW:(execOp a.eval ⟨some d,.call ⟨.builtin .append,#[x,y],#[t,t]⟩,ty,pos,af,none⟩).run P w=.ok (.value (Vx β)) w:=by
   have:=uB (P:=P) (t:=t) (e:=e) (ty:=ty) (w:=w) (agg:=agg) (size:=size) (a:=aa) (cp:=cap) Vi;simp only [Zae] at Rb;simp [execOp,resolve,invoke,builtin,YJ,Rb,this]
  unfold mz;rw [gW];refine ⟨Vx β,by simp only [ic],.refl _ _,oY,?_,⟨oY,[],by simp,?_,I⟩,fun b hb=>.inl hb⟩
  ·rw [NB.1];cases (Vx β).ownBlock <;> simp
  ·simp only [ic,Zae,Zaz,List.flatten_nil,ZN];exact NB
 ·obtain ⟨aa,cap,b2,o2,hV,dy,bT,haa,hcc⟩:=hR;have:=haa hne;subst this;rw [hV] at Rb;obtain ⟨de,ii,nA,Di,_,hY⟩:=Ty.parts (P:=P) (t:=e) (agg:=agg) (n:=size);have hzero:ii.zero=some z:=by have:=hZ.eq;rw [Di] at this;simpa using this
  have gK:ii.bytes=bytes:=by have:=hBy.eq;rw [Di] at this;simpa using this
  have xl:0<bytes:=by simpa using hb0
  have pU:=wg NB;have Dd:n0+news.length<=maxLen:=by
   have:(n0+news.length)*1<=(n0+news.length)*bytes:=Zbg _ xl;unfold maxLen;omega
  have hn:∀ (j:Nat) (u:Value),news.flatten[j]? = some u->w.cell? ⟨b2,o2+j,none⟩=some u:=ml hcc;have Bq:∀ u∈news.flatten,u.oneCell'=true:=fun u hu=>by obtain ⟨r,hr,TG⟩:=ZbC.1 hu;exact h1 r hr u TG
  obtain ⟨v',w',gW,pT,sT,_⟩:=run_append_own (P:=P) w 0 t ty e ii z size bytes hu.eq Di hzero hY gK hz (by simpa using hsz) (Vx β) n0 xs pU ⟨b2,o2,none⟩ news.length cap news.flatten hlen
   (fun j u hj=>by rw [eJ];exact hn j u hj) Bq Dd hb (Zi _)
  have tX:=oJ (P:=P) (t:=t) (ty:=ty) hu.eq Di hzero (by rw [hY];exact pU) (a:=⟨b2,o2,none⟩) (m:=news.length) (cp:=cap) (by rw [hY];exact hlen) (fun j u hj=>by rw [eJ];exact hn j u hj) Bq Dd (by rw [gK];exact hb) gW
  have hex:(execOp a.eval ⟨some d,.call ⟨.builtin .append,#[x,y],#[t,t]⟩,ty,pos,af,none⟩).run P w=.ok (.value v') w':=by
   simp [execOp,resolve,invoke,builtin,YJ,Rb,gW]
  unfold mz;rw [hex];have B2:oY=(Vx β).ownBlock.toList:=NB.1;refine ⟨v',by simp only [ic],⟨sT.os,sT.tape,sT.output,tX.2,sT.size,fun q hq W0=>sT.block q hq (fun he=>W0 ?_)⟩,v'.ownBlock.toList,by cases v'.ownBlock <;> simp,⟨v'.ownBlock.toList,[],(ZN _).symm,by simp only [ic];exact kX pT,I⟩,fun q hq=>?_⟩
  ·rw [B2,<- he];simp
  ·have uQ:v'.ownBlock=some q:=by simpa [Option.mem_toList] using hq
   rcases tX.1 with h | h
   ·left;rw [B2,<- h,uQ];simp
   ·right
    rw [h] at uQ;cases uQ;exact Zz _
theorem ju {F:(Nat->Value)->Value} (hr:∀ β,du P c (SL β) hs ⟨some d,op,ty,pos,af,none⟩ (F β)) (hi:ni l i F) (hd:Nat.blt d c.nt=true) (hn:(mQ.all fun p=>!Nat.beq p.2 i)=true) (k:mA (iC mQ) P c D hs l Q m (i+1) n rest (fun β=>(d,F β)::SL β) (S++[⟨F,fun _=>[]⟩])) :
  mA (iC mQ) P c D hs l Q m i (n+1) (⟨some d,op,ty,pos,af,none⟩::rest) SL S:=
 nh (s:=⟨F,fun _=>[]⟩) I hd ⟨hi,fun _ _ _=>rfl,⟨[],by simp,fun β a w oY h1 h2 _=>by
  rw [if_pos (by simp [Region.wanted])];unfold mz;rw [(hr β).2 a w h1 h2.mem];exact ⟨β i,by rw [pf],.refl _ _,[],Zah,I,by simp⟩⟩,fun j hj hp=>(qw hn hj hp).elim⟩ k
theorem tq {V:Nat->Value} {ob:(Nat->Value)->Obj} (hr:∀ β,ql P c (SL β) hs ⟨some d,op,ty,pos,af,none⟩ V (ob β)) (hi:∀ β β',(∀ k,k≠i->tl l i k=true->β k=β' k)->ob β=ob β') (hd:Nat.blt d c.nt=true) (hn:(mQ.all fun p=>!Nat.beq p.2 i)=true)
  (k:mA (iC mQ) P c D hs l Q m (i+1) n rest (fun β=>(d,V (ed (β i)))::SL β) (S++[⟨fun β=>V (ed (β i)),fun β=>[bz (ed (β i)) (ob β)]⟩])) :
  mA (iC mQ) P c D hs l Q m i (n+1) (⟨some d,op,ty,pos,af,none⟩::rest) SL S:=
 nh (s:=⟨fun β=>V (ed (β i)),fun β=>[bz (ed (β i)) (ob β)]⟩) I hd ⟨fun β β' h=>by simp only [h i (gH l i)],fun β β' h=>by simp only [h i (gH l i),hi β β' fun k _ hk=>h k hk],⟨[],by simp,fun β a w oY h1 h2 _=>by
  rw [if_pos (by simp [Region.wanted])];unfold mz;rw [(hr β).2 a w h1 h2.mem];have e:ob (tA β i (.q (w.heap.size:Int)))=ob β:=hi _ _ fun k hk _=>rr hk
  exact ⟨.q (w.heap.size:Int),by simp only [ic,lP],.alloc _ _ _,[w.heap.size],by simp,⟨[w.heap.size],[],I,⟨by simp only [ic,lP],by simp only [ic,lP];rw [e];exact World.alloc_heap_new w (ob β)⟩,I⟩,by simp⟩⟩,fun j hj hp=>(qw hn hj hp).elim⟩ k
end
end Go.SL
namespace Go.SL.KR
open Go Go.SL
section
variable {P:Program} {c:Cx} {D:List Nat} {sl:aL} {hs:List bd} {Q:Exit->Act->World->Prop} {l:List Oper} {m:Nat} {tk:Nat->Nat}
variable {r0:Option Nat}
theorem EG {p:Nat} (hc:IB l m p) (EY:p<m->False) (Vu:∀ c a w,¬ Q (.panic c) a w) {S:List cQ} {l7:(Nat->Value)->aL} (T0:tt P c hs l tk 0 (l.take m) (fun _=>sl) [] S l7) {a0:Act} (h0:bU sl a0) (HZ:a0.tmps.size=c.nt)
  (tail:∀ β a w,St c D (l7 β) (dF β (pk tk (fun i=>Nat.blt i m)) S 0++hs) a w->wpAnyIn (FR r0) 0 P .any l.toArray Q (l.length-m) (kg l.length m) a w) :
  ∀ (fuel:Nat) (listed:Array Bool) (a:Act) (w:World),QG c D hs l tk m S a0 fuel listed a w->wpAnyIn (FR r0) 0 P .any l.toArray Q fuel listed a w:=by
 have hle:=hc.le;have HX:nZ sl [] (fun _=>sl) []:=fun β t v hv=>.inr ⟨fun oj h=>(Zp h).elim,hv⟩
 obtain ⟨xu,_,kL,fg⟩:=T0.spec (sl:=sl) [] rfl rfl HX;rw [Za] at kL fg;rw [Zx,Zq,Zbf hle] at xu;have dP:∀ (j:Nat) (o:Oper),j<m->l[j]? = some o->(l.take m)[j]? = some o:=fun j o hj ho=>by rw [ZC,if_pos hj];exact ho
 have fD:∀ (j:Nat) (o:Oper),(l.take m)[j]? = some o->j<m/\l[j]? = some o:=fun j o ho=>by
  rw [ZC] at ho;split at ho
  ·exact ⟨by assumption,ho⟩
  ·cases ho
 have Mu:∀ j,j<m->∃ s,S[j]? = some s:=fun j hj=>⟨S[j]'(by omega),Zc (by omega)⟩
 have mf:∀ fuel listed a w,QG c D hs l tk m S a0 fuel listed a w->(∀ i,i<m->Ls listed i)->wpAnyIn (FR r0) 0 P .any l.toArray Q fuel listed a w:=by
  intro fuel listed a w hI dK;have hL:∀ i,i<l.length->(Ls listed i↔i<m):=fun i _=>⟨fun h=>ZM fun hm=>hI.hi i hm h,dK i⟩
  obtain ⟨U,uU,oR,qV⟩:=hI.left;have iH:U.Perm (List.range' m (l.length-m)):=by
   rw [Zaw uU (Zbt)];intro i;rw [oR i,ZaL];constructor
   ·rintro ⟨h1,h2⟩;exact ⟨ZaS fun h=>h2 (dK i h),by omega⟩
   ·rintro ⟨h1,h2⟩;exact ⟨by omega,hI.hi i h1⟩
  have hlen:fuel=l.length-m:=by rw [<- qV,iH.length_eq,Zbn]
  have E3:listed=kg l.length m:=by
   have tV:(kg l.length m).size=l.length:=by simp [kg];omega
   apply Array.ext
   ·rw [hI.sz,tV]
   ·intro i h1 h2;rw [hI.sz] at h1;have h3:=hL i h1;unfold Ls at h3;rw [Zv,Zao (by rw [hI.sz];exact h1),Zam] at h3;have h4:(kg l.length m)[i]=decide (i<m):=by
     simp only [kg,List.getElem_toArray];by_cases hi:i<m
     ·rw [Zat (by simpa using hi)];simp [hi]
     ·rw [Zap (by simpa using hi)];simp [hi]
    rw [h4];by_cases hi:i<m
    ·rw [h3.2 hi];simp [hi]
    ·have:¬ listed[i]=true:=fun h=>hi (h3.1 h)
     simp [hi,this]
  subst hlen;rw [E3];obtain ⟨β,hm,jo⟩:=hI.own;have PH:∀ i,listed.getD i false=Nat.blt i m:=fun i=>by
   by_cases hi:i<m
   ·rw [show Nat.blt i m=true from by simpa [Z4] using hi];exact dK i hi
   ·have h1:¬ listed.getD i false=true:=hI.hi i (by omega);have h2:¬ Nat.blt i m=true:=by simpa [Z4] using hi
    rw [Zar] at h1 h2;rw [h1,h2]
  have e:dF β (pk tk (fun i=>listed.getD i false)) S 0=dF β (pk tk (fun i=>Nat.blt i m)) S 0:=gm fun j s hj=>⟨by unfold pk;simp only [PH],fun _=>rfl⟩
  rw [e] at hm;refine tail β a w ⟨by rw [Zh];exact hm,fun t v hv=>?_,hI.size,hI.defers⟩;rcases kL β t v hv with ⟨j,oj,s,h1,h2,h3,h4⟩ | ⟨h1,h2⟩
  ·obtain ⟨gR,ly⟩:=fD j oj h1;rw [h4];exact jo j oj t s ly h2 h3 (dK j gR)
  ·rw [hI.zD t fun j oj hj ji=>h1 oj (ZV (dP j oj (ZM fun hm=>hI.hi j hm ji) hj))]
   exact h0 t v h2
 intro fuel
 induction fuel with
 | zero =>
  intro listed a w hI;obtain ⟨U,_,oR,qV⟩:=hI.left;have hU:U=[]:=Zak.1 qV;refine mf 0 listed a w hI fun i hi=>Classical.byContradiction fun hn=>?_;have:=(oR i).2 ⟨by omega,hn⟩;rw [hU] at this;cases this
 | succ fuel ih =>
  intro listed a w hI;by_cases dK:∀ i,i<m->Ls listed i
  ·exact mf _ listed a w hI dK
  ·have hex:∃ i,i<m/\¬ Ls listed i:=Classical.byContradiction fun hh=>dK fun i hi=>Classical.byContradiction fun hn=>hh ⟨i,hi,hn⟩
   obtain ⟨i0,r7,nO⟩:=hex;have main:∀ i,i∈Region.ready .any l.toArray listed->i<m->wpOpIn (FR r0) 0 P l.toArray Q i (wpAnyIn (FR r0) 0 P .any l.toArray Q fuel (listed.setIfInBounds i true)) a w/\(i=p->wpAnyIn (FR r0) 0 P .any l.toArray Q (fuel+1) listed a w):=by
    intro i hi nP;obtain ⟨o,ho,hn,lh⟩:=(dD hI.sz).1 hi;obtain ⟨d,DQ,s,hd,fO,rh,pS,dU⟩:=fg i o (Zi _) (dP i o nP ho);obtain ⟨wZ,w7,⟨B,hB,gW⟩,EW⟩:=dU;obtain ⟨β,hm,jo⟩:=hI.own;have jU:∀ (j:Nat),eO o j=true->Ls listed j:=fun j hw=>by
     obtain ⟨e,he,hb,mG⟩:=cz hw;rw [<- mG];exact lh e he hb
    have rL:∀ (j:Nat),jE l o j=true->Ls listed j:=fun j hw=>by
     unfold jE at hw;rw [ZR] at hw;rcases hw with hw | hw
     ·exact jU j hw
     ·obtain ⟨k,_,hk⟩:=ZQ.1 hw;rw [Zn] at hk;have DZ:=jU k hk.1;cases hq:l[k]? with
      | none=>rw [hq] at hk;cases hk.2
      | some q =>
       rw [hq] at hk;obtain ⟨e,he,hb,mG⟩:=cz hk.2;rw [<- mG];exact hI.dc k q hq DZ e he hb
    have oO:∀ (j:Nat) (oj:Oper) (e:Nat),l[j]? = some oj->j<m->j≠i->oj.dst=some e->d≠e:=by
     intro j oj e hj gR hne he;rcases Zbi j i with h | h
     ·exact fun e'=>(dh (iF hc h nP hj ho) he hd).1 e'.symm
     ·exact (dh (iF hc (show i<j by omega) gR ho hj) hd he).1
    have iw:i<listed.size:=by rw [hI.sz];omega
    have Bl:nw o=true:=hc.op o (ZV ho)
    -- ze dj Oh ze operation looks at
    have hT:∀ t∈o.looksAt l.toArray,∀ v,c5 (DQ β) t=some v->a.tmps[t]? = some v:=by
     intro t ht v hv;rcases pS β t v hv with ⟨j,oj,sj,h1,h2,h3,h4⟩ | ⟨h1,h2⟩
     ·have lE:j<i:=by have:=(Zl.1 h1).1;rw [Zq] at this;omega
      rw [ZC,if_pos lE] at h1 h3;obtain ⟨gR,ly⟩:=fD j oj h1;have ji:=jU j ((dh (iF hc lE nP ly ho) h2 hd).2 (.inl ht));rw [h4];exact jo j oj t sj ly h2 h3 ji
     ·rw [hI.zD t fun j oj hj ji jh=>?_]
      ·exact h0 t v h2
      ·have gR:j<m:=ZM fun hm=>hI.hi j hm ji
       rcases Zal j i with h | h | h
       ·exact h1 oj (ZV (by rw [ZC,if_pos h];exact dP j oj gR hj)) jh
       ·subst h;exact hn ji
       ·have hw:=(dh (iF hc h gR ho hj) hd jh).2 (.inr ht);obtain ⟨e,he,hb,mG⟩:=cz hw;have:=hI.dc j oj hj ji e he hb;rw [mG] at this;exact hn this
    have tY:∀ t v,c5 (DQ β) t=some v->t<c.nt:=by
     intro t v hv;rcases pS β t v hv with ⟨j,oj,sj,h1,h2,_,_⟩ | ⟨_,h2⟩
     ·have lE:j<i:=by have:=(Zl.1 h1).1;rw [Zq] at this;omega
      rw [ZC,if_pos lE] at h1;obtain ⟨d',_,_,u9,ub,_⟩:=fg j oj (Zi _) h1;rw [h2] at u9;cases u9;exact ub
     ·have:=h0 t v h2;rw [<- HZ];exact (Z1.1 this).1
    obtain ⟨a',lF,jB,_⟩:=nQ hI.size tY hT;have ue:jO c hs (S.take i) B β w:=by
     rintro A (rfl | ⟨j,hj,sj,h1,rfl⟩)
     ·exact hm.sublist ((ZaC _ _).trans (ZaJ _ _))
     ·have lE:j<i:=by have:=(Zl.1 h1).1;rw [Zq] at this;omega
      rw [ZC,if_pos lE] at h1;have ji:=rL j (hB j hj).1;exact hm.sublist ((pC (lst:=pk tk (fun i=>listed.getD i false)) (i:=0) h1 (by rw [Nat.zero_add];unfold pk;dsimp only;rw [(hB j hj).2,show listed.getD j false=true from ji];rfl)).append (List.sublist_append_left _ _))
    have PI:listed.getD i false=false:=by have h:¬ listed.getD i false=true:=hn;simpa using h
    have Wz:∀ j,ek tk i j=true->eO o j=true:=fun j h=>by
     unfold ek at h;rw [Zn] at h;exact EW j (by simpa using h.2) (by simpa [Z4] using h.1)
    have WC:∀ j,ek tk i j=true->j<i:=fun j h=>by
     obtain ⟨e,he,hb,mG⟩:=cz (Wz j h);have:=jv hc.ac ho e he hb;omega
    have hpk:∀ j,ek tk i j=true->pk tk (fun i=>listed.getD i false) j=true:=fun j h=>by
     have h1:listed.getD j false=true:=jU j (Wz j h);have h2:tk j=i:=by unfold ek at h;rw [Zn] at h;simpa using h.2
     unfold pk;dsimp only;rw [h1,h2,PI];simp
    have etk:dF β (fun j=>pk tk (fun i=>listed.getD i false) j&&ek tk i j) S 0=dF β (ek tk i) (S.take i) 0:=by
     rw [pD (n:=i) fun j hj=>by
      rw [Zx] at hj;cases ht:ek tk i j with
      | false=>rw [Zbw]
      | true=>have:=WC j ht;omega]
     refine gm fun j sj _=>⟨?_,fun _=>rfl⟩;rw [Zx];cases ht:ek tk i j with
     | false=>rw [Zbw]
     | true=>rw [hpk j ht];rfl
    have W4:=hm.perm ((rB (β:=β) (pk tk (fun i=>listed.getD i false)) (ek tk i) S 0).append_right _)
    rw [Zh,etk] at W4;obtain ⟨oY,_,LW,Md⟩:=Mem.zi W4;have hq:=gW β a' w oY lF ue LW;have hex:=ix (o:=o) (ops:=l.toArray) Bl jB
    -- N0 a done operation SN UF not Uo on this one
    have mZ:∀ j,Ls listed j->∀ x k,tl l j k=true->β k=tA β i x k:=by
     intro j ji x k hk;refine (rr fun e=>?_).symm;subst e;unfold tl at hk;rw [ZR] at hk;rcases hk with hk | hk
     ·have:j=k:=by simpa using hk
      subst this;exact hn ji
     ·have DX:j<l.length:=by
       have gR:j<m:=ZM fun hm=>hI.hi j hm ji
       omega
      exact hn (hG hI.dc hc.ac j DX ji k hk)
    have gB:∀ v w',G8 i s β w oY v w'->wpAnyIn (FR r0) 0 P .any l.toArray Q fuel (listed.setIfInBounds i true) (a.put o.dst v) w':=by
     rintro v w' ⟨x,rfl,hk,fp,jq,iv,tZ⟩;refine ih _ _ _ ⟨by simpa using hI.sz,?_,?_,by rw [hd];exact hI.defers,by simpa [Act.put,hd] using hI.size,?_,?_,tA β i x,?_,?_⟩
     ·intro k ok qH hL e he hb;rw [bX iw] at hL ⊢;rcases hL with e' | hL
      ·subst e';rw [ho] at qH;cases qH;exact .inr (lh e he hb)
      ·exact .inr (hI.dc k ok qH hL e he hb)
     ·intro k qH hL;rw [bX iw] at hL;rcases hL with e | hL
      ·omega
      ·exact hI.hi k qH hL
     ·intro t ht;have h1:d≠t:=fun e=>by subst e;exact ht i o ho ((bX iw).2 (.inl rfl)) hd
      rw [hd];simp only [Act.put,ZF h1];exact hI.zD t fun j oj hj hL=>ht j oj hj ((bX iw).2 (.inr hL))
     ·obtain ⟨U,uU,oR,qV⟩:=hI.left;refine ⟨U.erase i,uU.erase i,fun k=>?_,?_⟩
      ·rw [uU.mem_erase_iff,oR k,bX iw];constructor
       ·rintro ⟨h1,h2,h3⟩;exact ⟨h2,fun h=>h.elim h1 h3⟩
       ·rintro ⟨h1,h2⟩;exact ⟨fun e=>h2 (.inl e),h1,fun h=>h2 (.inr h)⟩
      ·have PN:i∈U:=(oR i).2 ⟨by omega,hn⟩;rw [ZaB PN,qV];rfl
     ·have l5:=Md _ w' hk ⟨fp,jq,iv,tZ⟩;have e1:dF β (fun j=>pk tk (fun i=>listed.getD i false) j&&!ek tk i j) S 0=dF (tA β i x) (fun j=>pk tk (fun i=>listed.getD i false) j&&!ek tk i j) S 0:=gm fun j sj hj=>by
       refine ⟨I,fun hl=>?_⟩;rw [Zx] at hl;have hl:listed.getD j false=true:=by
        unfold pk at hl;simp only [Zn] at hl;exact hl.1.1
       have gR:j<m:=by have:=(Zl.1 hj).1;omega
       obtain ⟨oj,HY⟩:∃ oj,l[j]? = some oj:=⟨l[j]'(by omega),Zc (by omega)⟩;obtain ⟨_,_,s2,_,_,hs2,_,pV⟩:=fg j oj (Zi _) (dP j oj gR HY);rw [hj] at hs2;cases hs2;exact pV.w7 _ _ (mZ j hl x)
      rw [e1,<- Zh] at l5;have ny:∀ k,(listed.setIfInBounds i true).getD k false=(listed.getD k false||Nat.beq k i):=fun k=>by
       by_cases Mb:k=i
       ·subst Mb;rw [show Nat.beq k k=true by simp,Bool.or_true];exact (bX iw).2 (.inl I)
       ·rw [show Nat.beq k i=false from Zay.2 fun h=>Mb (Z7 h),Bool.or_false]
        simp [Zv,ZF (Ne.symm Mb)]
      refine l5.perm ((pE (k:=i) rh ?_ ?_ ?_).append_right _)
      ·rw [Zx];unfold pk;dsimp only;rw [PI];rfl
      ·rw [Zx];unfold pk;dsimp only;rw [ny,show Nat.beq i i=true by simp,Bool.or_true,Zau];by_cases NA:tk i=0
       ·rw [NA];rfl
       ·have TM:0<tk i:=Nat.pos_of_ne_zero NA;have qT:listed.getD (tk i) false=false:=by
         cases hh:listed.getD (tk i) false with
         | false=>rfl
         | true =>
          exfalso;have XE:Ls listed (tk i):=hh;have Vg:tk i<m:=ZM fun hm=>hI.hi _ hm XE
          obtain ⟨ot,WV⟩:∃ ot,l[tk i]? = some ot:=⟨l[tk i]'(by omega),Zc (by omega)⟩;obtain ⟨_,_,_,_,_,_,_,T2⟩:=fg (tk i) ot (Zi _) (dP _ ot Vg WV);obtain ⟨e,he,hb,mG⟩:=cz (T2.waits i rfl TM);have:=hI.dc (tk i) ot WV XE e he hb;rw [mG] at this;exact hn this
        have hne:Nat.beq (tk i) i=false:=by
         cases hh:Nat.beq (tk i) i with
         | false=>rfl
         | true =>
          exfalso;have e:tk i=i:=by simpa using hh
          have:=WC i (by unfold ek;rw [hh,Bool.and_true];rw [e] at TM;simpa [Z4] using TM);omega
        rw [ny,qT,hne];simp
      ·intro j hj;rw [Zx] at hj;unfold pk;dsimp only;rw [ny,ny,show Nat.beq j i=false from Zay.2 fun h=>hj (Z7 h),Bool.or_false]
       unfold ek;cases h1:Nat.beq (tk j) i with
       | false=>simp
       | true =>
        have e:tk j=i:=by simpa using h1
        rw [e,PI];cases Nat.blt 0 i <;> simp
     ·intro j oj e sj hj he ke hL;rw [bX iw] at hL;by_cases lE:j=i
      ·subst lE;rw [ho] at hj;cases hj;rw [hd] at he;cases he;rw [rh] at ke;cases ke;rw [hd];simp [Act.put,hI.size,fO]
      ·have yh:=hL.resolve_left lE;have gR:j<m:=ZM fun hm=>hI.hi j hm yh
       obtain ⟨_,_,s2,_,_,hs2,_,pV⟩:=fg j oj (Zi _) (dP j oj gR hj);rw [ke] at hs2;cases hs2;rw [hd];simp only [Act.put,ZF (oO j oj e hj gR lE he)];rw [<- pV.wZ _ _ (mZ j yh x)];exact jo j oj e sj hj he ke yh
    have IN:=hq;refine ⟨?_,fun NI=>?_⟩
    rotate_left
    ·subst NI;exact (EY nP).elim
    unfold wpOpIn;rw [show l.toArray[i]? = some o from by simpa using ho];simp only [];rw [gS jB] at hq;split
    ·rename_i hw;rw [if_pos hw] at hq;refine ⟨dT _ _ _ _ _,?_⟩;rw [Oper.semAt_eq _ _ _ (fun cc he=>by simp [nw,he] at Bl),<- hex]
     unfold mz at hq
     revert hq
     generalize (execOp a'.eval o).run P w=res;intro hq
     match res,hq with
     | .ok (.value v) w',hq=>exact gB v w' hq
     | .ok (.enter f args) w', ⟨e, cF⟩ =>
      subst e;refine ⟨by simp [FR,Fence.wide],(iA cF).mono fun e vP h=>?_⟩;obtain ⟨v,rfl,hq⟩:=h;exact gB v vP hq
    ·rename_i hw;rw [if_neg hw] at hq;exact ⟨fun _ _=>trivial,gB undef w hq⟩
   by_cases hp:p<m/\p∈Region.ready .any l.toArray listed
   ·exact (main p hp.2 hp.1).2 I
   ·refine ⟨fun hr=>?_,fun i hi=>?_⟩
    ·obtain ⟨i,hi⟩:=jc hI.sz hc.ac ⟨i0,by omega,nO⟩;rw [hr] at hi;cases hi
    ·have nP:i<m:=ZM fun hm=>by
      have GB:=pG hc hI.sz hI.dc hi hm;by_cases DW:p<m
      ·by_cases RD:Ls listed p
       ·exact nO (by
         by_cases e:i0=p
         ·rw [e];exact RD
         ·exact GB i0 r7 e)
       ·refine hp ⟨DW,(dD hI.sz).2 ⟨l[p]'(by omega),Zc (by omega),RD,fun e he hb=>?_⟩⟩;have aM:=jv hc.ac (Zc (show p<l.length by omega)) e he hb;exact GB e.on (by omega) (by omega)
      ·exact nO (GB i0 r7 (by omega))
     exact (main i hi nP).1
def mA (tk:Nat->Nat) (P:Program) (r0:Option Nat) (c:Cx) (D:List Nat) (hs:List bd) (l:List Oper) (Q:Exit->Act->World->Prop) (m i n:Nat) (rest:List Oper) (SL:(Nat->Value)->aL) (S:List cQ):Prop:=
 ∃ S' l7,tt P c hs l tk i (rest.take n) SL S S' l7/\∀ β,Tr c D (l7 β) (dF β (pk tk (fun i=>Nat.blt i m)) S' 0++hs) (Ah P r0 l.toArray Q (l.length-m) (kg l.length m))
theorem vS {id:Nat} (m:Nat) (tk:Nat->Nat) [pW:Sa P] (gD:EB l m=true) (k:mA tk P r0 c D hs l Q m 0 m l (fun _=>sl) []):Tr c D sl hs (WP P r0 (.region id l.toArray true) Q):=fun a w a7=>by
 obtain ⟨S,l7,hp,ht⟩:=k;have h:(Code.region id l.toArray true).wpIn (FR r0) 0 P (NP Q) a w:=wpIn_region_any pW.eq (by
  refine EG (tk:=tk) (p:=m) (pF gD) (fun h=>absurd h (ZbD _)) (fun c a w h=>h.elim) hp a7.dj a7.size (fun β a w a7=>ht β a w a7) l.toArray.size _ _ _ ⟨by simp,?_,?_,a7.defers,a7.size,fun t _=>rfl,?_,fun _=>undef,?_,?_⟩
  ·exact fun k o _ hL=>absurd hL (eA _ _)
  ·exact fun k _ hL=>eA _ _ hL
  ·exact ⟨List.range l.length,Zbk,fun i=>⟨fun h=>⟨by simpa using h,eA _ _⟩,fun h=>by simpa using h.1⟩,by simp⟩
  ·have e:∀ (T:List cQ) (i:Nat),dF (fun _=>undef) (pk tk (fun i=>(Array.replicate l.toArray.size false).getD i false)) T i=[]:=by
    intro T
    induction T with
    | nil=>intro i;rfl
    | cons s T ih =>
     intro i;have:=eA l.toArray.size i;unfold Ls at this;unfold dF;rw [if_neg (by unfold pk;simp only [Zn];exact fun h=>this h.1),ih];rfl
   rw [e];exact a7.mem.drew
  ·exact fun j o d s _ _ _ hL=>absurd hL (eA _ _))
 exact wpIn_mono h fun e a' w' h=>by
  cases e with
  | panic c=>exact h.elim
  | _=>exact h
end
section
variable {P:Program} {c:Cx} {D:List Nat} {sl:aL} {hs hs':List bd} {X:Act->World->Prop} {Q:Exit->Act->World->Prop} {l:List Oper} {m i n d:Nat} {mQ:List (Nat×Nat)} {op:Op} {ty:TypeId} {pos:String} {af:Array Edge} {rest:List Oper} {SL:(Nat->Value)->aL} {S:List cQ}
variable {r0:Option Nat}
theorem nh {o:Oper} {s:cQ} (hd:o.dst=some d) (fO:Nat.blt d c.nt=true) (h:G7 P c hs l (iC mQ) i o SL S s) (k:mA (iC mQ) P r0 c D hs l Q m (i+1) n rest (fun β=>(d,s.F β)::SL β) (S++[s])):mA (iC mQ) P r0 c D hs l Q m i (n+1) (o::rest) SL S:=by
 obtain ⟨S',l7,hp,ht⟩:=k;exact ⟨S',l7,.step hd (by simpa [Z4] using fO) h hp,ht⟩
theorem Fw (k:∀ β,Tr c D (SL β) (dF β (pk (iC mQ) (fun i=>Nat.blt i m)) S 0++hs) (Ah P r0 l.toArray Q (l.length-m) (kg l.length m))):mA (iC mQ) P r0 c D hs l Q m i 0 rest SL S:=
 ⟨S,SL,.nil,k⟩
theorem Nn {ι:Type} {Φ:ι->Prop} {val:ι->Value} {own:ι->List bd} (g:Value->ι) (hg:∀ x,∃ v,g v=x) {f:FuncId} {args:(Nat->Value)->List Value} (B:List Nat)
  (hB:(B.all fun j=>jE l ⟨some d,op,ty,pos,af,none⟩ j&&Nat.beq (iC mQ j) 0)=true) (hn:(mQ.all fun p=>!Nat.beq p.2 i)=true)
  (hr:∀ β,mM P (SL β) ⟨some d,op,ty,pos,af,none⟩ f (args β)) (hd:Nat.blt d c.nt=true) (hc:∀ β w,jO c hs S B β w->bh P f (args β) w [] Φ val own)
  (k:mA (iC mQ) P r0 c D hs l Q m (i+1) n rest (fun β=>(d,val (g (β i)))::SL β) (S++[⟨fun β=>val (g (β i)),fun β=>own (g (β i))⟩])) :
  mA (iC mQ) P r0 c D hs l Q m i (n+1) (⟨some d,op,ty,pos,af,none⟩::rest) SL S:=by
 refine nh (s:=⟨fun β=>val (g (β i)),fun β=>own (g (β i))⟩) I hd ⟨fun β β' h=>by simp only [h i (gH l i)],fun β β' h=>by simp only [h i (gH l i)],⟨B,fun j hj=>?_,fun β a w oY uP ue _=>?_⟩,fun j hj hp=>(qw hn hj hp).elim⟩ k
 ·have:=Zad.1 hB j hj;rw [Zn] at this;exact ⟨this.1,by simpa using this.2⟩
 rw [if_pos (by simp [Region.wanted])];unfold mz;rw [(hr β).2 a w uP];refine ⟨I,(hc β w ue).mono fun e w' ⟨x,he,_,hk,fp,hn,hs',hf⟩=>?_⟩;obtain ⟨v,hv⟩:=hg x;refine ⟨val x,he,v,by simp only [ic,hv],hk.mono (by simp),fp,hn,by simp only [ic,hv];exact hs',fun b hb=>?_⟩;rcases hf b hb with h | h
 ·cases h
 ·exact .inr h
theorem ju {F:(Nat->Value)->Value} (hr:∀ β,du P c (SL β) hs ⟨some d,op,ty,pos,af,none⟩ (F β)) (hi:ni l i F) (hd:Nat.blt d c.nt=true) (hn:(mQ.all fun p=>!Nat.beq p.2 i)=true) (k:mA (iC mQ) P r0 c D hs l Q m (i+1) n rest (fun β=>(d,F β)::SL β) (S++[⟨F,fun _=>[]⟩])) :
  mA (iC mQ) P r0 c D hs l Q m i (n+1) (⟨some d,op,ty,pos,af,none⟩::rest) SL S:=
 nh (s:=⟨F,fun _=>[]⟩) I hd ⟨hi,fun _ _ _=>rfl,⟨[],by simp,fun β a w oY h1 h2 _=>by
  rw [if_pos (by simp [Region.wanted])];unfold mz;rw [(hr β).2 a w h1 h2.mem];exact ⟨β i,by rw [pf],.refl _ _,[],Zah,I,by simp⟩⟩,fun j hj hp=>(qw hn hj hp).elim⟩ k
theorem tq {V:Nat->Value} {ob:(Nat->Value)->Obj} (hr:∀ β,ql P c (SL β) hs ⟨some d,op,ty,pos,af,none⟩ V (ob β)) (hi:∀ β β',(∀ k,k≠i->tl l i k=true->β k=β' k)->ob β=ob β') (hd:Nat.blt d c.nt=true) (hn:(mQ.all fun p=>!Nat.beq p.2 i)=true)
  (k:mA (iC mQ) P r0 c D hs l Q m (i+1) n rest (fun β=>(d,V (ed (β i)))::SL β) (S++[⟨fun β=>V (ed (β i)),fun β=>[bz (ed (β i)) (ob β)]⟩])) :
  mA (iC mQ) P r0 c D hs l Q m i (n+1) (⟨some d,op,ty,pos,af,none⟩::rest) SL S:=
 nh (s:=⟨fun β=>V (ed (β i)),fun β=>[bz (ed (β i)) (ob β)]⟩) I hd ⟨fun β β' h=>by simp only [h i (gH l i)],fun β β' h=>by simp only [h i (gH l i),hi β β' fun k _ hk=>h k hk],⟨[],by simp,fun β a w oY h1 h2 _=>by
  rw [if_pos (by simp [Region.wanted])];unfold mz;rw [(hr β).2 a w h1 h2.mem];have e:ob (tA β i (.q (w.heap.size:Int)))=ob β:=hi _ _ fun k hk _=>rr hk
  exact ⟨.q (w.heap.size:Int),by simp only [ic,lP],.alloc _ _ _,[w.heap.size],by simp,⟨[w.heap.size],[],I,⟨by simp only [ic,lP],by simp only [ic,lP];rw [e];exact World.alloc_heap_new w (ob β)⟩,I⟩,by simp⟩⟩,fun j hj hp=>(qw hn hj hp).elim⟩ k
end
end Go.SL.KR
namespace Go.SL.KR
open Go Go.SL
section
variable {P:Program} {c:Cx} {D:List Nat} {sl:aL} {hs hs':List bd} {X:Act->World->Prop} {Q:Exit->Act->World->Prop} {l:List Oper} {m i n d:Nat} {mQ:List (Nat×Nat)} {op:Op} {ty:TypeId} {pos:String} {af:Array Edge} {rest:List Oper} {SL:(Nat->Value)->aL} {S:List cQ}
variable {r0:Option Nat}
theorem Fx {t e:TypeId} {agg:Bool} {size bytes jx n0:Nat} {z:Value} {x y:Operand} {Vx Vy:(Nat->Value)->Value} {Ax:(Nat->Value)->List bd} {xs:List Value} {news:List (List Value)} [hu:jw P t (.slice e)] [hT:Ty P e agg size] [hZ:mL P e z] [hBy:xX P e bytes] (B:List Nat)
  (hB:(B.all fun j=>jE l ⟨some d,.call ⟨.builtin .append,#[x,y],#[t,t]⟩,ty,pos,af,none⟩ j&&Nat.beq (iC mQ j) 0)=true)
  (hS:S[jx]? = some ⟨Vx,Ax⟩) (hrow:∀ β w fp,cr (hp w) (Ax β) fp->(row e size (Vx β) n0 xs).sat (hp w) fp)
  (htk:∀ k,iC mQ k=i->k=jx) (hti:iC mQ jx=i) (h0:Nat.blt 0 i=true) (hwx:eO ⟨some d,.call ⟨.builtin .append,#[x,y],#[t,t]⟩,ty,pos,af,none⟩ jx=true)
  (hx:∀ β,Is (SL β) x (Vx β)) (hy:∀ β,Is (SL β) y (Vy β)) (hsrc:∀ β w,jO c hs S B β w->Rd w (Vy β) size news) (h1:∀ r∈news,∀ u∈r,u.oneCell'=true) (hz:z.cells.size=size) (hsz:Nat.blt 0 size=true) (hb0:Nat.blt 0 bytes=true)
  (hb:(n0+news.length)*bytes<=140737488355328) (hd:Nat.blt d c.nt=true) (hne:news≠[])
  (k:mA (iC mQ) P r0 c D hs l Q m (i+1) n rest (fun β=>(d,.slice (yi (β i)).1 (n0+news.length) (yi (β i)).2)::SL β) (S++[⟨fun β=>.slice (yi (β i)).1 (n0+news.length) (yi (β i)).2,fun β=>[row e size (.slice (yi (β i)).1 (n0+news.length) (yi (β i)).2) (n0+news.length) (xs++news.flatten)]⟩])) :
  mA (iC mQ) P r0 c D hs l Q m i (n+1) (⟨some d,.call ⟨.builtin .append,#[x,y],#[t,t]⟩,ty,pos,af,none⟩::rest) SL S:=by
 refine nh (s:=⟨fun β=>.slice (yi (β i)).1 (n0+news.length) (yi (β i)).2,fun β=>[row e size (.slice (yi (β i)).1 (n0+news.length) (yi (β i)).2) (n0+news.length) (xs++news.flatten)]⟩) I hd ⟨fun β β' h=>by simp only [h i (gH l i)],fun β β' h=>by simp only [h i (gH l i)],⟨B,fun j hj=>?_,fun β a w oY uP ue iv=>?_⟩,fun j hj _=>by rw [htk j hj];exact hwx⟩ k
 ·have:=Zad.1 hB j hj;rw [Zn] at this;exact ⟨this.1,by simpa using this.2⟩
 rw [if_pos (by simp [Region.wanted])];rw [wy (i:=0) hS fun k=>by
  rw [Zx];unfold ek;rw [h0,Zau];by_cases e:k=jx
  ·subst e;rw [hti];simp
  ·rw [show Nat.beq k jx=false from Zay.2 fun h=>e (Z7 h)]
   exact Zay.2 fun h=>e (htk k (Z7 h))] at iv
 have NB:=hrow β w oY iv;have hR:=hsrc β w ue;have YJ:=hx β a uP;have Rb:=hy β a uP;have hlen:=fH hR.sz;obtain ⟨aa,cap,b2,o2,hV,dy,bT,haa,hcc⟩:=hR;have:=haa hne;subst this;rw [hV] at Rb;obtain ⟨de,ii,nA,Di,_,hY⟩:=Ty.parts (P:=P) (t:=e) (agg:=agg) (n:=size);have hzero:ii.zero=some z:=by have:=hZ.eq;rw [Di] at this;simpa using this
 have gK:ii.bytes=bytes:=by have:=hBy.eq;rw [Di] at this;simpa using this
 have xl:0<bytes:=by simpa using hb0
 have pU:=wg NB;have Dd:n0+news.length<=maxLen:=by
  have:(n0+news.length)*1<=(n0+news.length)*bytes:=Zbg _ xl;unfold maxLen;omega
 have hn:∀ (j:Nat) (u:Value),news.flatten[j]? = some u->w.cell? ⟨b2,o2+j,none⟩=some u:=ml hcc;have Bq:∀ u∈news.flatten,u.oneCell'=true:=fun u hu=>by obtain ⟨r,hr,TG⟩:=ZbC.1 hu;exact h1 r hr u TG
 obtain ⟨v',w',gW,pT,sT,_⟩:=run_append_own (P:=P) w 0 t ty e ii z size bytes hu.eq Di hzero hY gK hz (by simpa using hsz) (Vx β) n0 xs pU ⟨b2,o2,none⟩ news.length cap news.flatten hlen
  (fun j u hj=>by rw [eJ];exact hn j u hj) Bq Dd hb (Zi _)
 have tX:=oJ (P:=P) (t:=t) (ty:=ty) hu.eq Di hzero (by rw [hY];exact pU) (a:=⟨b2,o2,none⟩) (m:=news.length) (cp:=cap) (by rw [hY];exact hlen) (fun j u hj=>by rw [eJ];exact hn j u hj) Bq Dd (by rw [gK];exact hb) gW
 have hex:(execOp a.eval ⟨some d,.call ⟨.builtin .append,#[x,y],#[t,t]⟩,ty,pos,af,none⟩).run P w=.ok (.value v') w':=by
  simp [execOp,resolve,invoke,builtin,YJ,Rb,gW]
 unfold mz;rw [hex];have B2:oY=(Vx β).ownBlock.toList:=NB.1;have hN:0<n0+news.length:=by have:=List.length_pos_iff.2 hne;omega
 have YM:v'=.slice (yi v').1 (n0+news.length) (yi v').2:=by
  rcases pT.2 with ⟨_,e2⟩ | ⟨g,cp,cur,e2,_⟩
  ·omega
  ·rw [e2];rfl
 refine ⟨v',by simp only [ic];exact YM,⟨sT.os,sT.tape,sT.output,tX.2,sT.size,fun q hq W0=>sT.block q hq (fun he=>W0 ?_)⟩,v'.ownBlock.toList,by cases v'.ownBlock <;> simp,⟨v'.ownBlock.toList,[],(ZN _).symm,by simp only [ic];rw [<- YM];exact kX pT,I⟩,fun q hq=>?_⟩
 ·rw [B2,<- he];simp
 ·have uQ:v'.ownBlock=some q:=by simpa [Option.mem_toList] using hq
  rcases tX.1 with h | h
  ·left;rw [B2,<- h,uQ];simp
  ·right
   rw [h] at uQ;cases uQ;exact Zz _
end
end Go.SL.KR
namespace Go.Proofs.A1
open Go Go.SL
open Tryz
open Tryz renaming prog->T_
def BK (x:Wy):bd:=row 3 1 x.v (gV x.p).length (gV x.p)
theorem BL:∀ lB:List Wy,fS 3 (lB.map Wy.v) (lB.map fun x=>gV x.p)=lB.map BK
 | []=>rfl
 | x::l=>by simp only [Z9,fS,BL l];rfl
theorem Cq:∀ (l:List bd) (A:bd) (m:List bd),Take (l++A::m) A (l++m)
 | [],_,_=>.here
 | _::l,A,m=>.there (Cq l A m)
theorem zf (A:bd):∀ (l m:List bd),bC (A::(l++m)) l (A::m)
 | [],_=>.nil
 | _::l,m=>.cons (.there .here) (zf A l m)
theorem vU {c:Cx} {D:List Nat} {sl:aL} {hs hs':List bd} {X:Act->World->Prop} {lB:List Wy} {x:Wy} (hx:x∈lB) (ht:Take hs (jt lB) hs')
  (k:∀ oZ,(∀ y,y∈lB↔y=x\/y∈oZ)->Tr c D sl (jt oZ::row 3 1 x.v x.p.length (gV x.p)::hs') X):Tr c D sl hs X:=by
 obtain ⟨l1,l2,rfl⟩:=List.append_of_mem hx;have hk:=k (l1++l2) (fun y=>by simp only [ZB,ZT];constructor <;> (intro h;rcases h with h | h | h <;> simp [h]))
 refine y6 (As:=fS 3 ((l1++x::l2).map Wy.v) ((l1++x::l2).map fun x=>gV x.p)) (show Take hs (Nr (fS 3 ((l1++x::l2).map Wy.v) ((l1++x::l2).map fun x=>gV x.p))) hs' from ht) ?_;rw [BL,Zt,Z9,Zh,Zb];refine vi (Cq (l1.map BK) (BK x) (l2.map BK++hs')) (fun _ _ h=>h) ?_;rw [<- Zh,<- Zt];refine tB (zf (BK x) ((l1++l2).map BK) hs') ?_;have e:jt (l1++l2)=Nr ((l1++l2).map BK):=by rw [<- BL];rfl
 rw [<- e];have e2:BK x=row 3 1 x.v x.p.length (gV x.p):=by unfold BK gV;rw [Zd]
 rw [e2];exact hk
theorem Lk (p:List Nat):(gV p).length=p.length:=by unfold gV;rw [Zd]
variable {de:ByteArray} {p:List Nat} {so:ByteArray} {v:Int}
theorem CY {k:Nat} (h:k<p.length) (cur:List Value):(gV p++cur)[k*1]? = some (.q (p[k]:Nat)):=by
 rw [Zav,ZD (by rw [Lk];exact h)];unfold gV;rw [ZI,Zc h];rfl
theorem CW (p:List Nat) (i:Nat):(nz p).contains (i:Int)=p.contains i:=by
 induction p with
 | nil=>rfl
 | cons x l ih =>
  show (((i:Int)==(x:Int))||(nz l).contains (i:Int))=((i==x)||l.contains i);rw [ih];congr 1;rw [ZaW,beq_iff_eq,beq_iff_eq];omega
theorem q9 {α:Type} {l:List Oper} {i:Nat} {x:α}:ni l i (fun _:Nat->Value=>x):=fun _ _ _=>rfl
theorem HQ {N:Wn} {dm:Int} (h:N.Fu=dm):N.least dm []:=by
 refine ⟨N.oz,h,fun q _ _=>?_⟩;rcases Wn.Lp (N:=N) (show [] <+: q from List.nil_prefix) with e | e
 ·rw [<- e];exact N.lt_irrefl []
 ·cases hb:N.lt q [] with
  | false=>rfl
  | true=>have:=Wn.lt_trans e hb;rw [N.lt_irrefl] at this;cases this
set_option maxHeartbeats 4000000 in
theorem QJ {r:Ro} {s d t p:Value} (v:Int) (so de:ByteArray) {w:World} (h:RR w r s d t p) (hn:oT r) (hV:jP r r.po) (hd:D4 r) (rM:so∈cK r) (fO:de∈cy r) :
  bh T_ 175 [RA r s d t p,.q v,.string so,.string de] w [] (fun x:Bool×Wy×List Wy=>(x.1=true->(dJ r r.po v so).least (lo r de) x.2.1.p/\(x.2.1∈x.2.2\/x.2.1=⟨.z,[],0⟩))/\(x.1=false->∀ q,(dJ r r.po v so).ok q->(dJ r r.po v so).fin q≠lo r de)/\x.2.1.v.oneCell'=true)
   (fun x=>.tuple #[.agg x.2.1.cells.toArray,.bool x.1]) (fun x=>[jt x.2.2]):=by
 have h6:r.ti.length<=6:=by have:=hn.U8;unfold cR at this;rwa [Zd] at this
 obtain ⟨h1,h2,h3,h4⟩:=h.one;have hti:=h.ti;obtain ⟨a,cp,b,o',rfl,dy,bT,ha,hc⟩:=hti;have TN:=h.sr;obtain ⟨a2,pb,b2,o2,rfl,kq,eU,jB,kr⟩:=TN;have nA:=h.de;obtain ⟨a3,ur,b3,o3,rfl,nb,gC,se,o9⟩:=nA;rw [bQ] at *;rw [ct] at *;rw [bY] at *;unfold maxLen at bT eU gC;obtain ⟨i0,r7⟩:∃ i:Nat,bA (cK r) so=(i:Nat):=⟨(bA (cK r) so).toNat,by have:=dS rM;omega⟩;have E6:i0<r.sr.length:=by
  obtain ⟨hl,_⟩:=fB (l:=cK r) (s:=so) (by omega);rw [r7,ZL] at hl;unfold cK at hl;rwa [Zd] at hl
 obtain ⟨j0,uS⟩:∃ i:Nat,bA (cy r) de=(i:Nat):=⟨(bA (cy r) de).toNat,by have:=dS fO;omega⟩;have Dh:j0<r.de.length:=by
  obtain ⟨hl,_⟩:=fB (l:=cy r) (s:=de) (by omega);rw [uS,ZL] at hl;unfold cy at hl;rwa [Zd] at hl
 have Bm:oV r so=(r.sr[i0]).mx:=by unfold oV;rw [r7,ZL,Zk,Zc E6];rfl
 have Xl:lo r de=(r.de[j0]).mx:=by unfold lo;rw [uS,ZL,Zk,Zc Dh];rfl
 have hsrc:∀ w',aJ [] w w'->ak T_ 180 [.agg #[.q r.lv,.q r.ma,.slice a2 r.sr.length pb,.slice a3 r.de.length ur,.slice a r.ti.length cp,p],.string so] w' (.q (i0:Nat)):=fun w' hk=>r7 ▸ px so (h.keeps hk)
 have yG:∀ w',aJ [] w w'->ak T_ 155 [.agg #[.q r.lv,.q r.ma,.slice a2 r.sr.length pb,.slice a3 r.de.length ur,.slice a r.ti.length cp,p],.string de] w' (.q (j0:Nat)):=fun w' hk=>uS ▸ gL de (h.keeps hk)
 have qU:=jB (iK E6);have fE:=(kr i0 _ (fV E6)).2;unfold Sr.cells at fE;have Vl:=fE 1 _ I;have yH:=se (iy Dh);have pX:=(o9 j0 _ (fN Dh)).2;unfold De.cells at pX;have Bo:=pX 1 _ I;unfold RA;refine aR func175 I I ?_
 (refine Jr<|Jy I I fun _ _=>Jz I I fun _ _=>Ja I<|Jn<|Kk<|Jq ?_)
 rename_i b4 uT b8 Xu
 with_reducible refine cJ 18 (by kernel_rfl) ?_
 (refine lU I I ae<|ar (iB (.there .here)) I<|ar (cm (.there .here)) I<|fW I I<|dp bb I (fun w' aB=>(hsrc w' (Mem.keeps aB)))<|ar (an (.of I) (.of I) qU (by omega) (by omega) aW) I<|lU I I ae<|ar (ag (.of I) (At.base Vl I)) I<|lU I I ae<|ar (iB (.there .here)) I<|ar (cm (.there .here)) I<|fW I I<|dp bb I (fun w' aB=>(yG w' (Mem.keeps aB)))<|ar (an (.of I) (.of I) yH (by omega) (by omega) aW) I<|lU I I ae<|ar (ag (.of I) (At.base Bo I)) I<|ar (cC (.of I)) I<|ar (cC (.of I)) I ?_)
 with_reducible refine cN ?_
 rw [<- Bm,<- Xl]
 (refine Jn<|Jq<|Jr<|Jv I<|Jv I<|JC I<|Jn<|gG I (fun au=>?_) fun au=>?_;refine Jr<|ab (aU .nil ai) I<|ao (.of I) (.of I) .here I I (gO I I) (bu I) ai<|Ja I<|Jn<|Ju<|tC ?_;rotate_left;refine Jk<|Jr<|ab (cm (.there .here)) I<|Jv I<|Jv I ?_;rotate_right)
 ·refine y9 ?_
  first | with_reducible apply aO | with_reducible apply aQ
  case he=>exact um I inferInstance I (.there .here) ai (by rfl) (by rfl)
  case hR=>
   intro w' aB;exact aF (true,⟨.z,[],0⟩,[]) ⟨fun _=>⟨HQ (show kI r so=_ by rw [py rM];exact au),.inr I⟩,(fun e=>by cases e),I⟩ (by exact .h1 .nil) aB I
 refine JN eo I (fun w1 aT=>M6 (s:=.slice a2 r.sr.length pb) (d:=.slice a3 r.de.length ur) (t:=.slice a r.ti.length cp) (p:=p) v so (h.keeps aT.keeps) (by omega) rM) ?_;rintro ⟨wv,W⟩ hW;have hS:=qW.begin hn hV v (de:=de) rM h6 au hW;clear au;dsimp only [id_eq,Zb,Za];refine aK (E:=244) (sz:=2) (by exact .here) fun va vc e=>?_;subst e
 (refine Jz I I fun _ _=>ao (.of I) (.of I) .here I I (dG I) (bu I) ai<|Ji<|Jz I I fun _ _=>Ji<|Ja I<|Jn<|Jq<|Kn<|Jt<|Jq<|J0 ?_)
 rename_i M9 ace UU aii;refine Hl (E:=244) (sz:=2) bI ?_
 refine FT (ι:=Value×List Wy×List Wy) (fun x=>qW (dJ r r.po v so) (lo r de) x.2.1 x.2.2)
  (fun x=>[(14,.bool false),(13,.p UU),(12,.p M9),(11,.q (lo r de)),(8,.p b8),(4,.p b4),(1,.q v)])
  (fun x=>[bz M9 (.cells #[x.1] 329 (0,0)),lI 244 2 x.1 x.2.1.length (od x.2.1),jt x.2.2,bz UU (.cells #[.z,.q 0] 244 (0,0)),bz b8 (.cells #[.z,.q 0] 244 (0,0)),
   JP b4 r (.slice a2 r.sr.length pb) (.slice a3 r.de.length ur) (.slice a r.ti.length cp) p]) (fun x=>(dJ r r.po v so).wt (x.2.1.map Wy.p)) ?_ ?_
 ·apply y5 (.slice va W.length vc,W,W) hS
  case hs1=>exact bS
  case ht=>
   show bC _ [bz M9 (.cells #[.slice va W.length vc] 329 (0,0)),lI 244 2 (.slice va W.length vc) W.length (od W),jt W,bz UU (.cells #[.z,.q 0] 244 (0,0)),bz b8 (.cells #[.z,.q 0] 244 (0,0)),
    JP b4 r (.slice a2 r.sr.length pb) (.slice a3 r.de.length ur) (.slice a r.ti.length cp) p] _
   exact .cons bI (.h1 (.cons (.there .here) (.h3 .nil)))
 rintro ⟨wv,Q,lB⟩ hS D;dsimp only at hS ⊢;have hQl:=hS.len;refine y7 (by exact Take.there .here) fun qa qc e Vk WR=>?_;subst e;by_cases Y6:Q.length=0
 ·have L6:Q=[]:=Z6 Y6;subst L6
  (refine Jq<|Jr<|JL I .here I<|JI I<|JE I<|Jn<|Jc I fun au=>Jp<|Jl<|Jo<|Jt<|Jr<|ab (cm cZ) I<|Jv I<|ao (.of I) (.of I) dL I I (gO I I) (bu I) ai<|Ja I<|Jn<|Je<|tC ?_)
  first | with_reducible apply aO | with_reducible apply aQ
  case he=>exact um I inferInstance I .here ai (by rfl) (by rfl)
  case hR=>
   intro w' aB;exact aF (false,⟨.z,[],0⟩,lB) ⟨(fun e=>by cases e),(fun _=>Wn.LG hS.inv),I⟩ (by exact .cons cZ .nil) aB I
 ·refine Jq<|Jr<|JL I .here I<|JI I<|JE I<|Jn<|Jd I fun au=>Jk<|J0<|Jr<|JL I .here I ?_
  with_reducible apply gq (As:=[lI 244 2 (.slice qa Q.length qc) Q.length (od Q),jt lB])
  case hr=>exact bb
  case hd=>rfl
  case ht=>exact iQ
  case hc=>
   intro w1 Bv aT u7 hs1 Dr _;exact Kz u7 hs1 I hS.sub (by omega) hS.one
  rintro Q' ⟨iH,WI⟩;have XC:Q'.length=Q.length:=iH.length_eq
  replace hS:=hS.perm iH
  dsimp only [id_eq,Zb,Za];have hwt:=Wn.FE (N:=dJ r r.po v so) (iH.map Wy.p);rw [<- XC] at Y6 hQl Vk ⊢;clear iH;cases Q' with
  | nil=>exact absurd rfl Y6
  | cons x R =>
   clear Y6 XC;obtain ⟨xv,xp,xf⟩:=x;have YG:=hS.sub ⟨xv,xp,xf⟩ (by simp);have YI:xv.oneCell'=true:=hS.one ⟨xv,xp,xf⟩ YG;have uO:(dJ r r.po v so).ok xp/\xp≠[]:=hS.inv.ok xp (by simp);have hwx:od (⟨xv,xp,xf⟩::R)=[xv,.int .i64 (xf:Nat)]++od R:=rfl;have hlR:((⟨xv,xp,xf⟩:Wy)::R).length=R.length+1:=rfl;rw [hlR] at Vk hQl;rw [hlR,hwx];refine Ji<|JL I bI I ?_;refine Ci (by exact .here) (Nat.succ_pos _) fun g off iz pre cur e kL kS aT hfit hlen=>?_;cases e;have c0:eH (pre++([xv,.int .i64 (xf:Nat)]++od R)++cur) (off+0*2) 2=[xv,.int .i64 (xf:Nat)]:=by
    rw [ka,Zh,Zbs,Zaz,<- kL,List.drop_left];rfl
   (refine ab (an (.of I) (.of I) I (by omega) (by omega) aW) I<|ab (bK (.of I) .here c0 I) I<|Jz I I fun _ _=>ao (.of I) (.of I) .here I I (gO YI I) (bu I) ai<|Ji<|JL I cZ I<|ab (rA (.of I) (.of I) (by omega) (by omega)) I<|ao (.of I) (.of I) cZ I I (dG I) (bu I) ai<|Jn<|Jq ?_)
   rename_i UT acd;refine Ch (n:=R.length+1) (sz:=2) (cap:=qc) bI kL kS aT hfit hlen ?_;refine Cg (by exact .here) ?_;rw [show ([xv,.q (xf:Nat)]++od R).drop 2=od R from I];refine vU YG cZ fun oZ Ul=>?_;have Py:0<xp.length:=List.length_pos_iff.2 uO.2;have YE:xp.length<=r.ti.length:=Wn.rG uO.1;have hxf:xf<=6:=by
    have h0:xf=(dJ r r.po v so).sV xp:=hS.sV ⟨xv,xp,xf⟩ (by simp);have:=List.countP_le_length (p:=(dJ r r.po v so).fe) (l:=xp);unfold Wn.sV at h0;omega
   refine dA (by exact Take.there .here) Py fun g2 db acM e Uk abp tV E5=>?_;cases e;obtain ⟨l,hl⟩:∃ l,xp[xp.length-1]=l:=⟨_,rfl⟩;have PH:l<r.ti.length:=Wn.sL uO.1 l (hl ▸ Zj _);have c1:(gV xp++acM)[((xp.length:Int)-1).toNat*1]? = some (.int .i64 (l:Nat)):=by
    rw [show ((xp.length:Int)-1).toNat=xp.length-1 by omega,CY (by omega),hl]
   have Up:=ha (fm PH);have jK:=(hc l _ (ef PH)).2;unfold Ti.cells at jK;have ab6:=jK 2 _ I;have mf:(dJ r r.po v so).fin xp=(r.ti[l]).to:=by
    unfold Wn.fin;rw [List.getLast?_eq_getElem?,Zc (by omega),hl];show (ig r l).to=_;rw [om PH]
   with_reducible refine cJ 14 (by kernel_rfl) ?_
   (refine lU I I ae ?_;refine ar (iB oL) I ?_;refine lU I I ae ?_;refine ar (iB dL) I ?_;refine lU I I ae ?_;refine ar (iB dL) I ?_;refine ar (cq (.of I)) I ?_;refine ar (tK (.of I) (.of I) (Tx (by omega))) I ?_;refine ar (an (.of I) (.of I) I (by omega) (by omega) aW) I ?_;refine ar (ag (.of I) (At.mJ .here c1)) I ?_;refine ar (an (.of I) (.of I) Up (by omega) (by omega) aW) I ?_;refine lU I I ae ?_;refine ar (ag (.of I) (At.base ab6 I)) I ?_;refine ar (cC (.of I)) I ?_)
   with_reducible refine cN ?_
   rw [<- mf];refine dC (by exact .here) Uk abp tV E5 ?_;refine qq (W:=oZ) ⟨.w g2 xp.length db,xp,xf⟩ (n:=xp.length) (x:=gV xp) (by exact Take.there .here) (by exact .here) I I ?_;have Xt:∀ y,y∈oZ++[(⟨.w g2 xp.length db,xp,xf⟩:Wy)]↔y∈lB:=fun y=>by rw [Ul,ZB,ZG];exact Or.comm
   generalize oZ++[(⟨.w g2 xp.length db,xp,xf⟩:Wy)]=US at Xt ⊢
   (refine Jn<|Jq<|Jr<|Jv I<|Jv I<|JC I<|Jn<|gG I (fun au=>?_) fun au=>?_;refine Jr<|ab (cm cZ) I<|ao (.of I) (.of I) dL I I (gO I I) (bu I) ai<|Ja I<|Jn<|Jp<|vT I<|Jl<|Jo<|Jt<|Jr<|ab (cm .here) I<|Jv I<|ao (.of I) (.of I) eD I I (gO I I) (bu I) ai<|Ja I<|Jn<|Je<|tC ?_;rotate_left;refine Jk<|Jr<|ab (cm mN) I<|Jv I<|Jv I ?_;rotate_right)
   ·first | with_reducible apply aO | with_reducible apply aQ
    case he=>exact um I inferInstance I .here ai (by rfl) (by rfl)
    case hR=>
     intro w' aB;exact aF (true,⟨.w g2 xp.length db,xp,xf⟩,US) ⟨(fun _=>⟨qW.found hS WI au,.inl ((Xt _).2 YG)⟩),(fun e=>by cases e),I⟩ (by exact .cons bI .nil) aB I
   with_reducible apply jZ
   case hr=>exact eo
   case hd=>rfl
   case ht=>exact bC.nil
   case hc=>
    intro w1 fp aT _ hs1;obtain rfl:fp=[]:=hs1;exact tT (s:=.slice a2 r.sr.length pb) (d:=.slice a3 r.de.length ur) (t:=.slice a r.ti.length cp) (p:=p) v ((dJ r r.po v so).fin xp) (h.keeps aT.keeps)
   intro y _;dsimp only [id_eq,Zb,Za];have tz:(fX r v ((dJ r r.po v so).fin xp) r.ti.length).length<=r.ti.length:=by
    have:=ZY (Ds r v ((dJ r r.po v so).fin xp)) (List.range r.ti.length);rw [ZaF] at this;exact this
   refine Jn<|J0 ?_
   refine kb (ps:=[73,74]) (f:=240) (first:=[]) (cap:=[.pointer (some ⟨y.1,0,none⟩),.pointer (some ⟨y.2.1,0,none⟩),.pointer (some ⟨y.2.2,0,none⟩)]) (ι:=Value×List Wy×List Wy) (κ:=Empty)
    (rst:=[bz UU (.cells #[.z,.q 0] 244 (0,0)),bz b8 (.cells #[.z,.q 0] 244 (0,0)),JP b4 r (.slice a2 r.sr.length pb) (.slice a3 r.de.length ur) (.slice a r.ti.length cp) p]) ?hg
    [JP y.1 r (.slice a2 r.sr.length pb) (.slice a3 r.de.length ur) (.slice a r.ti.length cp) p,bz y.2.1 (.cells #[.q ((dJ r r.po v so).fin xp)] 3 (0,0)),bz y.2.2 (.cells #[.q v] 3 (0,0))] (Ny r v ((dJ r r.po v so).fin xp)) ?hit
    (fun k x=>x.2.1.map wk=(((fX r v ((dJ r r.po v so).fin xp) r.ti.length).take k).filter fun i=>!xp.contains i).map (fun i=>(xf+1,xp++[i]))/\(∀ z∈R++x.2.1,z∈x.2.2)/\(∀ z∈x.2.2,z.v.oneCell'=true)/\(⟨.w g2 xp.length db,xp,xf⟩:Wy)∈x.2.2)
    (fun x=>[bz M9 (.cells #[x.1] 329 (0,0)),lI 244 2 x.1 (R.length+x.2.1.length) (od (R++x.2.1)),jt x.2.2,bz UT (.cells #[.w g2 xp.length db,.q (xf:Nat)] 244 (0,0))])
    (fun _=>False) (fun _=>[]) (fun _=>.ret) (Go.sliced (some ⟨g,off,none⟩) 1 (R.length+1) qc 2,[],US) ⟨I,(fun z hz=>(Xt z).2 (hS.sub z (by rw [ZN] at hz;exact ZP _ hz))),(fun z hz=>hS.one z ((Xt z).1 hz)),(Xt _).2 YG⟩ ?ht ?hlen ?hps ?round ?kn ?kj
   case hg=>exact Is.of I
   case hit=>intro w' aB;exact Lo v _ h RO.nil (by omega)
   case ht=>
    show bC _ [bz M9 (.cells #[Go.sliced (some ⟨g,off,none⟩) 1 (R.length+1) qc 2] 329 (0,0)),lI 244 2 (Go.sliced (some ⟨g,off,none⟩) 1 (R.length+1) qc 2) R.length (od (R++[])),jt US,bz UT (.cells #[.w g2 xp.length db,.q (xf:Nat)] 244 (0,0)),
     JP y.1 r (.slice a2 r.sr.length pb) (.slice a3 r.de.length ur) (.slice a r.ti.length cp) p,bz y.2.1 (.cells #[.q ((dJ r r.po v so).fin xp)] 3 (0,0)),bz y.2.2 (.cells #[.q v] 3 (0,0))] _
    rw [ZN];exact .cons eD (.cons dL (.cons cZ (.cons cZ (.h3 .nil))))
   case hlen=>intro vs pQ;obtain ⟨x,_,rfl⟩:=Zy.1 pQ;rfl
   case hps=>intro t ht;simp only [ZT,Zp,or_false] at ht;rcases ht with rfl | rfl <;> exact ZaD rfl
   case kj=>intro y;cases y
   case kn=>
    rintro ⟨Sh,W,DK⟩ D2 ⟨hW,jI,gi,EV⟩;dsimp only [Zb,Za] at hW jI gi EV ⊢;rw [vC,ZO] at hW;obtain ⟨Y5,fU⟩:=qW.next hS au jI gi hW;refine Jj<|Jj<|Jt ?_;apply Ck (Sh,R++W,DK) Y5 (by rw [<- hwt];exact fU)
    case hs1=>exact bS
    case ht=>
     show bC _ [bz M9 (.cells #[Sh] 329 (0,0)),lI 244 2 Sh (R++W).length (od (R++W)),jt DK,bz UU (.cells #[.z,.q 0] 244 (0,0)),bz b8 (.cells #[.z,.q 0] 244 (0,0)),
      JP b4 r (.slice a2 r.sr.length pb) (.slice a3 r.de.length ur) (.slice a r.ti.length cp) p] _
     rw [Zg];exact .h3 (.cons dL (.cons dL (.cons dL .nil)))
   case round=>
    rintro l2 rc W2 XR k ⟨Sh,W,DK⟩ vs hsz hk ⟨hW,jI,gi,EV⟩ hB hF;dsimp only at hW jI gi EV;obtain ⟨i,hi,rfl,iw,Uc⟩:=EP hk;obtain ⟨mW,Mf⟩:=Zl.1 hi;have htk:(fX r v ((dJ r r.po v so).fin xp) r.ti.length).take (k+1)=(fX r v ((dJ r r.po v so).fin xp) r.ti.length).take k++[i]:=by rw [Zm mW,Mf]
    have NL:(od (R++W)).length=(R.length+W.length)*2:=by rw [qn,Zg]
    have hWk:W.length<=6:=by
     have:=congrArg List.length hW;rw [Zd,Zd] at this;rw [this];refine ZS (ZY _ _) ?_;rw [Zq];omega
    dsimp only [Ti.cells,List.zip_cons_cons,List.zip_nil_right,ns,Zb,Za];refine Jg<|Ja I<|Jn ?_
    with_reducible apply nJ
    case ht=>exact .here
    (refine J0<|Jr<|bG I I ae<|JL I dL I<|Jv I ?_)
    refine aj bb I (fun w' aB=>mr (l:=nz xp) (i:Nat) (Fs aB cZ EV)) ?_;rw [CW];cases H6:xp.contains i with
    | true =>
     have yg:((fX r v ((dJ r r.po v so).fin xp) r.ti.length).take (k+1)).filter (fun i=>!xp.contains i)=((fX r v ((dJ r r.po v so).fin xp) r.ti.length).take k).filter (fun i=>!xp.contains i):=by
      rw [htk,ZaP];simp only [List.filter_cons,H6,List.filter_nil];simp
     (refine JH I<|Jn<|bZ (.of I)<|Jw<|Jj ?_)
     apply mO (Sh,W,DK)
     case ht=>exact .here
     case hx=>exact ⟨by rw [yg];exact hW,jI,gi,EV⟩
     case h2=>exact .h4 .nil
    | false =>
     have yg:((fX r v ((dJ r r.po v so).fin xp) r.ti.length).take (k+1)).filter (fun i=>!xp.contains i)=((fX r v ((dJ r r.po v so).fin xp) r.ti.length).take k).filter (fun i=>!xp.contains i)++[i]:=by
      rw [htk,ZaP];simp only [List.filter_cons,H6,List.filter_nil];simp
     refine JH I<|Jn<|cY (.of I) ?_;have qT:(nz xp).length=xp.length:=tQ xp;have W3:(nz xp).map (Value.int .i64)=gV xp:=by unfold nz gV;rw [ZaI];rfl
     with_reducible refine KR.vS 12 (iC [(3,6)]) (by kernel_rfl) ?_
     refine KR.ju (fun β=>(ag (.of I) (At.lit (.there .here) I))) q9 I I ?_;refine KR.ju (fun β=>(aq (.of I) ae)) q9 I I ?_;refine KR.ju (fun β=>(ag (.of I) (At.lit dL I))) q9 I I ?_;dsimp only [Nat.zero_add,Nat.reduceAdd]
     with_reducible apply KR.Nn (ι:=Value) (Φ:=fun _=>True) (val:=id) (own:=fun v=>[row 3 1 v xp.length (gV xp)]) (g:=id) (B:=[]) (args:=fun _=>[.w g2 xp.length db])
     case hg=>exact fun x=>⟨x,I⟩
     case hB=>rfl
     case hr=>exact fun β=>bj (.of I) (.o I .nil) inferInstance I
     case hd=>rfl
     case hn=>rfl
     case hc=>
      intro β w' hb;have:=Qo (l:=nz xp) (Fs hb.mem cZ EV) (by rw [tQ];omega);rwa [qT,W3] at this
     dsimp only [id_eq,Nat.reduceAdd];refine KR.ju (fun β=>(aS (.of I))) q9 I I ?_;refine KR.tq (fun β=>(aD (.o I .nil) I I I I)) (fun _ _ _=>rfl) I I ?_;dsimp only [Nat.reduceAdd]
     with_reducible apply KR.Fx (jx:=3) (n0:=xp.length) (xs:=gV xp) (news:=[[.q (i:Nat)]]) (Vx:=fun β=>β 3) (Vy:=fun β=>.slice (some ⟨ed (β 5),0,none⟩) 1 1) (Ax:=fun β=>[row 3 1 (β 3) xp.length (gV xp)]) (B:=[5])
     case hB=>kernel_rfl
     case hS=>rfl
     case hrow=>exact fun β w' fp ⟨f1,f2,e,h,h0⟩=>by obtain rfl:f2=[]:=h0;rw [e,ZN];exact h
     case htk=>exact qv I I
     case hti=>rfl
     case h0=>rfl
     case hwx=>kernel_rfl
     case hx=>exact fun β=>.of I
     case hy=>exact fun β=>.of I
     case hsrc=>
      intro β w' hb;have m6:=hb.at 5 (by simp) (s:=⟨fun β=>.slice (some ⟨ed (β 5),0,none⟩) 1 1,fun β=>[bz (ed (β 5)) (.cells #[.q (i:Nat)] 3 (0,0))]⟩) (by kernel_rfl)
      dsimp only [Zb,Za] at m6;exact Mem.dH m6 (by exact .here) I I
     case h1=>
      intro r hr u hu;simp only [ZG] at hr;subst hr;simp only [ZG] at hu;subst hu;rfl
     case hz=>rfl
     case hsz=>rfl
     case hb0=>rfl
     case hb=>simp only [Z8];omega
     case hd=>rfl
     case hne=>simp
     rw [show ([[Value.int .i64 (i:Nat)]]:List (List Value)).flatten=[.q (i:Nat)] from I,show ([[Value.int .i64 (i:Nat)]]:List (List Value)).length=1 from I];dsimp only [Nat.reduceAdd];refine KR.ju (fun β=>(aq (.of I) ae)) q9 I I ?_;refine KR.ju (fun β=>(ag (.of I) (At.lit dL I))) q9 I I ?_;refine KR.ju (fun β=>(KO (.of I) (.of I) (Tx (by omega)))) q9 I I ?_
     with_reducible apply KR.ju (F:=fun β=>.agg #[.slice (yi (β 6)).1 (xp.length+1) (yi (β 6)).2,.q ((xf:Nat)+1)])
     case hr=>(intro β;exact aU (.o I (.o I .nil)) ai)
     case hi=>exact fun β β' h=>by simp only [h 6 (by kernel_rfl)]
     case hd=>rfl
     case hn=>rfl
     dsimp only [Nat.reduceAdd]
     with_reducible apply KR.tq (V:=fun b=>.w b 1 1) (ob:=fun β=>.cells #[.slice (yi (β 6)).1 (xp.length+1) (yi (β 6)).2,.q ((xf:Nat)+1)] 244 (0,0))
     case hr=>(intro β;exact ba (.o I .nil) I I bB bB ai)
     case hi=>exact fun β β' h=>by simp only [h 6 (by decide) (by kernel_rfl)]
     case hd=>rfl
     case hn=>rfl
     dsimp only [Nat.reduceAdd];refine KR.Fw fun β=>?_
     change Tr _ _ _ [bz (ed (β 5)) (.cells #[.q (i:Nat)] 3 (0,0)),row 3 1 (.slice (yi (β 6)).1 (xp.length+1) (yi (β 6)).2) (xp.length+1) (gV xp++[.q (i:Nat)]),bz (ed (β 11)) (.cells #[.slice (yi (β 6)).1 (xp.length+1) (yi (β 6)).2,.q ((xf:Nat)+1)] 244 (0,0)),
      bz l2 (gU rc .busy none),bz M9 (.cells #[Sh] 329 (0,0)),lI 244 2 Sh (R.length+W.length) (od (R++W)),jt DK,bz UT (.cells #[.w g2 xp.length db,.q (xf:Nat)] 244 (0,0))] _
     generalize ed (β 5)=b5;generalize ed (β 11)=R3;generalize (yi (β 6)).1=ea;generalize (yi (β 6)).2=ec;refine uI (rs:=[12]) (by kernel_rfl) (by simp) (Zw.2 ⟨?_,fun _ h=>absurd h Zp⟩);refine wI I ?_
     with_reducible apply Ef
     case hx=>exact Is.of I
     case hy=>exact Is.of I
     case ht=>exact eD
     case hn=>exact eR.bz bI (show eH [.slice ea (xp.length+1) ec,.q ((xf:Nat)+1)] 0 2=[.slice ea (xp.length+1) ec,.q ((xf:Nat)+1)] from I)
     case hl=>rfl
     case h1=>exact bO I (dG I)
     case hz=>exact I
     case hsz=>exact I
     case hb0=>exact I
     case hb=>omega
     case hd=>rfl
     intro v';refine y7 (by exact .here) fun a' iz e B0 rb=>?_;subst e;refine Jn ?_;refine uI (rs:=[13]) (by kernel_rfl) (by simp) (Zw.2 ⟨?_,fun _ h=>absurd h Zp⟩);refine wI I ?_
     (refine ao (.of I) (.of I) eD I I (dG I) (bu I) ai<|Jn ?_)
     with_reducible refine ER (by kernel_rfl) ?_
     refine qZ ?_;refine qq (W:=DK) ⟨.slice ea (xp.length+1) ec,xp++[i],xf+1⟩ (n:=xp.length+1) (x:=gV xp++[.q (i:Nat)]) mN cZ (by simp) (by unfold gV;rw [Zt];rfl) ?_;have TE:od (R++(W++[⟨.slice ea (xp.length+1) ec,xp++[i],xf+1⟩]))=od (R++W)++[.slice ea (xp.length+1) ec,.q ((xf:Nat)+1)]:=by rw [<- Zh];exact Aj (R++W) _
     have Ww:R.length+(W++[(⟨.slice ea (xp.length+1) ec,xp++[i],xf+1⟩:Wy)]).length=R.length+W.length+1:=by simp [Nat.add_assoc]
     apply mO (.slice a' (R.length+W.length+1) iz,W++[⟨.slice ea (xp.length+1) ec,xp++[i],xf+1⟩],DK++[⟨.slice ea (xp.length+1) ec,xp++[i],xf+1⟩])
     case ht=>exact eD
     case hx=>
      refine ⟨?_,?_,?_,?_⟩
      ·rw [yg,Zt,Zt,hW];rfl
      ·intro z hz;rw [<- Zh] at hz;rcases ZB.1 hz with hz | hz
       ·exact ZJ _ (jI z hz)
       ·exact ZW _ hz
      ·intro z hz;rcases ZB.1 hz with hz | hz
       ·exact gi z hz
       ·rw [ZG.1 hz];rfl
      ·exact ZJ _ EV
     case h2=>
      show bC _ [bz M9 (.cells #[.slice a' (R.length+W.length+1) iz] 329 (0,0)),lI 244 2 (.slice a' (R.length+W.length+1) iz) (R.length+(W++[(⟨.slice ea (xp.length+1) ec,xp++[i],xf+1⟩:Wy)]).length) (od (R++(W++[⟨.slice ea (xp.length+1) ec,xp++[i],xf+1⟩]))),jt (DK++[⟨.slice ea (xp.length+1) ec,xp++[i],xf+1⟩]),bz UT (.cells #[.w g2 xp.length db,.q (xf:Nat)] 244 (0,0))] _;rw [Ww,TE];exact .cons (.there .here) (.cons (.there .here) (.h1 (.cons bI .nil)))
def lp (r:Ro) (v:Int) (so de:ByteArray):Option (List Nat):=match (dJ r r.po v so).all (lo r de) ((dJ r r.po v so).n+1) [] with
 | []=>none
 | a::l=>some (kA (dJ r r.po v so).lt a l)
theorem yV {r:Ro} (h:(dJ r r.po v so).least (lo r de) p):lp r v so de=some p:=by
 unfold lp;split
 ·rename_i e;exact absurd h.2.1 (Wn.all_none e p h.1)
 ·rename_i a l e;rw [Wn.ES (Wn.UP e) h]
theorem yW {r:Ro} (h:∀ q,(dJ r r.po v so).ok q->(dJ r r.po v so).fin q≠lo r de):lp r v so de=none:=by
 unfold lp;split
 ·rfl
 ·rename_i a l e;have:=Wn.UP e;exact absurd this.2.1 (h _ this.1)
theorem N1 {r:Ro} (h:(dJ r r.po v so).least (lo r de) p):∀ i∈p,i<r.ti.length:=Wn.sL h.1
def rq (r:Ro) (v:Int) (so de:ByteArray):Int:=aZ [fZ r,Gs r v,SJ r so,rm r de]
theorem VH {n:Int} (h0:0<=n) (h1:n<9223372036854775808):IntKind.i64.wrap n=n:=by simp [IntKind.wrap,IntKind.bits,IntKind.signed];omega
theorem Am {r:Ro} (h:rq r v so de=0):sg r/\(0<=v/\v<r.lv)/\so∈cK r/\de∈cy r:=by
 unfold rq at h;rw [cI] at h;have h1:=BY (h _ Zs);have h2:=h (Gs r v) (by simp);have h3:=(bW (by decide)).1 (h (SJ r so) (by simp));have h4:=(bW (by decide)).1 (h (rm r de) (by simp));have hl:=h1.lim;unfold Gs at h2;rw [VH (by omega) (by omega),jj] at h2;rw [decide_eq_false_iff_not,cM,Classical.not_not] at h3 h4;exact ⟨h1,by omega,h3,h4⟩
theorem rS {r:Ro} {s d t p:Value} (v:Int) (so de:ByteArray) {w:World} (h:RR w r s d t p) (c8:og r):ak T_ 151 [RA r s d t p,.q v,.string so,.string de] w (.q (rq r v so de)):=by
 obtain ⟨h1,h2,h3,h4⟩:=h.one;have gD:∀ w',aJ [] w w'->ak T_ 34 [.agg #[.int .i64 r.lv,.int .i64 r.ma,s,d,t,p]] w' (.int .i64 (fZ r)):=fun w' hk=>fj (h.keeps hk) c8
 have hle:∀ w',aJ [] w w'->ak T_ 114 [.agg #[.q r.lv,.q r.ma,s,d,t,p],.q v] w' (.q (Gs r v)):=fun w' hk=>lS v (h.keeps hk)
 have Bk:∀ w',aJ [] w w'->ak T_ 122 [.agg #[.q r.lv,.q r.ma,s,d,t,p],.string so] w' (.q (SJ r so)):=fun w' hk=>rn so (h.keeps hk)
 have nA:∀ w',aJ [] w w'->ak T_ 112 [.agg #[.q r.lv,.q r.ma,s,d,t,p],.string de] w' (.q (rm r de)):=fun w' hk=>eZ de (h.keeps hk)
 unfold RA;refine ah func151 I I ?_;refine Jr<|Jy I I fun _ _=>Ja I<|Jn<|Jq ?_
 with_reducible refine di 12 (by kernel_rfl) ?_
 (refine az (cm .here) I<|aY bN I (fun w' aB=>(gD w' (Mem.keeps aB)))<|az (cm .here) I<|az mB I<|aY bb I (fun w' aB=>(hle w' (Mem.keeps aB)))<|az (cm .here) I<|az mB I<|aY bb I (fun w' aB=>(Bk w' (Mem.keeps aB)))<|az (cm .here) I<|az mB I<|aY bb I (fun w' aB=>(nA w' (Mem.keeps aB)))<|eN (aD (.o I (.o I (.o I (.o I .nil)))) I I I I) I I ?_)
 with_reducible refine dN I fun bq nf=>?_
 (refine aj bN I (fun w' aB=>(ee (Mem.dH aB .here I I) (cg.cons (cg.cons (cg.cons (cg.cons cg.nil))))))<|Ja I<|Jn<|Je<|JT ?_)
 rfl
theorem Tp {lv:Value} {l:List Nat} {g:Nat->ByteArray} {f:FuncId} {first cap:List Value} [bV T_ f] {w:World} (h:Rd w lv 1 (ints (nz l))) (hn:l.length<=1000000)
  (cF:∀ i∈l,∀ w',aJ [] w w'->ak T_ f (first++[.q (i:Nat)]++cap) w' (.string (g i))) :
  bh T_ 176 [lv,.func (.func f) first.toArray cap.toArray] w [] (fun _:Value=>True) id (fun v=>[row 9 1 v l.length (aP (l.map g))]):=by
 obtain ⟨a,cp,b,o,rfl,dy,bT,ha,hc⟩:=h;rw [dz,tQ] at *;unfold maxLen at bT;refine aR func176 I I ?_;refine Jr<|Ja I<|Ji<|Ja I<|Jn<|Jq<|Jr<|Jv I<|JI I<|Jv I<|Jn<|J0 ?_;refine aN 9 1 ?_;refine aV (ι:=Nat×Value) (fun x=>x.1<=l.length) (fun x=>[(10,.int .i64 x.1),(9,.int .i64 l.length),(8,.slice a l.length cp),(5,x.2),(1,.func (.func f) first.toArray cap.toArray)]) (fun x=>[row 9 1 x.2 x.1 (aP ((l.take x.1).map g))]) (fun x=>l.length-x.1) ?_ ?_
 ·apply aI (0,.z) (Zi _)
  case hs1=>exact bS
  case ht=>
   exact .h1 .nil
 rintro ⟨k,v⟩ hk;dsimp only at hk ⊢;by_cases aM:k<l.length
 ·have hlz:k<(nz l).length:=by rw [tQ];exact aM
  have cu:=ha (kp hlz);have hgz:(nz l)[k]=((l[k]:Nat):Int):=by simp [nz]
  have c0:w.cell? ⟨b,o+k*1,none⟩=some (.q (l[k]:Nat)):=by rw [<- hgz];exact (hc k _ (jd hlz)).2 0 _ I
  have jK:=cF _ (Zj aM);have LQ:aP ((l.take (k+1)).map g)=aP ((l.take k).map g)++[.string (g l[k])]:=by
   rw [Zm aM,Zt,eT];rfl
  have mW:(aP ((l.take k).map g)).length=k*1:=by rw [c6,Zd,ZaT (by omega),Zav]
  generalize g l[k]=gk at jK LQ
  (refine Jr<|JA I<|Jn<|Jq<|Jd I fun au=>Jk<|Jq<|J0<|Jr<|ab (fY cu au) I<|ab (ag (.of I) (At.base c0 I)) I<|Ja I<|Jn<|Jg<|Jv I<|Jv I<|Jv I ?_)
  refine aj bN I (fun w' aB=>(jK w' (Mem.keeps aB))) ?_;refine a8 (aD (.o I .nil) I I I I) I (fun _ _=>?_);refine bn (.of I) (.of I) (.there .here) .here ai (by rfl) (dG I) (by rfl) (by rfl) (by rfl) dW (by rfl) ?_;intro v';refine Ja I<|Jx<|Jj<|Jt<|Jg<|JB I (by omega)<|Jv I<|Jn ?_;apply aG (k+1,v') (by show k+1<=l.length;omega) (by show l.length-(k+1)<l.length-k;omega)
  case hs1=>exact bS
  case ht=>
   show bC _ [row 9 1 v' (k+1) (aP ((l.take (k+1)).map g))] _;rw [LQ];exact .h1 .nil
 ·obtain rfl:k=l.length:=by omega
  rw [ZO];refine Jr<|JA I<|Jn<|Jq<|Jc I fun au=>Jp<|Jl<|Jo<|Jt<|Jr<|Jv I<|Ja I<|Jn<|Je ?_
  first | with_reducible apply aO | with_reducible apply aQ
  case he=>exact dI I I
  case hR=>
   intro w' aB;exact aF v trivial (by exact .h1 .nil) aB I
theorem Sm {r:Ro} {s d t p:Value} (i:Nat) (hi:i<r.ti.length) {b1:Nat} {w:World} (h:RR w r s d t p) (hA:BR w b1 (RC r s d t p)) :
  ak T_ 177 [.q (i:Nat),.p b1] w (.string (dw r i)):=by
 have tx:dw r i=(r.ti[i]).nm:=by unfold dw;rw [om hi]
 have hti:=h.ti;obtain ⟨a,cp,b,o',rfl,dy,bT,ha,hc⟩:=hti;rw [bQ] at *;have cu:=ha (fm hi);have aC:=(hc i _ (ef hi)).2;unfold Ti.cells at aC;have c0:=aC 0 _ I;have c4:w.cell? ⟨b1,4,none⟩=some (.slice a r.ti.length cp):=hA 4 _ I;rw [tx];refine ah func177 I I ?_
 (refine Jr<|Ja I<|Ji<|bG I I ae<|ab (ag (.of I) (At.base c4 I)) I<|Jv I<|ab (an (.of I) (.of I) cu (by omega) (by omega) aW) I<|bG I I ae<|ab (ag (.of I) (At.base c0 I)) I<|Ja I<|Jn<|Je<|JT ?_)
 rfl
def Ha (r:Ro) (v:Int) (so de:ByteArray):Int:=if rq r v so de≠0 then rq r v so de else if (lp r v so de).isNone then 18 else 0
def Ea (r:Ro) (v:Int) (so de:ByteArray):List ByteArray:=if rq r v so de≠0 then [] else ((lp r v so de).getD []).map (dw r)
theorem Yj {r:Ro} {s d t p:Value} (v:Int) (so de:ByteArray) {w:World} (h:RR w r s d t p) (c8:og r):bh T_ 70 [RA r s d t p,.q v,.string so,.string de] w [] (fun _:Value=>True) (fun x=>.tuple #[x,.q (Ha r v so de)]) (fun x=>[row 9 1 x (Ea r v so de).length (aP (Ea r v so de))]):=by
 obtain ⟨h1,h2,h3,h4⟩:=h.one;unfold RA;refine aR func70 I I ?_
 (refine Jr<|Jy I I fun _ _=>Ja I<|Ja I<|Jn<|Jq<|Jr<|ab (cm .here) I<|Jv I<|Jv I<|Jv I ?_)
 rename_i b4 uT;refine aj rZ I (fun w' aB=>rS (s:=s) (d:=d) (t:=t) (p:=p) v so de (h.keeps aB.keeps) c8) ?_
 (refine Ja I<|Ji<|Jv I<|JD I<|Jn<|gG I (fun au=>?_) fun au=>?_;refine Jr<|Jv I<|Ja I<|Ja I<|Jn<|Ju ?_;rotate_left;refine Jk<|Jr<|ab (cm .here) I<|Jv I<|Jv I<|Jv I ?_;rotate_right)
 ·have e1:Ea r v so de=[]:=if_pos au;have e2:Ha r v so de=rq r v so de:=if_pos au;rw [e1,e2];refine aN 9 1 ?_
  first | with_reducible apply aO | with_reducible apply aQ
  case he=>exact gF I I I
  case hR=>
   intro w' aB;exact aF (.z) trivial (by exact .h1 .nil) aB I
 have e0:rq r v so de=0:=Zo.1 au;obtain ⟨dU,hv,rM,fO⟩:=Am e0;have e1:Ea r v so de=((lp r v so de).getD []).map (dw r):=if_neg au;have e2:Ha r v so de=if (lp r v so de).isNone then 18 else 0:=if_neg au
 clear au;rw [e1,e2];refine JN rZ I (fun w1 aT=>QJ (s:=s) (d:=d) (t:=t) (p:=p) v so de (h.keeps aT.keeps) dU.wJ dU.val dU.RU rM fO) ?_;rintro ⟨fnd,⟨xv,xp,xf⟩,lB⟩ ⟨YI,YH,Wv⟩;dsimp only [Wy.cells] at YI YH Wv ⊢;dsimp only [id_eq,Zb,Za];cases fnd with
 | false =>
  rw [yW (YH I)]
  (refine Jv I<|JJ I I<|JJ I I<|Jz I I fun _ _=>ao (.of I) (.of I) .here I I (gO Wv I) (bu I) ai<|Ja I<|Jn<|Jq<|Jr<|Jv I<|JH I<|Jn<|cY (.of I)<|Jr<|Ja I<|Ja I<|Jn<|Ju ?_)
  refine aN 9 1 ?_
  first | with_reducible apply aO | with_reducible apply aQ
  case he=>exact gF I I I
  case hR=>
   intro w' aB;exact aF (.z) trivial (by exact .h1 .nil) aB I
 | true =>
  obtain ⟨hl,mY⟩:=YI rfl;rw [yV hl];have hrw:(((some xp).getD []:List Nat).map (dw r)).length=xp.length:=by simp
  rw [hrw];have aM:=N1 hl;have adq:xp.length<=6:=ZS (Wn.rG hl.1) dU.len.2.2
  (refine Jv I<|JJ I I<|JJ I I<|Jz I I fun _ _=>ao (.of I) (.of I) .here I I (gO Wv I) (bu I) ai<|Ja I<|Jn<|Jq<|Jr<|Jv I<|JH I<|Jn<|bZ (.of I)<|Jk<|Jr<|bG I I ae<|JL I .here I<|ab (bD .nil (.o I .nil)) I ?_)
  with_reducible apply jZ
  case hr=>exact bb
  case hd=>rfl
  case ht=>exact bC.nil
  case hc=>
   intro w1 fp aT _ hs1;obtain rfl:fp=[]:=hs1;have hA:BR w1 b4 [.int .i64 r.lv,.int .i64 r.ma,s,d,t,p]:=BR.of aT bI;have hR:=h.keeps aT.keeps;have hrd:Rd w1 xv 1 (ints (nz xp)):=by
    rcases mY with mY | mY
    ·exact Fs aT (by exact Take.there .here) mY
    ·cases mY;exact Rd.nil w1 1
   exact Tp (f:=177) (g:=dw r) (first:=[]) (cap:=[.p b4]) hrd (by omega) (fun i hi w2 fo=>Sm i (aM i hi) (hR.keeps fo) (hA.keeps fo))
  intro x _;dsimp only [id_eq,Zb,Za];refine Ja I<|Ja I<|Jn<|Je ?_
  first | with_reducible apply aO | with_reducible apply aQ
  case he=>exact gF I I I
  case hR=>
   intro w' aB;exact aF x trivial (by exact .h1 .nil) aB I
end Go.Proofs.A1
