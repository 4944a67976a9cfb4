/- Parts of the proof: GkPool ES32 ES33 ES34 ES35. -/
import Derived.Test.YtpamkookgkffgaaGreatDoorTM05
import Derived.Test.YtpamkookgkffgaaGreatDoorTM15
import Derived.Test.YtpamkookgkffgaaGreatDoorTM06
import Derived.Test.YtpamkookgkffgaaGreatDoorTM10
set_option linter.unusedSectionVars false
set_option linter.unusedVariables false
set_option linter.unusedSimpArgs false
namespace Go.SL
open Go
def stA (As:List Asn):Asn where
  sat h fp:=Sats h As fp
  loc:=fun hs hb=>hs.loc hb
  own:=fun hs b hb=>hs.own b hb
def noA:Asn where
  sat _ _:=False
  loc:=fun h _=>h
  own:=fun h=>h.elim
def poolL (E:TypeId):List Value → List (List Value) → List Asn
  | v :: vs,x :: xs=>row E 1 v x.length x :: poolL E vs xs
  | _,_=>[]
def pool (E:TypeId) (vs:List Value) (xs:List (List Value)):Asn:=stA (poolL E vs xs)
theorem poolL_get {E:TypeId} {v:Value} {x:List Value}:∀ {vs:List Value} {xs:List (List Value)} {j:Nat},vs[j]? = some v → xs[j]? = some x → ∃ r,Take (poolL E vs xs) (row E 1 v x.length x) r
  | [],_,j,h,_=>by simp at h
  | _ :: _,[],j,_,h=>by simp at h
  | v' :: vs, x' :: xs, 0, h1, h2 => by
    simp only [List.getElem?_cons_zero,Option.some.injEq] at h1 h2
    subst h1 h2
    exact ⟨_,.here⟩
  | v' :: vs, x' :: xs, j + 1, h1, h2 => by
    simp only [List.getElem?_cons_succ] at h1 h2
    obtain ⟨r,hr⟩:=poolL_get h1 h2
    exact ⟨_,.there hr⟩
theorem poolL_add {E:TypeId} {v:Value} {x:List Value}:∀ {vs:List Value} {xs:List (List Value)},vs.length = xs.length → poolL E (vs++[v]) (xs++[x]) = poolL E vs xs++[row E 1 v x.length x]
  | [],[],_=>rfl
  | [],_ :: _,h=>by simp at h
  | _ :: _,[],h=>by simp at h
  | v' :: vs, x' :: xs, h => by
    simp only [List.length_cons,Nat.add_right_cancel_iff] at h
    simp only [List.cons_append,poolL,poolL_add h]
theorem Mem.rdPool {c:Cx} {hs hs':List Asn} {w:World} {E:TypeId} {vs:List Value} {xs:List (List Value)} {j:Nat} {v:Value} {x:List Value} (hm:Mem c hs w) (ht:Take hs (pool E vs xs) hs') (hv:vs[j]? = some v) (hx:xs[j]? = some x):Rd w v 1 (x.map fun u=>[u]):=by
  obtain ⟨k,fp,hn,⟨f1,f2,rfl,h1,h2⟩,hb⟩:=hm.take ht
  have hm2:Mem c (poolL E vs xs++hs') w:=⟨k,f1++f2,hn,Sats.append_iff.2 ⟨f1,f2,rfl,h1,h2⟩,hb⟩
  obtain ⟨r,hr⟩:=poolL_get (E:=E) hv hx
  exact hm2.rdRow1 (hr.append hs') rfl
section
variable {P:Program} {r:Option Nat} {c:Cx} {D:List Nat} {sl:Slots} {hs hs':List Asn} {X:Act → World → Prop} {Q:Exit → Act → World → Prop} {ι:Type}
variable {ops:Array Oper} {d:Nat} {ty:TypeId} {pos:String} {af:Array Edge} {rest:List Oper}
theorem tr_poolAdd {E:TypeId} {vs:List Value} {xs:List (List Value)} {v:Value} {x:List Value} {n:Nat} {h1 h2:List Asn} (ht:Take hs (pool E vs xs) h1) (ht2:Take h1 (row E 1 v n x) h2) (hn:n = x.length) (hl:vs.length = xs.length)
    (k:Tr c D sl (pool E (vs++[v]) (xs++[x]) :: h2) X):Tr c D sl hs X:=fun a w hst=>by
  subst hn
  have hT:Takes hs [pool E vs xs,row E 1 v x.length x] h2:=.cons ht (.cons ht2 .nil)
  have hm:=hst.mem.takes (hT.append (mks D))
  obtain ⟨kk,fp,hn',⟨f1,f2',rfl,g1,⟨f2,f3,rfl,g2,g3⟩⟩,hb⟩:=hm
  refine k a w (hst.heap ⟨kk,(f1++f2)++f3,by rw [List.append_assoc];exact hn',⟨f1++f2,f3,rfl,?_,g3⟩,by rw [List.append_assoc];exact hb⟩)
  show Sats (hp w) (poolL E (vs++[v]) (xs++[x])) (f1++f2)
  rw [poolL_add hl]
  exact Sats.append_iff.2 ⟨f1,f2,rfl,g1,⟨f2,[],by simp,g2,rfl⟩⟩
theorem tr_poolNil (E:TypeId) (k:Tr c D sl (pool E [] [] :: hs) X):Tr c D sl hs X:=fun a w hst=>
  k a w (hst.heap (Mem.change (As := []) (Bs := [pool E [] []]) hst.mem fun fp _ hf => by
    rw [show fp = [] from hf]
    exact ⟨.refl _ _,[],List.nodup_nil,⟨[],[],rfl,rfl,rfl⟩,by simp⟩))
theorem tr_stOpen {As:List Asn} (ht:Take hs (stA As) hs') (k:Tr c D sl (As++hs') X):Tr c D sl hs X:=fun a w hst=>by
  obtain ⟨kk,fp,hn,⟨f1,f2,rfl,h1,h2⟩,hb⟩:=hst.mem.take (ht.append _)
  exact k a w (hst.heap ⟨kk,f1++f2,hn,by rw [List.append_assoc];exact Sats.append_iff.2 ⟨f1,f2,rfl,h1,h2⟩,hb⟩)
theorem tr_stShut {As:List Asn} (ht:Takes hs As hs') (k:Tr c D sl (stA As :: hs') X):Tr c D sl hs X:=fun a w hst=>by
  obtain ⟨kk,fp,hn,hsat,hb⟩:=hst.mem.takes (ht.append (mks D))
  obtain ⟨f1,f2,rfl,h1,h2⟩:=Sats.append_iff.1 hsat
  exact k a w (hst.heap ⟨kk,f1++f2,hn,⟨f1,f2,rfl,h1,h2⟩,hb⟩)
theorem tr_noA (ht:Take hs noA hs'):Tr c D sl hs X:=fun a w hst=>by
  obtain ⟨kk,fp,hn,⟨f1,f2,rfl,h1,h2⟩,hb⟩:=hst.mem.take (ht.append _)
  exact h1.elim
theorem YieldsB.conv {l:Nat} {args:List Value} {w0:World} {md:List Nat} {pre pre':Asn} {post post':Bool → Asn} (h:YieldsB P l args w0 md pre post) (h1:∀ g fp,pre'.sat g fp → pre.sat g fp) (h2:∀ b g fp,(post b).sat g fp → (post' b).sat g fp):YieldsB P l args w0 md pre' post':=by
  intro W fp hk hb hn hs
  obtain ⟨f,tmps,asg,body,e,hr⟩:=h W fp hk hb hn (h1 _ _ hs)
  exact ⟨f,tmps,asg,body,e,hr.mono fun e w' ⟨b,he,hk',fp',hn',hs',hf'⟩=>⟨b,he,hk',fp',hn',h2 _ _ _ hs',hf'⟩⟩
def YP (P:Program) (l:Nat) (w0:World) (md:List Nat) (E:TypeId) (items:List (List Value)) (J:List Value → Asn):Prop:=
  ∀ vs v,vs.length < items.length → YieldsB P l [v] w0 md (stA [J vs,pool E (vs++[v]) (items.take (vs.length + 1))]) (fun b=>bif b then stA [J (vs++[v]),pool E (vs++[v]) (items.take (vs.length + 1))] else noA)
def IterP (P:Program) (f:FuncId) (first cap:List Value) (own:List Asn) (E:TypeId) (items:List (List Value)) (w0:World) (md:List Nat) (w:World):Prop:=
  ∀ (l : Nat) (fp : List Nat) (J : List Value → Asn), Keeps md w0 w → (∀ b ∈ fp, b ∈ md ∨ w0.heap.size ≤ b) → fp.Nodup → Sats (hp w) (J [] :: own) fp → YP P l w0 md E items J →
    Gives P f (first++[.func (.yield l) #[] #[]]++cap) w fp (fun vs:List Value=>vs.length = items.length) (fun _=>.tuple #[]) (fun vs=>J vs :: pool E vs items :: own)
theorem tr_yieldP {x:Operand} {xs:List Operand} {ts:Array TypeId} {l:Nat} {w0:World} {md:List Nat} {E:TypeId} {items:List (List Value)} {J:List Value → Asn} {vs:List Value} {v:Value} (hY:YP P l w0 md E items J) (hB:Keeps md w0 c.w0) (hF:∀ b ∈ c.md,b ∈ md ∨ w0.heap.size ≤ b) (hlt:vs.length < items.length)
    (hx:Is sl x (.func (.yield l) #[] #[])) (ha:Iss sl xs [v]) (hd:Nat.blt d c.nt = true) (ht:Takes hs [J vs,pool E (vs++[v]) (items.take (vs.length + 1))] hs')
    (k:Tr c D ((d,.bool true) :: sl) (J (vs++[v]) :: pool E (vs++[v]) (items.take (vs.length + 1)) :: hs') (WL P r ops Q rest)):Tr c D sl hs (WL P r ops Q (⟨some d,.call ⟨.value x,xs.toArray,ts⟩,ty,pos,af,none⟩ :: rest)):=by
  refine tr_stShut ht (tr_yieldB hB hF (hY vs v hlt) hx ha hd .here fun b=>?_)
  cases b with
  | false=>exact tr_noA .here
  | true=>exact tr_stOpen .here k
def PoolPost (l:Nat) (rc:Loop) (Φ:List Value → ι → Prop) (A:ι → List Asn) (E:TypeId) (items:List (List Value)) (vs:List Value) (b:Bool):Asn:=
  bif b then exA (Φ vs) (fun x=>blk l (recL rc .ready none) :: (A x++[pool E vs (items.take vs.length)])) else noA
theorem tr_rangePool {g:Operand} {p:Tmp} {asg body:Code} {f:FuncId} {first cap:List Value} [Bod P f] (hg:Is sl g (.func (.func f) first.toArray cap.toArray))
    (own:List Asn) (E:TypeId) (items:List (List Value)) (hit:∀ w,Mem c hs w → IterP P f first cap own E items c.w0 c.md w)
    (Φ:List Value → ι → Prop) (A:ι → List Asn) (x0:ι) {rst:List Asn} (h0:Φ [] x0) (ht:Takes hs (A x0++own) rst) (hp':p < c.nt)
    (round:∀ l rc W fp vs v x,rc.tmps.size = c.nt → vs.length < items.length → Φ vs x → Keeps c.md c.w0 W → (∀ b ∈ fp,b ∈ c.md ∨ c.w0.heap.size ≤ b) →
      Tr ⟨W,fp,c.nt⟩ [] ((p,v) :: sl) (blk l (recL rc .ready none) :: (A x++[pool E (vs++[v]) (items.take (vs.length + 1))])) (WP P (some l) asg (Exit.then (Begins P l body (RoundR fp W (PoolPost l rc Φ A E items (vs++[v])))) (fun _ _ _=>False))))
    (kn:∀ x vs D,vs.length = items.length → Φ vs x → Tr c D sl (A x++pool E vs items :: own++rst) (Q .normal)) :
    Tr c D sl hs (WP P none (.rangeFunc g #[p] asg body) Q):=by
  refine tr_rangeFunc (ι:=ι × List Value) hg (As:=fun l rc=>blk l (recL rc .ready none) :: (A x0++own)) (rest:=rst)
    (Φ:=fun l rc x=>Φ x.2 x.1 ∧ x.2.length = items.length) (own:=fun l rc x=>A x.1++pool E x.2 items :: own)
    (st:=fun _=>.ready) (pd:=fun _=>none) ?_ ?_ ?_ ?_ ?_
  · exact fun l rc=>Takes.cons .here ht
  · intro x;simp
  · intro l rc hps' ha hbd hsl hsz w fp hm hn hs1 hfp
    have hfp':∀ b ∈ fp,b ∈ c.md ∨ c.w0.heap.size ≤ b:=fun b hb=>(hfp b hb).symm
    have hs2:Sats (hp w) (exA (Φ []) (fun x=>blk l (recL rc .ready none) :: A x) :: own) fp:=by
      rw [← List.cons_append] at hs1
      obtain ⟨f1,f2,rfl,h1,h2⟩:=Sats.append_iff.1 hs1
      exact ⟨f1,f2,rfl,⟨x0,h0,h1⟩,h2⟩
    refine (hit w hm.dropHead l fp (fun vs=>exA (Φ vs) (fun x=>blk l (recL rc .ready none) :: A x)) hm.keeps hfp' hn hs2 ?_).mono ?_
    · intro vs v hlt
      have hlen:(vs++[v]).length = vs.length + 1:=by simp
      refine YieldsB.conv (yieldsB_of (Φ:=Φ vs) (A:=fun x=>A x++[pool E (vs++[v]) (items.take (vs.length + 1))]) (post:=PoolPost l rc Φ A E items (vs++[v])) hsl hsz (by rw [hps'];rfl) (by rw [hps'];simpa using hp') ?_) ?_ ?_
      · intro x W fp2 hB hF hx
        have:=round l rc W fp2 vs v x hsz hlt hx hB hF
        rw [ha,hbd,hps']
        simpa [putAll] using this
      · rintro g fp ⟨f1,f2,rfl,⟨x,hx,h1⟩,h2⟩
        refine ⟨x,hx,?_⟩
        show Sats g ((blk l (recL rc .ready none) :: A x)++[pool E (vs++[v]) (items.take (vs.length + 1))]) _
        exact Sats.append_iff.2 ⟨f1,f2,rfl,h1,h2⟩
      · intro b g fp hb
        cases b with
        | false=>exact hb
        | true =>
          obtain ⟨x,hx,h1⟩:=hb
          have h1:Sats g ((blk l (recL rc .ready none) :: A x)++[pool E (vs++[v]) (items.take (vs++[v]).length)]) fp:=h1
          obtain ⟨f1,f2,rfl,h1,h2⟩:=Sats.append_iff.1 h1
          rw [hlen] at h2
          exact ⟨f1,f2,rfl,⟨x,hx,h1⟩,h2⟩
    · rintro e w' ⟨vs,he,hlen,hk,fp',hn',hs',hf'⟩
      obtain ⟨f1,f2,rfl,h1,h2⟩:=hs'
      obtain ⟨x,hx,h1⟩:=h1
      exact ⟨(x,vs),he,⟨hx,hlen⟩,hk,f1++f2,hn',by
        show Sats _ (blk l (recL rc .ready none) :: (A x++pool E vs items :: own)) _
        rw [← List.cons_append]
        exact Sats.append_iff.2 ⟨f1,f2,rfl,h1,h2⟩,hf'⟩
  · rintro l rc ⟨x,vs⟩ b ⟨hx,hl⟩ _
    exact kn x vs (b :: D) hl hx
  · rintro l rc ⟨x,vs⟩ b j _ hpd
    simp at hpd
theorem tr_poolN {nt:Nat} {W:World} {fp:List Nat} {l:Nat} {rc:Loop} {Φ:List Value → ι → Prop} {A:ι → List Asn} {E:TypeId} {items:List (List Value)} {vs:List Value} {s:LoopState} {p:Option Code} (x:ι) {rst rst2:List Asn}
    (ht:Take hs (blk l (recL rc s p)) rst) (hx:Φ vs x) (h2:Takes rst (A x++[pool E vs (items.take vs.length)]) rst2):Tr ⟨W,fp,nt⟩ D sl hs (roundPost P l (RoundR fp W (PoolPost l rc Φ A E items vs)) .normal):=
  tr_roundN (c:=⟨W,fp,nt⟩) (post:=PoolPost l rc Φ A E items vs) x rfl ht hx (Takes.cons .here h2)
theorem tr_callF {op:Op} {f:FuncId} {args:List Value} {As:List Asn} {Φ:ι → Prop} {val:ι → Value} {own:ι → List Asn} (hr:RunC P sl ⟨some d,op,ty,pos,af,none⟩ f args) (hd:Nat.blt d c.nt = true) (ht:Takes hs As hs')
    (hc:∀ w fp,Mem c hs w → fp.Nodup → Sats (hp w) As fp → (∀ b ∈ fp,b ∈ c.md ∨ c.w0.heap.size ≤ b) → (∀ b o h2,Take hs' (blk b o) h2 → b ∉ fp) → Gives P f args w fp Φ val own)
    (k:∀ x,Φ x → Tr c D ((d,val x) :: sl) (own x++hs') (WL P r ops Q rest)):Tr c D sl hs (WL P r ops Q (⟨some d,op,ty,pos,af,none⟩ :: rest)):=fun a w hst=>by
  have hm:=hst.mem.takes (ht.append (mks D))
  obtain ⟨kk,fp,hn,hsat,hb⟩:=hm
  obtain ⟨f1,f2,rfl,h1,h2⟩:=Sats.append_iff.1 hsat
  obtain ⟨n1,n2,n12⟩:=List.nodup_append.1 hn
  have hdis:∀ b o h3,Take hs' (blk b o) h3 → b ∉ f1:=fun b o h3 htk hbf=>by
    obtain ⟨g1,g2,⟨e1,_⟩,_,hp⟩:=Sats.take (htk.append (mks D)) h2
    have:b ∈ f2:=hp.mem_iff.2 (List.mem_append_left _ (by rw [e1];simp))
    exact n12 b hbf b this rfl
  refine wl_call rfl hr hst.slots (hc w f1 hst.mem' n1 h1 (fun b hb'=>(hb b (List.mem_append_left _ hb')).symm) hdis) fun e w' ⟨x,he,hx,hk,fp',hn',hs',hf'⟩=>⟨val x,he,k x hx _ _ ((hst.put (by simpa [Nat.blt_eq] using hd) (val x)).heap ?_)⟩
  have hlt:∀ b ∈ f2,b < w.heap.size:=fun b hb'=>let ⟨o,ho⟩:=h2.own b hb';hp_lt ho
  rw [List.append_assoc]
  refine ⟨?_,fp'++f2,?_,Sats.append_iff.2 ⟨fp',f2,rfl,hs',h2.loc fun b hb'=>?_⟩,?_⟩
  · refine ⟨hk.os.trans kk.os,hk.tape.trans kk.tape,hk.output.trans kk.output,Nat.le_trans kk.size hk.size,fun b hb' hm=>?_⟩
    rw [← kk.block b hb' hm]
    refine hk.block b (Nat.lt_of_lt_of_le hb' kk.size) (fun hf=>?_)
    rcases hb b (List.mem_append_left _ hf) with h | h
    · omega
    · exact hm h
  · refine List.nodup_append.2 ⟨hn',n2,fun x hx y hy e=>?_⟩
    subst e
    rcases hf' x hx with h | h
    · exact n12 x h x hy rfl
    · have:=hlt x hy;omega
  · exact hk.block b (hlt b hb') (fun hf=>n12 b hf b hb' rfl)
  · intro b hb'
    rcases List.mem_append.1 hb' with h | h
    · rcases hf' b h with h | h
      · exact hb b (List.mem_append_left _ h)
      · exact .inl (Nat.le_trans kk.size h)
    · exact hb b (List.mem_append_right _ h)
theorem left_takeG {fuel:Nat} {listed:Array Bool} (i:Nat) {gs j:Nat} {want:Bool} {op:Op} {V:Value} (hi:ops[i]? = some ⟨some d,op,ty,pos,af,some (j,want)⟩) (hj:((ops[j]?).bind (·.dst)) = some gs) (hq:sget sl gs = some (.bool want)) (hs1:Region.noSelect ops = true) (hf:Region.free .any ops listed i = true) (hr:(Region.ready .any ops listed).contains i = true)
    (hab:∀ (w:World) (ρ:Operand → Value),Oper.about P w ρ ⟨some d,op,ty,pos,af,some (j,want)⟩ = none) (hv:∀ w,RunV P ⟨w,[],0⟩ sl [] ⟨some d,op,ty,pos,af,some (j,want)⟩ V) (hd:Nat.blt d c.nt = true)
    (k:Tr c D ((d,V) :: sl) hs (Left P ops Q fuel (listed.setIfInBounds i true))):Tr c D sl hs (Left P ops Q (fuel + 1) listed):=fun a w hst=>by
  refine wpAnyIn_take (oi:=⟨some d,op,ty,pos,af,some (j,want)⟩) rfl hi hs1 hf hr (fun c a w h=>h) (v:=V) ⟨.inl ⟨by rw [wanted_gv (c0:=true) (q:=want) rfl hj hst.slots (by rw [hq];rfl)];simp,fun w'=>?_⟩,fun w'=>hab w' _⟩ (k _ _ (hst.put (by simpa [Nat.blt_eq] using hd) V))
  exact (hv w').2 a w' hst.slots ⟨.refl _ _,[],List.nodup_nil,rfl,by simp⟩
theorem any_vOff1 {rl:RSlots} {m j g:Nat} {want q:Bool} {op:Op} (hj:((ops[j]?).bind (·.dst)) = some g) (hq:sget sl g = some (.bool q)) (hn:(q == want) = false) (hd:Nat.blt d c.nt = true) (k:AnyT P r c D hs ops Q m rest ((d,gv (q == want) (.bool false)) :: sl) rl) :
    AnyT P r c D hs ops Q (m + 1) (⟨some d,op,ty,pos,af,some (j,want)⟩ :: rest) sl rl:=any_valG1 hj hq (fun e=>absurd (hn.symm.trans e) (by decide)) hd k
theorem tr_poolTake {E:TypeId} {vs:List Value} {xs:List (List Value)} {j:Nat} {v:Value} {x:List Value} (ht:Take hs (pool E vs xs) hs') (hv:vs[j]? = some v) (hx:xs[j]? = some x) (k:Tr c D sl (row E 1 v x.length x :: hs') X):Tr c D sl hs X:=fun a w hst=>by
  obtain ⟨kk,fp,hn,⟨f1,f2,rfl,h1,h2⟩,hb⟩:=hst.mem.take (ht.append _)
  obtain ⟨r,hr⟩:=poolL_get (E:=E) hv hx
  obtain ⟨g1,g2,h3,_,hp⟩:=Sats.take hr h1
  have hsub:∀ b ∈ g1++f2,b ∈ f1++f2:=fun b hb'=>by
    rcases List.mem_append.1 hb' with h | h
    · exact List.mem_append_left _ (hp.mem_iff.2 (List.mem_append_left _ h))
    · exact List.mem_append_right _ h
  obtain ⟨n1,n2,n12⟩:=List.nodup_append.1 hn
  have hg1:g1.Nodup:=(List.nodup_append.1 (hp.nodup_iff.1 n1)).1
  refine k a w (hst.heap ⟨kk,g1++f2,List.nodup_append.2 ⟨hg1,n2,fun x hx' y hy=>n12 x (hp.mem_iff.2 (List.mem_append_left _ hx')) y hy⟩,⟨g1,f2,rfl,h3,h2⟩,fun b hb'=>hb b (hsub b hb')⟩)
theorem endsTCT {fn:Func} {s t u:Tmp} {T:TypeId} {b o n:Nat} {cs vs:List Value} {E:TypeId} {fz:Nat × Nat} {x y:Value} (h:fn.results = #[.tmp s,.cell t T,.tmp u]) (hT:Ty P T true n) (hx:sget sl s = some x) (hp:sget sl t = some (.pointer (some ⟨b,o,none⟩))) (ht:Take hs (SL.blk b (.cells cs.toArray E fz)) hs') (hv:cellsAt cs o n = vs) (hl:vs.length = n) (hy:sget sl u = some y):Ends P fn c sl hs (.tuple #[x,.agg vs.toArray,y]):=
  endsL (xs:=[.tmp s,.cell t T,.tmp u]) (vs:=[x,.agg vs.toArray,y]) h (RVs.cons (RV.tmp hx) (RVs.cons (RV.cell hp (loadsN (Ats.blk ht hv) hl)) (RVs.cons (RV.tmp hy) RVs.nil))) (by simp)
end
end Go.SL
namespace Go.Proofs.A1
open Go Go.SL
theorem ints_flat (l:List Int):(ints l).flatten = l.map (Value.int .i64):=by
  induction l with
  | nil=>rfl
  | cons x l ih=>simp only [ints,List.map_cons,List.flatten_cons] at ih ⊢;rw [ih];rfl
theorem clone_c {lv:Value} {l:List Int} {w:World} (h:Rd w lv 1 (ints l)) (hl:l.length ≤ 1000) :
    Gives Tryz.prog 77 [lv] w [] (fun _:Value=>True) id (fun v=>[row 3 1 v l.length (l.map (.int .i64))]):=by
  have h':=h
  obtain ⟨a,cp,b,o,rfl,hcap,hmax,ha,hc⟩:=h
  refine gives_of_tr Tryz.func77 rfl rfl ?_
  cases a with
  | none =>
    have hl0:l = []:=by
      cases l with
      | nil=>rfl
      | cons x r=>exact absurd (ha (by simp [ints])) (by simp)
    subst hl0
    (refine s_r ?_;refine a_s rfl rfl ?_;refine n_t ?_;refine tr_seq ?_;refine s_r ?_;refine m_v rfl rfl ?_;refine tr_val (rk_eqNil (.of rfl) (.of rfl)) rfl ?_;refine n_t ?_;refine tr_cond_t (.of rfl) ?_;refine s_r ?_;refine a_s rfl rfl ?_;refine n_t ?_;refine r_t ?_)
    refine tr_rowNil 3 1 ?_
    first | with_reducible apply tr_retM | with_reducible apply tr_endM
    case he=>exact ends1 rfl rfl
    case hR=>
      intro w' hm'
      exact gives_end (.slice none 0 0) trivial (show Takes _ [row 3 1 (.slice none 0 0) 0 []] _ by exact .cons .here .nil) hm' rfl
  | some ad =>
    (refine s_r ?_;refine a_s rfl rfl ?_;refine n_t ?_;refine tr_seq ?_;refine s_r ?_;refine m_v rfl rfl ?_;refine tr_val (rk_eqNil (.of rfl) (.of rfl)) rfl ?_;refine n_t ?_;refine tr_cond_f (.of rfl) ?_;refine s_t ?_;refine s_r ?_;refine tr_new (rk_sliceLit .nil rfl rfl rfl rfl) rfl (fun _ _=>?_);refine m_v rfl rfl ?_)
    rename_i bq hbq
    refine tr_rowLitE9 (g:=bq) (E:=3) (ys:=[]) 0 1 (by exact .here) rfl rfl rfl ?_
    with_reducible apply tr_appendR
    case hx=>exact Is.of rfl
    case hy=>exact Is.of rfl
    case ht=>exact .here
    case hsrc=>exact fun w' hm'=>h'.keeps hm'.keeps
    case h1=>exact ints_one l
    case hz=>exact rfl
    case hsz=>exact rfl
    case hb0=>exact rfl
    case hb=>rw [ints_length];omega
    case hd=>rfl
    intro v'
    rw [ints_length,ints_flat,Nat.zero_add,List.nil_append]
    (refine a_s rfl rfl ?_;refine n_t ?_;refine tr_ret ?_)
    first | with_reducible apply tr_retM | with_reducible apply tr_endM
    case he=>exact ends1 rfl rfl
    case hR=>
      intro w' hm'
      exact gives_end v' trivial (show Takes _ [row 3 1 v' l.length (l.map (.int .i64))] _ by exact .cons .here .nil) hm' rfl
end Go.Proofs.A1
namespace Go.Proofs.A1
open Go Go.SL
def exP (c d:Int) (p:Int × Int):Bool:=(decide (p.1 = c) && decide (p.2 = d)) || (decide (p.1 = d) && decide (p.2 = c))
theorem ex1_c (p:Int × Int) {bc bd:Nat} {c d:Int} {w:World} (h1:w.cell? ⟨bc,0,none⟩ = some (.int .i64 c)) (h2:w.cell? ⟨bd,0,none⟩ = some (.int .i64 d)) :
    GivesV Tryz.prog 123 [.agg (prV p).toArray,.pointer (some ⟨bc,0,none⟩),.pointer (some ⟨bd,0,none⟩)] w (.bool (exP c d p)):=by
  unfold prV
  refine givesV_of_tr Tryz.func123 rfl rfl ?_
  (refine s_r ?_;refine tr_new (rk_box (.of rfl) rfl) rfl (fun _ _=>?_);refine a_s rfl rfl ?_;refine n_r ?_;refine tr_val (rk_loadB (.of rfl) .here norm_ (by rfl)) rfl ?_;refine tr_val (rk_load1 (.of rfl) (At.base h1 rfl)) rfl ?_;refine tr_val (rk_load1 (.of rfl) (At.base h2 rfl)) rfl ?_;refine tr_val (rk_buildL (.cons (.of rfl) (.cons (.of rfl) .nil)) norm_) rfl ?_;refine tr_val (rk_eqlA (.of rfl) (.of rfl) (okL_int (okL_int okL_nil)) rfl) rfl ?_;refine m_v rfl rfl ?_;refine tr_vG1 rfl rfl inferInstance (fun hg hgp=>(rk_loadB (.of rfl) .here norm_ (by rfl))) rfl ?_;refine tr_vG1 rfl rfl inferInstance (fun hg hgp=>(rk_load1 (.of rfl) (At.base h2 rfl))) rfl ?_;refine tr_vG1 rfl rfl inferInstance (fun hg hgp=>(rk_load1 (.of rfl) (At.base h1 rfl))) rfl ?_;refine tr_vG1 rfl rfl inferInstance (fun hg hgp=>(rk_buildL (.cons (.ofg hg rfl) (.cons (.ofg hg rfl) .nil)) norm_)) rfl ?_;refine tr_vG1 rfl rfl inferInstance (fun hg hgp=>(rk_eqlA (.ofg hg rfl) (.ofg hg rfl) (okL_int (okL_int okL_nil)) rfl)) rfl ?_;refine tr_val (rk_pick_or (.of rfl) rfl) rfl ?_;refine a_s rfl rfl ?_;refine n_t ?_;refine tr_ret ?_;refine tr_retE rfl (ends1 rfl rfl) ?_)
  unfold exP
  simp only [Bool.and_true]
theorem prsL_get {l:List (Int × Int)} {k:Nat} (h:k < l.length):(prsL l)[k]? = some (prV l[k]):=by simp [prsL,h]
theorem prsL_ne {l:List (Int × Int)} {k:Nat} (h:k < l.length):prsL l ≠ []:=by intro e;have:=prsL_length l;rw [e] at this;simp at this;omega
theorem idxPr_c {lv:Value} {l:List (Int × Int)} {p:Int × Int → Bool} {f:FuncId} {first cap:List Value} [Bod Tryz.prog f] {w:World} (h:Rd w lv 2 (prsL l)) (hcall:∀ x ∈ l,∀ w',Keeps [] w w' → GivesV Tryz.prog f (first++[.agg (prV x).toArray]++cap) w' (.bool (p x))) :
    GivesV Tryz.prog 134 [lv,.func (.func f) first.toArray cap.toArray] w (.int .i64 (idxG p l)):=by
  obtain ⟨a,cp,b,o,rfl,hcap,hmax,ha,hc⟩:=h
  rw [prsL_length] at *
  unfold maxLen at hmax
  refine givesV_of_tr Tryz.func134 rfl rfl ?_
  (refine s_r ?_;refine a_s rfl rfl ?_;refine n_t ?_;refine tr_seq ?_;refine s_r ?_;refine m_v rfl rfl ?_;refine tr_val (rk_len_slice (.of rfl)) rfl ?_;refine m_v rfl rfl ?_;refine n_t ?_;refine tr_block ?_)
  refine tr_for (fun k:Nat=>k ≤ l.length ∧ ∀ i,i < k → (l[i]?.map p).getD false = false) (fun k=>[(8,.int .i64 k),(7,.int .i64 l.length),(0,.slice a l.length cp),(1,.func (.func f) first.toArray cap.toArray)]) (fun _=>[]) (fun k=>l.length - k) ?_ ?_
  · apply tr_start 0 ⟨Nat.zero_le _,fun i h=>by omega⟩
    case hs1=>exact .cons rfl (.cons rfl (.cons rfl (.cons rfl .nil)))
    case ht=>(try simp only [List.take_zero,List.map_nil,List.nil_append]);exact .nil
  rintro k ⟨hk,hf⟩
  by_cases hlt:k < l.length
  · have ha':=ha (prsL_ne hlt)
    have hcell:=(hc k _ (prsL_get hlt)).2
    have hcl:=hcall _ (List.getElem_mem hlt)
    have hps:(l[k]?.map p).getD false = p l[k]:=by simp [hlt]
    unfold prV at hcell hcl
    (refine s_r ?_;refine tr_val (rk_lss (.of rfl) (.of rfl)) rfl ?_;refine n_t ?_;refine tr_seq ?_;refine c_d rfl (fun hcd=>?_) (fun _=>by omega);refine s_t ?_;refine tr_seq ?_;refine tr_block ?_;refine s_r ?_;refine m_v rfl rfl ?_;refine a_s rfl rfl ?_;refine n_r ?_;refine m_v rfl rfl ?_;refine m_v rfl rfl ?_;refine m_v rfl rfl ?_;refine tr_val (rk_indexAddr (.of rfl) (.of rfl) ha' (by omega) hcd norm1_) rfl ?_;refine tr_val (rk_loadN (.of rfl) (Ats.base hcell rfl) rfl) rfl ?_;refine tr_callV (rk_call (.of rfl) (.cons (.of rfl) .nil) inferInstance normc_) rfl (fun w' hm'=>(hcl w' (Mem.keeps hm'))) ?_;refine n_t ?_;refine c_b rfl (fun hcd=>?_) (fun hcd=>?_);refine s_r ?_;refine m_v rfl rfl ?_;refine a_s rfl rfl ?_;refine n_t ?_;refine tr_ret ?_;refine tr_blk_ret ?_;refine tr_then_ret ?_;refine tr_then_ret ?_;refine tr_blk_ret ?_;refine tr_then_ret ?_;refine tr_retE rfl (ends1 rfl rfl) ?_;rotate_left;refine tr_skip ?_;refine tr_blk_normal ?_;refine tr_then ?_;refine tr_region ?_;refine tr_val (rk_add (.of rfl) (.of rfl) (ini (by omega))) rfl ?_;refine m_v rfl rfl ?_;refine n_t ?_;rotate_right)
    · rw [idxG_at hf hlt hcd]
    · apply tr_next (k + 1) ⟨by omega,fun i hi=>by
        by_cases e:i = k
        · rw [e,hps];exact hcd
        · exact hf i (by omega)⟩ (by omega)
      case hs1=>exact .cons rfl (.cons rfl (.cons rfl (.cons rfl .nil)))
      case ht=>(try simp only [List.take_zero,List.map_nil,List.nil_append]);exact .nil
  · obtain rfl:k = l.length:=by omega
    (refine s_r ?_;refine tr_val (rk_lss (.of rfl) (.of rfl)) rfl ?_;refine n_t ?_;refine tr_seq ?_;refine c_d rfl (fun _=>by omega) (fun hcd=>?_);refine x_t ?_;refine tr_then_exit ?_;refine tr_blk_exit ?_;refine tr_then ?_;refine s_r ?_;refine a_s rfl rfl ?_;refine n_t ?_;refine tr_ret ?_;refine tr_retE rfl (ends1 rfl rfl) ?_)
    rw [idxG_none hf]
theorem hasPr_c {lv:Value} {l:List (Int × Int)} {p:Int × Int → Bool} {f:FuncId} {first cap:List Value} [Bod Tryz.prog f] {w:World} (h:Rd w lv 2 (prsL l)) (hcall:∀ x ∈ l,∀ w',Keeps [] w w' → GivesV Tryz.prog f (first++[.agg (prV x).toArray]++cap) w' (.bool (p x))) :
    GivesV Tryz.prog 122 [lv,.func (.func f) first.toArray cap.toArray] w (.bool (l.any p)):=by
  have hcl:∀ w',Keeps [] w w' → GivesV Tryz.prog 134 [lv,.func (.func f) first.toArray cap.toArray] w' (.int .i64 (idxG p l)):=fun w' hk=>
    idxPr_c (h.keeps hk) fun x hx w2 hk2=>hcall x hx w2 (hk.trans hk2)
  rw [← idxG_any]
  refine givesV_of_tr Tryz.func122 rfl rfl ?_
  (refine s_r ?_;refine a_s rfl rfl ?_;refine n_r ?_;refine m_v rfl rfl ?_;refine m_v rfl rfl ?_;refine tr_callV (rk_call (.of rfl) (.cons (.of rfl) (.cons (.of rfl) .nil)) inferInstance normc_) rfl (fun w' hm'=>(hcl w' (Mem.keeps hm'))) ?_;refine tr_val (rk_geq (.of rfl) (.of rfl)) rfl ?_;refine a_s rfl rfl ?_;refine n_t ?_;refine tr_ret ?_;refine tr_retE rfl (ends1 rfl rfl) ?_)
  rfl
theorem excl_c {b:Br} {sv cv xv:Value} {c d:Int} {w:World} (hs:sv.oneCell' = true) (hc:cv.oneCell' = true) (h3:Rd w xv 2 (prsL b.ex)) :
    GivesV Tryz.prog 96 [.agg #[.int .i64 b.n,sv,cv,xv],.int .i64 c,.int .i64 d] w (.bool (exclB b c d)):=by
  have hone:=Rd.one h3
  have hE:exclB b c d = b.ex.any (exP c d):=rfl
  rw [hE]
  refine givesV_of_tr Tryz.func96 rfl rfl ?_
  (refine s_r ?_;refine tr_new (rk_box (.of rfl) rfl) rfl (fun _ _=>?_);refine tr_new (rk_box (.of rfl) rfl) rfl (fun _ _=>?_);refine tr_new (rk_box (.of rfl) rfl) rfl (fun _ _=>?_);refine a_s rfl rfl ?_;refine n_r ?_;refine f_a rfl rfl norm0_ ?_;refine tr_val (rk_load1 (.of rfl) (At.lit (.there (.there .here)) rfl)) rfl ?_;refine tr_val (rk_makeFunc' .nil (.cons (.of rfl) (.cons (.of rfl) .nil))) rfl ?_)
  rename_i b3 hb3 b4 hb4 b5 hb5
  with_reducible apply tr_callV
  case hr=>exact rk_call (.of rfl) (.cons (.of rfl) (.cons (.of rfl) .nil)) inferInstance normc_
  case hd=>rfl
  case hc=>
    intro w' hm'
    have f1:w'.cell? ⟨b4,0,none⟩ = some (.int .i64 c):=At.lit (by exact Take.there .here) rfl w' hm'
    have f2:w'.cell? ⟨b5,0,none⟩ = some (.int .i64 d):=At.lit (by exact .here) rfl w' hm'
    exact hasPr_c (f:=123) (p:=exP c d) (first:=[]) (cap:=[.pointer (some ⟨b4,0,none⟩),.pointer (some ⟨b5,0,none⟩)]) (h3.keeps hm'.keeps)
      (fun x hx w2 hk2=>ex1_c x (cell_keeps f1 rfl hk2) (cell_keeps f2 rfl hk2))
  (refine a_s rfl rfl ?_;refine n_t ?_;refine tr_ret ?_;refine tr_retE rfl (ends1 rfl rfl) ?_)
  rfl
end Go.Proofs.A1
namespace Go.Proofs.A1
open Go Go.SL
theorem alook_asetG {κ:Type} [DecidableEq κ] {k k':κ} {v:Value}:∀ {l:List (κ × Value)},alook k' (aset k v l) = if k' = k then some v else alook k' l
  | []=>by simp [aset,alook]
  | (x, u) :: r => by
    simp only [aset]
    split
    · rename_i e;subst e;simp only [alook];split <;> rfl
    · rename_i e
      simp only [alook,alook_asetG (l:=r)]
      by_cases e1:k' = x
      · subst e1;simp [Ne.symm e]
      · simp [e1]
theorem aset_keys {κ:Type} [DecidableEq κ] {k c:κ} {u:Value}:∀ {l:List (κ × Value)},(∃ v,(c,v) ∈ aset k u l) ↔ (c = k ∨ ∃ v,(c,v) ∈ l)
  | []=>by simp [aset]
  | (x, y) :: r => by
    simp only [aset]
    split
    · rename_i e;subst e
      constructor
      · rintro ⟨v,hv⟩
        rcases List.mem_cons.1 hv with h | h
        · cases h;exact .inl rfl
        · exact .inr ⟨v,List.mem_cons_of_mem _ h⟩
      · rintro (rfl | ⟨v,hv⟩)
        · exact ⟨u,List.mem_cons_self⟩
        · rcases List.mem_cons.1 hv with h | h
          · cases h;exact ⟨u,List.mem_cons_self⟩
          · exact ⟨v,List.mem_cons_of_mem _ h⟩
    · rename_i e
      have ih:=aset_keys (k:=k) (c:=c) (u:=u) (l:=r)
      constructor
      · rintro ⟨v,hv⟩
        rcases List.mem_cons.1 hv with h | h
        · exact .inr ⟨v,by rw [h];exact List.mem_cons_self⟩
        · rcases ih.1 ⟨v,h⟩ with h | ⟨v,h⟩
          · exact .inl h
          · exact .inr ⟨v,List.mem_cons_of_mem _ h⟩
      · rintro (h | ⟨v,hv⟩)
        · obtain ⟨v,hv⟩:=ih.2 (.inl h)
          exact ⟨v,List.mem_cons_of_mem _ hv⟩
        · rcases List.mem_cons.1 hv with h | h
          · exact ⟨v,by rw [h];exact List.mem_cons_self⟩
          · obtain ⟨v,hv⟩:=ih.2 (.inr ⟨v,h⟩)
            exact ⟨v,List.mem_cons_of_mem _ hv⟩
theorem born_inj {es:Array MapEntry} (hn:(es.toList.map (·.born)).Nodup) {e e':MapEntry} (h1:e ∈ es.toList) (h2:e' ∈ es.toList) (h:e.born = e'.born):e = e':=by
  have a1:=find_born e es.toList hn h1
  have a2:=find_born e' es.toList hn h2
  rw [h,a2] at a1
  exact (Option.some.inj a1).symm
theorem push_cont {s:Array Nat} {a b:Nat} (h:(s.push a).contains b = true):s.contains b = true ∨ b = a:=by
  simp only [Array.contains_iff_mem,Array.mem_push] at h ⊢
  exact h
theorem badO_any {b:Br} {o:List Nat} {k:Nat} (hk:k < o.length) (h:badO b o k = true):(List.range o.length).any (badO b o) = true:=List.any_eq_true.2 ⟨k,List.mem_range.2 hk,h⟩
theorem badO_none {b:Br} {o:List Nat} (h:∀ i,i < o.length → badO b o i = false):(List.range o.length).any (badO b o) = false:=by
  rw [List.any_eq_false]
  intro i hi
  rw [h i (List.mem_range.1 hi)];decide
theorem exclO_at {b:Br} {o:List Nat} {i j:Nat} (hi:i < o.length) (hj:j < o.length) (h:exclB b (cpO b o i) (cpO b o j) = true):exclO b o = true:=
  List.any_eq_true.2 ⟨i,List.mem_range.2 hi,List.any_eq_true.2 ⟨j,List.mem_range.2 hj,h⟩⟩
theorem exclO_none {b:Br} {o:List Nat} (h:∀ i,i < o.length → ∀ j,j < o.length → exclB b (cpO b o i) (cpO b o j) = false):exclO b o = false:=by
  unfold exclO
  rw [List.any_eq_false]
  intro i hi
  rw [Bool.not_eq_true,List.any_eq_false]
  intro j hj
  rw [h i (List.mem_range.1 hi) j (List.mem_range.1 hj)];decide
theorem keys_of {b:Br} {o:List Nat} {l:List (Int × Value)} {es:Array MapEntry} {ck:Nat} (hok:mpOk (fun n:Int=>Value.int .i64 n) l es ck) (hk:∀ c,(∃ v,(c,v) ∈ l) ↔ ∃ i,i < o.length ∧ cpO b o i = c) :
    (∀ e ∈ es.toList,∃ i,i < o.length ∧ e.key = .int .i64 (cpO b o i)) ∧ ∀ i,i < o.length → ∃ e ∈ es.toList,e.key = .int .i64 (cpO b o i):=by
  have heq:=hok.eq
  refine ⟨fun e he=>?_,fun i hi=>?_⟩
  · have:(e.key,e.val) ∈ l.map (fun p=>(Value.int .i64 p.1,p.2)):=by rw [← heq];exact List.mem_map.2 ⟨e,he,rfl⟩
    obtain ⟨p,hp,hpe⟩:=List.mem_map.1 this
    obtain ⟨i,hi,hc⟩:=(hk p.1).1 ⟨p.2,hp⟩
    simp only [Prod.mk.injEq] at hpe
    exact ⟨i,hi,by rw [hc];exact hpe.1.symm⟩
  · obtain ⟨v,hv⟩:=(hk (cpO b o i)).2 ⟨i,hi,rfl⟩
    have:(Value.int .i64 (cpO b o i),v) ∈ es.toList.map (fun e=>(e.key,e.val)):=by rw [heq];exact List.mem_map.2 ⟨_,hv,rfl⟩
    obtain ⟨e,he,hee⟩:=List.mem_map.1 this
    simp only [Prod.mk.injEq] at hee
    exact ⟨e,he,hee.1⟩
theorem cmO_get {b:Br} {c:Int} (h0:0 ≤ c) (h1:c < b.cm.length):(ints b.cm)[c.toNat]? = some [.int .i64 (cmO b c)]:=by
  have hlt:c.toNat < b.cm.length:=by omega
  rw [ints_get hlt,cmO]
  simp [hlt]
set_option maxHeartbeats 1000000 in
theorem fits_c {b:Br} {sv cv xv ov:Value} {o:List Nat} {w:World} (h1:Rd w sv 4 (spsL b.sp)) (h2:Rd w cv 1 (ints b.cm)) (h3:Rd w xv 2 (prsL b.ex)) (h4:Rd w ov 1 (natsL o)) (hok:BrOk b) (ho:∀ i ∈ o,i < b.sp.length) (hfew:o.length ≤ 1000) :
    GivesV Tryz.prog 75 [.agg #[.int .i64 b.n,sv,cv,xv],ov] w (.int .i64 (fitE b o)):=by
  have hsp:=hok.spOk
  have h1':=h1
  have h2':=h2
  have h3':=h3
  have h4':=h4
  obtain ⟨a,cap,bs,os,rfl,hcap,hmax,ha,hc⟩:=h1'
  obtain ⟨a2,cap2,bb2,o2,rfl,hcap2,hmax2,ha2,hc2⟩:=h2'
  obtain ⟨a3,cap3,bb3,o3,rfl,hcap3,hmax3,ha3,hc3⟩:=h3'
  obtain ⟨a4,cap4,bb4,o4,rfl,hcap4,hmax4,ha4,hc4⟩:=h4'
  rw [spsL_length] at *
  rw [ints_length] at *
  rw [prsL_length] at *
  rw [natsL_length] at *
  unfold maxLen at hmax hmax2 hmax3 hmax4
  refine givesV_of_tr Tryz.func75 rfl rfl ?_
  (refine s_r ?_;refine tr_new (rk_box (.of rfl) rfl) rfl (fun _ _=>?_);refine a_s rfl rfl ?_;refine n_r ?_)
  rename_i b0 hb0
  refine tr_makeMapI rfl ?_
  intro bm hbm
  (refine a_s rfl rfl ?_;refine n_r ?_;refine a_s rfl rfl ?_;refine n_t ?_;refine tr_seq ?_;refine s_r ?_;refine m_v rfl rfl ?_;refine tr_val (rk_len_slice (.of rfl)) rfl ?_;refine m_v rfl rfl ?_;refine n_t ?_;refine tr_block ?_)
  refine tr_for (ι:=Nat × List (Int × Value)) (fun x=>x.1 ≤ o.length ∧ (∀ i,i < x.1 → badO b o i = false) ∧ (∀ c,(alook c x.2).getD (.int .i64 0) = .int .i64 (cntO b o c x.1)) ∧ ∀ c,(∃ v,(c,v) ∈ x.2) ↔ ∃ i,i < x.1 ∧ cpO b o i = c)
    (fun x=>[(15,.int .i64 x.1),(14,.int .i64 o.length),(13,.slice a4 o.length cap4),(5,.map (some bm)),(6,.int .i64 (lastO b o x.1)),(2,.pointer (some ⟨b0,0,none⟩)),(1,.slice a4 o.length cap4)])
    (fun x=>[mp (fun n:Int=>Value.int .i64 n) bm x.2,blk b0 (.cells #[.int .i64 b.n,.slice a b.sp.length cap,.slice a2 b.cm.length cap2,.slice a3 b.ex.length cap3] 58 (0,0))]) (fun x=>o.length - x.1) ?_ ?_
  · apply tr_start (0,[]) ⟨Nat.zero_le _,fun i h=>by omega,fun s=>rfl,fun c=>by simp⟩
    case hs1=>exact .cons rfl (.cons rfl (.cons rfl (.cons rfl (.cons rfl (.cons rfl (.cons rfl .nil))))))
    case ht=>(try simp only [List.take_zero,List.map_nil,List.nil_append]);exact .cons .here (.cons .here .nil)
  rintro ⟨k,l⟩ ⟨hk,hf,hm,hks⟩
  dsimp only at hk hf hm hks ⊢
  by_cases hlt:k < o.length
  · have ha4':=ha4 (natsL_ne hlt)
    have c4:w.cell? ⟨bb4,o4 + k * 1,none⟩ = some (.int .i64 (nthN o k)):=(hc4 k _ (natsL_get hlt)).2 0 _ rfl
    have hi:=ho _ (nthN_mem hlt)
    have ha':=ha (spsL_ne hi)
    have c1:w.cell? ⟨bs,os + nthN o k * 4 + 1,none⟩ = some (.int .i64 (cpO b o k)):=(hc (nthN o k) _ (spsL_get hi)).2 1 _ rfl
    have hcp:0 ≤ cpO b o k ∧ cpO b o k < b.cm.length:=hok.cp _ (nthS_mem hi)
    have ha2':=ha2 (ints_ne (k:=(cpO b o k).toNat) (by omega))
    have c2:w.cell? ⟨bb2,o2 + (cpO b o k).toNat * 1,none⟩ = some (.int .i64 (cmO b (cpO b o k))):=(hc2 _ _ (cmO_get hcp.1 hcp.2)).2 0 _ rfl
    have hmk:=hm (cpO b o k)
    have hcn:=cntO_in b o (cpO b o k) k
    have hmk2:∀ v z,(alook (cpO b o k) (aset (cpO b o k) v l)).getD z = v:=fun v z=>by rw [alook_asetG,if_pos rfl];rfl
    have hcs:cntO b o (cpO b o k) (k + 1) = cntO b o (cpO b o k) k + 1:=by rw [cntO,if_pos rfl]
    (refine s_r ?_;refine tr_val (rk_lss (.of rfl) (.of rfl)) rfl ?_;refine n_t ?_;refine tr_seq ?_;refine c_d rfl (fun hcd=>?_) (fun _=>by omega);refine s_t ?_;refine tr_seq ?_;refine tr_block ?_;refine s_r ?_;refine tr_val (rk_indexAddr (.of rfl) (.of rfl) ha4' (by omega) hcd norm1_) rfl ?_;refine tr_val (rk_load1 (.of rfl) (At.base c4 rfl)) rfl ?_;refine a_s rfl rfl ?_;refine n_r ?_;refine f_a rfl rfl norm0_ ?_;refine tr_val (rk_load1 (.of rfl) (At.lit (.there .here) rfl)) rfl ?_;refine m_v rfl rfl ?_;refine tr_val (rk_indexAddr (.of rfl) (.of rfl) ha' (by omega) (by omega) norm1_) rfl ?_;refine f_a rfl rfl norm0_ ?_;refine tr_val (rk_load1 (.of rfl) (At.base c1 rfl)) rfl ?_;refine a_s rfl rfl ?_;refine n_r ?_;refine m_v rfl rfl ?_;refine m_v rfl rfl ?_;refine tr_val (rk_lookup keyI (.of rfl) (.of rfl) (Looks.mp .here)) rfl ?_)
    rw [hmk]
    refine tr_val (rk_add (.of rfl) (.of rfl) (ini (by omega))) rfl ?_
    refine tr_mapUpdate keyI (.of rfl) (.of rfl) (.of rfl) .here ?_
    (refine n_t ?_;refine tr_seq ?_;refine tr_seq ?_)
    with_reducible refine tr_draw 14 (by kernel_rfl) ?_
    (refine a_m rfl rfl ?_;refine a_m rfl rfl ?_;refine any_val (rk_eql (.of rfl) (.of rfl)) rfl ?_;refine a_m rfl rfl ?_;refine any_vG1 rfl rfl inferInstance (fun hg hgp=>(rk_move (.of rfl))) rfl ?_;refine any_vG1 rfl rfl inferInstance (fun hg hgp=>(rk_move (.of rfl))) rfl ?_;refine any_vG1 rfl rfl inferInstance (fun hg hgp=>(rk_lookup keyI (.ofg hg rfl) (.ofg hg rfl) (Looks.mp .here))) rfl ?_;refine any_vG1 rfl rfl inferInstance (fun hg hgp=>(rk_fieldAddr (.of rfl) norm0_)) rfl ?_;refine any_vG1 rfl rfl inferInstance (fun hg hgp=>(rk_load1 (.ofg hg rfl) (At.lit (.there .here) rfl))) rfl ?_;refine any_vG1 rfl rfl inferInstance (fun hg hgp=>(rk_move (.of rfl))) rfl ?_;refine any_vG1 rfl rfl inferInstance (fun hg hgp=>(rk_indexAddr (.ofg hg rfl) (.ofg hg rfl) ha2' (by omega) (by omega) norm1_)) rfl ?_;refine any_vG1 rfl rfl inferInstance (fun hg hgp=>(rk_load1 (.ofg hg rfl) (At.base c2 rfl))) rfl ?_)
    rw [hmk2]
    (refine any_vG1 rfl rfl inferInstance (fun hg hgp=>(rk_gtr (.ofg hg rfl) (.ofg hg rfl))) rfl ?_;refine any_val (rk_pick_or (.of rfl) rfl) rfl ?_)
    with_reducible refine any_end ?_
    (refine n_t ?_;refine c_b rfl (fun hcd=>?_) (fun hcd=>?_);refine s_r ?_;refine a_s rfl rfl ?_;refine n_t ?_;refine r_t ?_;refine tr_blk_ret ?_;refine tr_then_ret ?_;refine tr_then_ret ?_;refine tr_blk_ret ?_;refine tr_then_ret ?_;refine tr_retE rfl (ends1 rfl rfl) ?_;rotate_left;refine s_t ?_;refine tr_region ?_;refine m_v rfl rfl ?_;refine a_s rfl rfl ?_;refine tr_nil ?_;refine tr_blk_normal ?_;refine tr_then ?_;refine tr_region ?_;refine tr_val (rk_add (.of rfl) (.of rfl) (ini (by omega))) rfl ?_;refine m_v rfl rfl ?_;refine n_t ?_;rotate_right)
    · have hbad:badO b o k = true:=by
        unfold badO
        rw [hcs]
        simpa using hcd
      rw [fitE,if_pos (badO_any hlt hbad)]
    · have hgood:badO b o k = false:=by
        unfold badO
        rw [hcs]
        simpa using hcd
      apply tr_next (k + 1,aset (cpO b o k) (.int .i64 (cntO b o (cpO b o k) k + 1)) l) ⟨by show k + 1 ≤ o.length;omega,fun i hi=>by
        by_cases e:i = k
        · rw [e];exact hgood
        · exact hf i (by omega),fun c=>by
          rw [alook_asetG]
          by_cases e:c = cpO b o k
          · subst e;rw [if_pos rfl,hcs];rfl
          · rw [if_neg e,hm,cntO,if_neg (fun h=>e h.symm),Int.add_zero],fun c=>by
          rw [aset_keys,hks]
          constructor
          · rintro (h | ⟨i,hi,h⟩)
            · exact ⟨k,by omega,h.symm⟩
            · exact ⟨i,by omega,h⟩
          · rintro ⟨i,hi,h⟩
            by_cases e:i = k
            · subst e;exact .inl h.symm
            · exact .inr ⟨i,by omega,h⟩⟩ (by show o.length - (k + 1) < o.length - k;omega)
      case hs1=>exact .cons rfl (.cons rfl (.cons rfl (.cons rfl (.cons rfl (.cons rfl (.cons rfl .nil))))))
      case ht=>exact .cons .here (.cons .here .nil)
  · obtain rfl:k = o.length:=by omega
    have hB:=badO_none hf
    have hE:fitE b o = if exclO b o then 21 else whenF (decide (b.n < tL b.sp o o.length)) 26:=by rw [fitE,hB];rfl
    rw [hE]
    refine tr_mpOpen (kv:=fun n:Int=>Value.int .i64 n) (by exact .here) fun es ck hmp=>?_
    obtain ⟨hK1,hK2⟩:=keys_of hmp hks
    (refine s_r ?_;refine tr_val (rk_lss (.of rfl) (.of rfl)) rfl ?_;refine n_t ?_;refine tr_seq ?_;refine c_d rfl (fun _=>by omega) (fun hcd=>?_);refine x_t ?_;refine tr_then_exit ?_;refine tr_blk_exit ?_;refine tr_then ?_;refine tr_seq ?_;refine s_r ?_;refine m_v rfl rfl ?_)
    with_reducible apply tr_new
    case hr=>
      with_reducible apply rk_rangeM
      case hx=>exact Is.of rfl
      case ht=>exact .here
    case hd=>rfl
    intro bi hbi
    (refine n_t ?_;refine tr_block ?_)
    refine tr_for (ι:=Array Nat) (fun seen=>∀ e ∈ es.toList,seen.contains e.born = true → ∀ c,e.key = .int .i64 c → ∀ j,j < o.length → exclB b c (cpO b o j) = false)
      (fun _=>[(46,.pointer (some ⟨bi,0,none⟩)),(5,.map (some bm)),(2,.pointer (some ⟨b0,0,none⟩)),(1,.slice a4 o.length cap4)])
      (fun seen=>[blk bi (.mapIter (some bm) ck seen ck),blk bm (.map es ck),blk b0 (.cells #[.int .i64 b.n,.slice a b.sp.length cap,.slice a2 b.cm.length cap2,.slice a3 b.ex.length cap3] 58 (0,0))]) (fun seen=>(leftOf es seen).size) ?_ ?_
    · apply tr_start #[] (fun e _ h=>by simp at h)
      case hs1=>exact .cons rfl (.cons rfl (.cons rfl (.cons rfl .nil)))
      case ht=>(try simp only [List.take_zero,List.map_nil,List.nil_append]);exact .cons .here (.cons .here (.cons .here .nil))
    intro seen hseen
    (refine s_r ?_)
    with_reducible apply tr_nextM
    case hx=>exact Is.of rfl
    case hd=>rfl
    case ht=>exact .here
    case ht2=>exact .here
    case hold=>exact hmp.lt
    case hsc=>exact Nat.le_refl _
    case hck=>exact Nat.le_refl _
    case k0=>
      intro hall
      have hX:exclO b o = false:=exclO_none fun i hi j hj=>by
        obtain ⟨e,he,hke⟩:=hK2 i hi
        exact hseen e he (hall e he) _ hke j hj
      rw [hX]
      (refine tr_val (rk_extract (.of rfl) rfl) rfl ?_;refine n_t ?_;refine tr_seq ?_;refine tr_cond_f (.of rfl) ?_;refine x_t ?_;refine tr_then_exit ?_;refine tr_blk_exit ?_;refine tr_then ?_;refine tr_seq ?_)
      with_reducible refine tr_draw 8 (by kernel_rfl) ?_
      (refine any_val (rk_loadB (.of rfl) (.there (.there .here)) norm_ (by rfl)) rfl ?_;refine a_m rfl rfl ?_;refine any_call (rk_call (.of rfl) (.cons (.of rfl) (.cons (.of rfl) .nil)) inferInstance normc_) rfl (fun w' hm'=>(told9_c (Rd.keeps h1 (Mem.keeps hm')) (Rd.keeps h4 (Mem.keeps hm')) rfl rfl hsp ho hfew)) ?_;refine any_val (rk_index (.of rfl) (.of rfl) (by omega) (by omega) norm_) rfl ?_;refine a_f rfl rfl norm0_ ?_;refine any_val (rk_load1 (.of rfl) (At.lit (.there (.there .here)) rfl)) rfl ?_;refine any_val (rk_gtr (.of rfl) (.of rfl)) rfl ?_;refine any_call (rk_call (.of rfl) (.cons (.of rfl) (.cons (.of rfl) .nil)) inferInstance normc_) rfl (fun w' hm'=>(when9_c _ 26 w')) ?_)
      with_reducible refine any_end ?_
      (refine a_s rfl rfl ?_;refine n_t ?_;refine tr_ret ?_;refine tr_retE rfl (ends1 rfl rfl) ?_)
      rfl
    case k1=>
      intro e he hns
      obtain ⟨i,hi,hke⟩:=hK1 e he
      (refine tr_val (rk_extract (.of rfl) rfl) rfl ?_;refine n_t ?_;refine tr_seq ?_;refine tr_cond_t (.of rfl) ?_;refine s_t ?_;refine tr_block ?_;refine s_r ?_)
      with_reducible apply tr_val
      case hr=>
        with_reducible apply rk_entry
        case hx=>exact Is.of rfl
        case ht=>exact .here
        case ht2=>exact .here
        case he=>exact he
        case hn=>exact hmp.nd
      case hd=>rfl
      rw [hke]
      (refine tr_val (rk_extract (.of rfl) rfl) rfl ?_;refine a_s rfl rfl ?_;refine n_r ?_;refine m_v rfl rfl ?_)
      with_reducible apply tr_new
      case hr=>
        with_reducible apply rk_rangeM
        case hx=>exact Is.of rfl
        case ht=>exact Take.there .here
      case hd=>rfl
      intro bj hbj
      (refine n_t ?_;refine tr_block ?_)
      refine tr_for (ι:=Array Nat) (fun seen2=>∀ e ∈ es.toList,seen2.contains e.born = true → ∀ d,e.key = .int .i64 d → exclB b (cpO b o i) d = false)
        (fun _=>[(52,.pointer (some ⟨bj,0,none⟩)),(10,.int .i64 (cpO b o i)),(46,.pointer (some ⟨bi,0,none⟩)),(5,.map (some bm)),(2,.pointer (some ⟨b0,0,none⟩)),(1,.slice a4 o.length cap4)])
        (fun seen2=>[blk bj (.mapIter (some bm) ck seen2 ck),blk bm (.map es ck),blk bi (.mapIter (some bm) ck (seen.push e.born) ck),blk b0 (.cells #[.int .i64 b.n,.slice a b.sp.length cap,.slice a2 b.cm.length cap2,.slice a3 b.ex.length cap3] 58 (0,0))]) (fun seen2=>(leftOf es seen2).size) ?_ ?_
      · apply tr_start #[] (fun e _ h=>by simp at h)
        case hs1=>exact .cons rfl (.cons rfl (.cons rfl (.cons rfl (.cons rfl (.cons rfl .nil)))))
        case ht=>(try simp only [List.take_zero,List.map_nil,List.nil_append]);exact .cons .here (.cons (.there .here) (.cons .here (.cons .here .nil)))
      intro seen2 hseen2
      (refine s_r ?_)
      with_reducible apply tr_nextM
      case hx=>exact Is.of rfl
      case hd=>rfl
      case ht=>exact .here
      case ht2=>exact .here
      case hold=>exact hmp.lt
      case hsc=>exact Nat.le_refl _
      case hck=>exact Nat.le_refl _
      case k0=>
        intro hall
        (refine tr_val (rk_extract (.of rfl) rfl) rfl ?_;refine n_t ?_;refine tr_seq ?_;refine tr_cond_f (.of rfl) ?_;refine x_t ?_;refine tr_then_exit ?_;refine tr_blk_exit ?_;refine tr_blk_normal ?_;refine tr_then ?_)
        apply tr_next (seen.push e.born) (fun e2 he2 hc2' c hkc j hj=>by
          rcases push_cont hc2' with h | h
          · exact hseen e2 he2 h c hkc j hj
          · obtain rfl:=born_inj hmp.nd he2 he h
            rw [hke] at hkc
            cases hkc
            obtain ⟨e3,he3,hke3⟩:=hK2 j hj
            exact hseen2 e3 he3 (hall e3 he3) _ hke3) (left_shrinks es seen e (left_mem he hns))
        case hs1=>exact .cons rfl (.cons rfl (.cons rfl (.cons rfl .nil)))
        case ht=>exact .cons (.there (.there .here)) (.cons (.there .here) (.cons (.there .here) .nil))
      case k1=>
        intro e2 he2 hns2
        obtain ⟨j,hj,hke2⟩:=hK1 e2 he2
        (refine tr_val (rk_extract (.of rfl) rfl) rfl ?_;refine n_t ?_;refine tr_seq ?_;refine tr_cond_t (.of rfl) ?_;refine s_t ?_;refine tr_block ?_;refine s_r ?_)
        with_reducible apply tr_val
        case hr=>
          with_reducible apply rk_entry
          case hx=>exact Is.of rfl
          case ht=>exact .here
          case ht2=>exact .here
          case he=>exact he2
          case hn=>exact hmp.nd
        case hd=>rfl
        rw [hke2]
        (refine tr_val (rk_extract (.of rfl) rfl) rfl ?_;refine a_s rfl rfl ?_;refine n_r ?_;refine tr_val (rk_loadB (.of rfl) (.there (.there (.there .here))) norm_ (by rfl)) rfl ?_;refine m_v rfl rfl ?_;refine m_v rfl rfl ?_;refine tr_callV (rk_call (.of rfl) (.cons (.of rfl) (.cons (.of rfl) (.cons (.of rfl) .nil))) inferInstance normc_) rfl (fun w' hm'=>(excl_c rfl rfl (Rd.keeps h3 (Mem.keeps hm')))) ?_;refine n_t ?_;refine c_b rfl (fun hcd=>?_) (fun hcd=>?_);refine s_r ?_;refine a_s rfl rfl ?_;refine n_t ?_;refine tr_ret ?_;refine tr_blk_ret ?_;refine tr_then_ret ?_;refine tr_blk_ret ?_;refine tr_blk_ret ?_;refine tr_then_ret ?_;refine tr_blk_ret ?_;refine tr_then_ret ?_;refine tr_retE rfl (ends1 rfl rfl) ?_;rotate_left;refine tr_skip ?_;refine tr_blk_normal ?_;refine tr_then ?_;rotate_right)
        · rw [exclO_at hi hj hcd];rfl
        · apply tr_next (seen2.push e2.born) (fun e3 he3 hc3' d hkd=>by
            rcases push_cont hc3' with h | h
            · exact hseen2 e3 he3 h d hkd
            · obtain rfl:=born_inj hmp.nd he3 he2 h
              rw [hke2] at hkd
              cases hkd
              exact hcd) (left_shrinks es seen2 e2 (left_mem he2 hns2))
          case hs1=>exact .cons rfl (.cons rfl (.cons rfl (.cons rfl (.cons rfl (.cons rfl .nil)))))
          case ht=>exact .cons .here (.cons .here (.cons .here (.cons .here .nil)))
end Go.Proofs.A1
namespace Go.Proofs.A1
open Go Go.SL
theorem natsL_ints (o:List Nat):natsL o = ints (o.map fun (i:Nat)=>(i:Int)):=by
  simp [natsL,ints]
theorem toNat_back {ol:List Int} (h:∀ i ∈ ol,0 ≤ i):(ol.map Int.toNat).map (fun (i:Nat)=>(i:Int)) = ol:=by
  rw [List.map_map]
  conv=>rhs;rw [← List.map_id ol]
  refine List.map_congr_left fun i hi=>?_
  have:=h i hi
  simp only [Function.comp_apply,id_eq];omega
theorem rd_take_ints {w:World} {a:Option Addr} {n cap k:Nat} {l:List Int} (h:Rd w (.slice a n cap) 1 (ints l)) (hn:n = l.length) (hk:k ≤ l.length) :
    Rd w (Go.sliced a 0 (k:Int).toNat cap 1) 1 (ints (l.take k)):=by
  have:=h.sliced (l:=0) (m:=k) (Nat.zero_le _) (by omega)
  simpa [ints,List.map_take] using this
theorem ordE_eq {b:Br} {ol:List Int} {k:Nat} (h:k < ol.length):ordE b ol k = firstF [whenF (decide (ol[k] < 0) || decide (ol[k] ≥ (b.sp.length:Int))) 10,whenF ((ol.take k).contains ol[k]) 9]:=by
  unfold ordE
  simp [h]
theorem ordE_ok {b:Br} {ol:List Int} {k:Nat} (h:k < ol.length) (hz:ordE b ol k = 0):0 ≤ ol[k] ∧ ol[k] < b.sp.length ∧ (ol.take k).contains ol[k] = false:=by
  rw [ordE_eq h,firstF_zero] at hz
  simp only [List.mem_cons,List.not_mem_nil,or_false,forall_eq_or_imp,forall_eq] at hz
  rw [whenF_zero (by decide),whenF_zero (by decide)] at hz
  have h1:=hz.1
  simp only [Bool.or_eq_false_iff,decide_eq_false_iff_not] at h1
  exact ⟨by omega,by omega,hz.2⟩
set_option maxHeartbeats 1000000 in
theorem order_c {b:Br} {sv cv xv ov:Value} {ol:List Int} {w:World} (h1:Rd w sv 4 (spsL b.sp)) (h2:Rd w cv 1 (ints b.cm)) (h3:Rd w xv 2 (prsL b.ex)) (h4:Rd w ov 1 (ints ol)) (hok:BrOk b) :
    GivesV Tryz.prog 42 [.agg #[.int .i64 b.n,sv,cv,xv],ov] w (.int .i64 (orderE b ol)):=by
  have h1':=h1
  have h2':=h2
  have h3':=h3
  have h4':=h4
  obtain ⟨a,cap,bs,os,rfl,hcap,hmax,ha,hc⟩:=h1'
  obtain ⟨a2,cap2,bb2,o2,rfl,hcap2,hmax2,ha2,hc2⟩:=h2'
  obtain ⟨a3,cap3,bb3,o3,rfl,hcap3,hmax3,ha3,hc3⟩:=h3'
  obtain ⟨a4,cap4,bb4,o4,rfl,hcap4,hmax4,ha4,hc4⟩:=h4'
  rw [spsL_length] at *
  rw [ints_length] at *
  rw [prsL_length] at *
  rw [ints_length] at *
  unfold maxLen at hmax hmax2 hmax3 hmax4
  refine givesV_of_tr Tryz.func42 rfl rfl ?_
  (refine s_r ?_;refine tr_new (rk_box (.of rfl) rfl) rfl (fun _ _=>?_);refine a_s rfl rfl ?_;refine n_t ?_;refine tr_seq ?_;refine s_r ?_;refine m_v rfl rfl ?_;refine tr_val (rk_len_slice (.of rfl)) rfl ?_;refine tr_val (rk_gtr (.of rfl) (.of rfl)) rfl ?_;refine n_t ?_;refine c_d rfl (fun hcd=>?_) (fun hcd=>?_);refine s_r ?_;refine a_s rfl rfl ?_;refine n_t ?_;refine r_t ?_;refine tr_retE rfl (ends1 rfl rfl) ?_;rotate_left;refine s_t ?_;refine tr_seq ?_;refine s_r ?_;refine m_v rfl rfl ?_;refine tr_val (rk_len_slice (.of rfl)) rfl ?_;refine m_v rfl rfl ?_;refine n_t ?_;refine tr_block ?_;rotate_right)
  · rw [orderE,if_pos (by omega)]
  have hl8:ol.length ≤ 8:=by omega
  rename_i b0 hb0
  refine tr_for (ι:=Nat) (fun k=>k ≤ ol.length ∧ ∀ i,i < k → ordE b ol i = 0)
    (fun k=>[(13,.int .i64 k),(12,.int .i64 ol.length),(11,.slice a4 ol.length cap4),(2,.pointer (some ⟨b0,0,none⟩)),(1,.slice a4 ol.length cap4)])
    (fun _=>[blk b0 (.cells #[.int .i64 b.n,.slice a b.sp.length cap,.slice a2 b.cm.length cap2,.slice a3 b.ex.length cap3] 58 (0,0))]) (fun k=>ol.length - k) ?_ ?_
  · apply tr_start (0:Nat) ⟨Nat.zero_le _,fun i h=>by omega⟩
    case hs1=>exact .cons rfl (.cons rfl (.cons rfl (.cons rfl (.cons rfl .nil))))
    case ht=>(try simp only [List.take_zero,List.map_nil,List.nil_append]);exact .cons .here .nil
  rintro k ⟨hk,hf⟩
  by_cases hlt:k < ol.length
  · have ha4':=ha4 (ints_ne hlt)
    have c4:w.cell? ⟨bb4,o4 + k * 1,none⟩ = some (.int .i64 ol[k]):=(hc4 k _ (ints_get hlt)).2 0 _ rfl
    have hcl:∀ w',Keeps [] w w' → GivesV Tryz.prog 76 [Go.sliced a4 0 (k:Int).toNat cap4 1,.int .i64 ol[k]] w' (.bool ((ol.take k).contains ol[k])):=fun w' hk'=>contains_c _ (rd_take_ints (h4.keeps hk') rfl hk)
    have heq:=ordE_eq (b:=b) hlt
    (refine s_r ?_;refine tr_val (rk_lss (.of rfl) (.of rfl)) rfl ?_;refine n_t ?_;refine tr_seq ?_;refine c_d rfl (fun hcd=>?_) (fun _=>by omega);refine s_t ?_;refine tr_seq ?_;refine tr_block ?_;refine s_r ?_;refine m_v rfl rfl ?_;refine tr_val (rk_indexAddr (.of rfl) (.of rfl) ha4' (by omega) hcd norm1_) rfl ?_;refine tr_val (rk_load1 (.of rfl) (At.base c4 rfl)) rfl ?_;refine a_s rfl rfl ?_;refine a_s rfl rfl ?_;refine n_t ?_;refine tr_seq ?_)
    with_reducible refine tr_draw 16 (by kernel_rfl) ?_
    (refine a_m rfl rfl ?_;refine any_val (rk_lss (.of rfl) (.of rfl)) rfl ?_;refine a_m rfl rfl ?_;refine any_vG1 rfl rfl inferInstance (fun hg hgp=>(rk_move (.of rfl))) rfl ?_;refine any_vG1 rfl rfl inferInstance (fun hg hgp=>(rk_fieldAddr (.of rfl) norm0_)) rfl ?_;refine any_vG1 rfl rfl inferInstance (fun hg hgp=>(rk_load1 (.ofg hg rfl) (At.lit .here rfl))) rfl ?_;refine any_vG1 rfl rfl inferInstance (fun hg hgp=>(rk_len_slice (.ofg hg rfl))) rfl ?_;refine any_vG1 rfl rfl inferInstance (fun hg hgp=>(rk_geq (.ofg hg rfl) (.ofg hg rfl))) rfl ?_;refine any_val (rk_pick_or (.of rfl) rfl) rfl ?_;refine any_call (rk_call (.of rfl) (.cons (.of rfl) (.cons (.of rfl) .nil)) inferInstance normc_) rfl (fun w' hm'=>(when9_c _ 10 w')) ?_;refine a_m rfl rfl ?_;refine a_m rfl rfl ?_;refine any_val (rk_slice_h (.of rfl) (.of rfl) (by omega) (by omega)) rfl ?_;refine a_m rfl rfl ?_;refine any_call (rk_call (.of rfl) (.cons (.of rfl) (.cons (.of rfl) .nil)) inferInstance normc_) rfl (fun w' hm'=>(hcl w' (Mem.keeps hm'))) ?_;refine any_call (rk_call (.of rfl) (.cons (.of rfl) (.cons (.of rfl) .nil)) inferInstance normc_) rfl (fun w' hm'=>(when9_c _ 9 w')) ?_)
    with_reducible refine any_end ?_
    (refine tr_new (rk_sliceLit (.cons (.of rfl) (.cons (.of rfl) .nil)) rfl rfl rfl rfl) rfl (fun _ _=>?_);refine tr_callV (rk_call (.of rfl) (.cons (.of rfl) .nil) inferInstance normc_) rfl (fun w' hm'=>(first_pB9 (Mem.rdBlk hm' .here rfl rfl) (IntL.cons (IntL.cons IntL.nil)))) ?_;refine a_s rfl rfl ?_;refine n_r ?_;refine m_v rfl rfl ?_;refine tr_val (rk_neq (.of rfl) (.of rfl)) rfl ?_;refine n_t ?_;refine c_d rfl (fun hcd=>?_) (fun hcd=>?_);refine s_r ?_;refine m_v rfl rfl ?_;refine a_s rfl rfl ?_;refine n_t ?_;refine tr_ret ?_;refine tr_blk_ret ?_;refine tr_then_ret ?_;refine tr_then_ret ?_;refine tr_blk_ret ?_;refine tr_then_ret ?_;refine tr_retE rfl (ends1 rfl rfl) ?_;rotate_left;refine tr_skip ?_;refine tr_blk_normal ?_;refine tr_then ?_;refine tr_region ?_;refine tr_val (rk_add (.of rfl) (.of rfl) (ini (by omega))) rfl ?_;refine m_v rfl rfl ?_;refine n_t ?_;rotate_right)
    · rw [← heq] at hcd ⊢
      have hE:=errE_bad hf hlt hcd
      rw [orderE,if_neg (by omega),hE,if_pos hcd]
    · rw [← heq] at hcd
      have hz:ordE b ol k = 0:=Decidable.not_not.1 hcd
      apply tr_next (k + 1) ⟨by omega,fun i hi=>by
        by_cases e:i = k
        · rw [e];exact hz
        · exact hf i (by omega)⟩ (by omega)
      case hs1=>exact .cons rfl (.cons rfl (.cons rfl (.cons rfl (.cons rfl .nil))))
      case ht=>(try simp only [List.take_zero,List.map_nil,List.nil_append]);exact .cons (.there .here) .nil
  · obtain rfl:k = ol.length:=by omega
    have hnn:∀ i ∈ ol,0 ≤ i ∧ i < b.sp.length:=by
      intro i hi
      obtain ⟨j,hj,rfl⟩:=List.getElem_of_mem hi
      have:=ordE_ok hj (hf j hj)
      omega
    have hE:orderE b ol = fitE b (ol.map Int.toNat):=by
      rw [orderE,if_neg (by omega),errE_ok.2 hf];rfl
    have hrd:Rd w (.slice a4 ol.length cap4) 1 (natsL (ol.map Int.toNat)):=by
      rw [natsL_ints,toNat_back fun i hi=>(hnn i hi).1];exact h4
    rw [hE]
    (refine s_r ?_;refine tr_val (rk_lss (.of rfl) (.of rfl)) rfl ?_;refine n_t ?_;refine tr_seq ?_;refine c_d rfl (fun _=>by omega) (fun hcd=>?_);refine x_t ?_;refine tr_then_exit ?_;refine tr_blk_exit ?_;refine tr_then ?_;refine s_r ?_;refine tr_val (rk_loadB (.of rfl) .here norm_ (by rfl)) rfl ?_;refine m_v rfl rfl ?_)
    with_reducible apply tr_callV
    case hr=>exact rk_call (.of rfl) (.cons (.of rfl) (.cons (.of rfl) .nil)) inferInstance normc_
    case hd=>rfl
    case hc=>
      intro w' hm'
      exact fits_c (h1.keeps hm'.keeps) (h2.keeps hm'.keeps) (h3.keeps hm'.keeps) (hrd.keeps hm'.keeps) hok (fun i hi=>by
        obtain ⟨j,hj,rfl⟩:=List.mem_map.1 hi
        have:=hnn j hj
        omega) (by rw [List.length_map];omega)
    (refine a_s rfl rfl ?_;refine n_t ?_;refine tr_ret ?_;refine tr_retE rfl (ends1 rfl rfl) ?_)
    rfl
def cfO (ol:List Int):List Nat:=ol.map Int.toNat
theorem orderE_ok {b:Br} {ol:List Int} (h:orderE b ol = 0):ol.length ≤ 8 ∧ (∀ k (h:k < ol.length),0 ≤ ol[k] ∧ ol[k] < b.sp.length ∧ (ol.take k).contains ol[k] = false) ∧ fitE b (cfO ol) = 0:=by
  unfold orderE at h
  split at h
  · cases h
  · split at h
    · rename_i h2;exact absurd h h2
    · rename_i h1 h2
      have h3:=errE_ok.1 (Decidable.not_not.1 h2)
      exact ⟨by omega,fun k hk=>ordE_ok hk (h3 k hk),h⟩
end Go.Proofs.A1
