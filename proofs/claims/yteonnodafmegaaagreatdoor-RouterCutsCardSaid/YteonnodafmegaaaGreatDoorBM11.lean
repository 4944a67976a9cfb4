/- Parts of the proof: LD LE LF LG GkRegP LH TryzShelf GkDraws. -/
import Derived.Test.YteonnodafmegaaaGreatDoorBM10
import Derived.Test.YteonnodafmegaaaGreatDoorBM04
import Derived.Test.YteonnodafmegaaaGreatDoorBM06
import Derived.Shelf.Strings.OnBuilder
import Derived.Shelf.Strconv.Itoa3
import Derived.Ground.NamesProg
import Derived.Ground.Names2Prog
import Derived.Test.YteonnodafmegaaaGreatDoorProg
import Derived.Calls
import Derived.RunT
set_option linter.unusedSectionVars false
set_option linter.unusedVariables false
set_option linter.unusedSimpArgs false
namespace Go.Proofs.A1
open Go Go.SL
theorem lJ (cs:List Value) (o:Nat) (v:Value) (h:o<cs.length):setCells cs o [v]=cs.set o v:=by
 simp [setCells]
theorem DI (L:List ByteArray) (cur:List Value) {k:Nat} (h:k<L.length) (v:ByteArray):setCells (aO L++cur) (k*1) [.string v]=aO (L.set k v)++cur:=by
 rw [Nat.mul_one,lJ _ _ _ (by rw [Zg,dd];omega),List.set_append_left _ _ (by rw [dd];exact h)]
 unfold aO
 rw [List.map_set]
theorem qq (L:List ByteArray) (cur:List Value) {k:Nat} (h:k<L.length):(aO L++cur)[k*1]? = some (.string L[k]):=by
 rw [Nat.mul_one,List.getElem?_append_left (by rw [dd];exact h)]
 unfold aO
 rw [List.getElem?_map,Zc h];rfl
def zV (r:Ro) (t:Tk) (k:Nat):ByteArray:=if t.at k=⟨#[]⟩ then ⟨#[]⟩ else if jB r (k:Nat) t.de=⟨#[]⟩ then dash else jB r (k:Nat) t.de
def kb (r:Ro) (t:Tk) (k:Nat):List ByteArray:=(List.range r.lv.toNat).map fun i=>if i<k then zV r t i else jB r (i:Nat) t.de
theorem kI (r:Ro) (t:Tk) (k:Nat):(kb r t k).length=r.lv.toNat:=by unfold kb;simp
theorem ER (r:Ro) (t:Tk):kb r t 0=cy r t.de:=by unfold kb cy;simp
theorem Gt (r:Ro) (t:Tk):kb r t r.lv.toNat=(vR r t).so:=by
 unfold kb vR
 refine List.map_congr_left fun i hi=>?_
 rw [if_pos (List.mem_range.1 hi)];rfl
theorem yh {r:Ro} {t:Tk} {k i:Nat} (h:i<r.lv.toNat):(kb r t k)[i]? = some (if i<k then zV r t i else jB r (i:Nat) t.de):=by
 unfold kb
 rw [List.getElem?_map,List.getElem?_range h];rfl
theorem Gs {r:Ro} {t:Tk} {k:Nat} (h:k<(kb r t k).length):(kb r t k)[k]=jB r (k:Nat) t.de:=by
 have h1:=Zc h
 rw [yh (by rw [kI] at h;exact h),if_neg (Nat.lt_irrefl _)] at h1
 exact (Option.some.inj h1).symm
theorem Gr {r:Ro} {t:Tk} {k:Nat} (h:k<r.lv.toNat):(kb r t k).set k (zV r t k)=kb r t (k+1):=by
 apply List.ext_getElem?
 intro i
 rw [List.getElem?_set]
 by_cases hi:i<r.lv.toNat
 ·rw [yh hi,yh hi,kI]
  by_cases e:k=i
  ·subst e
   rw [if_pos rfl,if_pos hi,if_pos (Nat.lt_succ_self _)]
  ·rw [if_neg e]
   by_cases e2:i<k
   ·rw [if_pos e2,if_pos (by omega)]
   ·rw [if_neg e2,if_neg (by omega)]
 ·have e1:(kb r t k)[i]? = none:=List.getElem?_eq_none (by rw [kI];omega)
  have e2:(kb r t (k+1))[i]? = none:=List.getElem?_eq_none (by rw [kI];omega)
  rw [if_neg (by omega),e1,e2]
theorem ES {r:Ro} {t:Tk} {k:Nat} (h:zV r t k=jB r (k:Nat) t.de):kb r t (k+1)=kb r t k:=by
 unfold kb
 refine List.map_congr_left fun i _=>?_
 by_cases e:i=k
 ·subst e
  rw [if_pos (Nat.lt_succ_self _),if_neg (Nat.lt_irrefl _),h]
 ·by_cases e2:i<k
  ·rw [if_pos e2,if_pos (by omega)]
  ·rw [if_neg e2,if_neg (by omega)]
set_option maxHeartbeats 1000000 in
theorem O0 {r:Ro} {s d t p:Value} {x:gy} {b:Nat} {w:World} (h:RR w r s d t p) (hA:BR w b (RC r s d t p)) (Bb:1≤r.lv∧r.lv≤1000) (cG:r.ti.length≤1000000) (hx:Rd w x.v 1 (iT x.tk.so)) (NX:(x.tk.so.length:Int)=r.lv) :
  bd Tryz.prog 167 [.agg x.cells.toArray,.pointer (some ⟨b,0,none⟩)] w [] (fun _:Value=>True) (fun v=>.agg #[.string x.tk.de,v]) (fun v=>[row 9 1 v r.lv.toNat (aO (vR r x.tk).so)]):=by
 have h1:=Rd.one h.sr
 have h2:=Rd.one h.de
 have h3:=Rd.one h.ti
 have h4:=Rd.one h.po
 have jR:∀ (j:Nat) (u:Value),[Value.int .i64 r.lv,.int .i64 r.ma,s,d,t,p][j]? = some u→w.cell? ⟨b,0+j,none⟩=some u:=hA
 clear hA
 unfold gy.cells
 obtain ⟨tk,tv⟩:=x
 dsimp only at *
 obtain ⟨sa,NI,sb,R2,rfl,N0,A7,SX,SU⟩:=hx
 rw [cg] at *
 unfold maxLen at A7
 refine aQ Tryz.func167 rfl rfl ?_
 (refine Jr<|Jy rfl rfl fun _ _=>Jz rfl rfl fun _ _=>Ji<|ab (iv (eF.base jR rfl)) rfl ?_;refine bF rfl rfl ae ?_;refine JL rfl (.there .here) rfl ?_)
 rename_i b2 acY b3 acW
 refine JN aZ rfl (fun w1 aS=>u5 tk.de (h.keeps aS.keeps) Bb.2 cG) ?_
 intro v _
 dsimp only [id_eq,Zb,Za]
 have me:=kI r tk
 rw [← ER]
 refine c7 (E:=9) (sz:=1) (v:=v) (by exact .here) (by omega) fun gb cap cur e sH tb sZ u9=>?_
 subst e
 (refine Ja rfl<|Jn<|Jq<|Jr<|bF rfl rfl ae ?_;refine JL rfl bN rfl<|JI rfl<|Jv rfl<|Jn<|J0 ?_)
 refine aX (ι:=Nat×List ByteArray) (fun y=>y.1≤tk.so.length∧y.2=kb r tk y.1) (fun y=>[(14,.int .i64 (y.1:Nat)),(13,.int .i64 (tk.so.length:Nat)),(12,.slice sa tk.so.length NI),(4,.slice (some ⟨gb,0,none⟩) r.lv.toNat cap),(3,.pointer (some ⟨b3,0,none⟩)),(2,.pointer (some ⟨b2,0,none⟩))])
  (fun y=>[bA gb (.cells (aO y.2++cur).toArray 9 (0,0)),bA b3 (.cells #[.string ⟨#[]⟩,.slice none 0 0] 78 (0,0)),bA b2 (.cells #[.string tk.de,.slice sa tk.so.length NI] 78 (0,0))]) (fun y=>tk.so.length-y.1) ?_ ?_
 ·apply aJ (0,kb r tk 0) ⟨Zi _,rfl⟩
  case hs1=>exact cd
  case ht=>exact sS
 rintro ⟨k,L⟩ ⟨hk,hL⟩
 dsimp only at hk hL ⊢
 have FG:L.length=r.lv.toNat:=by rw [hL,kI]
 have iF:(aO L++cur).length=cap*1:=by
  rw [Zg,dd] at sZ ⊢
  rw [kI] at sZ
  omega
 by_cases aL:k<tk.so.length
 ·have H9:=SX (mC aL)
  have H7:w.cell? ⟨sb,R2+k*1,none⟩=some (.string tk.so[k]):=(SU k _ (jG aL)).2 0 _ rfl
  have Mv:k<L.length:=by omega
  have iQ:L[k]=jB r (k:Nat) tk.de:=by subst hL;exact Gs Mv
  have c1:=qq L cur Mv
  rw [iQ] at c1
  have p1:=DI L cur Mv ⟨#[]⟩
  have p2:=DI L cur Mv ⟨#[45]⟩
  have hle:k*1+1≤(aO L++cur).length:=by omega
  have UQ:k<r.lv.toNat:=by omega
  have jb:tk.at k=tk.so[k]:=by unfold Tk.at;rw [List.getD_eq_getElem?_getD,Zc aL];rfl
  have hF:zV r tk k=if tk.so[k]=⟨#[]⟩ then ⟨#[]⟩ else if jB r (k:Nat) tk.de=⟨#[]⟩ then dash else jB r (k:Nat) tk.de:=by unfold zV;rw [jb]
  have mO:∀ u,zV r tk k=u→L.set k u=kb r tk (k+1):=fun u hu=>by rw [← hu,hL];exact Gr UQ
  have H8:zV r tk k=jB r (k:Nat) tk.de→L=kb r tk (k+1):=fun hu=>by rw [hL,ES hu]
  generalize jB r (k:Nat) tk.de=ck at *
  generalize tk.so[k]=sk at *
  (refine Jr<|JA rfl<|Jn<|Jq<|Jd rfl fun ar=>Jk<|Jq<|J0<|Jr<|Jv rfl<|ab (az (.of rfl) (.of rfl) H9 (by omega) ar ba) rfl ?_;refine ab (ag (.of rfl) (At.base H7 rfl)) rfl ?_;refine Ja rfl<|Ja rfl<|Ji<|Jv rfl<|ab (dR (.of rfl) (.of rfl)) rfl ?_;refine Jn<|gm rfl (fun ar=>?_) fun ar=>?_;refine Jg<|Jv rfl<|Jv rfl<|ab (az (.of rfl) (.of rfl) rfl (by omega) (by omega) ba) rfl ?_;refine aq (.of rfl) (.of rfl) .here rfl rfl (ed rfl) hle p1 ?_;refine Jx<|Jj<|Jt<|Jg<|JB rfl (by omega)<|Jv rfl<|Jn ?_;rotate_left;refine Jr<|Jv rfl<|Jv rfl<|ab (az (.of rfl) (.of rfl) rfl (by omega) (by omega) ba) rfl ?_;refine ab (ag (.of rfl) (At.kz .here c1)) rfl ?_;refine ab (dR (.of rfl) (.of rfl)) rfl ?_;refine Jn<|gm rfl (fun ar=>?_) fun ar=>?_;refine Jg<|Jv rfl<|Jv rfl<|ab (az (.of rfl) (.of rfl) rfl (by omega) (by omega) ba) rfl ?_;refine aq (.of rfl) (.of rfl) .here rfl rfl (ed rfl) hle p2 ?_;refine Jx<|Jj<|Jt<|Jg<|JB rfl (by omega)<|Jv rfl<|Jn ?_;rotate_left;refine Jw<|Jj<|Jt<|Jg<|JB rfl (by omega)<|Jv rfl<|Jn ?_;rotate_right;rotate_right)
  ·rw [if_pos ar] at hF
   rw [mO _ hF]
   apply aK (k+1,kb r tk (k+1)) ⟨by show k+1≤_;omega,rfl⟩ (by show tk.so.length-(k+1)<tk.so.length-k;omega)
   case hs1=>exact cd
   case ht=>exact sS
  ·rw [if_neg (by assumption),if_pos ar] at hF
   have hq:L.set k ⟨#[45]⟩=kb r tk (k+1):=mO _ hF
   rw [hq]
   apply aK (k+1,kb r tk (k+1)) ⟨by show k+1≤_;omega,rfl⟩ (by show tk.so.length-(k+1)<tk.so.length-k;omega)
   case hs1=>exact cd
   case ht=>exact sS
  ·rw [if_neg (by assumption),if_neg ar] at hF
   apply aK (k+1,L) ⟨by show k+1≤_;omega,H8 hF⟩ (by show tk.so.length-(k+1)<tk.so.length-k;omega)
   case hs1=>exact cd
   case ht=>exact sS
 ·have e:k=tk.so.length:=by omega
  subst e
  have qW:L=(vR r tk).so:=by rw [hL,← Gt];congr 1;omega
  (refine Jr<|JA rfl<|Jn<|Jq<|Jc rfl fun ar=>Jp<|Jl<|Jo<|Jt<|Jr<|bF rfl rfl ae ?_;refine JL rfl bN rfl<|Jv rfl<|ab (aU (.cons (.of rfl) (.cons (.of rfl) .nil)) an) rfl ?_;refine aq (.of rfl) (.of rfl) (.there .here) rfl rfl (gF rfl rfl) (bC rfl) an ?_;refine Jn<|Je ?_)
  subst qW
  have P4:(aO (vR r tk).so).length=r.lv.toNat*1:=by rw [dd,FG,Nat.mul_one]
  refine c6 (n:=r.lv.toNat) (xs:=aO (vR r tk).so) (cap:=cap) (g:=gb) (E:=9) (sz:=1) (by exact Take.there .here) sH tb iF P4 ?_
  first | with_reducible apply aM | with_reducible apply aN
  case he=>exact kq rfl inferInstance rfl (.there .here) an (by rfl)
  case hR=>
   intro w' au
   exact aB (.slice (some ⟨gb,0,none⟩) r.lv.toNat cap) trivial (by exact .cons .here .nil) au rfl
def KX (W:List gy):a8:=mE 9 (W.map gy.v) (W.map fun y=>aO y.tk.so)
theorem KW:mE 9 [] []=KX []:=rfl
theorem DB (W:List gy) (y:gy):(jm (W++[y])).flatten=(jm W).flatten++[.string y.tk.de,y.v]:=by
 unfold jm;simp [gy.cells]
theorem PK {kv:Value} {l:List gy} {g:Tk→Tk} {n:Nat} {f:FuncId} {first cap:List Value} [bS Tryz.prog f] {w:World} (h:Rd w kv 2 (jm l)) (hM:vN w l) (hn:l.length≤1000) (hg:∀ x∈l,(g x.tk).so.length=n)
  (cn:∀ x∈l,∀ w',aG [] w w'→bd Tryz.prog f (first++[.agg x.cells.toArray]++cap) w' [] (fun _:Value=>True) (fun v=>.agg #[.string (g x.tk).de,v]) (fun v=>[row 9 1 v n (aO (g x.tk).so)])) :
  bd Tryz.prog 166 [kv,.func (.func f) first.toArray cap.toArray] w [] (fun x:Value×List gy=>c8 x.2=(c8 l).map g) (fun x=>x.1) (fun x=>[row 78 2 x.1 x.2.length (jm x.2).flatten,KX x.2]):=by
 obtain ⟨a,cp,b,o,rfl,db,bT,ha,hc⟩:=h
 rw [eK] at *
 unfold maxLen at bT
 refine aQ Tryz.func166 rfl rfl ?_
 refine Jr<|Ja rfl<|Ji<|Ja rfl<|Jn<|Jq<|Jr<|Jv rfl<|JI rfl<|Jv rfl<|Jn<|J0 ?_
 refine aP 78 2 ?_
 refine kJ 9 ?_
 refine aX (ι:=Nat×Value×List gy) (fun x=>x.1≤l.length∧c8 x.2.2=(c8 (l.take x.1)).map g) (fun x=>[(10,.int .i64 (x.1:Nat)),(9,.int .i64 (l.length:Nat)),(8,.slice a l.length cp),(5,x.2.1),(1,.func (.func f) first.toArray cap.toArray)])
  (fun x=>[row 78 2 x.2.1 x.2.2.length (jm x.2.2).flatten,mE 9 (x.2.2.map gy.v) (x.2.2.map fun y=>aO y.tk.so)]) (fun x=>l.length-x.1) ?_ ?_
 ·apply aJ (0,.slice none 0 0,[]) ⟨Zi _,rfl⟩
  case hs1=>exact cd
  case ht=>
   exact .cons (.there .here) (.cons .here .nil)
 rintro ⟨k,v,W⟩ ⟨hk,hW⟩
 dsimp only at hk hW ⊢
 have RJ:W.length=k:=by
  have:=congrArg List.length hW
  unfold c8 at this
  rw [Zd,Zd,Zd,List.length_take] at this
  omega
 by_cases aL:k<l.length
 ·have cE:=ha (mA aL)
  have aC:=(hc k _ (kc aL)).2
  have iF:=cn _ (Zj aL)
  have Qt:=hg _ (Zj aL)
  have ij:=Rd.one (hM _ (Zj aL))
  have htk:(c8 (l.take (k+1))).map g=(c8 (l.take k)).map g++[g l[k].tk]:=by
   unfold c8
   rw [List.take_succ_eq_append_getElem aL,List.map_append,List.map_append];rfl
  have sG:(jm W).flatten.length=W.length*2:=by rw [fQ (Cf W),eK]
  unfold gy.cells at aC iF
  refine aY (E:=78) (sz:=2) (v:=v) (by exact .here) fun va vc e=>?_
  subst e
  (refine Jr<|JA rfl<|Jn<|Jq<|Jd rfl fun ar=>Jk<|Jq<|J0<|Jr<|ab (fH cE ar) rfl ?_;refine ab (iv (eF.base aC rfl)) rfl ?_;refine Jz rfl rfl fun _ _=>aq (.of rfl) (.of rfl) .here rfl rfl (gF rfl ij) (bC rfl) an ?_;refine Jn<|Jg<|Jv rfl<|Jv rfl<|ab (cz .here) rfl ?_)
  refine JN bI rfl (fun w1 aS=>iF w1 aS.keeps) ?_
  intro hv _
  dsimp only [id_eq,Zb,Za]
  refine aY (E:=9) (sz:=1) (v:=hv) (by exact .here) fun iW jq e=>?_
  subst e
  refine bb (br (.cons (.of rfl) .nil) rfl rfl bM bM an) rfl (fun _ _=>?_)
  refine bB (.of rfl) (.of rfl) cX .here an (by rfl) (gF rfl rfl) (by rfl) (by rfl) (by rfl) eH (by rfl) ?_
  intro v'
  refine Ja rfl<|Jx<|Jj<|Jt<|Jg<|JB rfl (by omega)<|Jv rfl<|Jn ?_
  have V7:(aO (g l[k].tk).so).length=n:=by rw [dd,Qt]
  with_reducible apply my (E:=9) (vs:=W.map gy.v) (xs:=W.map fun y=>aO y.tk.so) (v:=.slice iW n jq) (x:=aO (g l[k].tk).so) (n:=n)
  case ht=>exact eR
  case ht2=>exact bN
  case hn=>exact V7.symm
  case hl=>rw [Zd,Zd]
  case k=>
   apply aK (k+1,v',W++[⟨g l[k].tk,.slice iW n jq⟩]) ⟨by show k+1≤_;omega,by
    show c8 (W++[_])=_
    unfold c8 at hW htk ⊢
    rw [List.map_append,hW];exact htk.symm⟩ (by show l.length-(k+1)<l.length-k;omega)
   case hs1=>exact cd
   case ht=>
    dsimp only
    rw [DB,Zg,List.map_append,List.map_append]
    simp only [List.map_cons,Zf,List.length_cons,List.length_nil,Nat.zero_add]
    exact .cons (.there .here) (.cons .here .nil)
 ·have e:k=l.length:=by omega
  rw [e,List.take_length] at hW
  refine aY (E:=78) (sz:=2) (v:=v) (by exact .here) fun va vc e=>?_
  subst e
  refine Jr<|JA rfl<|Jn<|Jq<|Jc rfl fun ar=>Jp<|Jl<|Jo<|Jt<|Jr<|Jv rfl<|Ja rfl<|Jn<|Je ?_
  first | with_reducible apply aM | with_reducible apply aN
  case he=>exact dp rfl rfl
  case hR=>
   intro w' au
   exact aB (.slice va W.length vc,W) hW (by exact .cons .here (.cons .here .nil)) au rfl
def KV (r:Ro) (l:List Tk):List Tk:=if (jd r l).2.2≠0 then [] else l.map (vR r)
set_option maxHeartbeats 1000000 in
theorem Kh {r:Ro} {s d t p kv:Value} {l:List gy} {w:World} (h:RR w r s d t p) (cG:mY r) (hw:Rd w kv 2 (jm l)) (hM:vN w l) :
  bd Tryz.prog 47 [RA r s d t p,kv] w [] (fun x:Value×List gy=>c8 x.2=KV r (c8 l)) (fun x=>.tuple #[x.1,.int .i64 (jd r (c8 l)).2.2]) (fun x=>[row 78 2 x.1 x.2.length (jm x.2).flatten,KX x.2]):=by
 have h1:=Rd.one h.sr
 have h2:=Rd.one h.de
 have h3:=Rd.one h.ti
 have h4:=Rd.one h.po
 have UQ:=Rd.one hw
 unfold RA
 refine aQ Tryz.func47 rfl rfl ?_
 (refine Jr<|Jy rfl rfl fun _ _=>Ja rfl<|Ja rfl<|Jn<|Jq<|Jr<|ab (cz .here) rfl ?_;refine Jv rfl ?_)
 rename_i b2 tb
 refine JN aZ rfl (fun w1 aS=>zG (h.keeps aS.keeps) cG (hw.keeps aS.keeps) (hM.keeps aS.keeps)) ?_
 have FD:KV r (c8 l)=if (jd r (c8 l)).2.2≠0 then [] else (c8 l).map (vR r):=rfl
 have Qa:(jd r (c8 l)).2.2=0→fU r=0∧Ac r (c8 l)=0:=fun h0=>by
  unfold jd at h0
  by_cases c1:fU r=0
  ·rw [if_neg (not_not_intro c1)] at h0
   by_cases c2:Ac r (c8 l)=0
   ·exact ⟨c1,c2⟩
   ·rw [if_pos c2] at h0;exact absurd h0 c2
  ·rw [if_pos c1] at h0;exact absurd h0 c1
 by_cases zN:(jd r (c8 l)).2.2=0
 ·obtain ⟨zO,P6⟩:=Qa zN
  have dB:=DZ zO
  have hT:=(ym.1 P6).2
  have Bb:=dB.lim
  have sW:=dB.len
  rw [if_neg (not_not_intro zN)] at FD
  rw [FD]
  clear FD Qa
  generalize jd r (c8 l)=R at *
  obtain ⟨R,at_,e_⟩:=R
  dsimp only at zN
  subst zN
  rintro ⟨s1,d1,t1,p1⟩ _
  dsimp only
  unfold RA
  refine dG (r:=R) (s:=s1) (d:=d1) (t:=t1) (p:=p1) (bz _ _) fun k1 k2 k3 k4=>?_
  (refine Jv rfl<|JJ rfl rfl<|JJ rfl rfl<|JJ rfl rfl<|Jz rfl rfl fun _ _=>aq (.of rfl) (.of rfl) .here rfl rfl (iu rfl rfl k1 k2 k3 k4) (bC rfl) an ?_;refine Ja rfl<|Ja rfl<|Ji<|Jv rfl<|JD rfl<|Jn<|Jc rfl fun ar=>Jk<|Jr<|Jv rfl<|ab (bn .nil (.cons (.of rfl) .nil)) rfl ?_)
  with_reducible apply jg
  case hr=>exact aZ
  case hd=>rfl
  case ht=>exact bo.nil
  case hc=>
   intro w1 fp aS _ hs1
   obtain rfl:fp=[]:=hs1
   have hA:BR w1 b2 [.int .i64 r.lv,.int .i64 r.ma,s,d,t,p]:=BR.of aS fg
   have hR:=h.keeps aS.keeps
   have hK:=hM.keeps aS.keeps
   have Tj:=hT.C3
   unfold c8 at Tj
   rw [Zd] at Tj
   exact PK (f:=167) (first:=[]) (cap:=[.pointer (some ⟨b2,0,none⟩)]) (g:=vR r) (n:=r.lv.toNat) (hw.keeps aS.keeps) hK (by omega) (fun x _=>by unfold vR;simp) (fun x hx w2 eC=>O0 (hR.keeps eC) (hA.keeps eC) (by omega) (by omega) ((hK x hx).keeps eC) (hT.lv _ (List.mem_map_of_mem hx)))
  rintro ⟨v,W⟩ hW
  dsimp only at hW ⊢
  unfold KX
  dsimp only [Zb,Za]
  refine aY (E:=78) (sz:=2) (v:=v) (by exact .here) fun va vc e=>?_
  subst e
  refine Ja rfl<|Ja rfl<|Jn<|Je ?_
  first | with_reducible apply aM | with_reducible apply aN
  case he=>exact fF rfl rfl rfl
  case hR=>
   intro w' au
   exact aB (.slice va W.length vc,W) hW (by exact .cons .here (.cons .here .nil)) au rfl
 ·rw [if_pos zN] at FD
  rw [FD]
  clear FD Qa
  generalize jd r (c8 l)=R at *
  obtain ⟨R,at_,e_⟩:=R
  dsimp only at zN
  rintro ⟨s1,d1,t1,p1⟩ _
  dsimp only
  unfold RA
  refine dG (r:=R) (s:=s1) (d:=d1) (t:=t1) (p:=p1) (bz _ _) fun k1 k2 k3 k4=>?_
  (refine Jv rfl<|JJ rfl rfl<|JJ rfl rfl<|JJ rfl rfl<|Jz rfl rfl fun _ _=>aq (.of rfl) (.of rfl) .here rfl rfl (iu rfl rfl k1 k2 k3 k4) (bC rfl) an ?_;refine Ja rfl<|Ja rfl<|Ji<|Jv rfl<|JD rfl<|Jn<|Jd rfl fun ar=>Jr<|Jv rfl<|Ja rfl<|Ja rfl<|Jn<|Ju ?_)
  refine aP 78 2 ?_
  refine kJ 9 ?_
  rw [KW]
  first | with_reducible apply aM | with_reducible apply aN
  case he=>exact fF rfl rfl rfl
  case hR=>
   intro w' au
   exact aB (.slice none 0 0,([]:List gy)) (show c8 []=[] from rfl) (by exact .cons (.there .here) (.cons .here .nil)) au rfl
def xk (r:Ro) (o:ByteArray):Int:=aW [fU r,sM r o]
def xj (r:Ro) (o:ByteArray) (q:Bool):Ro:=if xk r o≠0 then Ro.nil else r.Hi o q
theorem rY (l:List De):(lE l).length=l.length*3:=by unfold lE;rw [fQ (C6 l),bU]
theorem QW (l:List De) (cur:List Value) {k:Nat} (h:k<l.length) (q:Bool):setCells (lE l++cur) (k*3+2) [.bool q]=lE (l.modify k fun x=>⟨x.nm,x.mx,q⟩)++cur:=by
 rw [lJ _ _ _ (by rw [Zg,rY];omega),List.set_append_left _ _ (by rw [rY];omega)]
 congr 1
 have e:l=l.take k++l[k]::l.drop (k+1):=by rw [← List.drop_eq_getElem_cons h,List.take_append_drop]
 have hm:l.modify k (fun x=>⟨x.nm,x.mx,q⟩)=l.take k++⟨l[k].nm,l[k].mx,q⟩::l.drop (k+1):=by
  rw [List.modify_eq_take_cons_drop h]
 have ht:(lE (l.take k)).length=k*3:=by rw [rY,List.length_take,Nat.min_eq_left (by omega)]
 have hs:∀ (a:List De) (x:De) (b:List De),lE (a++x::b)=lE a++(x.cells++lE b):=fun a x b=>by unfold lE vi;simp
 rw [hm,hs]
 conv=>lhs;rw [e,hs]
 rw [List.set_append_right _ _ (by omega),ht,Nat.add_sub_cancel_left]
 rfl
set_option maxHeartbeats 1000000 in
theorem BN {r:Ro} {s d t p:Value} (o:ByteArray) (q:Bool) {w:World} (h:RR w r s d t p) (cG:mY r) :
  bd Tryz.prog 78 [RA r s d t p,.string o,.bool q] w [] (fun _:Value×Value×Value×Value=>True) (fun x=>.tuple #[RA (xj r o q) x.1 x.2.1 x.2.2.1 x.2.2.2,.int .i64 (xk r o)]) (fun x=>tt (xj r o q) x):=by
 have h1:=Rd.one h.sr
 have h2:=Rd.one h.de
 have h3:=Rd.one h.ti
 have h4:=Rd.one h.po
 have iQ:∀ w',aG [] w w'→aj Tryz.prog 34 [.agg #[.int .i64 r.lv,.int .i64 r.ma,s,d,t,p]] w' (.int .i64 (fU r)):=fun w' hk=>eu (h.keeps hk) cG
 have lT:∀ w',aG [] w w'→aj Tryz.prog 112 [.agg #[.int .i64 r.lv,.int .i64 r.ma,s,d,t,p],.string o] w' (.int .i64 (sM r o)):=fun w' hk=>ei o (h.keeps hk)
 unfold RA
 refine aQ Tryz.func78 rfl rfl ?_
 refine Jr<|Jy rfl rfl fun _ _=>Jz rfl rfl fun _ _=>Ja rfl<|Jn<|Jq<|Jq ?_
 rename_i b3 sZ b6 hb6
 with_reducible refine cC 6 (by kernel_rfl) ?_
 (refine ak (cz (.there .here)) rfl ?_;refine aT bI rfl (fun w' au=>(iQ w' (Mem.keeps au))) ?_;refine ak (cz (.there .here)) rfl ?_;refine ak kG rfl ?_;refine aT aZ rfl (fun w' au=>(lT w' (Mem.keeps au))) ?_;refine dX (aA (.cons (.of rfl) (.cons (.of rfl) .nil)) rfl rfl rfl rfl) rfl rfl ?_)
 with_reducible refine df rfl fun bq mg=>?_
 (refine ai bI rfl (fun w' au=>(dI (Mem.dh au .here rfl rfl) (bP.cons (bP.cons bP.nil)))) ?_;refine Ja rfl<|Ji<|Jv rfl<|JD rfl<|Jn<|gm rfl (fun ar=>?_) fun ar=>?_;refine Jr<|ab (aU .nil an) rfl ?_;refine Jv rfl<|aq (.of rfl) (.of rfl) (.there .here) rfl rfl (iu rfl rfl rfl rfl rfl rfl) (bC rfl) an ?_;refine Ja rfl<|Jn<|Ju ?_;rotate_left;refine Jk<|Jr<|ab (cz bN) rfl ?_;rotate_right)
 ·have e1:xj r o q=Ro.nil:=if_pos ar
  have e2:xk r o=aW [fU r,sM r o]:=rfl
  rw [e1,e2]
  refine aP 186 2 ?_;refine aP 90 3 ?_;refine aP 187 3 ?_;refine aP 188 3 ?_
  first | with_reducible apply aM | with_reducible apply aN
  case he=>exact rW rfl inferInstance rfl eR an (by rfl) (by rfl)
  case hR=>
   intro w' au
   exact aB (.slice none 0 0,.slice none 0 0,.slice none 0 0,.slice none 0 0) trivial (by exact .cons cX (.cons bN (.cons (.there .here) (.cons .here .nil)))) au rfl
 have e0:aW [fU r,sM r o]=0:=Decidable.not_not.1 ar
 have e1:xj r o q=r.Hi o q:=if_neg ar
 have e2:xk r o=0:=e0
 have zO:fU r=0:=bX.1 e0 _ List.mem_cons_self
 have RF:o∈ct r:=by
  have:=(bH (by decide)).1 (bX.1 e0 (sM r o) (by simp))
  rwa [decide_eq_false_iff_not,cj,Classical.not_not] at this
 have dB:=DZ zO
 have hf:=oI dB dB.val
 rw [e1,e2]
 refine JN bI rfl (fun w1 aS=>yL (h.keeps aS.keeps) cG (by omega)) ?_
 intro y _
 dsimp only [id_eq,Zb,Za]
 obtain ⟨s1,d1,t1,p1⟩:=y
 dsimp only
 unfold RA PB
 refine dG (r:=r) (s:=s1) (d:=d1) (t:=t1) (p:=p1) (by unfold tt PB;exact .cons .here (.cons .here (.cons .here (.cons .here .nil)))) fun k1 k2 k3 k4=>?_
 (refine Jz rfl rfl fun _ _=>aq (.of rfl) (.of rfl) .here rfl rfl (iu rfl rfl k1 k2 k3 k4) (bC rfl) an ?_;refine Jn<|Jq ?_)
 rename_i b9 Yn
 obtain ⟨j0,sX⟩:∃ i:Nat,bu (ct r) o=(i:Nat):=⟨(bu (ct r) o).toNat,by have:=dz RF;omega⟩
 have Bd:j0<r.de.length:=by
  obtain ⟨hl,_⟩:=er (l:=ct r) (s:=o) (by omega)
  rw [sX,Int.toNat_natCast] at hl
  unfold ct at hl;rwa [Zd] at hl
 have hdd:∀ w',aG [] w w'→aj Tryz.prog 155 [.agg #[.int .i64 r.lv,.int .i64 r.ma,s,d,t,p],.string o] w' (.int .i64 (j0:Nat)):=fun w' hk=>sX ▸ fG o (h.keeps hk)
 refine c7 (E:=90) (sz:=3) (v:=d1) bN (by omega) fun gd cap cur e WO WN US hg4=>?_
 subst e
 have p0:=QW r.de cur Bd q
 have hle:j0*3+2+1≤(lE r.de++cur).length:=by rw [Zg,rY];omega
 with_reducible refine dP 8 (by kernel_rfl) ?_
 (refine nC rfl rfl ae ?_;refine aH (gz (.there .here)) rfl ?_;refine aH (cz BQ) rfl ?_;refine k7 rfl rfl ?_;refine fc aZ rfl (fun w' au=>(hdd w' (Mem.keeps au))) ?_;refine k7 rfl rfl ?_;refine aH (az (.of rfl) (.of rfl) rfl (by omega) (by omega) ba) rfl ?_;refine nC rfl rfl ae ?_)
 with_reducible refine dY ?_
 (refine aq (.of rfl) (.of rfl) .here rfl rfl (ed rfl) hle p0 ?_;refine Ji<|ab (cz (.there .here)) rfl ?_;refine aq (.of rfl) (.of rfl) qm rfl rfl (iu rfl rfl k1 rfl k3 k4) (bC rfl) an ?_;refine Ja rfl<|Jn<|Je ?_)
 have hpr:r.Hi o q=⟨r.lv,r.ma,r.sr,r.de.modify j0 fun x=>⟨x.nm,x.mx,q⟩,r.ti,r.po⟩:=by unfold Ro.Hi;rw [sX,Int.toNat_natCast]
 have Wl:(r.de.modify j0 fun x=>(⟨x.nm,x.mx,q⟩:De)).length=r.de.length:=List.length_modify _ _ _
 rw [hpr]
 generalize (r.de.modify j0 fun x=>(⟨x.nm,x.mx,q⟩:De))=D' at *
 have WM:(lE D'++cur).length=cap*3:=by rw [Zg,rY] at US ⊢;rw [Wl];exact US
 refine c6 (n:=r.de.length) (xs:=lE D') (cap:=cap) (g:=gd) (E:=90) (sz:=3) (by exact Take.there .here) WO WN WM (by rw [rY,Wl]) ?_
 first | with_reducible apply aM | with_reducible apply aN
 case he=>exact rW rfl inferInstance rfl (.there .here) an (by rfl) (by rfl)
 case hR=>
  intro w' au
  exact aB (s1,.slice (some ⟨gd,0,none⟩) r.de.length cap,t1,p1) trivial (show bo _ [J1 r s1,row 90 3 (.slice (some ⟨gd,0,none⟩) r.de.length cap) D'.length (lE D'),J3 r t1,J4 r p1] _ by rw [Wl];exact .cons cX (.cons .here (.cons bN (.cons bN .nil)))) au rfl
structure o9 where
 fr:Int
 tk:List gy
 v:Value
def o9.cells (x:o9):List Value:=[.int .i64 x.fr,x.v]
def su (l:List o9):List (List Value):=l.map o9.cells
theorem kO (l:List o9):(su l).length=l.length:=by simp [su]
theorem yR {l:List o9} {k:Nat} (h:k<l.length):(su l)[k]? = some (l[k]).cells:=by simp [su,h]
theorem CG {l:List o9} {k:Nat} (h:k<l.length):su l≠[]:=by intro e;have:=congrArg List.length e;rw [kO] at this;simp at this;subst this;simp at h
def Gg (w:World) (l:List o9):Prop:=∀ x∈l,Rd w x.v 2 (jm x.tk)∧vN w x.tk
theorem Gg.keeps {w w':World} {l:List o9} (h:Gg w l) (hk:aG [] w w'):Gg w' l:=fun x hx=>⟨(h x hx).1.keeps hk,(h x hx).2.keeps hk⟩
def ef (l:List o9):List Od:=l.map fun x=>⟨x.fr,c8 x.tk⟩
theorem tG (l:List o9):(ef l).length=l.length:=Zd _
theorem AS {l:List o9} {k:Nat} (h:k<l.length):(ef l).getD k Od.zero=⟨l[k].fr,c8 l[k].tk⟩:=by
 unfold ef;rw [List.getD_eq_getElem?_getD,List.getElem?_map,Zc h];rfl
theorem Ml {lv:Value} {l:List o9} {p:o9→Bool} {f:FuncId} {first cap:List Value} [bS Tryz.prog f] {w:World} (h:Rd w lv 2 (su l)) (cn:∀ x∈l,∀ w',aG [] w w'→aj Tryz.prog f (first++[.agg x.cells.toArray]++cap) w' (.bool (p x))) :
  aj Tryz.prog 173 [lv,.func (.func f) first.toArray cap.toArray] w (.int .i64 (gK p l)):=by
 obtain ⟨a,cp,b,o,rfl,db,bT,ha,hc⟩:=h
 rw [kO] at *
 unfold maxLen at bT
 refine ah Tryz.func173 rfl rfl ?_
 refine Jr<|Ja rfl<|Jn<|Jq<|Jr<|Jv rfl<|JI rfl<|Jv rfl<|Jn<|J0 ?_
 refine aX (fun k:Nat=>k≤l.length∧∀ i,i<k→(l[i]?.map p).getD false=false) (fun k=>[(8,.int .i64 k),(7,.int .i64 l.length),(0,.slice a l.length cp),(1,.func (.func f) first.toArray cap.toArray)]) (fun _=>[]) (fun k=>l.length-k) ?_ ?_
 ·apply aJ 0 ⟨Zi _,fun i h=>by omega⟩
  case hs1=>exact cd
  case ht=>(try simp only [Ze,Zf,Za]);exact .nil
 rintro k ⟨hk,hf⟩
 by_cases aL:k<l.length
 ·have cE:=ha (CG aL)
  have aC:=(hc k _ (yR aL)).2
  have iF:=cn _ (Zj aL)
  have hps:(l[k]?.map p).getD false=p l[k]:=by simp [aL]
  unfold o9.cells at aC iF
  (refine Jr<|JA rfl<|Jn<|Jq<|Jd rfl fun ar=>Jk<|Jq<|J0<|Jr<|Jv rfl<|Ja rfl<|Ji<|Jv rfl<|Jv rfl<|Jv rfl<|ab (fH cE ar) rfl ?_;refine ab (iv (eF.base aC rfl)) rfl ?_;refine ai bI rfl (fun w' au=>(iF w' (Mem.keeps au))) ?_;refine Jn<|nB rfl (fun ar=>?_) fun ar=>?_;refine Jr<|Jv rfl<|Ja rfl<|Jn<|Je<|Jm<|Jh<|Jh<|Jm<|Jh<|JT ?_;rotate_left;refine Jw<|Jj<|Jt<|Jg<|JB rfl (by omega)<|Jv rfl<|Jn ?_;rotate_right)
  ·rw [gj hf aL ar]
  ·apply aK (k+1) ⟨by omega,fun i hi=>by
    by_cases e:i=k
    ·rw [e,hps];exact ar
    ·exact hf i (by omega)⟩ (by omega)
   case hs1=>exact cd
   case ht=>(try simp only [Ze,Zf,Za]);exact .nil
 ·obtain rfl:k=l.length:=by omega
  refine Jr<|JA rfl<|Jn<|Jq<|Jc rfl fun ar=>Jp<|Jl<|Jo<|Jt<|Jr<|Ja rfl<|Jn<|Je<|JT ?_
  rw [fx hf]
theorem Ll {x:o9} {f:Int} {b:Nat} {w:World} (f1:w.cell? ⟨b,0,none⟩=some (.int .i64 f)):aj Tryz.prog 174 [.agg x.cells.toArray,.pointer (some ⟨b,0,none⟩)] w (.bool (decide (f<x.fr))):=by
 unfold o9.cells
 refine ah Tryz.func174 rfl rfl ?_
 (refine Jr<|Jy rfl rfl fun _ _=>Ja rfl<|Ji<|bF rfl rfl ae ?_;refine JL rfl .here rfl<|ab (ag (.of rfl) (At.base f1 rfl)) rfl ?_;refine JE rfl<|Ja rfl<|Jn<|Je<|JT ?_)
 rfl
def LM (r:Ro) (l:List Od):Int:=if fU r≠0 then fU r else UA r l
def Rr (r:Ro) (l:List Od):Int:=aW [fU r,bO (decide ((16:Int)<(l.length:Nat))) 5]
theorem Py (r:Ro) (l:List Od):LM r l=if Rr r l≠0 then Rr r l else iL (Kx r l) l.length:=by
 unfold LM Rr UA
 by_cases h1:fU r=0
 ·rw [if_neg (not_not_intro h1)]
  by_cases h2:(16:Int)<(l.length:Nat)
  ·rw [if_pos h2,if_pos (by rw [h1,decide_eq_true h2];decide),h1,decide_eq_true h2];rfl
  ·rw [if_neg h2,if_neg (by rw [h1,decide_eq_false h2];decide)]
 ·have:aW [fU r,bO (decide ((16:Int)<(l.length:Nat))) 5]=fU r:=by unfold aW;rw [if_pos h1]
  rw [if_pos h1,this,if_pos h1]
def HH (l:List o9) (k:Nat):Int:=if k=0 then -1 else ((ef l).getD (k-1) Od.zero).fr
theorem PF {r:Ro} {l:List o9} {k:Nat} (h:k<l.length):Kx r (ef l) k=aW [fW l[k].fr 0 10000000,bO (decide (l[k].fr≤HH l k)) 11,Ac r (c8 l[k].tk)]:=by
 unfold Kx HH
 have:(ef l)[k]? = some ⟨l[k].fr,c8 l[k].tk⟩:=by unfold ef;rw [List.getElem?_map,Zc h];rfl
 rw [this];rfl
theorem Fl {l:List o9} {k:Nat} (h:k<l.length):HH l (k+1)=l[k].fr:=by
 unfold HH
 rw [if_neg (by omega),Nat.add_sub_cancel,AS h]
set_option maxHeartbeats 1000000 in
theorem wq {r:Ro} {s d t p kv:Value} {l:List o9} {w:World} (h:RR w r s d t p) (cG:mY r) (hw:Rd w kv 2 (su l)) (hM:Gg w l) :
  aj Tryz.prog 171 [RA r s d t p,kv] w (.int .i64 (LM r (ef l))):=by
 have h1:=Rd.one h.sr
 have h2:=Rd.one h.de
 have h3:=Rd.one h.ti
 have h4:=Rd.one h.po
 obtain ⟨aw,cw,bw,ow,rfl,Of,A9,TD,It⟩:=hw
 rw [kO] at *
 unfold maxLen at A9
 have tL:=tG l
 have iQ:∀ w',aG [] w w'→aj Tryz.prog 34 [.agg #[.int .i64 r.lv,.int .i64 r.ma,s,d,t,p]] w' (.int .i64 (fU r)):=fun w' hk=>eu (h.keeps hk) cG
 have hX:=Py r (ef l)
 have hA:Rr r (ef l)=aW [fU r,bO (decide ((16:Int)<(l.length:Nat))) 5]:=by unfold Rr;rw [tL]
 unfold RA
 refine ah Tryz.func171 rfl rfl ?_
 (refine Jr<|Jy rfl rfl fun _ _=>Ja rfl<|Jn<|Jq<|Jr<|ab (cz .here) rfl ?_;refine ai bI rfl (fun w' au=>(iQ w' (Mem.keeps au))) ?_;refine Jv rfl<|JI rfl<|JE rfl<|ai aZ rfl (fun w' au=>(dO _ 5 w')) ?_;refine bb (aA (.cons (.of rfl) (.cons (.of rfl) .nil)) rfl rfl rfl rfl) rfl fun _ _=>?_;refine ai bI rfl (fun w' au=>(dI (Mem.dh au .here rfl rfl) (bP.cons (bP.cons bP.nil)))) ?_;refine Ja rfl<|Ji<|Jv rfl<|JD rfl<|Jn<|gm rfl (fun ar=>?_) fun ar=>?_;refine Jr<|Jv rfl<|Ja rfl<|Jn<|Ju<|JT ?_;rotate_left;refine Jk<|Jr<|Ja rfl<|Jn<|Jq<|Jr<|Jv rfl<|JI rfl<|Jv rfl<|Jn<|J0 ?_;rotate_right)
 ·rw [hX,hA,if_pos ar]
 have MI:Rr r (ef l)=0:=by rw [hA];exact Decidable.not_not.1 ar
 rw [if_neg (not_not_intro MI),tL] at hX
 clear ar
 rename_i b2 tb bq mg
 refine aX (fun k:Nat=>k≤l.length∧∀ i,i<k→Kx r (ef l) i=0) (fun k=>[(23,.int .i64 (k:Nat)),(22,.int .i64 (l.length:Nat)),(21,.slice aw l.length cw),(6,.int .i64 (HH l k)),(2,.pointer (some ⟨b2,0,none⟩))])
  (fun k=>[JP b2 r s d t p]) (fun k=>l.length-k) ?_ ?_
 ·apply aJ 0 ⟨Zi _,fun i hi=>by omega⟩
  case hs1=>exact cd
  case ht=>(try simp only [Ze,Zf,Za]);exact .cons (.there .here) .nil
 rintro k ⟨hk,hf⟩
 by_cases aL:k<l.length
 ·have Iw:=TD (CG aL)
  have aC:=(It k _ (yR aL)).2
  unfold o9.cells at aC
  have hx:=hM _ (Zj aL)
  have jb:=PF (r:=r) aL
  have sW:=Fl aL
  generalize l[k]=x at aC hx jb sW ⊢
  obtain ⟨xf,xt,xv⟩:=x
  dsimp only at aC hx jb sW ⊢
  have ij:=Rd.one hx.1
  have htk:∀ w',aG [] w w'→aj Tryz.prog 164 [.agg #[.int .i64 r.lv,.int .i64 r.ma,s,d,t,p],xv] w' (.int .i64 (Ac r (c8 xt))):=fun w' hk=>rf (h.keeps hk) (hx.1.keeps hk) (hx.2.keeps hk)
  (refine Jr<|JA rfl<|Jn<|Jq<|Jd rfl fun ar=>Jk<|Jq<|J0<|Jr<|ab (az (.of rfl) (.of rfl) Iw (by omega) ar ba) rfl ?_;refine ab (iv (eF.base aC rfl)) rfl ?_;refine Jz rfl rfl fun _ _=>aq (.of rfl) (.of rfl) .here rfl rfl (gF rfl ij) (bC rfl) an ?_;refine Jn<|Jq<|Jq ?_)
  with_reducible refine cC 13 (by kernel_rfl) ?_
  (refine ak j9 rfl ?_;refine ak (gz .here) rfl ?_;refine aT eh rfl (fun w' au=>(lV xf 0 10000000 w')) ?_;refine ak j9 rfl ?_;refine ak (gz .here) rfl ?_;refine ak kG rfl ?_;refine ak (jY (.of rfl) (.of rfl)) rfl ?_;refine aT aZ rfl (fun w' au=>(dO _ 11 w')) ?_;refine ak (cz (.there .here)) rfl ?_;refine ak j9 rfl ?_;refine ak (gz .here) rfl ?_;refine aT aZ rfl (fun w' au=>(htk w' (Mem.keeps au))) ?_;refine dX (aA (.cons (.of rfl) (.cons (.of rfl) (.cons (.of rfl) .nil))) rfl rfl rfl rfl) rfl rfl ?_)
  with_reducible refine df rfl fun b55 W7=>?_
  (refine ai bI rfl (fun w' au=>(dI (Mem.dh au .here rfl rfl) (bP.cons (bP.cons (bP.cons bP.nil))))) ?_;refine Ja rfl<|Ji<|Jv rfl<|JD rfl<|Jn<|gm rfl (fun ar=>?_) fun ar=>?_;refine Jr<|Jv rfl<|Ja rfl<|Jn<|Ju<|Jm<|Jh<|Jh<|Jm<|Jh<|JT ?_;rotate_left;refine Jk<|Jg<|bF rfl rfl ae ?_;refine JL rfl (.there .here) rfl<|Ja rfl<|Jx<|Jj<|Jt<|Jg<|JB rfl (by omega)<|Jv rfl<|Jn ?_;rotate_right)
  ·rw [← jb] at ar ⊢
   have hB:iL (Kx r (ef l)) l.length=Kx r (ef l) k:=eP hf aL ar
   rw [hX,hB]
  have hz:Kx r (ef l) k=0:=by rw [jb];exact Decidable.not_not.1 ar
  rw [← sW]
  apply aK (k+1) ⟨by omega,fun i hi=>by
   by_cases e:i=k
   ·rw [e];exact hz
   ·exact hf i (by omega)⟩ (by omega)
  case hs1=>exact cd
  case ht=>(try simp only [Ze,Zf,Za]);exact .cons bN .nil
 ·obtain rfl:k=l.length:=by omega
  have TN:iL (Kx r (ef l)) l.length=0:=dN.2 hf
  refine Jr<|JA rfl<|Jn<|Jq<|Jc rfl fun ar=>Jp<|Jl<|Jo<|Jt<|Jr<|Ja rfl<|Jn<|Je<|JT ?_
  rw [hX,TN]
set_option maxHeartbeats 2000000 in
theorem NJ {r:Ro} {s d t p kv:Value} {l:List o9} {w:World} (h:RR w r s d t p) (zO:fU r=0) (hw:Rd w kv 2 (su l)) (hM:Gg w l) (hO:Nu r (ef l)) :
  bd Tryz.prog 172 [RA r s d t p,kv] w [] (fun _:Value×Value×Value×Value=>True) (fun x=>.tuple #[RA (iA r (ef l)).1 x.1 x.2.1 x.2.2.1 x.2.2.2,.int .i64 (iA r (ef l)).2.1,.int .i64 (iA r (ef l)).2.2]) (fun x=>tt (iA r (ef l)).1 x):=by
 have dB:=DZ zO
 have Bb:=dB.lim
 have sW:=dB.len
 have cG:mY r:=by unfold mY;omega
 have UW:=oI dB dB.val
 have hlf:=hO.C3
 rw [tG] at hlf
 have tL:=tG l
 have h1:=Rd.one h.sr
 have h2:=Rd.one h.de
 have h3:=Rd.one h.ti
 have h4:=Rd.one h.po
 obtain ⟨a,cp,b,o,rfl,db,bT,ha,hc⟩:=hw
 rw [kO] at *
 unfold maxLen at bT
 have hX:iA r (ef l)=if iL (AN r (ef l)) l.length=0 then (NG r (ef l) l.length,0,0) else (Ro.nil,((Np (AN r (ef l)) l.length:Nat):Int),iL (AN r (ef l)) l.length):=by unfold iA;rw [tL]
 unfold RA
 refine aQ Tryz.func172 rfl rfl ?_
 refine Jr<|Jy rfl rfl fun _ _=>Jz rfl rfl fun _ _=>Ja rfl<|Ja rfl<|Ji<|ab (cz (.there .here)) rfl ?_
 rename_i b2 tb b4 u9
 refine JN bI rfl (fun w1 aS=>yL (h.keeps aS.keeps) cG (by omega)) ?_
 intro y _
 dsimp only [id_eq,Zb,Za]
 obtain ⟨s1,d1,t1,p1⟩:=y
 dsimp only
 unfold RA PB
 refine dG (r:=r) (s:=s1) (d:=d1) (t:=t1) (p:=p1) (by unfold tt PB;exact .cons .here (.cons .here (.cons .here (.cons .here .nil)))) fun k1 k2 k3 k4=>?_
 (refine Jz rfl rfl fun _ _=>aq (.of rfl) (.of rfl) .here rfl rfl (iu rfl rfl k1 k2 k3 k4) (bC rfl) an ?_;refine Jn<|Jq<|Jr<|Jv rfl<|JI rfl<|Jv rfl<|Jn<|J0 ?_)
 rename_i b7 TC
 refine aX (ι:=Nat×(Value×Value×Value×Value)×List Po) (fun y=>y.1≤l.length∧Kk r (ef l) y.1 y.2.2∧(∀ j,j<y.1→AN r (ef l) j=0)∧y.2.1.1.oneCell'=true∧y.2.1.2.1.oneCell'=true∧y.2.1.2.2.1.oneCell'=true∧y.2.1.2.2.2.oneCell'=true) (fun y=>[(17,.int .i64 (y.1:Nat)),(16,.int .i64 (l.length:Nat)),(15,.slice a l.length cp),(7,.pointer (some ⟨b7,0,none⟩)),(4,.pointer (some ⟨b4,0,none⟩))])
  (fun y=>[JP b7 r (y.2.1.1) (y.2.1.2.1) (y.2.1.2.2.1) (y.2.1.2.2.2),J1 r y.2.1.1,J2 r y.2.1.2.1,J3 r y.2.1.2.2.1,row 188 3 y.2.1.2.2.2 y.2.2.length (jf y.2.2),bA b4 (.cells #[.int .i64 0,.int .i64 0,.slice none 0 0,.slice none 0 0,.slice none 0 0,.slice none 0 0] 41 (0,0))]) (fun y=>l.length-y.1) ?_ ?_
 ·apply aJ (0,(s1,d1,t1,p1),r.po) ⟨Zi _,⟨rfl,dB.val⟩,fun j hj=>absurd hj (Nat.not_lt_zero j),k1,k2,k3,k4⟩
  case hs1=>exact cd
  case ht=>exact sS
 clear k1 k2 k3 k4 s1 d1 t1 p1
 rintro ⟨i,⟨s1,d1,t1,p1⟩,q⟩ ⟨hi,QI,MA,k1,k2,k3,k4⟩
 dsimp only at hi QI MA k1 k2 k3 k4 ⊢
 have hqf:=oI dB QI.val
 by_cases aL:i<l.length
 ·have cE:=ha (CG aL)
  have aC:=(hc i _ (yR aL)).2
  have jo:=Zj aL
  have hx:=hM _ jo
  have rO:i<(ef l).length:=by omega
  have N9:=AS aL
  have hti:=hO.tk i rO
  have UR:(ef l)[i].tk=c8 l[i].tk:=by
   rw [List.getD_eq_getElem?_getD,Zc rO,Option.getD_some] at N9
   rw [N9]
  rw [UR] at hti
  have Fx:AN r (ef l) i=(lb (r.wp q) (c8 l[i].tk)).2.2:=by unfold AN;rw [QI.eq,N9]
  have a7:NG r (ef l) (i+1)=(lb (r.wp q) (c8 l[i].tk)).1:=by rw [NG,QI.eq,N9]
  have ko:=fun h0=>QI.next zO hO rO h0
  unfold o9.cells at aC
  generalize l[i]=x at *
  obtain ⟨xf,xt,xv⟩:=x
  dsimp only at *
  have ij:=Rd.one hx.1
  (refine Jr<|JA rfl<|Jn<|Jq<|Jd rfl fun ar=>Jk<|Jq<|J0<|Jr<|Jv rfl<|ab (fH cE ar) rfl ?_;refine ab (iv (eF.base aC rfl)) rfl ?_;refine Jz rfl rfl fun _ _=>Ja rfl<|aq (.of rfl) (.of rfl) .here rfl rfl (gF rfl ij) (bC rfl) an ?_;refine Ji<|ab (cz (.there .here)) rfl ?_;refine bF rfl rfl ae ?_;refine JL rfl .here rfl ?_)
  refine JN aZ rfl (fun w1 aS=>DG (r:=r.wp q) (RR.wp (cZ aS bN rfl) (c5 aS cX rfl) (cY aS eR rfl) (cR aS fg rfl)) (dB.wp QI.val) (by show q.length≤500;omega) (hx.1.keeps aS.keeps) (hx.2.keeps aS.keeps) (hti.wp q)) ?_
  have kP:∀ q',lb (r.wp q) (c8 xt)=(r.wp q',0,0)→True:=fun _ _=>trivial
  generalize lb (r.wp q) (c8 xt)=R at *
  obtain ⟨R,at_,e_⟩:=R
  rintro ⟨s2,d2,t2,p2⟩ _
  dsimp only at Fx a7 ⊢
  unfold RA
  refine dG (r:=R) (s:=s2) (d:=d2) (t:=t2) (p:=p2) (bz _ _) fun m1 m2 m3 m4=>?_
  clear kP
  (refine Jv rfl<|JJ rfl rfl<|JJ rfl rfl<|JJ rfl rfl<|Jz rfl rfl fun _ _=>aq (.of rfl) (.of rfl) .here rfl rfl (iu rfl rfl m1 m2 m3 m4) (bC rfl) an ?_;refine Ja rfl<|Ja rfl<|Jn<|Jq<|Jr<|Jv rfl<|JD rfl<|Jn<|gm rfl (fun ar=>?_) fun ar=>?_;refine Jr<|ab (aU .nil an) rfl ?_;refine Jv rfl<|Jv rfl<|aq (.of rfl) (.of rfl) BU rfl rfl (iu rfl rfl rfl rfl rfl rfl) (bC rfl) an ?_;refine Ja rfl<|Ja rfl<|Jn<|Ju<|Jm<|Jh<|Jh<|Jm<|Jh ?_;rotate_left;refine Jk<|Jg<|ab (cz .here) rfl ?_;refine aq (.of rfl) (.of rfl) qm rfl rfl (iu rfl rfl m1 m2 m3 m4) (bC rfl) an ?_;refine Jx<|Jj<|Jt<|Jg<|JB rfl (by omega)<|Jv rfl<|Jn ?_;rotate_right)
  ·have hne:AN r (ef l) i≠0:=by rw [Fx];exact ar
   have hE:iL (AN r (ef l)) l.length=e_:=(eP MA aL hne).trans Fx
   have e4:iA r (ef l)=(Ro.nil,((i:Nat):Int),e_):=by rw [hX,hE,if_neg ar,No MA aL hne]
   rw [e4]
   dsimp only
   refine aP 186 2 ?_;refine aP 90 3 ?_;refine aP 187 3 ?_;refine aP 188 3 ?_
   first | with_reducible apply aM | with_reducible apply aN
   case he=>exact lD rfl inferInstance rfl eR an (by rfl) (by rfl) (by rfl)
   case hR=>
    intro w' au
    exact aB (.slice none 0 0,.slice none 0 0,.slice none 0 0,.slice none 0 0) trivial (by exact .cons cX (.cons bN (.cons (.there .here) (.cons .here .nil)))) au rfl
  have hz:e_=0:=Decidable.not_not.1 ar
  have X2:AN r (ef l) i=0:=Fx.trans hz
  obtain ⟨q',vI,_⟩:=ko X2
  have TJ:R=r.wp q':=a7.symm.trans vI.eq
  subst TJ
  apply aK (i+1,(s2,d2,t2,p2),q') ⟨by show i+1≤_;omega,vI,fun j hj=>by
   by_cases e:j=i
   ·rw [e];exact X2
   ·exact MA j (by have:j<i+1:=hj;omega),m1,m2,m3,m4⟩ (by show l.length-(i+1)<l.length-i;omega)
  case hs1=>exact cd
  case ht=>
   dsimp only
   have w1:(r.wp q').lv=r.lv:=rfl
   have w2:(r.wp q').ma=r.ma:=rfl
   have w3:(r.wp q').sr=r.sr:=rfl
   have w4:(r.wp q').de=r.de:=rfl
   have w5:(r.wp q').ti=r.ti:=rfl
   have w6:(r.wp q').po=q':=rfl
   unfold J1 J2 J3 J4
   rw [w1,w2,w3,w4,w5,w6]
   exact .cons .here (.cons (.there .here) (.cons (.there .here) (.cons (.there .here) (.cons (.there .here) (.cons qm .nil)))))
 ·have e:i=l.length:=by omega
  subst e
  (refine Jr<|JA rfl<|Jn<|Jq<|Jc rfl fun ar=>Jp<|Jl<|Jo<|Jt<|Jr<|ab (cz .here) rfl ?_;refine aq (.of rfl) (.of rfl) fg rfl rfl (iu rfl rfl k1 k2 k3 k4) (bC rfl) an ?_;refine Ja rfl<|Ja rfl<|Jn<|Je ?_)
  have hE:iL (AN r (ef l)) l.length=0:=dN.2 MA
  have e4:iA r (ef l)=(r.wp q,0,0):=by rw [hX,hE,if_pos rfl,QI.eq]
  rw [e4]
  dsimp only
  first | with_reducible apply aM | with_reducible apply aN
  case he=>exact lD rfl inferInstance rfl .here an (by rfl) (by rfl) (by rfl)
  case hR=>
   intro w' au
   exact aB (s1,d1,t1,p1) trivial (by exact .cons bN (.cons bN (.cons bN (.cons bN .nil)))) au rfl
theorem Px {r:Ro} {l:List Od} (h:LM r l=0):fU r=0∧Nu r l:=by
 unfold LM at h
 by_cases c:fU r=0
 ·rw [if_neg (not_not_intro c)] at h
  exact ⟨c,ZR h⟩
 ·rw [if_pos c] at h;exact absurd h c
end Go.Proofs.A1
namespace Go.SL
open Go
def yD (l:List Oper) (m:Nat) (p:List Nat):Bool:=
 l.all mH&&th l 0&&kh l.toArray (l.take m) 0&&(List.range' m (l.length-m)).all (fun k=>(List.range m).all fun i=>p.any (Nat.beq i)||((iw l []).getD k 0).testBit i)&&Nat.ble m l.length
structure EM (l:List Oper) (m:Nat) (p:List Nat):Prop where
 op:∀ o∈l,mH o=true
 ac:th l 0=true
 AM:kh l.toArray (l.take m) 0=true
 tail:∀ k,m≤k→k<l.length→∀ i,i<m→i ∉ p→((iw l []).getD k 0).testBit i=true
 le:m≤l.length
theorem yC {l:List Oper} {m:Nat} {p:List Nat} (h:yD l m p=true):EM l m p:=by
 simp only [yD,Bool.and_eq_true,List.all_eq_true] at h
 obtain ⟨⟨⟨⟨h1,h2⟩,h3⟩,h5⟩,h6⟩:=h
 refine ⟨h1,h2,h3,fun k hk aL i hi hne=>?_,by simpa using h6⟩
 have:=h5 k (List.mem_range'_1.2 ⟨hk,by omega⟩) i (List.mem_range.2 hi)
 rw [Bool.or_eq_true] at this
 refine this.resolve_left fun h=>hne ?_
 obtain ⟨x,hx,hxe⟩:=List.any_eq_true.1 h
 rw [Nat.eq_of_beq_eq_true hxe];exact hx
theorem oQ {l:List Oper} {m:Nat} {p:List Nat} (hc:EM l m p) {i j:Nat} {x y:Oper} (xE:i<j) (hj:j<m) (hx:l[i]? = some x) (hy:l[j]? = some y):pG l.toArray x y i=true:=by
 have:=mG hc.AM (i:=i) (j:=j) xE (by rw [List.getElem?_take,if_pos (by omega)];exact hx) (by rw [List.getElem?_take,if_pos hj];exact hy)
 simpa using this
theorem yE {l:List Oper} {m:Nat} {p:List Nat} (hc:EM l m p) {listed:Array Bool} (hsz:listed.size=l.length) (zf:DC l (Ls listed)) {i:Nat} (hi:i∈Region.ready .any l.toArray listed) (hm:m≤i):∀ j,j<m→j ∉ p→Ls listed j:=by
 intro j hj Wx
 obtain ⟨o,ho,hn,hd⟩:=(dA hsz).1 hi
 have aL:i<l.length:=(List.getElem?_eq_some_iff.1 ho).1
 have CY:DC l (fun k=>k=i∨Ls listed k):=by
  intro k ok hk hL e he hb
  rcases hL with e' | hL
  ·subst e'
   rw [ho] at hk;cases hk
   exact .inr (hd e he hb)
  ·exact .inr (zf k ok hk hL e he hb)
 rcases gQ CY hc.ac i aL (.inl rfl) j (hc.tail i hm aL j hj Wx) with h | h
 ·omega
 ·exact h
section
variable {P:Program} {c:Cx} {D:List Nat} {sl:aI} {hs:List a8} {Q:Exit→Act→World→Prop} {l:List Oper} {m:Nat}
theorem LG {p:List Nat} (hc:EM l m p) (Fv:∀ q∈p,q<m→zI l q) (U0:∀ c a w,¬ Q (.panic c) a w) {S:List cK} {nr:(Nat→Value)→aI} (S6:sR P c hs l 0 (l.take m) (fun _=>sl) [] S nr) {a0:Act} (h0:bK sl a0) (Ih:a0.tmps.size=c.nt)
  (tail:∀ β a w,St c D (nr β) (dL β (fun _=>true) S 0++hs) a w→wpAnyIn (FR none) 0 P .any l.toArray Q (l.length-m) (lo l.length m) a w) :
  ∀ (fuel:Nat) (listed:Array Bool) (a:Act) (w:World),Nx c D hs l m S a0 fuel listed a w→wpAnyIn (FR none) 0 P .any l.toArray Q fuel listed a w:=by
 have hle:=hc.le
 have Ic:ni sl [] (fun _=>sl) []:=fun β t v hv=>.inr ⟨fun oj h=>(List.not_mem_nil h).elim,hv⟩
 obtain ⟨Bm,_,km,fO⟩:=S6.spec (sl:=sl) [] rfl rfl Ic
 rw [Za] at km fO
 rw [Nat.zero_add,List.length_take,Nat.min_eq_left hle] at Bm
 have dT:∀ (j:Nat) (o:Oper),j<m→l[j]? = some o→(l.take m)[j]? = some o:=fun j o hj ho=>by rw [List.getElem?_take,if_pos hj];exact ho
 have fu:∀ (j:Nat) (o:Oper),(l.take m)[j]? = some o→j<m∧l[j]? = some o:=fun j o ho=>by
  rw [List.getElem?_take] at ho
  split at ho
  ·exact ⟨by assumption,ho⟩
  ·cases ho
 have Ol:∀ j,j<m→∃ s,S[j]? = some s:=fun j hj=>⟨S[j]'(by omega),Zc (by omega)⟩
 have mf:∀ fuel listed a w,Nx c D hs l m S a0 fuel listed a w→(∀ i,i<m→Ls listed i)→wpAnyIn (FR none) 0 P .any l.toArray Q fuel listed a w:=by
  intro fuel listed a w hI dU
  have hL:∀ i,i<l.length→(Ls listed i↔i<m):=fun i _=>⟨fun h=>Nat.lt_of_not_le fun hm=>hI.hi i hm h,dU i⟩
  obtain ⟨U,wh,pN,rQ⟩:=hI.left
  have gU:U.Perm (List.range' m (l.length-m)):=by
   rw [List.perm_ext_iff_of_nodup wh (List.nodup_range')]
   intro i
   rw [pN i,List.mem_range'_1]
   constructor
   ·rintro ⟨h1,h2⟩
    exact ⟨Nat.le_of_not_lt fun h=>h2 (dU i h),by omega⟩
   ·rintro ⟨h1,h2⟩
    exact ⟨by omega,hI.hi i h1⟩
  have hlen:fuel=l.length-m:=by rw [← rQ,gU.length_eq,List.length_range']
  have Ii:listed=lo l.length m:=by
   have uT:(lo l.length m).size=l.length:=by simp [lo];omega
   apply Array.ext
   ·rw [hI.sz,uT]
   ·intro i h1 h2
    rw [hI.sz] at h1
    have h3:=hL i h1
    unfold Ls at h3
    rw [Array.getD_eq_getD_getElem?,Array.getElem?_eq_getElem (by rw [hI.sz];exact h1),Option.getD_some] at h3
    have h4:(lo l.length m)[i]=decide (i<m):=by
     simp only [lo,List.getElem_toArray]
     by_cases hi:i<m
     ·rw [List.getElem_append_left (by simpa using hi)];simp [hi]
     ·rw [List.getElem_append_right (by simpa using hi)];simp [hi]
    rw [h4]
    by_cases hi:i<m
    ·rw [h3.2 hi];simp [hi]
    ·have:¬ listed[i]=true:=fun h=>hi (h3.1 h)
     simp [hi,this]
  subst hlen
  rw [Ii]
  obtain ⟨β,hm,kP⟩:=hI.own
  have e:dL β (fun i=>listed.getD i false) S 0=dL β (fun _=>true) S 0:=ia fun j s hj=>by
   have gX:j<m:=by have:=(List.getElem?_eq_some_iff.1 hj).1;omega
   rw [Nat.zero_add]
   exact ⟨dU j gX,fun _=>rfl⟩
  rw [e] at hm
  refine tail β a w ⟨by rw [Zh];exact hm,fun t v hv=>?_,hI.size,hI.defers⟩
  rcases km β t v hv with ⟨j,oj,s,h1,h2,h3,h4⟩ | ⟨h1,h2⟩
  ·obtain ⟨gX,lQ⟩:=fu j oj h1
   rw [h4];exact kP j oj t s lQ h2 h3 (dU j gX)
  ·rw [hI.AP t fun j oj hj jr=>h1 oj (List.mem_of_getElem? (dT j oj (Nat.lt_of_not_le fun hm=>hI.hi j hm jr) hj))]
   exact h0 t v h2
 intro fuel
 induction fuel with
 | zero =>
  intro listed a w hI
  obtain ⟨U,_,pN,rQ⟩:=hI.left
  have hU:U=[]:=List.length_eq_zero_iff.1 rQ
  refine mf 0 listed a w hI fun i hi=>Classical.byContradiction fun hn=>?_
  have:=(pN i).2 ⟨by omega,hn⟩
  rw [hU] at this;cases this
 | succ fuel ih =>
  intro listed a w hI
  by_cases dU:∀ i,i<m→Ls listed i
  ·exact mf _ listed a w hI dU
  ·have hex:∃ i,i<m∧¬ Ls listed i:=Classical.byContradiction fun hh=>dU fun i hi=>Classical.byContradiction fun hn=>hh ⟨i,hi,hn⟩
   obtain ⟨i0,rP,o7⟩:=hex
   have main:∀ i,i∈Region.ready .any l.toArray listed→i<m→wpOpIn (FR none) 0 P l.toArray Q i (wpAnyIn (FR none) 0 P .any l.toArray Q fuel (listed.setIfInBounds i true)) a w∧(i∈p→wpAnyIn (FR none) 0 P .any l.toArray Q (fuel+1) listed a w):=by
    intro i hi oT
    obtain ⟨o,ho,hn,lB⟩:=(dA hI.sz).1 hi
    obtain ⟨d,EL,s,hd,fw,qZ,sF,dB⟩:=fO i o (Zi _) (dT i o oT ho)
    obtain ⟨CP,CQ,B,hB,ig⟩:=dB
    obtain ⟨β,hm,kP⟩:=hI.own
    have lA:∀ (j:Nat),fk o j=true→Ls listed j:=fun j hw=>by
     obtain ⟨e,he,hb,pq⟩:=dq hw
     rw [← pq];exact lB e he hb
    have pt:∀ (j:Nat) (oj:Oper) (e:Nat),l[j]? = some oj→j<m→j≠i→oj.dst=some e→d≠e:=by
     intro j oj e hj gX hne he
     rcases Nat.lt_or_ge j i with h | h
     ·exact fun e'=>(di (oQ hc h oT hj ho) he hd).1 e'.symm
     ·exact (di (oQ hc (show i<j by omega) gX ho hj) hd he).1
    have iP:i<listed.size:=by rw [hI.sz];omega
    have BY:mH o=true:=hc.op o (List.mem_of_getElem? ho)
    -- zK cM O5 zK operation looks at
    have hT:∀ t∈o.looksAt l.toArray,∀ v,cF (EL β) t=some v→a.tmps[t]? = some v:=by
     intro t ht v hv
     rcases sF β t v hv with ⟨j,oj,sj,h1,h2,h3,h4⟩ | ⟨h1,h2⟩
     ·have nf:j<i:=by have:=(List.getElem?_eq_some_iff.1 h1).1;rw [List.length_take] at this;omega
      rw [List.getElem?_take,if_pos nf] at h1 h3
      obtain ⟨gX,lQ⟩:=fu j oj h1
      have jr:=lA j ((di (oQ hc nf oT lQ ho) h2 hd).2 (.inl ht))
      rw [h4];exact kP j oj t sj lQ h2 h3 jr
     ·rw [hI.AP t fun j oj hj jr iy=>?_]
      ·exact h0 t v h2
      ·have gX:j<m:=Nat.lt_of_not_le fun hm=>hI.hi j hm jr
       rcases Nat.lt_trichotomy j i with h | h | h
       ·exact h1 oj (List.mem_of_getElem? (by rw [List.getElem?_take,if_pos h];exact dT j oj gX hj)) iy
       ·subst h;exact hn jr
       ·have hw:=(di (oQ hc h gX ho hj) hd iy).2 (.inr ht)
        obtain ⟨e,he,hb,pq⟩:=dq hw
        have:=hI.dc j oj hj jr e he hb
        rw [pq] at this
        exact hn this
    have u0:∀ t v,cF (EL β) t=some v→t<c.nt:=by
     intro t v hv
     rcases sF β t v hv with ⟨j,oj,sj,h1,h2,_,_⟩ | ⟨_,h2⟩
     ·have nf:j<i:=by have:=(List.getElem?_eq_some_iff.1 h1).1;rw [List.length_take] at this;omega
      rw [List.getElem?_take,if_pos nf] at h1
      obtain ⟨d',_,_,vK,ze,_⟩:=fO j oj (Zi _) h1
      rw [h2] at vK;cases vK
      exact ze
     ·have:=h0 t v h2
      rw [← Ih]
      exact (Array.getElem?_eq_some_iff.1 this).1
    obtain ⟨a',kF,iW,_⟩:=om hI.size u0 hT
    have zh:jE c hs (S.take i) B β w:=by
     rintro A (rfl | ⟨j,hj,sj,h1,rfl⟩)
     ·exact hm.sublist ((List.sublist_append_left _ _).trans (List.sublist_append_right _ _))
     ·have nf:j<i:=by have:=(List.getElem?_eq_some_iff.1 h1).1;rw [List.length_take] at this;omega
      rw [List.getElem?_take,if_pos nf] at h1
      have jr:=lA j (hB j hj)
      exact hm.sublist ((qC (lst:=fun i=>listed.getD i false) (i:=0) h1 (by rw [Nat.zero_add];exact jr)).append (List.sublist_append_left _ _))
    have hq:=ig β a' w kF zh
    have hex:=im (o:=o) (ops:=l.toArray) BY iW
    -- OU a done operation R5 T4 not TG on this one
    have nZ:∀ j,Ls listed j→∀ x k,vv l j k=true→β k=ud β i x k:=by
     intro j jr x k hk
     refine (ub fun e=>?_).symm
     subst e
     unfold vv at hk
     rw [Bool.or_eq_true] at hk
     rcases hk with hk | hk
     ·have:j=k:=by simpa using hk
      subst this;exact hn jr
     ·have Qq:j<l.length:=by
       have gX:j<m:=Nat.lt_of_not_le fun hm=>hI.hi j hm jr
       omega
      exact hn (gQ hI.dc hc.ac j Qq jr k hk)
    have gH:∀ v w',Nv i s β w v w'→wpAnyIn (FR none) 0 P .any l.toArray Q fuel (listed.setIfInBounds i true) (a.put o.dst v) w':=by
     rintro v w' ⟨x,rfl,hk,fp,kQ,ie,wc⟩
     refine ih _ _ _ ⟨by simpa using hI.sz,?_,?_,by rw [hd];exact hI.defers,by simpa [Act.put,hd] using hI.size,?_,?_,ud β i x,?_,?_⟩
     ·intro k ok rn hL e he hb
      rw [cr iP] at hL ⊢
      rcases hL with e' | hL
      ·subst e'
       rw [ho] at rn;cases rn
       exact .inr (lB e he hb)
      ·exact .inr (hI.dc k ok rn hL e he hb)
     ·intro k rn hL
      rw [cr iP] at hL
      rcases hL with e | hL
      ·omega
      ·exact hI.hi k rn hL
     ·intro t ht
      have h1:d≠t:=fun e=>by subst e;exact ht i o ho ((cr iP).2 (.inl rfl)) hd
      rw [hd]
      simp only [Act.put,Array.getElem?_setIfInBounds_ne h1]
      exact hI.AP t fun j oj hj hL=>ht j oj hj ((cr iP).2 (.inr hL))
     ·obtain ⟨U,wh,pN,rQ⟩:=hI.left
      refine ⟨U.erase i,wh.erase i,fun k=>?_,?_⟩
      ·rw [wh.mem_erase_iff,pN k,cr iP]
       constructor
       ·rintro ⟨h1,h2,h3⟩
        exact ⟨h2,fun h=>h.elim h1 h3⟩
       ·rintro ⟨h1,h2⟩
        exact ⟨fun e=>h2 (.inl e),h1,fun h=>h2 (.inr h)⟩
      ·have Qr:i∈U:=(pN i).2 ⟨by omega,hn⟩
       rw [List.length_erase_of_mem Qr,rQ];rfl
     ·have lP:Mem c (s.A (ud β i x)++(dL β (fun i=>listed.getD i false) S 0++(hs++l8 D))) w':=Mem.On (As:=[]) hm fun rS _ hf=>by
       rw [show rS=[] from hf]
       exact ⟨hk,fp,kQ,ie,fun b hb=>.inr (wc b hb)⟩
      have e1:dL β (fun i=>listed.getD i false) S 0=dL (ud β i x) (fun i=>listed.getD i false) S 0:=ia fun j sj hj=>by
       refine ⟨rfl,fun hl=>?_⟩
       rw [Nat.zero_add] at hl
       have gX:j<m:=by have:=(List.getElem?_eq_some_iff.1 hj).1;omega
       obtain ⟨oj,Ie⟩:∃ oj,l[j]? = some oj:=⟨l[j]'(by omega),Zc (by omega)⟩
       obtain ⟨_,_,s2,_,_,hs2,_,uW⟩:=fO j oj (Zi _) (dT j oj gX Ie)
       rw [hj] at hs2;cases hs2
       exact uW.CQ _ _ (nZ j hl x)
      rw [e1,← Zh] at lP
      refine lP.perm ((qE (k:=i) qZ ?_ ?_ ?_).append_right _)
      ·rw [Nat.zero_add]
       show listed.getD i false=false
       have:¬ listed.getD i false=true:=hn
       simpa using this
      ·rw [Nat.zero_add];exact (cr iP).2 (.inl rfl)
      ·intro j hj
       rw [Nat.zero_add] at hj
       simp [Array.getD_eq_getD_getElem?,Array.getElem?_setIfInBounds_ne (Ne.symm hj)]
     ·intro j oj e sj hj he ju hL
      rw [cr iP] at hL
      by_cases nf:j=i
      ·subst nf
       rw [ho] at hj;cases hj
       rw [hd] at he;cases he
       rw [qZ] at ju;cases ju
       rw [hd]
       simp [Act.put,hI.size,fw]
      ·have zQ:=hL.resolve_left nf
       have gX:j<m:=Nat.lt_of_not_le fun hm=>hI.hi j hm zQ
       obtain ⟨_,_,s2,_,_,hs2,_,uW⟩:=fO j oj (Zi _) (dT j oj gX hj)
       rw [ju] at hs2;cases hs2
       rw [hd]
       simp only [Act.put,Array.getElem?_setIfInBounds_ne (pt j oj e hj gX nf he)]
       rw [← uW.CP _ _ (nZ j zQ x)]
       exact kP j oj e sj hj he ju zQ
    have F7:=hq
    refine ⟨?_,fun Tn=>?_⟩
    rotate_left
    ·obtain ⟨d',x',k',U8,pos',XF,Bc,Qc,eJ⟩:=Fv i Tn oT
     rw [ho] at Bc;cases Bc
     rw [if_pos (by simp [Region.wanted])] at F7
     unfold qh at F7
     obtain ⟨v,hv,Bl⟩:=Bt F7
     have wc:Region.free .any l.toArray listed i=true:=xG eJ fun j hj hne hb=>by
      have lQ:j<l.length:=by simpa using hj
      have dy:((iw l []).getD i 0).testBit j=true:=by
       rw [Array.getD_eq_getD_getElem?] at hb
       simpa [lQ] using hb
      have Ww:j<listed.size:=by rw [hI.sz];exact lQ
      rcases xh hc.ac hI.sz hI.dc hi dy with e | hL
      ·exact absurd e hne
      ·unfold Ls at hL
       rw [Array.getD_eq_getD_getElem?,Array.getElem?_eq_getElem Ww] at hL ⊢
       exact hL
     refine wpAnyIn_take (oi:=⟨some d',.extract x' k',U8,pos',XF,none⟩) (v:=v) rfl (by simpa using ho) Qc wc (by simpa using hi) (fun c a w h=>(U0 c _ w h).elim) ⟨.inl ⟨by simp [Region.wanted],fun w2=>by rw [← hex];exact Bl w2⟩,fun w2=>rfl⟩ (gH v w hv)
    unfold wpOpIn
    rw [show l.toArray[i]? = some o from by simpa using ho]
    simp only []
    rw [gM iW] at hq
    split
    ·rename_i hw
     rw [if_pos hw] at hq
     refine ⟨dH _ _ _ _ _,?_⟩
     rw [Oper.semAt_eq _ _ _ (fun cc he=>by simp [mH,he] at BY),← hex]
     unfold qh at hq
     revert hq
     generalize (execOp a'.eval o).run P w=res
     intro hq
     match res,hq with
     | .ok (.value v) w',hq=>exact gH v w' hq
     | .ok (.enter f args) w', ⟨e, cn⟩ =>
      subst e
      refine ⟨by simp [FR,Fence.wide],(gV cn).mono fun e vQ h=>?_⟩
      obtain ⟨v,rfl,hq⟩:=h
      exact gH v vQ hq
    ·rename_i hw
     rw [if_neg hw] at hq
     exact ⟨fun _ _=>trivial,gH undef w hq⟩
   by_cases hp:∃ q,q∈p∧q<m∧q∈Region.ready .any l.toArray listed
   ·obtain ⟨q,Ms,xB,S3⟩:=hp
    exact (main q S3 xB).2 Ms
   ·refine ⟨fun hr=>?_,fun i hi=>?_⟩
    ·obtain ⟨i,hi⟩:=ja hI.sz hc.ac ⟨i0,by omega,o7⟩
     rw [hr] at hi;cases hi
    ·have oT:i<m:=Nat.lt_of_not_le fun hm=>by
      have KD:=yE hc hI.sz hI.dc hi hm
      have Bl:∀ q,q<m→Ls listed q:=by
       intro q
       induction q using Nat.strongRecOn with
       | _ q ih =>
        intro V3
        by_cases Mr:q∈p
        ·by_cases Yv:Ls listed q
         ·exact Yv
         ·refine absurd ⟨q,Mr,V3,(dA hI.sz).2 ⟨l[q]'(by omega),Zc (by omega),Yv,fun e he hb=>?_⟩⟩ hp
          have aL:=jD hc.ac (Zc (show q<l.length by omega)) e he hb
          exact ih e.on (by omega) (by omega)
        ·exact KD q V3 Mr
      exact o7 (Bl i0 rP)
     exact (main i hi oT).1
theorem wL {id:Nat} (m:Nat) (p:List Nat) [pM:Rh P] (iQ:yD l m p=true) (Fv:∀ q∈p,zI l q) (k:oG P c D hs l Q m 0 m l (fun _=>sl) []):Tr c D sl hs (WP P none (.region id l.toArray true) Q):=fun a w a7=>by
 obtain ⟨S,nr,hp,ht⟩:=k
 have h:(Code.region id l.toArray true).wpIn (FR none) 0 P (NP Q) a w:=wpIn_region_any pM.eq (by
  refine LG (p:=p) (yC iQ) (fun q hq _=>Fv q hq) (fun c a w h=>h.elim) hp a7.cM a7.size (fun β a w a7=>ht β a w a7) l.toArray.size _ _ _ ⟨by simp,?_,?_,a7.defers,a7.size,fun t _=>rfl,?_,fun _=>undef,?_,?_⟩
  ·exact fun k o _ hL=>absurd hL (eL _ _)
  ·exact fun k _ hL=>eL _ _ hL
  ·exact ⟨List.range l.length,List.nodup_range,fun i=>⟨fun h=>⟨by simpa using h,eL _ _⟩,fun h=>by simpa using h.1⟩,by simp⟩
  ·have e:∀ (T:List cK) (i:Nat),dL (fun _=>undef) (fun i=>(Array.replicate l.toArray.size false).getD i false) T i=[]:=by
    intro T
    induction T with
    | nil=>intro i;rfl
    | cons s T ih =>
     intro i
     have:=eL l.toArray.size i
     unfold Ls at this
     unfold dL
     rw [if_neg this,ih];rfl
   rw [e]
   exact a7.mem.drew
  ·exact fun j o d s _ _ _ hL=>absurd hL (eL _ _))
 exact wpIn_mono h fun e a' w' h=>by
  cases e with
  | panic c=>exact h.elim
  | _=>exact h
end
theorem tD {l:List Oper} {p d k:Nat} {x:Operand} {ty:TypeId} {pos:String} {af:Array Edge} (h:l[p]? = some ⟨some d,.extract x k,ty,pos,af,none⟩) (h2:Region.noSelect l.toArray=true) (h3:Region.free .any l.toArray ((List.range l.length).map fun j=>((iw l []).getD p 0).testBit j).toArray p=true):zI l p:=⟨d,x,k,ty,pos,af,h,h2,h3⟩
end Go.SL
namespace Go.Proofs.A1
open Go Go.SL
def g4:Value→Value×Value×Value×Value
 | .agg a=>(a.getD 0 (.slice none 0 0),a.getD 1 (.slice none 0 0),a.getD 2 (.slice none 0 0),a.getD 3 (.slice none 0 0))
 | _=>(.slice none 0 0,.slice none 0 0,.slice none 0 0,.slice none 0 0)
theorem Bn (x:Value×Value×Value×Value):∃ v,g4 v=x:=⟨.agg #[x.1,x.2.1,x.2.2.1,x.2.2.2],rfl⟩
def GR (r:Ro) (o:ByteArray) (f:Int):Int:=aW [sM r o,fW f 0 10000000]
def qx (r:Ro) (l:List Od) (o:ByteArray) (f:Int):Int:=if LM r l≠0 then LM r l else if GR r o f≠0 then GR r o f else (iA r (l.take (gZ l f))).2.2
def sT (r:Ro) (l:List Od) (o:ByteArray) (f:Int):List ByteArray:=if qx r l o f≠0 then [] else cy (iA r (l.take (gZ l f))).1 o
theorem Mj (l:List o9) (f:Int):gK (fun x:o9=>decide (f<x.fr)) l=if gZ (ef l) f<l.length then ((gZ (ef l) f:Nat):Int) else -1:=by
 have hn:gZ (ef l) f=l.findIdx fun x=>decide (f<x.fr):=by
  unfold gZ ef
  rw [List.findIdx_map];rfl
 rw [hn]
 by_cases c:(l.findIdx fun x=>decide (f<x.fr))<l.length
 ·rw [if_pos c]
  refine gj (fun i hi=>?_) c (List.findIdx_getElem (w:=c))
  have:=List.not_of_lt_findIdx hi
  rw [Zc (by omega)]
  simpa using this
 ·rw [if_neg c]
  refine fx fun i hi=>?_
  have:=List.not_of_lt_findIdx (p:=fun x:o9=>decide (f<x.fr)) (xs:=l) (i:=i) (by omega)
  rw [Zc hi]
  simpa using this
theorem Nu.take {r:Ro} {l:List Od} (h:Nu r l) (n:Nat):Nu r (l.take n):=by
 refine ⟨by rw [List.length_take];have:=h.C3;omega,fun k hk=>?_,fun i j hi hj xE=>?_,fun k hk=>?_⟩
 ·rw [List.length_take] at hk;rw [List.getElem_take];exact h.fr k (by omega)
 ·rw [List.length_take] at hi hj;rw [List.getElem_take,List.getElem_take];exact h.inc i j (by omega) (by omega) xE
 ·rw [List.length_take] at hk;rw [List.getElem_take];exact h.tk k (by omega)
theorem DM {r:Ro} {l:List Od} (hc:fU r=0) (hO:Nu r l) (h:(iA r l).2.2=0):∃ q,iR r q∧(iA r l).1=r.wp q:=by
 unfold iA at h ⊢
 by_cases c:iL (AN r l) l.length=0
 ·rw [if_pos c]
  obtain ⟨q,hq⟩:=G5 hc hO l.length (Nat.le_refl _) (dN.1 c)
  exact ⟨q,hq.val,hq.eq⟩
 ·rw [if_neg c] at h;exact absurd h c
set_option maxHeartbeats 2000000 in
theorem Rf {r:Ro} {s d t p kv:Value} {l:List o9} (o:ByteArray) (f:Int) {w:World} (h:RR w r s d t p) (cG:mY r) (hw:Rd w kv 2 (su l)) (hM:Gg w l) :
  bd Tryz.prog 64 [RA r s d t p,kv,.string o,.int .i64 f] w [] (fun _:Value=>True) (fun v=>.tuple #[v,.int .i64 (qx r (ef l) o f)]) (fun v=>[row 9 1 v (sT r (ef l) o f).length (aO (sT r (ef l) o f))]):=by
 have h1:=Rd.one h.sr
 have h2:=Rd.one h.de
 have h3:=Rd.one h.ti
 have h4:=Rd.one h.po
 have BX:=hw
 obtain ⟨a,cp,b,ow,rfl,db,bT,ha,hc⟩:=hw
 rw [kO] at *
 unfold maxLen at bT
 have tL:=tG l
 have Fx:∀ w',aG [] w w'→aj Tryz.prog 171 [.agg #[.int .i64 r.lv,.int .i64 r.ma,s,d,t,p],.slice a l.length cp] w' (.int .i64 (LM r (ef l))):=fun w' hk=>wq (h.keeps hk) cG (BX.keeps hk) (hM.keeps hk)
 have lT:∀ w',aG [] w w'→aj Tryz.prog 112 [.agg #[.int .i64 r.lv,.int .i64 r.ma,s,d,t,p],.string o] w' (.int .i64 (sM r o)):=fun w' hk=>ei o (h.keeps hk)
 unfold RA
 refine aQ Tryz.func64 rfl rfl ?_
 (refine Jr<|Jy rfl rfl fun _ _=>Jy rfl rfl fun _ _=>Ja rfl<|Ja rfl<|Jn<|Jq<|Jr<|ab (cz (.there .here)) rfl ?_;refine Jv rfl<|ai aZ rfl (fun w' au=>(Fx w' (Mem.keeps au))) ?_;refine Ja rfl<|Ji<|Jv rfl<|JD rfl<|Jn<|gm rfl (fun ar=>?_) fun ar=>?_;refine Jr<|Jv rfl<|Ja rfl<|Ja rfl<|Jn<|Ju ?_;rotate_left;refine Jk<|Jq<|Jq ?_;rotate_right)
 ·have e1:qx r (ef l) o f=LM r (ef l):=if_pos ar
  have e2:sT r (ef l) o f=[]:=if_pos (by rw [e1];exact ar)
  rw [e1,e2]
  refine aP 9 1 ?_
  first | with_reducible apply aM | with_reducible apply aN
  case he=>exact fF rfl rfl rfl
  case hR=>
   intro w' au
   exact aB (.slice none 0 0) trivial (by exact .cons .here .nil) au rfl
 have RM:qx r (ef l) o f=if GR r o f≠0 then GR r o f else (iA r ((ef l).take (gZ (ef l) f))).2.2:=if_neg ar
 obtain ⟨zO,hO⟩:=Px (Decidable.not_not.1 ar)
 clear ar
 rename_i b4 u9 b7 TC
 with_reducible refine cC 6 (by kernel_rfl) ?_
 (refine ak (cz (.there .here)) rfl ?_;refine ak kG rfl ?_;refine aT aZ rfl (fun w' au=>(lT w' (Mem.keeps au))) ?_;refine ak (gz .here) rfl ?_;refine aT eh rfl (fun w' au=>(lV f 0 10000000 w')) ?_;refine dX (aA (.cons (.of rfl) (.cons (.of rfl) .nil)) rfl rfl rfl rfl) rfl rfl ?_)
 with_reducible refine df rfl fun bq mg=>?_
 (refine ai bI rfl (fun w' au=>(dI (Mem.dh au .here rfl rfl) (bP.cons (bP.cons bP.nil)))) ?_;refine Ja rfl<|Ji<|Jv rfl<|JD rfl<|Jn<|gm rfl (fun ar=>?_) fun ar=>?_;refine Jr<|Jv rfl<|Ja rfl<|Ja rfl<|Jn<|Ju ?_;rotate_left;refine Jk<|Jr<|Jv rfl<|ab (bn .nil (.cons (.of rfl) .nil)) rfl ?_;rotate_right)
 ·have e1:qx r (ef l) o f=GR r o f:=by rw [RM];exact if_pos ar
  have e2:sT r (ef l) o f=[]:=if_pos (by rw [e1];exact ar)
  rw [e1,e2]
  refine aP 9 1 ?_
  first | with_reducible apply aM | with_reducible apply aN
  case he=>exact fF rfl rfl rfl
  case hR=>
   intro w' au
   exact aB (.slice none 0 0) trivial (by exact .cons .here .nil) au rfl
 have YI:qx r (ef l) o f=(iA r ((ef l).take (gZ (ef l) f))).2.2:=by rw [RM];exact if_neg ar
 clear RM
 have RM:=YI
 have hsd:o∈ct r:=by
  have:=(bH (by decide)).1 (bX.1 (Decidable.not_not.1 ar) (sM r o) (by simp))
  rwa [decide_eq_false_iff_not,cj,Classical.not_not] at this
 clear ar YI
 with_reducible apply ai
 case hr=>exact aZ
 case hd=>rfl
 case hc=>
  intro w' au
  have f7:w'.cell? ⟨b7,0,none⟩=some (.int .i64 f):=At.lit (by exact Take.there .here) rfl w' au
  exact Ml (f:=174) (p:=fun x:o9=>decide (f<x.fr)) (first:=[]) (cap:=[.pointer (some ⟨b7,0,none⟩)]) (BX.keeps au.keeps) (fun x _ w2 eC=>Ll (ch f7 rfl eC))
 rw [Mj]
 have P4:=OZ (ef l) f
 rw [tL] at P4
 by_cases jJ:gZ (ef l) f<l.length
 ·rw [if_pos jJ]
  have P2:gZ (ef l) f≤l.length:=P4
  have P3:gZ (ef l) f=gZ (ef l) f:=rfl
  refine Ja rfl<|Jn<|Jq<|Jr<|Jv rfl<|JA rfl<|Jn<|Jc rfl fun ar=>Jk<|Jq ?_
  have uU:qx r (ef l) o f=(iA r ((ef l).take (gZ (ef l) f))).2.2∧sT r (ef l) o f=if (iA r ((ef l).take (gZ (ef l) f))).2.2≠0 then [] else cy (iA r ((ef l).take (gZ (ef l) f))).1 o:=by
   have x1:qx r (ef l) o f=(iA r ((ef l).take (gZ (ef l) f))).2.2:=by rw [RM,P3]
   refine ⟨x1,?_⟩
   unfold sT
   rw [x1,P3]
  have QJ:=hO.take (gZ (ef l) f)
  have pq:(ef l).take (gZ (ef l) f)=ef (l.take (gZ (ef l) f)):=by unfold ef;rw [List.map_take]
  rw [pq] at uU QJ
  have uV:=DM zO QJ
  have rm:Rd w (Go.sliced a 0 (((gZ (ef l) f):Nat):Int).toNat cp 2) 2 (su (l.take (gZ (ef l) f))):=by
   have:=BX.sliced (l:=0) (m:=(gZ (ef l) f)) (Zi _) P2
   rw [Int.toNat_natCast]
   rwa [List.drop_zero,show (su l).take (gZ (ef l) f)=su (l.take (gZ (ef l) f)) by unfold su;rw [List.map_take]] at this
  have Xi:Gg w (l.take (gZ (ef l) f)):=fun x hx=>hM x (List.mem_of_mem_take hx)
  rw [uU.1,uU.2]
  have qR:∀ w',aG [] w w'→bd Tryz.prog 172 [.agg #[.int .i64 r.lv,.int .i64 r.ma,s,d,t,p],Go.sliced a 0 (((gZ (ef l) f):Nat):Int).toNat cp 2] w' [] (fun _:Value×Value×Value×Value=>True) (fun x=>.tuple #[RA (iA r (ef (l.take (gZ (ef l) f)))).1 x.1 x.2.1 x.2.2.1 x.2.2.2,.int .i64 (iA r (ef (l.take (gZ (ef l) f)))).2.1,.int .i64 (iA r (ef (l.take (gZ (ef l) f)))).2.2]) (fun x=>tt (iA r (ef (l.take (gZ (ef l) f)))).1 x):=fun w' hk=>NJ (h.keeps hk) zO (rm.keeps hk) (Xi.keeps hk) QJ
  generalize iA r (ef (l.take (gZ (ef l) f)))=R at uV qR ⊢
  obtain ⟨R,at_,e_⟩:=R
  dsimp only at uV qR ⊢
  with_reducible refine wL 10 [7,8] (by kernel_rfl) (List.forall_mem_cons.2 ⟨tD rfl (by kernel_rfl) (by kernel_rfl),List.forall_mem_cons.2 ⟨tD rfl (by kernel_rfl) (by kernel_rfl),fun _ h=>absurd h List.not_mem_nil⟩⟩) ?_
  (refine aD (fun β=>(cA (.of rfl) bN an (by rfl))) dx rfl ?_;refine aD (fun β=>(aR (.of rfl))) dx rfl ?_;refine aD (fun β=>(aR (.of rfl))) dx rfl ?_;refine aD (fun β=>(gP (.of rfl) (.of rfl) (by omega) (by omega))) dx rfl ?_)
  dsimp only [Nat.zero_add,Nat.reduceAdd]
  with_reducible apply gI (ι:=Value×Value×Value×Value) (Φ:=fun _=>True) (val:=fun x=>.tuple #[.agg #[.int .i64 R.lv,.int .i64 R.ma,x.1,x.2.1,x.2.2.1,x.2.2.2],.int .i64 at_,.int .i64 e_]) (own:=fun x=>[J1 R x.1,J2 R x.2.1,J3 R x.2.2.1,J4 R x.2.2.2]) (g:=g4) (B:=[]) (args:=fun _=>[.agg #[.int .i64 r.lv,.int .i64 r.ma,s,d,t,p],Go.sliced a 0 (((gZ (ef l) f):Nat):Int).toNat cp 2])
  case hg=>exact Bn
  case hB=>rfl
  case hr=>exact fun β=>bh (.of rfl) (.cons (.of rfl) (.cons (.of rfl) .nil)) inferInstance rfl
  case hd=>rfl
  case hc=>exact fun β w' hb=>qR w' hb.mem.keeps
  dsimp only [Nat.reduceAdd]
  with_reducible apply aD
  case hr=>(intro β;exact aR (.of rfl))
  case hi=>exact fun β β' h=>by simp only [h 4 (by kernel_rfl)]
  case hd=>rfl
  dsimp only [Nat.reduceAdd]
  with_reducible apply aD
  case hr=>(intro β;exact fY (.of rfl) rfl)
  case hi=>exact fun β β' h=>by simp only [h 4 (by kernel_rfl)]
  case hd=>rfl
  dsimp only [Nat.reduceAdd]
  (refine aD (fun β=>(fY (.of rfl) rfl)) dx rfl ?_;refine aD (fun β=>(fY (.of rfl) rfl)) dx rfl ?_)
  refine mW (fun β=>(uz rfl)) (fun _ _ _=>rfl) rfl ?_
  refine gE fun β=>?_
  dsimp only [fq,Za,Zb,List.append_eq,Nat.reduceAdd]
  generalize fP (β 9)=Q7
  generalize g4 (β 4)=y
  obtain ⟨s1,d1,t1,p1⟩:=y
  clear β
  dsimp only
  refine dG (r:=R) (s:=s1) (d:=d1) (t:=t1) (p:=p1) (by unfold tt PB;exact .cons .here (.cons .here (.cons .here (.cons .here .nil)))) fun m1 m2 m3 m4=>?_
  refine cO (rs:=[10]) (by kernel_rfl) (by simp) (List.forall_mem_cons.2 ⟨?_,fun _ h=>absurd h List.not_mem_nil⟩)
  refine cW rfl ?_
  (refine aq (.of rfl) (.of rfl) eR rfl rfl (iu rfl rfl m1 m2 m3 m4) (bC rfl) an ?_;refine Jn ?_)
  refine cO (rs:=[11]) (by kernel_rfl) (by simp) (List.forall_mem_cons.2 ⟨?_,fun _ h=>absurd h List.not_mem_nil⟩)
  refine cW rfl ?_
  refine Ja rfl<|Jn ?_
  refine cO (rs:=[12]) (by kernel_rfl) (by simp) (List.forall_mem_cons.2 ⟨?_,fun _ h=>absurd h List.not_mem_nil⟩)
  refine cW rfl ?_
  refine Ja rfl<|Jn ?_
  with_reducible refine dj (by kernel_rfl) ?_
  clear qR
  by_cases zN:e_=0
  ·obtain ⟨q,Xd,TJ⟩:=uV zN
   clear uV
   rw [if_neg (not_not_intro zN)]
   subst TJ
   subst zN
   have S8:=(DZ zO).wp Xd
   have Bb:=S8.lim
   have sW:=S8.len
   (refine Jt<|Jq<|Jr<|Jv rfl<|JD rfl<|Jn<|Jc rfl fun ar=>Jk<|Jr<|ab (cz .here) rfl ?_;refine Jv rfl ?_)
   have Wh:(cy (r.wp q) o).length=(r.wp q).lv.toNat:=by unfold cy;simp
   rw [Wh]
   generalize r.wp q=R at *
   refine JN aZ rfl (fun w1 aS=>u5 (r:=R) o ⟨cZ aS (by exact Take.there .here) rfl,c5 aS bN rfl,cY aS cX rfl,cR aS eR rfl⟩ (by omega) (by omega)) ?_
   intro hv _
   dsimp only [id_eq,Zb,Za]
   refine aY (E:=9) (sz:=1) (v:=hv) (by exact .here) fun va vc e=>?_
   subst e
   refine Ja rfl<|Ja rfl<|Jn<|Je ?_
   first | with_reducible apply aM | with_reducible apply aN
   case he=>exact fF rfl rfl rfl
   case hR=>
    intro w' au
    exact aB (.slice va R.lv.toNat vc) trivial (by exact .cons .here .nil) au rfl
  ·clear uV
   rw [if_pos zN]
   refine Jt<|Jq<|Jr<|Jv rfl<|JD rfl<|Jn<|Jd rfl fun ar=>Jr<|Jv rfl<|Ja rfl<|Ja rfl<|Jn<|Ju ?_
   refine aP 9 1 ?_
   first | with_reducible apply aM | with_reducible apply aN
   case he=>exact fF rfl rfl rfl
   case hR=>
    intro w' au
    exact aB (.slice none 0 0) trivial (by exact .cons .here .nil) au rfl
 ·rw [if_neg jJ]
  have P2:l.length≤l.length:=Nat.le_refl _
  have P3:gZ (ef l) f=l.length:=by omega
  refine Ja rfl<|Jn<|Jq<|Jr<|Jv rfl<|JA rfl<|Jn<|Jd rfl fun ar=>Jg<|Jv rfl<|JI rfl<|Ja rfl<|Jn<|Jq ?_
  have uU:qx r (ef l) o f=(iA r ((ef l).take l.length)).2.2∧sT r (ef l) o f=if (iA r ((ef l).take l.length)).2.2≠0 then [] else cy (iA r ((ef l).take l.length)).1 o:=by
   have x1:qx r (ef l) o f=(iA r ((ef l).take l.length)).2.2:=by rw [RM,P3]
   refine ⟨x1,?_⟩
   unfold sT
   rw [x1,P3]
  have QJ:=hO.take l.length
  have pq:(ef l).take l.length=ef (l.take l.length):=by unfold ef;rw [List.map_take]
  rw [pq] at uU QJ
  have uV:=DM zO QJ
  have rm:Rd w (Go.sliced a 0 ((l.length:Nat):Int).toNat cp 2) 2 (su (l.take l.length)):=by
   have:=BX.sliced (l:=0) (m:=l.length) (Zi _) P2
   rw [Int.toNat_natCast]
   rwa [List.drop_zero,show (su l).take l.length=su (l.take l.length) by unfold su;rw [List.map_take]] at this
  have Xi:Gg w (l.take l.length):=fun x hx=>hM x (List.mem_of_mem_take hx)
  rw [uU.1,uU.2]
  have qR:∀ w',aG [] w w'→bd Tryz.prog 172 [.agg #[.int .i64 r.lv,.int .i64 r.ma,s,d,t,p],Go.sliced a 0 ((l.length:Nat):Int).toNat cp 2] w' [] (fun _:Value×Value×Value×Value=>True) (fun x=>.tuple #[RA (iA r (ef (l.take l.length))).1 x.1 x.2.1 x.2.2.1 x.2.2.2,.int .i64 (iA r (ef (l.take l.length))).2.1,.int .i64 (iA r (ef (l.take l.length))).2.2]) (fun x=>tt (iA r (ef (l.take l.length))).1 x):=fun w' hk=>NJ (h.keeps hk) zO (rm.keeps hk) (Xi.keeps hk) QJ
  generalize iA r (ef (l.take l.length))=R at uV qR ⊢
  obtain ⟨R,at_,e_⟩:=R
  dsimp only at uV qR ⊢
  with_reducible refine wL 10 [7,8] (by kernel_rfl) (List.forall_mem_cons.2 ⟨tD rfl (by kernel_rfl) (by kernel_rfl),List.forall_mem_cons.2 ⟨tD rfl (by kernel_rfl) (by kernel_rfl),fun _ h=>absurd h List.not_mem_nil⟩⟩) ?_
  (refine aD (fun β=>(cA (.of rfl) bN an (by rfl))) dx rfl ?_;refine aD (fun β=>(aR (.of rfl))) dx rfl ?_;refine aD (fun β=>(aR (.of rfl))) dx rfl ?_;refine aD (fun β=>(gP (.of rfl) (.of rfl) (by omega) (by omega))) dx rfl ?_)
  dsimp only [Nat.zero_add,Nat.reduceAdd]
  with_reducible apply gI (ι:=Value×Value×Value×Value) (Φ:=fun _=>True) (val:=fun x=>.tuple #[.agg #[.int .i64 R.lv,.int .i64 R.ma,x.1,x.2.1,x.2.2.1,x.2.2.2],.int .i64 at_,.int .i64 e_]) (own:=fun x=>[J1 R x.1,J2 R x.2.1,J3 R x.2.2.1,J4 R x.2.2.2]) (g:=g4) (B:=[]) (args:=fun _=>[.agg #[.int .i64 r.lv,.int .i64 r.ma,s,d,t,p],Go.sliced a 0 ((l.length:Nat):Int).toNat cp 2])
  case hg=>exact Bn
  case hB=>rfl
  case hr=>exact fun β=>bh (.of rfl) (.cons (.of rfl) (.cons (.of rfl) .nil)) inferInstance rfl
  case hd=>rfl
  case hc=>exact fun β w' hb=>qR w' hb.mem.keeps
  dsimp only [Nat.reduceAdd]
  with_reducible apply aD
  case hr=>(intro β;exact aR (.of rfl))
  case hi=>exact fun β β' h=>by simp only [h 4 (by kernel_rfl)]
  case hd=>rfl
  dsimp only [Nat.reduceAdd]
  with_reducible apply aD
  case hr=>(intro β;exact fY (.of rfl) rfl)
  case hi=>exact fun β β' h=>by simp only [h 4 (by kernel_rfl)]
  case hd=>rfl
  dsimp only [Nat.reduceAdd]
  (refine aD (fun β=>(fY (.of rfl) rfl)) dx rfl ?_;refine aD (fun β=>(fY (.of rfl) rfl)) dx rfl ?_)
  refine mW (fun β=>(uz rfl)) (fun _ _ _=>rfl) rfl ?_
  refine gE fun β=>?_
  dsimp only [fq,Za,Zb,List.append_eq,Nat.reduceAdd]
  generalize fP (β 9)=Q7
  generalize g4 (β 4)=y
  obtain ⟨s1,d1,t1,p1⟩:=y
  clear β
  dsimp only
  refine dG (r:=R) (s:=s1) (d:=d1) (t:=t1) (p:=p1) (by unfold tt PB;exact .cons .here (.cons .here (.cons .here (.cons .here .nil)))) fun m1 m2 m3 m4=>?_
  refine cO (rs:=[10]) (by kernel_rfl) (by simp) (List.forall_mem_cons.2 ⟨?_,fun _ h=>absurd h List.not_mem_nil⟩)
  refine cW rfl ?_
  (refine aq (.of rfl) (.of rfl) eR rfl rfl (iu rfl rfl m1 m2 m3 m4) (bC rfl) an ?_;refine Jn ?_)
  refine cO (rs:=[11]) (by kernel_rfl) (by simp) (List.forall_mem_cons.2 ⟨?_,fun _ h=>absurd h List.not_mem_nil⟩)
  refine cW rfl ?_
  refine Ja rfl<|Jn ?_
  refine cO (rs:=[12]) (by kernel_rfl) (by simp) (List.forall_mem_cons.2 ⟨?_,fun _ h=>absurd h List.not_mem_nil⟩)
  refine cW rfl ?_
  refine Ja rfl<|Jn ?_
  with_reducible refine dj (by kernel_rfl) ?_
  clear qR
  by_cases zN:e_=0
  ·obtain ⟨q,Xd,TJ⟩:=uV zN
   clear uV
   rw [if_neg (not_not_intro zN)]
   subst TJ
   subst zN
   have S8:=(DZ zO).wp Xd
   have Bb:=S8.lim
   have sW:=S8.len
   (refine Jt<|Jq<|Jr<|Jv rfl<|JD rfl<|Jn<|Jc rfl fun ar=>Jk<|Jr<|ab (cz .here) rfl ?_;refine Jv rfl ?_)
   have Wh:(cy (r.wp q) o).length=(r.wp q).lv.toNat:=by unfold cy;simp
   rw [Wh]
   generalize r.wp q=R at *
   refine JN aZ rfl (fun w1 aS=>u5 (r:=R) o ⟨cZ aS (by exact Take.there .here) rfl,c5 aS bN rfl,cY aS cX rfl,cR aS eR rfl⟩ (by omega) (by omega)) ?_
   intro hv _
   dsimp only [id_eq,Zb,Za]
   refine aY (E:=9) (sz:=1) (v:=hv) (by exact .here) fun va vc e=>?_
   subst e
   refine Ja rfl<|Ja rfl<|Jn<|Je ?_
   first | with_reducible apply aM | with_reducible apply aN
   case he=>exact fF rfl rfl rfl
   case hR=>
    intro w' au
    exact aB (.slice va R.lv.toNat vc) trivial (by exact .cons .here .nil) au rfl
  ·clear uV
   rw [if_pos zN]
   refine Jt<|Jq<|Jr<|Jv rfl<|JD rfl<|Jn<|Jd rfl fun ar=>Jr<|Jv rfl<|Ja rfl<|Ja rfl<|Jn<|Ju ?_
   refine aP 9 1 ?_
   first | with_reducible apply aM | with_reducible apply aN
   case he=>exact fF rfl rfl rfl
   case hR=>
    intro w' au
    exact aB (.slice none 0 0) trivial (by exact .cons .here .nil) au rfl
end Go.Proofs.A1
namespace Go.Proofs
open Go.Shelf
def Tryz.sC:Go.Shelf.Ren:=⟨fun | 156=>278 | 165=>326 | 166=>327 | 169=>328 | 240=>357 | 241=>358 | 276=>379 | 277=>380 | n=>n,fun | 31=>32 | 9=>9 | 3=>3 | 4=>4 | 0=>0 | 20=>20 | 72=>397 | 76=>401 | 70=>395 | 37=>351 | 75=>400 | 127=>421 | 164=>437 | 5=>5 | 80=>197 | n=>n,fun | n=>n⟩
theorem Tryz.D9:Go.Proofs.Lays.n156 Tryz.prog Tryz.sC:={
 mixed:=by kernel_rfl
 f156:=Tryz.func278.trans (congrArg some (by kernel_rfl))
 f165:=Tryz.func326.trans (congrArg some (by kernel_rfl))
 f166:=Tryz.func327.trans (congrArg some (by kernel_rfl))
 f169:=Tryz.func328.trans (congrArg some (by kernel_rfl))
 f240:=Tryz.func357.trans (congrArg some (by kernel_rfl))
 f241:=Tryz.func358.trans (congrArg some (by kernel_rfl))
 f276:=Tryz.func379.trans (congrArg some (by kernel_rfl))
 f277:=Tryz.func380.trans (congrArg some (by kernel_rfl))
 t0:=Tryz.underlying0
 a0:=Tryz.isAgg0
 z0:=Tryz.sizeOf0
 v0:=Tryz.zeroValue0
 t3:=Tryz.underlying3
 a3:=Tryz.isAgg3
 z3:=Tryz.sizeOf3
 v3:=Tryz.zeroValue3
 t4:=Tryz.underlying4
 a4:=Tryz.isAgg4
 z4:=Tryz.sizeOf4
 v4:=Tryz.zeroValue4
 t9:=Tryz.underlying9
 a9:=Tryz.isAgg9
 z9:=Tryz.sizeOf9
 v9:=Tryz.zeroValue9
 t20:=Tryz.underlying20
 a20:=Tryz.isAgg20
 z20:=Tryz.sizeOf20
 v20:=Tryz.zeroValue20
 t31:=Tryz.underlying32
 a31:=Tryz.isAgg32
 z31:=Tryz.sizeOf32
 v31:=Tryz.zeroValue32
 t37:=Tryz.underlying351
 a37:=Tryz.isAgg351
 z37:=Tryz.sizeOf351
 v37:=Tryz.zeroValue351
 t70:=Tryz.underlying395
 a70:=Tryz.isAgg395
 z70:=Tryz.sizeOf395
 v70:=Tryz.zeroValue395
 t72:=Tryz.underlying397
 a72:=Tryz.isAgg397
 z72:=Tryz.sizeOf397
 v72:=Tryz.zeroValue397
 t75:=Tryz.underlying400
 a75:=Tryz.isAgg400
 z75:=Tryz.sizeOf400
 v75:=Tryz.zeroValue400
 t76:=Tryz.underlying401
 a76:=Tryz.isAgg401
 z76:=Tryz.sizeOf401
 v76:=Tryz.zeroValue401
 t127:=Tryz.underlying421
 a127:=Tryz.isAgg421
 z127:=Tryz.sizeOf421
 v127:=Tryz.zeroValue421
 t164:=Tryz.underlying437
 a164:=Tryz.isAgg437
 z164:=Tryz.sizeOf437
 v164:=Tryz.zeroValue437 }
theorem Tryz.lH:Builder.Extra Tryz.prog Tryz.sC:={
 sizeBuilder:=by kernel_rfl
 liesBuilder:=by kernel_rfl
 t5:=Tryz.underlying5
 a5:=Tryz.isAgg5
 z5:=Tryz.sizeOf5
 v5:=Tryz.zeroValue5
 infoByte:=by kernel_rfl
 cellsByte:=by kernel_rfl
 sizeByte:=by kernel_rfl
 neB5:=by decide }
open Go.RowKit in
theorem Tryz.strings_Join_none (a:Option Addr) (c:Nat) (sep:ByteArray) (w:World) :
  Calls Tryz.prog 278 #[.slice a 0 c,.string sep] w fun e w'=>e=.returned (.string ⟨#[]⟩)∧w'=w:=Any.strings_Join_none Tryz.D9 Tryz.lH a c sep w
open Go.RowKit in
theorem Tryz.strings_Join (bk o c:Nat) (xs:List ByteArray) (sep:ByteArray) (w:World) (Qy:∀ (j:Nat) x,xs[j]? = some x→w.cell? ⟨bk,o+j,none⟩=some (.string x)) (hbk:bk<w.heap.size) (hN:xs.length≤140737488355328) (db:xs.length≤c) (hlen:(Lib.join (xs.map (·.data.toList)) sep.data.toList).length≤140737488355328) :
  Calls Tryz.prog 278 #[.slice (some ⟨bk,o,none⟩) xs.length c,.string sep] w fun e w'=>e=.returned (.string ⟨(Lib.join (xs.map (·.data.toList)) sep.data.toList).toArray⟩)∧Below w.heap.size w w':=Any.strings_Join Tryz.D9 Tryz.lH bk o c xs sep w Qy hbk hN db hlen
def Tryz.A0:Go.Shelf.Ren:=⟨fun | 243=>279 | 246=>329 | 283=>359 | 284=>360 | 285=>361 | 286=>362 | 129=>313 | 317=>381 | 318=>382 | 319=>383 | 320=>384 | 337=>393 | 338=>394 | n=>n,fun | 3=>3 | 9=>9 | 2=>2 | 4=>4 | 171=>422 | 0=>0 | 53=>383 | 37=>351 | 5=>5 | 173=>424 | 212=>441 | 51=>381 | 20=>20 | 213=>442 | 46=>318 | 232=>449 | 233=>450 | n=>n,fun | 17=>1 | 18=>3 | 19=>4 | n=>n⟩
theorem Tryz.L9:Go.Proofs.Lays.n243 Tryz.prog Tryz.A0:={
 mixed:=by kernel_rfl
 f129:=Tryz.func313.trans (congrArg some (by kernel_rfl))
 f243:=Tryz.func279.trans (congrArg some (by kernel_rfl))
 f246:=Tryz.func329.trans (congrArg some (by kernel_rfl))
 f283:=Tryz.func359.trans (congrArg some (by kernel_rfl))
 f284:=Tryz.func360.trans (congrArg some (by kernel_rfl))
 f285:=Tryz.func361.trans (congrArg some (by kernel_rfl))
 f286:=Tryz.func362.trans (congrArg some (by kernel_rfl))
 f317:=Tryz.func381.trans (congrArg some (by kernel_rfl))
 f318:=Tryz.func382.trans (congrArg some (by kernel_rfl))
 f319:=Tryz.func383.trans (congrArg some (by kernel_rfl))
 f320:=Tryz.func384.trans (congrArg some (by kernel_rfl))
 f337:=Tryz.func393.trans (congrArg some (by kernel_rfl))
 f338:=Tryz.func394.trans (congrArg some (by kernel_rfl))
 t0:=Tryz.underlying0
 a0:=Tryz.isAgg0
 z0:=Tryz.sizeOf0
 v0:=Tryz.zeroValue0
 t2:=Tryz.underlying2
 a2:=Tryz.isAgg2
 z2:=Tryz.sizeOf2
 v2:=Tryz.zeroValue2
 t3:=Tryz.underlying3
 a3:=Tryz.isAgg3
 z3:=Tryz.sizeOf3
 v3:=Tryz.zeroValue3
 t4:=Tryz.underlying4
 a4:=Tryz.isAgg4
 z4:=Tryz.sizeOf4
 v4:=Tryz.zeroValue4
 t5:=Tryz.underlying5
 a5:=Tryz.isAgg5
 z5:=Tryz.sizeOf5
 v5:=Tryz.zeroValue5
 t9:=Tryz.underlying9
 a9:=Tryz.isAgg9
 z9:=Tryz.sizeOf9
 v9:=Tryz.zeroValue9
 t20:=Tryz.underlying20
 a20:=Tryz.isAgg20
 z20:=Tryz.sizeOf20
 v20:=Tryz.zeroValue20
 t37:=Tryz.underlying351
 a37:=Tryz.isAgg351
 z37:=Tryz.sizeOf351
 v37:=Tryz.zeroValue351
 t46:=Tryz.underlying318
 a46:=Tryz.isAgg318
 z46:=Tryz.sizeOf318
 v46:=Tryz.zeroValue318
 t51:=Tryz.underlying381
 a51:=Tryz.isAgg381
 z51:=Tryz.sizeOf381
 v51:=Tryz.zeroValue381
 t53:=Tryz.underlying383
 a53:=Tryz.isAgg383
 z53:=Tryz.sizeOf383
 v53:=Tryz.zeroValue383
 t171:=Tryz.underlying422
 a171:=Tryz.isAgg422
 z171:=Tryz.sizeOf422
 v171:=Tryz.zeroValue422
 t173:=Tryz.underlying424
 a173:=Tryz.isAgg424
 z173:=Tryz.sizeOf424
 v173:=Tryz.zeroValue424
 t212:=Tryz.underlying441
 a212:=Tryz.isAgg441
 z212:=Tryz.sizeOf441
 v212:=Tryz.zeroValue441
 t213:=Tryz.underlying442
 a213:=Tryz.isAgg442
 z213:=Tryz.sizeOf442
 t232:=Tryz.underlying449
 a232:=Tryz.isAgg449
 z232:=Tryz.sizeOf449
 v232:=Tryz.zeroValue449
 t233:=Tryz.underlying450
 a233:=Tryz.isAgg450
 z233:=Tryz.sizeOf450
 v233:=Tryz.zeroValue450
 g17:=by kernel_rfl
 g18:=by kernel_rfl
 g19:=by kernel_rfl }
open Go.RowKit Go.Sort Go.Lib in
theorem Tryz.internal_strconv_Itoa_small (i:Nat) (hi:i<100) (w:World) :
  Calls Tryz.prog 279 #[.int .i64 i] w fun e w'=>e=.returned (.string ⟨(Lib.decDigits i).toArray⟩)∧w'=w:=Any.internal_strconv_Itoa_small Tryz.L9 i hi w
end Go.Proofs
namespace Go
def Result.up {α:Type} (w:World):Result α→Prop
  | .ok _ w'=>w.drawn≤w'.drawn
  | .halt _ w'=>w.drawn≤w'.drawn
theorem Result.du {α:Type} {w w':World} (h:w.drawn≤w'.drawn) {r:Result α} (k:r.up w'):r.up w:=by
  cases r <;> exact Nat.le_trans h k
theorem Ra {α:Type} (a:Ask α):∀ w:World,w.drawn≤(w.ask a).2.drawn:=by
  induction a with
  | done a=>intro w;exact Nat.le_refl _
  | ask OU range k ih =>
    intro w
    unfold World.ask
    dsimp only
    split
    · exact ih _ w
    · exact Nat.le_trans (Nat.le_succ _) (ih _ { w with drawn:=w.drawn+1 })
theorem O6 (w:World) (c:Sys):w.drawn≤(w.sys c).2.drawn:=by
  unfold World.sys
  have h:=Ra (Kernel.perform c w.os) w
  generalize w.ask (Kernel.perform c w.os)=r at h
  obtain ⟨⟨x,os⟩,w'⟩:=r
  cases x <;> first | exact Nat.le_refl _ | exact h
theorem yf {p:Program} {w:World} {at_:Addr} {u:TypeId} {k:Addr} {v:Value} {atomic:Bool} {r:World×List Addr}
    (h:w.viewStore p at_ u k v atomic=.ok r):r.1.drawn=w.drawn:=by
  unfold World.viewStore at h
  simp only [bind,Except.bind,pure,Except.pure,throw,throwThe,MonadExceptOf.throw] at h
  repeat' split at h
  all_goals first | (cases h;rfl) | (injection h with h;rw [← h]) | nomatch h
theorem Br {p:Program} {w:World} {a:Addr} {v:Value} {atomic:Bool} {r:World×List Addr}
    (h:w.farStore p a v atomic=.ok r):r.1.drawn=w.drawn:=by
  unfold World.farStore at h
  split at h
  · split at h
    · next e=>injection h with h;rw [← h];exact yf e
    · nomatch h
  · nomatch h
theorem FJ (w:World) (a:Addr) (n:Nat):(w.freeze a n).drawn=w.drawn:=by
  unfold World.freeze;split <;> rfl
theorem yw {α:Type} (p:Program) (s:Sem α):∀ w:World,(s.run p w).up w:=by
  induction s with
  | pure a=>intro w;exact Nat.le_refl _
  | load m a k ih =>
    intro w;unfold Sem.run
    split
    · exact ih _ w
    · split
      · exact ih _ w
      · exact Nat.le_refl _
  | store m a v k ih =>
    intro w
    cases v <;> first
      | exact Nat.le_refl _
      | (simp only [Sem.run]
         split
         · split
           · exact Nat.le_refl _
           · exact ih (w.setCell _ _)
         · split
           · next hf=>exact Result.du (Nat.le_of_eq (Br hf).symm) (ih _)
           · exact Nat.le_refl _)
  | new o k ih=>intro w;exact ih _ _
  | shape r k ih=>intro w;exact ih _ w
  | freeze a n k ih=>intro w;exact Result.du (Nat.le_of_eq (FJ w a n).symm) (ih (w.freeze a n))
  | frozen a k ih=>intro w;exact ih _ w
  | getObj r k ih =>
    intro w;unfold Sem.run
    split
    · exact Nat.le_refl _
    · exact ih _ w
    · exact Nat.le_refl _
  | setObj r o k ih =>
    intro w;unfold Sem.run
    split
    · exact Nat.le_refl _
    · exact ih _
    · exact Nat.le_refl _
  | choose q k ih =>
    intro w;unfold Sem.run
    split
    · exact ih _ w
    · exact Result.du (Nat.le_succ w.drawn) (ih _ { w with drawn:=w.drawn+1 })
  | sys c k ih=>intro w;exact Result.du (O6 w c) (ih _ _)
  | program k ih=>intro w;exact ih _ w
  | mark m k ih=>intro w;exact ih w
  | halt h=>intro w;exact Nat.le_refl _
theorem qy {α:Type} (p:Program) (s:Sem α) (w:World) (es:Array Event):(s.runT p w es).1.up w:=by
  rw [Sem.runT_fst];exact yw p s w
theorem gG {α:Type} {p:Program} {s:Sem α} {w w':World} {a:α} (h:s.run p w=.ok a w'):w.drawn≤w'.drawn:=by
  have k:=yw p s w
  rw [h] at k;exact k
theorem MF {α:Type} {p:Program} {s:Sem α} {w w':World} {a:Halt} (h:s.run p w=.halt a w'):w.drawn≤w'.drawn:=by
  have k:=yw p s w
  rw [h] at k;exact k
theorem PE {α:Type} {p:Program} {s:Sem α} {w w':World} {es MR:Array Event} {a:α} (h:s.runT p w es=(.ok a w',MR)):w.drawn≤w'.drawn:=by
  have k:=qy p s w es
  rw [h] at k;exact k
theorem Iy {α:Type} {p:Program} {s:Sem α} {w w':World} {es MR:Array Event} {a:Halt} (h:s.runT p w es=(.halt a w',MR)):w.drawn≤w'.drawn:=by
  have k:=qy p s w es
  rw [h] at k;exact k
theorem jj {α:Type} {p:Program} {s:Sem α} {w w':World} {es:Array Event} {a:α} (h:(s.runT p w es).1=.ok a w'):w.drawn≤w'.drawn:=by
  have k:=qy p s w es
  rw [h] at k;exact k
theorem kE {α:Type} {p:Program} {s:Sem α} {w w':World} {es:Array Event} {a:Halt} (h:(s.runT p w es).1=.halt a w'):w.drawn≤w'.drawn:=by
  have k:=qy p s w es
  rw [h] at k;exact k
def GStep.up (w:World):GStep→Prop
  | .go _ w' _=>w.drawn≤w'.drawn
  | .comm _ _ _ _ w' _=>w.drawn≤w'.drawn
  | .spawn _ _ w' _=>w.drawn≤w'.drawn
  | .count _ w' _=>w.drawn≤w'.drawn
  | .timer _ _ w' _=>w.drawn≤w'.drawn
  | .alone _ _ w' _=>w.drawn≤w'.drawn
  | .newcoro _ _ _ w' _=>w.drawn≤w'.drawn
  | .coroswitch _ _ _ w' _=>w.drawn≤w'.drawn
  | .collect _ w' _=>w.drawn≤w'.drawn
  | .watch _ w' _=>w.drawn≤w'.drawn
  | .ended _ _ _=>True
theorem GStep.du {w w':World} (h:w.drawn≤w'.drawn) {s:GStep} (k:s.up w'):s.up w:=by
  cases s <;> first | trivial | exact Nat.le_trans h k
theorem GStep.yg {w:World} {c:Prop} [Decidable c] {s t:GStep} (h:s.up w) (k:t.up w):(if c then s else t).up w:=by
  split
  · exact h
  · exact k
theorem GStep.iI {w:World} (es:Array Event) {s:GStep} (k:s.up w):(s.after es).up w:=by
  cases s <;> exact k
theorem oo (fr:Frame) (m:String) (w:World):(endThrow fr m w).up w:=Nat.le_refl _
theorem C5 (w0 w:World) (fd:Nat) (text:ByteArray) (o:Outcome):(endWith w fd text o).up w0:=by
  unfold endWith;dsimp only
  split
  · split <;> trivial
  · trivial
  · trivial
theorem oq (p:Program) (fr:Frame) (v:Value) (w:World):(endPrinting p fr v w).up w:=by
  unfold endPrinting;dsimp only
  split
  · exact oo _ _ _
  · trivial
theorem sL (p:Program) (fr:Frame) (callers:List Frame) (dying:Option Dying) (m:String) (w:World):(endFatal p fr callers dying m w).up w:=by
  unfold endFatal;dsimp only
  split
  · next h=>exact gG h
  · trivial
  · trivial
theorem B6 (p:Program) (fr:Frame) (d:Dying) (f:Fatal) (w:World):(writeOn p fr d f w).up w:=by
  unfold writeOn;dsimp only
  split
  · trivial
  · split
    · next h=>exact PE h
    · next h=>exact Iy h
    · trivial
    · trivial
theorem QT (p:Program) (fr:Frame) (d:Dying) (w:World):(die p fr d w).up w:=by
  unfold die;dsimp only
  split
  · exact B6 _ _ _ _ _
  · split
    · split
      · exact Nat.le_refl _
      · exact C5 _ _ _ _ _
    · split
      · exact Nat.le_refl _
      · split
        · next h=>exact gG h
        · trivial
      · apply GStep.iI
        split
        · next h=>exact jj h
        · next h=>exact jj h
        · trivial
        · next h=>exact GStep.du (kE h) (oq _ _ _ _)
        · trivial
      · trivial
theorem jU (p:Program) (main:Bool) (fr:Frame) (callers:List Frame) (dying:Option Dying) (v:Value) (w:World) :
    (doReturn p main fr callers dying v w).up w:=by
  unfold doReturn;dsimp only
  repeat' split
  all_goals first | trivial | exact Nat.le_refl _
theorem tg (p:Program) (fr:Frame) (callers:List Frame) (dying:Option Dying) (d:Deferred) (w:World) :
    (callDeferred p fr callers dying d w).up w:=by
  unfold callDeferred;dsimp only
  apply GStep.yg
  · trivial
  · apply GStep.iI
    repeat' split
    all_goals first
      | trivial
      | exact jj (by assumption)
      | exact kE (by assumption)
      | exact GStep.du (kE (by assumption)) (sL _ _ _ _ _ _)
      | exact GStep.du (kE (by assumption)) (oo _ _ _)
theorem EP (p:Program) (main:Bool) (fr:Frame) (callers:List Frame) (dying:Option Dying) (w:World) :
    (unwind p main fr callers dying w).up w:=by
  unfold unwind;dsimp only
  split
  · apply GStep.iI
    split
    · next h=>exact jj h
    · trivial
  · exact tg _ _ _ _ _ _
  · split
    · trivial
    · split
      · trivial
      · split
        · exact Nat.le_refl _
        · split
          · split
            · exact Nat.le_refl _
            · split
              · next h=>exact gG h
              · trivial
              · trivial
          · split
            · exact oq _ _ _ _
            · trivial
    · split
      · exact jU _ _ _ _ _ _ _
      · apply GStep.iI
        split
        · next h=>exact GStep.du (jj h) (jU _ _ _ _ _ _ _)
        · trivial
        · trivial
theorem IJ (p:Program) (fr:Frame) (callers:List Frame) (dying:Option Dying) (g:Nat) (w:World) :
    (early p fr callers dying g w).up w:=by
  unfold early;dsimp only
  repeat' split
  all_goals first
    | trivial
    | exact Nat.le_refl _
    | (next h _=>have k:=gG h;exact k)
    | (next h _ _=>have k:=gG h;exact k)
    | (next h=>have k:=gG h;exact k)
    | (next h _ _ _=>have k:=gG h;exact k)
    | (next h _ _ _ _=>have k:=gG h;exact k)
theorem rh (p:Program) (listen:Bool) (fr:Frame) (callers:List Frame) (dying:Option Dying) (s:Sem Next) (w:World) :
    (stepG.apply p listen fr callers dying s w).up w:=by
  unfold stepG.apply;dsimp only
  apply GStep.iI
  have hr:∃ r:Result Next×Array Event,(if listen=true then s.runT p w #[] else (s.run p w,#[]))=r∧r.1.up w:=by
    refine ⟨_,rfl,?_⟩
    split
    · exact qy p s w #[]
    · exact yw p s w
  obtain ⟨r,hr,hu⟩:=hr
  rw [hr]
  generalize r.1=r1 at hu ⊢
  repeat' split
  all_goals first
    | trivial
    | exact RX hu (by assumption)
    | exact KU hu (by assumption)
    | exact hu
    | (refine GStep.du ?_ (oo _ _ _);first | exact hu | exact RX hu (by assumption) | exact KU hu (by assumption))
    | (refine GStep.du ?_ (sL _ _ _ _ _ _);exact hu)
    | (refine GStep.du ?_ (IJ _ _ _ _ _ _);exact hu)
theorem DX (p:Program) (listen:Bool) (fr:Frame) (callers:List Frame) (dying:Option Dying) (w:World) :
    (stepG.oper p listen fr callers dying w).up w:=by
  unfold stepG.oper
  repeat' split
  all_goals first | trivial | exact rh _ _ _ _ _ _ _
theorem MP (p:Program) (main listen:Bool) (fr:Frame) (callers:List Frame) (dying:Option Dying) (w:World) :
    (stepG.exec p main listen fr callers dying w).up w:=by
  unfold stepG.exec;dsimp only
  split
  all_goals first
    | trivial
    | exact Nat.le_refl _
    | (split
       · first | exact Nat.le_refl _ | (apply GStep.yg <;> first | exact Nat.le_refl _ | trivial) | trivial
       · apply GStep.iI
         split
         · next h=>exact GStep.du (jj h) (jU _ _ _ _ _ _ _)
         · trivial)
    | (split <;> first | exact Nat.le_refl _ | trivial)
    | (generalize exitTo _ _ = o; cases o with
       | none =>
         split
         · first | exact Nat.le_refl _ | (apply GStep.yg <;> first | exact Nat.le_refl _ | trivial) | trivial
         · apply GStep.iI
           split
           · next h=>exact GStep.du (jj h) (jU _ _ _ _ _ _ _)
           · trivial
       | some k=>exact Nat.le_refl _)
    | (generalize gotoIn _ _ = o; cases o with
       | none =>
         split
         · first | exact Nat.le_refl _ | (apply GStep.yg <;> first | exact Nat.le_refl _ | trivial) | trivial
         · apply GStep.iI
           split
           · next h=>exact GStep.du (jj h) (jU _ _ _ _ _ _ _)
           · trivial
       | some k=>exact Nat.le_refl _)
    | (apply GStep.iI
       split
       · next h=>first | (have k:=jj h;exact k) | exact GStep.du (jj h) (rh _ _ _ _ _ _ _)
       · first | trivial | (next h=>have k:=kE h;exact k)
       done)
    | (apply GStep.iI
       split
       · next h=>(have k:=jj h;exact k)
       · next h=>(have k:=kE h;exact k)
       · trivial)
    | exact rh _ _ _ _ _ _ _
    | exact DX _ _ _ _ _ _
    | (generalize Extern.next _ = o; cases o with
       | none=>trivial
       | some e=>exact rh _ _ _ _ _ _ _)
    | (split
       · exact Nat.le_refl _
       · split
         · next h=>have k:=gG h;exact k
         · trivial)
    | (split
       · exact DX _ _ _ _ _ _
       · exact Nat.le_refl _)
    | skip
theorem GM (p:Program) (main:Bool) (g:Goroutine) (w:World) (listen:Bool):(stepG p main g w listen).up w:=by
  unfold stepG
  split
  split
  · exact QT _ _ _ _
  · exact MP _ _ _ _ _ _ _
  · exact EP _ _ _ _ _ _
def Stepped.up (w:World):Stepped→Prop
  | .next m=>w.drawn≤m.world.drawn
  | .ended _ _=>True
theorem Stepped.du {w w':World} (h:w.drawn≤w'.drawn) {s:Stepped} (k:s.up w'):s.up w:=by
  cases s <;> first | trivial | exact Nat.le_trans h k
theorem yV (p:Program) (gs:Array Goroutine) (rest:Rest) (w:World):(look p gs rest w).up w:=by
  unfold look;dsimp only
  split
  · split
    · trivial
    · split
      · trivial
      · split
        · next h=>have k:=gG h;exact k
        · trivial
        · trivial
  · trivial
theorem ye {rest:Rest} {cases:Array CommCase} {w w':World} (h:waitingAt rest cases w=some w'):w.drawn≤w'.drawn:=by
  unfold waitingAt at h
  split at h
  · split at h
    · injection h with h;rw [← h];exact Nat.le_refl _
    · nomatch h
  · injection h with h;rw [← h];exact Nat.le_refl _
theorem vl (p:Program) (rest:Rest) (gs:Array Goroutine) (i:Nat) (g:Goroutine) (cases:Array CommCase) (BG:Bool)
    (shape:CommShape) (w:World):(communicate p rest gs i g cases BG shape w).1.up w:=by
  unfold communicate;dsimp only
  split
  · trivial
  · split
    · split
      · split
        · next h=>exact ye h
        · trivial
      · exact Nat.le_refl _
    · split
      · trivial
      · next h=>
        have k:=gG h
        split
        · split
          · next h2=>
            have k2:=MF h2
            exact Nat.le_trans k k2
          · trivial
        · exact k
        · exact k
        · split
          · exact k
          · split
            · next h3=>have k3:=gG h3;exact Nat.le_trans k k3
            · trivial
        · exact k
        · exact k
        · trivial
theorem IK (w:World) (c:Nat):(drain w c).2.drawn=w.drawn:=by
  unfold drain;split <;> rfl
theorem xe (m:Machine) (k:Nat) (t:Timer) (when period:Nat):(retime m k t when period).2.world.drawn=m.world.drawn:=by
  unfold retime;dsimp only
  split
  · exact IK _ _
  · rfl
theorem AW {m:Machine} {var:Addr} {f:Nat→Timer→Value×Machine} {n:Nat} (hf:∀ k t,(f k t).2.world.drawn=n) {r:Value×Machine}
    (h:timerOp.named m var f=.ok r):r.2.world.drawn=n:=by
  unfold timerOp.named at h
  split at h
  · injection h with h;rw [← h];exact hf _ _
  · nomatch h
theorem Fh {m m':Machine} {var:Addr} (h:timerOp.opened m var=some m'):m'.world.drawn=m.world.drawn:=by
  unfold timerOp.opened at h
  split at h
  · split at h
    · injection h with h;rw [← h]
    · nomatch h
  · injection h with h;rw [← h]
theorem Cg {m:Machine} {op:TimerOp} {r:Value×Machine} (h:timerOp m op=.ok r):r.2.world.drawn=m.world.drawn:=by
  unfold timerOp at h
  split at h
  · split at h
    · injection h with h;rw [← h];rfl
    · split at h
      · split at h
        · nomatch h
        · injection h with h;rw [← h]
      · nomatch h
  · exact AW (fun k t=>xe m k t 0 t.period) h
  · split at h
    · next ho=>exact (AW (fun k t=>xe _ k t _ _) h).trans (Fh ho)
    · nomatch h
  · injection h with h;rw [← h];rfl
theorem G0 (p:Program) (m:Machine) (k:Nat):(serve p m k).up m.world:=by
  unfold serve;dsimp only
  split
  · trivial
  · exact Nat.le_refl _
  · split
    · trivial
    · exact Nat.le_refl _
def Move.up (w:World):Move→Prop
  | .goroutine m _=>w.drawn≤m.world.drawn
  | .machine s _=>s.up w
theorem vt (p:Program) (m:Machine):(askOn p m).up m.world:=by
  unfold askOn;dsimp only
  split
  · trivial
  · next h=>
    have k:=gG h
    split
    · exact Stepped.du k (G0 _ _ _)
    · split
      · split
        · exact k
        · split
          · exact k
          · split
            · trivial
            · trivial
      · split
        · split
          · trivial
          · next h0=>
            have k0:=gG h0
            split
            · exact Nat.le_trans k k0
            · split
              · trivial
              · next h3=>have k3:=gG h3;exact Nat.le_trans k (Nat.le_trans k0 k3)
        · split
          · trivial
          · next h2=>
            have k2:=gG h2
            split
            · trivial
            · next h0=>
              have k0:=gG h0
              split
              · exact Nat.le_trans (Nat.le_trans k k2) k0
              · split
                · trivial
                · next h3=>have k3:=gG h3;exact Nat.le_trans (Nat.le_trans k k2) (Nat.le_trans k0 k3)
          · next h2=>have k2:=gG h2;exact Nat.le_trans k k2
          · next h2=>
            have k2:=gG h2
            split
            · trivial
            · next h0=>
              have k0:=gG h0
              split
              · exact Nat.le_trans (Nat.le_trans k k2) k0
              · split
                · trivial
                · next h3=>have k3:=gG h3;exact Nat.le_trans (Nat.le_trans k k2) (Nat.le_trans k0 k3)
theorem Move.du {w w':World} (h:w.drawn≤w'.drawn) {s:Move} (k:s.up w'):s.up w:=by
  cases s with
  | goroutine m i=>exact Nat.le_trans h k
  | machine s ops=>exact Stepped.du h k
theorem EI (p:Program) (m:Machine):(Go.ask p m).up m.world:=by
  unfold Go.ask
  split
  · split
    · trivial
    · next h=>
      have k:=gG h
      split
      · next hl=>
        have k2:=yV p m.gs m.rest ‹World›
        rw [hl] at k2
        exact Move.du (Nat.le_trans k k2) (vt _ _)
      · exact Stepped.du k (yV _ _ _ _)
    · next h=>have k:=gG h;exact Move.du k (vt _ _)
  · exact vt _ _
theorem LW (p:Program) (m:Machine):(move p m).up m.world:=by
  unfold move
  split
  · split
    · exact Nat.le_refl _
    · trivial
  · split
    · split
      · exact Nat.le_refl _
      · exact EI p { m with rest:=_ }
    · exact EI p m
theorem yx (p:Program) (m:Machine) (i:Nat) (listen:Bool):(Go.runT p m i listen).1.up m.world:=by
  unfold Go.runT;dsimp only
  have h:=GM p (i==0) (m.gs.swapAt! i { (default:Goroutine) with status:=.finished }).1 m.world listen
  generalize stepG p (i==0) (m.gs.swapAt! i { (default:Goroutine) with status:=.finished }).1 m.world listen=s at h ⊢
  cases s with
  | ended o w es=>trivial
  | comm g cases BG shape w es=>exact Stepped.du h (vl _ _ _ _ _ _ _ _ _)
  | go g w es=>exact h
  | spawn g child w es=>exact h
  | count g w es =>
    dsimp only
    split
    · trivial
    · exact h
  | alone g on w es=>exact h
  | collect g w es=>exact Stepped.du h (yV _ _ _ _)
  | watch g w es=>exact h
  | newcoro g c d w es=>exact h
  | coroswitch g c exit w es =>
    dsimp only
    split
    · exact h
    · exact h
    · trivial
  | timer g op w es =>
    dsimp only
    split
    · next ht=>have k:=Cg ht;exact Nat.le_trans h (Nat.le_of_eq k.symm)
    · exact h
    · trivial
    · trivial
theorem Le (p:Program) (m:Machine):(step p m).up m.world:=by
  unfold step stepT
  have h:=LW p m
  generalize move p m=v at h ⊢
  cases v with
  | goroutine m' i=>exact Stepped.du h (yx p m' i true)
  | machine s ops=>exact h
theorem Lp (p:Program) (n:Nat):∀ m:Machine,(runN p n m).up m.world:=by
  induction n with
  | zero=>intro m;exact Nat.le_refl _
  | succ n ih =>
    intro m
    have h:=Le p m
    unfold runN
    generalize step p m=s at h ⊢
    cases s with
    | next m'=>exact Stepped.du h (ih m')
    | ended o w=>trivial
theorem Steps.up {P:Program} {m m':Machine} (h:Steps P m m'):m.world.drawn≤m'.world.drawn:=by
  obtain ⟨n,hn⟩:=h
  have k:=Lp P n m
  rw [hn] at k;exact k
theorem Calls.up {P:Program} {f:FuncId} {args:Array Value} {w:World} {v:Value} {R:World→Prop}
    (h:Calls P f args w fun e w'=>e=.returned v∧R w'):Calls P f args w fun e w'=>e=.returned v∧R w'∧w.drawn≤w'.drawn:=by
  intro cs
  obtain ⟨e,w',fr,⟨rfl,hR⟩,hc,hf,hl⟩:=h cs
  exact ⟨_,w',fr,⟨rfl,hR,Steps.up hc⟩,hc,hf,hl⟩
end Go
