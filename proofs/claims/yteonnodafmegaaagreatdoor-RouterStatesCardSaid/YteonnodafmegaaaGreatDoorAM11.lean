/- Parts of the proof: LD LE LF LG GkRegP LH TryzShelf GkDraws. -/
import Derived.Test.YteonnodafmegaaaGreatDoorAM10
import Derived.Test.YteonnodafmegaaaGreatDoorAM04
import Derived.Test.YteonnodafmegaaaGreatDoorAM06
import Derived.Shelf.Strings.OnBuilder
import Derived.Shelf.Strconv.Itoa3
import Derived.Ground.NamesProg
import Derived.Ground.Names2Prog
import Derived.Test.YteonnodafmegaaaGreatDoorProg
import Derived.Calls
import Derived.RunT
set_option linter.unusedSectionVars false
set_option linter.unusedVariables false
set_option linter.unusedSimpArgs false
namespace Go.Proofs.A1
open Go Go.SL
theorem o8 (cs:List Value) (o:Nat) (v:Value) (h:o<cs.length):setCells cs o [v]=cs.set o v:=by
 simp [setCells]
theorem DQ (L:List ByteArray) (cur:List Value) {k:Nat} (h:k<L.length) (v:ByteArray):setCells (aM L++cur) (k*1) [.string v]=aM (L.set k v)++cur:=by
 rw [Nat.mul_one,o8 _ _ _ (by rw [List.length_append,cS];omega),List.set_append_left _ _ (by rw [cS];exact h)]
 unfold aM
 rw [List.map_set]
theorem ql (L:List ByteArray) (cur:List Value) {k:Nat} (h:k<L.length):(aM L++cur)[k*1]? = some (.string L[k]):=by
 rw [Nat.mul_one,List.getElem?_append_left (by rw [cS];exact h)]
 unfold aM
 rw [List.getElem?_map,List.getElem?_eq_getElem h];rfl
def Ag (r:Ro) (t:Tk) (k:Nat):ByteArray:=if t.at k=⟨#[]⟩ then ⟨#[]⟩ else if kQ r (k:Nat) t.de=⟨#[]⟩ then dash else kQ r (k:Nat) t.de
def jZ (r:Ro) (t:Tk) (k:Nat):List ByteArray:=(List.range r.lv.toNat).map fun i=>if i<k then Ag r t i else kQ r (i:Nat) t.de
theorem ku (r:Ro) (t:Tk) (k:Nat):(jZ r t k).length=r.lv.toNat:=by unfold jZ;simp
theorem ER (r:Ro) (t:Tk):jZ r t 0=cu r t.de:=by unfold jZ cu;simp
theorem Gf (r:Ro) (t:Tk):jZ r t r.lv.toNat=(vI r t).so:=by
 unfold jZ vI
 refine List.map_congr_left fun i hi=>?_
 rw [if_pos (List.mem_range.1 hi)];rfl
theorem yk {r:Ro} {t:Tk} {k i:Nat} (h:i<r.lv.toNat):(jZ r t k)[i]? = some (if i<k then Ag r t i else kQ r (i:Nat) t.de):=by
 unfold jZ
 rw [List.getElem?_map,List.getElem?_range h];rfl
theorem Ge {r:Ro} {t:Tk} {k:Nat} (h:k<(jZ r t k).length):(jZ r t k)[k]=kQ r (k:Nat) t.de:=by
 have h1:=List.getElem?_eq_getElem h
 rw [yk (by rw [ku] at h;exact h),if_neg (Nat.lt_irrefl _)] at h1
 exact (Option.some.inj h1).symm
theorem Gd {r:Ro} {t:Tk} {k:Nat} (h:k<r.lv.toNat):(jZ r t k).set k (Ag r t k)=jZ r t (k+1):=by
 apply List.ext_getElem?
 intro i
 rw [List.getElem?_set]
 by_cases hi:i<r.lv.toNat
 ·rw [yk hi,yk hi,ku]
  by_cases e:k=i
  ·subst e
   rw [if_pos rfl,if_pos hi,if_pos (Nat.lt_succ_self _)]
  ·rw [if_neg e]
   by_cases e2:i<k
   ·rw [if_pos e2,if_pos (by omega)]
   ·rw [if_neg e2,if_neg (by omega)]
 ·have e1:(jZ r t k)[i]? = none:=List.getElem?_eq_none (by rw [ku];omega)
  have e2:(jZ r t (k+1))[i]? = none:=List.getElem?_eq_none (by rw [ku];omega)
  rw [if_neg (by omega),e1,e2]
theorem ES {r:Ro} {t:Tk} {k:Nat} (h:Ag r t k=kQ r (k:Nat) t.de):jZ r t (k+1)=jZ r t k:=by
 unfold jZ
 refine List.map_congr_left fun i _=>?_
 by_cases e:i=k
 ·subst e
  rw [if_pos (Nat.lt_succ_self _),if_neg (Nat.lt_irrefl _),h]
 ·by_cases e2:i<k
  ·rw [if_pos e2,if_pos (by omega)]
  ·rw [if_neg e2,if_neg (by omega)]
set_option maxHeartbeats 1000000 in
theorem Om {r:Ro} {s d t p:Value} {x:fZ} {b:Nat} {w:World} (h:RR w r s d t p) (hA:BR w b (RC r s d t p)) (zi:1≤r.lv∧r.lv≤1000) (cJ:r.ti.length≤1000000) (hx:Rd w x.v 1 (fg x.tk.so)) (Nh:(x.tk.so.length:Int)=r.lv) :
  bd Tryz.prog 167 [.agg x.cells.toArray,.pointer (some ⟨b,0,none⟩)] w [] (fun _:Value=>True) (fun v=>.agg #[.string x.tk.de,v]) (fun v=>[row 9 1 v r.lv.toNat (aM (vI r x.tk).so)]):=by
 have h1:=Rd.one h.sr
 have h2:=Rd.one h.de
 have h3:=Rd.one h.ti
 have h4:=Rd.one h.po
 have jI:∀ (j:Nat) (u:Value),[Value.int .i64 r.lv,.int .i64 r.ma,s,d,t,p][j]? = some u→w.cell? ⟨b,0+j,none⟩=some u:=hA
 clear hA
 unfold fZ.cells
 obtain ⟨tk,tv⟩:=x
 dsimp only at *
 obtain ⟨sa,M3,sb,Q6,rfl,Nj,Bi,R5,R3⟩:=hx
 rw [bV] at *
 unfold maxLen at Bi
 refine aR Tryz.func167 rfl rfl ?_
 (refine Jr<|Jy rfl rfl fun _ _=>Jz rfl rfl fun _ _=>Ji<|ab (iz (eG.base jI rfl)) rfl ?_;refine bF rfl rfl ae ?_;refine JL rfl (.there .here) rfl ?_)
 rename_i b2 abM b3 abK
 refine JN aZ rfl (fun w1 aJ=>uS tk.de (h.keeps aJ.keeps) zi.2 cJ) ?_
 intro v _
 dsimp only [id_eq,List.cons_append,List.nil_append]
 have pK:=ku r tk
 rw [← ER]
 refine db (E:=9) (sz:=1) (v:=v) (by exact .here) (by omega) fun gb cap cur e sy sQ rG vC=>?_
 subst e
 (refine Ja rfl<|Jn<|Jq<|Jr<|bF rfl rfl ae ?_;refine JL rfl bI rfl<|JI rfl<|Jv rfl<|Jn<|J0 ?_)
 refine aX (ι:=Nat×List ByteArray) (fun y=>y.1≤tk.so.length∧y.2=jZ r tk y.1) (fun y=>[(14,.int .i64 (y.1:Nat)),(13,.int .i64 (tk.so.length:Nat)),(12,.slice sa tk.so.length M3),(4,.slice (some ⟨gb,0,none⟩) r.lv.toNat cap),(3,.pointer (some ⟨b3,0,none⟩)),(2,.pointer (some ⟨b2,0,none⟩))])
  (fun y=>[bD gb (.cells (aM y.2++cur).toArray 9 (0,0)),bD b3 (.cells #[.string ⟨#[]⟩,.slice none 0 0] 78 (0,0)),bD b2 (.cells #[.string tk.de,.slice sa tk.so.length M3] 78 (0,0))]) (fun y=>tk.so.length-y.1) ?_ ?_
 ·apply aK (0,jZ r tk 0) ⟨Nat.zero_le _,rfl⟩
  case hs1=>exact cn
  case ht=>exact sK
 rintro ⟨k,L⟩ ⟨hk,hL⟩
 dsimp only at hk hL ⊢
 have FE:L.length=r.lv.toNat:=by rw [hL,ku]
 have ix:(aM L++cur).length=cap*1:=by
  rw [List.length_append,cS] at rG ⊢
  rw [ku] at rG
  omega
 by_cases aN:k<tk.so.length
 ·have HV:=R5 (mw aN)
  have HT:w.cell? ⟨sb,Q6+k*1,none⟩=some (.string tk.so[k]):=(R3 k _ (jz aN)).2 0 _ rfl
  have L6:k<L.length:=by omega
  have jd:L[k]=kQ r (k:Nat) tk.de:=by subst hL;exact Ge L6
  have c1:=ql L cur L6
  rw [jd] at c1
  have p1:=DQ L cur L6 ⟨#[]⟩
  have p2:=DQ L cur L6 ⟨#[45]⟩
  have hle:k*1+1≤(aM L++cur).length:=by omega
  have T2:k<r.lv.toNat:=by omega
  have jk:tk.at k=tk.so[k]:=by unfold Tk.at;rw [List.getD_eq_getElem?_getD,List.getElem?_eq_getElem aN];rfl
  have hF:Ag r tk k=if tk.so[k]=⟨#[]⟩ then ⟨#[]⟩ else if kQ r (k:Nat) tk.de=⟨#[]⟩ then dash else kQ r (k:Nat) tk.de:=by unfold Ag;rw [jk]
  have oW:∀ u,Ag r tk k=u→L.set k u=jZ r tk (k+1):=fun u hu=>by rw [← hu,hL];exact Gd T2
  have HU:Ag r tk k=kQ r (k:Nat) tk.de→L=jZ r tk (k+1):=fun hu=>by rw [hL,ES hu]
  generalize kQ r (k:Nat) tk.de=ck at *
  generalize tk.so[k]=sk at *
  (refine Jr<|JA rfl<|Jn<|Jq<|Jd rfl fun aq=>Jk<|Jq<|J0<|Jr<|Jv rfl<|ab (aC (.of rfl) (.of rfl) HV (by omega) aq bo) rfl ?_;refine ab (ai (.of rfl) (At.base HT rfl)) rfl ?_;refine Ja rfl<|Ja rfl<|Ji<|Jv rfl<|ab (ee (.of rfl) (.of rfl)) rfl ?_;refine Jn<|fY rfl (fun aq=>?_) fun aq=>?_;refine Jg<|Jv rfl<|Jv rfl<|ab (aC (.of rfl) (.of rfl) rfl (by omega) (by omega) bo) rfl ?_;refine ao (.of rfl) (.of rfl) .here rfl rfl (dZ rfl) hle p1 ?_;refine Jx<|Jj<|Jt<|Jg<|JB rfl (by omega)<|Jv rfl<|Jn ?_;rotate_left;refine Jr<|Jv rfl<|Jv rfl<|ab (aC (.of rfl) (.of rfl) rfl (by omega) (by omega) bo) rfl ?_;refine ab (ai (.of rfl) (At.mO .here c1)) rfl ?_;refine ab (ee (.of rfl) (.of rfl)) rfl ?_;refine Jn<|fY rfl (fun aq=>?_) fun aq=>?_;refine Jg<|Jv rfl<|Jv rfl<|ab (aC (.of rfl) (.of rfl) rfl (by omega) (by omega) bo) rfl ?_;refine ao (.of rfl) (.of rfl) .here rfl rfl (dZ rfl) hle p2 ?_;refine Jx<|Jj<|Jt<|Jg<|JB rfl (by omega)<|Jv rfl<|Jn ?_;rotate_left;refine Jw<|Jj<|Jt<|Jg<|JB rfl (by omega)<|Jv rfl<|Jn ?_;rotate_right;rotate_right)
  ·rw [if_pos aq] at hF
   rw [oW _ hF]
   apply aL (k+1,jZ r tk (k+1)) ⟨by show k+1≤_;omega,rfl⟩ (by show tk.so.length-(k+1)<tk.so.length-k;omega)
   case hs1=>exact cn
   case ht=>exact sK
  ·rw [if_neg (by assumption),if_pos aq] at hF
   have hq:L.set k ⟨#[45]⟩=jZ r tk (k+1):=oW _ hF
   rw [hq]
   apply aL (k+1,jZ r tk (k+1)) ⟨by show k+1≤_;omega,rfl⟩ (by show tk.so.length-(k+1)<tk.so.length-k;omega)
   case hs1=>exact cn
   case ht=>exact sK
  ·rw [if_neg (by assumption),if_neg aq] at hF
   apply aL (k+1,L) ⟨by show k+1≤_;omega,HU hF⟩ (by show tk.so.length-(k+1)<tk.so.length-k;omega)
   case hs1=>exact cn
   case ht=>exact sK
 ·have e:k=tk.so.length:=by omega
  subst e
  have qR:L=(vI r tk).so:=by rw [hL,← Gf];congr 1;omega
  (refine Jr<|JA rfl<|Jn<|Jq<|Jc rfl fun aq=>Jp<|Jl<|Jo<|Jt<|Jr<|bF rfl rfl ae ?_;refine JL rfl bI rfl<|Jv rfl<|ab (aS (.cons (.of rfl) (.cons (.of rfl) .nil)) ak) rfl ?_;refine ao (.of rfl) (.of rfl) (.there .here) rfl rfl (gn rfl rfl) (bE rfl) ak ?_;refine Jn<|Je ?_)
  subst qR
  have Pk:(aM (vI r tk).so).length=r.lv.toNat*1:=by rw [cS,FE,Nat.mul_one]
  refine c8 (n:=r.lv.toNat) (xs:=aM (vI r tk).so) (cap:=cap) (g:=gb) (E:=9) (sz:=1) (by exact Take.there .here) sy sQ ix Pk ?_
  first | with_reducible apply aO | with_reducible apply aP
  case he=>exact ke rfl inferInstance rfl (.there .here) ak (by rfl)
  case hR=>
   intro w' az
   exact aB (.slice (some ⟨gb,0,none⟩) r.lv.toNat cap) trivial (by exact .cons .here .nil) az rfl
def KC (W:List fZ):ba:=mz 9 (W.map fZ.v) (W.map fun y=>aM y.tk.so)
theorem KB:mz 9 [] []=KC []:=rfl
theorem DK (W:List fZ) (y:fZ):(ji (W++[y])).flatten=(ji W).flatten++[.string y.tk.de,y.v]:=by
 unfold ji;simp [fZ.cells]
theorem O3 {kv:Value} {l:List fZ} {g:Tk→Tk} {n:Nat} {f:FuncId} {first cap:List Value} [bP Tryz.prog f] {w:World} (h:Rd w kv 2 (ji l)) (hM:vF w l) (hn:l.length≤1000) (hg:∀ x∈l,(g x.tk).so.length=n)
  (ch:∀ x∈l,∀ w',aF [] w w'→bd Tryz.prog f (first++[.agg x.cells.toArray]++cap) w' [] (fun _:Value=>True) (fun v=>.agg #[.string (g x.tk).de,v]) (fun v=>[row 9 1 v n (aM (g x.tk).so)])) :
  bd Tryz.prog 166 [kv,.func (.func f) first.toArray cap.toArray] w [] (fun x:Value×List fZ=>dd x.2=(dd l).map g) (fun x=>x.1) (fun x=>[row 78 2 x.1 x.2.length (ji x.2).flatten,KC x.2]):=by
 obtain ⟨a,cp,b,o,rfl,df,bO,ha,hc⟩:=h
 rw [eH] at *
 unfold maxLen at bO
 refine aR Tryz.func166 rfl rfl ?_
 refine Jr<|Ja rfl<|Ji<|Ja rfl<|Jn<|Jq<|Jr<|Jv rfl<|JI rfl<|Jv rfl<|Jn<|J0 ?_
 refine aQ 78 2 ?_
 refine kz 9 ?_
 refine aX (ι:=Nat×Value×List fZ) (fun x=>x.1≤l.length∧dd x.2.2=(dd (l.take x.1)).map g) (fun x=>[(10,.int .i64 (x.1:Nat)),(9,.int .i64 (l.length:Nat)),(8,.slice a l.length cp),(5,x.2.1),(1,.func (.func f) first.toArray cap.toArray)])
  (fun x=>[row 78 2 x.2.1 x.2.2.length (ji x.2.2).flatten,mz 9 (x.2.2.map fZ.v) (x.2.2.map fun y=>aM y.tk.so)]) (fun x=>l.length-x.1) ?_ ?_
 ·apply aK (0,.slice none 0 0,[]) ⟨Nat.zero_le _,rfl⟩
  case hs1=>exact cn
  case ht=>
   exact .cons (.there .here) (.cons .here .nil)
 rintro ⟨k,v,W⟩ ⟨hk,hW⟩
 dsimp only at hk hW ⊢
 have QP:W.length=k:=by
  have:=congrArg List.length hW
  unfold dd at this
  rw [List.length_map,List.length_map,List.length_map,List.length_take] at this
  omega
 by_cases aN:k<l.length
 ·have cM:=ha (mr aN)
  have aD:=(hc k _ (j4 aN)).2
  have ix:=ch _ (List.getElem_mem aN)
  have PN:=hg _ (List.getElem_mem aN)
  have iD:=Rd.one (hM _ (List.getElem_mem aN))
  have htk:(dd (l.take (k+1))).map g=(dd (l.take k)).map g++[g l[k].tk]:=by
   unfold dd
   rw [List.take_succ_eq_append_getElem aN,List.map_append,List.map_append];rfl
  have sx:(ji W).flatten.length=W.length*2:=by rw [fK (Ck W),eH]
  unfold fZ.cells at aD ix
  refine aW (E:=78) (sz:=2) (v:=v) (by exact .here) fun va vc e=>?_
  subst e
  (refine Jr<|JA rfl<|Jn<|Jq<|Jd rfl fun aq=>Jk<|Jq<|J0<|Jr<|ab (fM cM aq) rfl ?_;refine ab (iz (eG.base aD rfl)) rfl ?_;refine Jz rfl rfl fun _ _=>ao (.of rfl) (.of rfl) .here rfl rfl (gn rfl iD) (bE rfl) ak ?_;refine Jn<|Jg<|Jv rfl<|Jv rfl<|ab (cr .here) rfl ?_)
  refine JN bC rfl (fun w1 aJ=>ix w1 aJ.keeps) ?_
  intro hv _
  dsimp only [id_eq,List.cons_append,List.nil_append]
  refine aW (E:=9) (sz:=1) (v:=hv) (by exact .here) fun je jH e=>?_
  subst e
  refine bb (bu (.cons (.of rfl) .nil) rfl rfl bM bM ak) rfl (fun _ _=>?_)
  refine bz (.of rfl) (.of rfl) cY .here ak (by rfl) (gn rfl rfl) (by rfl) (by rfl) (by rfl) ep (by rfl) ?_
  intro v'
  refine Ja rfl<|Jx<|Jj<|Jt<|Jg<|JB rfl (by omega)<|Jv rfl<|Jn ?_
  have Vh:(aM (g l[k].tk).so).length=n:=by rw [cS,PN]
  with_reducible apply mn (E:=9) (vs:=W.map fZ.v) (xs:=W.map fun y=>aM y.tk.so) (v:=.slice je n jH) (x:=aM (g l[k].tk).so) (n:=n)
  case ht=>exact ei
  case ht2=>exact bI
  case hn=>exact Vh.symm
  case hl=>rw [List.length_map,List.length_map]
  case k=>
   apply aL (k+1,v',W++[⟨g l[k].tk,.slice je n jH⟩]) ⟨by show k+1≤_;omega,by
    show dd (W++[_])=_
    unfold dd at hW htk ⊢
    rw [List.map_append,hW];exact htk.symm⟩ (by show l.length-(k+1)<l.length-k;omega)
   case hs1=>exact cn
   case ht=>
    dsimp only
    rw [DK,List.length_append,List.map_append,List.map_append]
    simp only [List.map_cons,List.map_nil,List.length_cons,List.length_nil,Nat.zero_add]
    exact .cons (.there .here) (.cons .here .nil)
 ·have e:k=l.length:=by omega
  rw [e,List.take_length] at hW
  refine aW (E:=78) (sz:=2) (v:=v) (by exact .here) fun va vc e=>?_
  subst e
  refine Jr<|JA rfl<|Jn<|Jq<|Jc rfl fun aq=>Jp<|Jl<|Jo<|Jt<|Jr<|Jv rfl<|Ja rfl<|Jn<|Je ?_
  first | with_reducible apply aO | with_reducible apply aP
  case he=>exact dj rfl rfl
  case hR=>
   intro w' az
   exact aB (.slice va W.length vc,W) hW (by exact .cons .here (.cons .here .nil)) az rfl
def KA (r:Ro) (l:List Tk):List Tk:=if (iV r l).2.2≠0 then [] else l.map (vI r)
set_option maxHeartbeats 1000000 in
theorem JO {r:Ro} {s d t p kv:Value} {l:List fZ} {w:World} (h:RR w r s d t p) (cJ:mP r) (hw:Rd w kv 2 (ji l)) (hM:vF w l) :
  bd Tryz.prog 47 [RA r s d t p,kv] w [] (fun x:Value×List fZ=>dd x.2=KA r (dd l)) (fun x=>.tuple #[x.1,.int .i64 (iV r (dd l)).2.2]) (fun x=>[row 78 2 x.1 x.2.length (ji x.2).flatten,KC x.2]):=by
 have h1:=Rd.one h.sr
 have h2:=Rd.one h.de
 have h3:=Rd.one h.ti
 have h4:=Rd.one h.po
 have T2:=Rd.one hw
 unfold RA
 refine aR Tryz.func47 rfl rfl ?_
 (refine Jr<|Jy rfl rfl fun _ _=>Ja rfl<|Ja rfl<|Jn<|Jq<|Jr<|ab (cr .here) rfl ?_;refine Jv rfl ?_)
 rename_i b2 sQ
 refine JN aZ rfl (fun w1 aJ=>zT (h.keeps aJ.keeps) cJ (hw.keeps aJ.keeps) (hM.keeps aJ.keeps)) ?_
 have Fz:KA r (dd l)=if (iV r (dd l)).2.2≠0 then [] else (dd l).map (vI r):=rfl
 have Pr:(iV r (dd l)).2.2=0→fN r=0∧Ap r (dd l)=0:=fun h0=>by
  unfold iV at h0
  by_cases c1:fN r=0
  ·rw [if_neg (not_not_intro c1)] at h0
   by_cases c2:Ap r (dd l)=0
   ·exact ⟨c1,c2⟩
   ·rw [if_pos c2] at h0;exact absurd h0 c2
  ·rw [if_pos c1] at h0;exact absurd h0 c1
 by_cases z8:(iV r (dd l)).2.2=0
 ·obtain ⟨B4,Pn⟩:=Pr z8
  have eK:=xj B4
  have hT:=(yp.1 Pn).2
  have zi:=eK.lim
  have zj:=eK.len
  rw [if_neg (not_not_intro z8)] at Fz
  rw [Fz]
  clear Fz Pr
  generalize iV r (dd l)=R at *
  obtain ⟨R,at_,e_⟩:=R
  dsimp only at z8
  subst z8
  rintro ⟨s1,d1,t1,p1⟩ _
  dsimp only
  unfold RA
  refine cP (r:=R) (s:=s1) (d:=d1) (t:=t1) (p:=p1) (a8 _ _) fun k1 k2 k3 k4=>?_
  (refine Jv rfl<|JJ rfl rfl<|JJ rfl rfl<|JJ rfl rfl<|Jz rfl rfl fun _ _=>ao (.of rfl) (.of rfl) .here rfl rfl (ib rfl rfl k1 k2 k3 k4) (bE rfl) ak ?_;refine Ja rfl<|Ja rfl<|Ji<|Jv rfl<|JD rfl<|Jn<|Jc rfl fun aq=>Jk<|Jr<|Jv rfl<|ab (bn .nil (.cons (.of rfl) .nil)) rfl ?_)
  with_reducible apply iX
  case hr=>exact aZ
  case hd=>rfl
  case ht=>exact bj.nil
  case hc=>
   intro w1 fp aJ _ hs1
   obtain rfl:fp=[]:=hs1
   have hA:BR w1 b2 [.int .i64 r.lv,.int .i64 r.ma,s,d,t,p]:=BR.of aJ eC
   have hR:=h.keeps aJ.keeps
   have hK:=hM.keeps aJ.keeps
   have Su:=hT.C8
   unfold dd at Su
   rw [List.length_map] at Su
   exact O3 (f:=167) (first:=[]) (cap:=[.pointer (some ⟨b2,0,none⟩)]) (g:=vI r) (n:=r.lv.toNat) (hw.keeps aJ.keeps) hK (by omega) (fun x _=>by unfold vI;simp) (fun x hx w2 ez=>Om (hR.keeps ez) (hA.keeps ez) (by omega) (by omega) ((hK x hx).keeps ez) (hT.lv _ (List.mem_map_of_mem hx)))
  rintro ⟨v,W⟩ hW
  dsimp only at hW ⊢
  unfold KC
  dsimp only [List.cons_append,List.nil_append]
  refine aW (E:=78) (sz:=2) (v:=v) (by exact .here) fun va vc e=>?_
  subst e
  refine Ja rfl<|Ja rfl<|Jn<|Je ?_
  first | with_reducible apply aO | with_reducible apply aP
  case he=>exact fL rfl rfl rfl
  case hR=>
   intro w' az
   exact aB (.slice va W.length vc,W) hW (by exact .cons .here (.cons .here .nil)) az rfl
 ·rw [if_pos z8] at Fz
  rw [Fz]
  clear Fz Pr
  generalize iV r (dd l)=R at *
  obtain ⟨R,at_,e_⟩:=R
  dsimp only at z8
  rintro ⟨s1,d1,t1,p1⟩ _
  dsimp only
  unfold RA
  refine cP (r:=R) (s:=s1) (d:=d1) (t:=t1) (p:=p1) (a8 _ _) fun k1 k2 k3 k4=>?_
  (refine Jv rfl<|JJ rfl rfl<|JJ rfl rfl<|JJ rfl rfl<|Jz rfl rfl fun _ _=>ao (.of rfl) (.of rfl) .here rfl rfl (ib rfl rfl k1 k2 k3 k4) (bE rfl) ak ?_;refine Ja rfl<|Ja rfl<|Ji<|Jv rfl<|JD rfl<|Jn<|Jd rfl fun aq=>Jr<|Jv rfl<|Ja rfl<|Ja rfl<|Jn<|Ju ?_)
  refine aQ 78 2 ?_
  refine kz 9 ?_
  rw [KB]
  first | with_reducible apply aO | with_reducible apply aP
  case he=>exact fL rfl rfl rfl
  case hR=>
   intro w' az
   exact aB (.slice none 0 0,([]:List fZ)) (show dd []=[] from rfl) (by exact .cons (.there .here) (.cons .here .nil)) az rfl
end Go.Proofs.A1
namespace Go.Proofs.A1
open Go Go.SL
def w9 (r:Ro) (o:ByteArray):Int:=aV [fN r,pn r o]
def w8 (r:Ro) (o:ByteArray) (q:Bool):Ro:=if w9 r o≠0 then Ro.nil else r.G6 o q
theorem rO (l:List De):(lq l).length=l.length*3:=by unfold lq;rw [fK (Db l),bX]
theorem Qe (l:List De) (cur:List Value) {k:Nat} (h:k<l.length) (q:Bool):setCells (lq l++cur) (k*3+2) [.bool q]=lq (l.modify k fun x=>⟨x.nm,x.mx,q⟩)++cur:=by
 rw [o8 _ _ _ (by rw [List.length_append,rO];omega),List.set_append_left _ _ (by rw [rO];omega)]
 congr 1
 have e:l=l.take k++l[k]::l.drop (k+1):=by rw [← List.drop_eq_getElem_cons h,List.take_append_drop]
 have hm:l.modify k (fun x=>⟨x.nm,x.mx,q⟩)=l.take k++⟨l[k].nm,l[k].mx,q⟩::l.drop (k+1):=by
  rw [List.modify_eq_take_cons_drop h]
 have ht:(lq (l.take k)).length=k*3:=by rw [rO,List.length_take,Nat.min_eq_left (by omega)]
 have hs:∀ (a:List De) (x:De) (b:List De),lq (a++x::b)=lq a++(x.cells++lq b):=fun a x b=>by unfold lq u3;simp
 rw [hm,hs]
 conv=>lhs;rw [e,hs]
 rw [List.set_append_right _ _ (by omega),ht,Nat.add_sub_cancel_left]
 rfl
set_option maxHeartbeats 1000000 in
theorem BW {r:Ro} {s d t p:Value} (o:ByteArray) (q:Bool) {w:World} (h:RR w r s d t p) (cJ:mP r) :
  bd Tryz.prog 78 [RA r s d t p,.string o,.bool q] w [] (fun _:Value×Value×Value×Value=>True) (fun x=>.tuple #[RA (w8 r o q) x.1 x.2.1 x.2.2.1 x.2.2.2,.int .i64 (w9 r o)]) (fun x=>rb (w8 r o q) x):=by
 have h1:=Rd.one h.sr
 have h2:=Rd.one h.de
 have h3:=Rd.one h.ti
 have h4:=Rd.one h.po
 have jd:∀ w',aF [] w w'→aj Tryz.prog 34 [.agg #[.int .i64 r.lv,.int .i64 r.ma,s,d,t,p]] w' (.int .i64 (fN r)):=fun w' hk=>bZ (h.keeps hk) cJ
 have lO:∀ w',aF [] w w'→aj Tryz.prog 112 [.agg #[.int .i64 r.lv,.int .i64 r.ma,s,d,t,p],.string o] w' (.int .i64 (pn r o)):=fun w' hk=>ek o (h.keeps hk)
 unfold RA
 refine aR Tryz.func78 rfl rfl ?_
 refine Jr<|Jy rfl rfl fun _ _=>Jz rfl rfl fun _ _=>Ja rfl<|Jn<|Jq<|Jq ?_
 rename_i b3 rG b6 hb6
 with_reducible refine cQ 6 (by kernel_rfl) ?_
 (refine an (cr (.there .here)) rfl ?_;refine aU bC rfl (fun w' az=>(jd w' (Mem.keeps az))) ?_;refine an (cr (.there .here)) rfl ?_;refine an lx rfl ?_;refine aU aZ rfl (fun w' az=>(lO w' (Mem.keeps az))) ?_;refine en (aA (.cons (.of rfl) (.cons (.of rfl) .nil)) rfl rfl rfl rfl) rfl rfl ?_)
 with_reducible refine dy rfl fun bq mT=>?_
 (refine ag bC rfl (fun w' az=>(dF (Mem.dh az .here rfl rfl) (bU.cons (bU.cons bU.nil)))) ?_;refine Ja rfl<|Ji<|Jv rfl<|JD rfl<|Jn<|fY rfl (fun aq=>?_) fun aq=>?_;refine Jr<|ab (aS .nil ak) rfl ?_;refine Jv rfl<|ao (.of rfl) (.of rfl) (.there .here) rfl rfl (ib rfl rfl rfl rfl rfl rfl) (bE rfl) ak ?_;refine Ja rfl<|Jn<|Ju ?_;rotate_left;refine Jk<|Jr<|ab (cr bI) rfl ?_;rotate_right)
 ·have e1:w8 r o q=Ro.nil:=if_pos aq
  have e2:w9 r o=aV [fN r,pn r o]:=rfl
  rw [e1,e2]
  refine aQ 186 2 ?_;refine aQ 90 3 ?_;refine aQ 187 3 ?_;refine aQ 188 3 ?_
  first | with_reducible apply aO | with_reducible apply aP
  case he=>exact rN rfl inferInstance rfl ei ak (by rfl) (by rfl)
  case hR=>
   intro w' az
   exact aB (.slice none 0 0,.slice none 0 0,.slice none 0 0,.slice none 0 0) trivial (by exact .cons cY (.cons bI (.cons (.there .here) (.cons .here .nil)))) az rfl
 have e0:aV [fN r,pn r o]=0:=Decidable.not_not.1 aq
 have e1:w8 r o q=r.G6 o q:=if_neg aq
 have e2:w9 r o=0:=e0
 have B4:fN r=0:=cg.1 e0 _ List.mem_cons_self
 have QM:o∈cm r:=by
  have:=(bH (by decide)).1 (cg.1 e0 (pn r o) (by simp))
  rwa [decide_eq_false_iff_not,bT,Classical.not_not] at this
 have eK:=xj B4
 have hf:=oA eK eK.val
 rw [e1,e2]
 refine JN bC rfl (fun w1 aJ=>yQ (h.keeps aJ.keeps) cJ (by omega)) ?_
 intro y _
 dsimp only [id_eq,List.cons_append,List.nil_append]
 obtain ⟨s1,d1,t1,p1⟩:=y
 dsimp only
 unfold RA PB
 refine cP (r:=r) (s:=s1) (d:=d1) (t:=t1) (p:=p1) (by unfold rb PB;exact .cons .here (.cons .here (.cons .here (.cons .here .nil)))) fun k1 k2 k3 k4=>?_
 (refine Jz rfl rfl fun _ _=>ao (.of rfl) (.of rfl) .here rfl rfl (ib rfl rfl k1 k2 k3 k4) (bE rfl) ak ?_;refine Jn<|Jq ?_)
 rename_i b9 Xq
 obtain ⟨j0,zk⟩:∃ i:Nat,bA (cm r) o=(i:Nat):=⟨(bA (cm r) o).toNat,by have:=eu QM;omega⟩
 have Bm:j0<r.de.length:=by
  obtain ⟨hl,_⟩:=fw (l:=cm r) (s:=o) (by omega)
  rw [zk,Int.toNat_natCast] at hl
  unfold cm at hl;rwa [List.length_map] at hl
 have hdd:∀ w',aF [] w w'→aj Tryz.prog 155 [.agg #[.int .i64 r.lv,.int .i64 r.ma,s,d,t,p],.string o] w' (.int .i64 (j0:Nat)):=fun w' hk=>zk ▸ fB o (h.keeps hk)
 refine db (E:=90) (sz:=3) (v:=d1) bI (by omega) fun gd cap cur e VS VR T6 hg4=>?_
 subst e
 have p0:=Qe r.de cur Bm q
 have hle:j0*3+2+1≤(lq r.de++cur).length:=by rw [List.length_append,rO];omega
 with_reducible refine dN 8 (by kernel_rfl) ?_
 (refine np rfl rfl ae ?_;refine aH (gp (.there .here)) rfl ?_;refine aH (cr tL) rfl ?_;refine kZ rfl rfl ?_;refine eZ aZ rfl (fun w' az=>(hdd w' (Mem.keeps az))) ?_;refine kZ rfl rfl ?_;refine aH (aC (.of rfl) (.of rfl) rfl (by omega) (by omega) bo) rfl ?_;refine np rfl rfl ae ?_)
 with_reducible refine dW ?_
 (refine ao (.of rfl) (.of rfl) .here rfl rfl (dZ rfl) hle p0 ?_;refine Ji<|ab (cr (.there .here)) rfl ?_;refine ao (.of rfl) (.of rfl) oq rfl rfl (ib rfl rfl k1 rfl k3 k4) (bE rfl) ak ?_;refine Ja rfl<|Jn<|Je ?_)
 have hpr:r.G6 o q=⟨r.lv,r.ma,r.sr,r.de.modify j0 fun x=>⟨x.nm,x.mx,q⟩,r.ti,r.po⟩:=by unfold Ro.G6;rw [zk,Int.toNat_natCast]
 have Vv:(r.de.modify j0 fun x=>(⟨x.nm,x.mx,q⟩:De)).length=r.de.length:=List.length_modify _ _ _
 rw [hpr]
 generalize (r.de.modify j0 fun x=>(⟨x.nm,x.mx,q⟩:De))=D' at *
 have VQ:(lq D'++cur).length=cap*3:=by rw [List.length_append,rO] at T6 ⊢;rw [Vv];exact T6
 refine c8 (n:=r.de.length) (xs:=lq D') (cap:=cap) (g:=gd) (E:=90) (sz:=3) (by exact Take.there .here) VS VR VQ (by rw [rO,Vv]) ?_
 first | with_reducible apply aO | with_reducible apply aP
 case he=>exact rN rfl inferInstance rfl (.there .here) ak (by rfl) (by rfl)
 case hR=>
  intro w' az
  exact aB (s1,.slice (some ⟨gd,0,none⟩) r.de.length cap,t1,p1) trivial (show bj _ [J1 r s1,row 90 3 (.slice (some ⟨gd,0,none⟩) r.de.length cap) D'.length (lq D'),J3 r t1,J4 r p1] _ by rw [Vv];exact .cons cY (.cons .here (.cons bI (.cons bI .nil)))) az rfl
end Go.Proofs.A1
namespace Go.Proofs.A1
open Go Go.SL
structure oZ where
 fr:Int
 tk:List fZ
 v:Value
def oZ.cells (x:oZ):List Value:=[.int .i64 x.fr,x.v]
def r8 (l:List oZ):List (List Value):=l.map oZ.cells
theorem kC (l:List oZ):(r8 l).length=l.length:=by simp [r8]
theorem yW {l:List oZ} {k:Nat} (h:k<l.length):(r8 l)[k]? = some (l[k]).cells:=by simp [r8,h]
theorem CJ {l:List oZ} {k:Nat} (h:k<l.length):r8 l≠[]:=by intro e;have:=congrArg List.length e;rw [kC] at this;simp at this;subst this;simp at h
def F5 (w:World) (l:List oZ):Prop:=∀ x∈l,Rd w x.v 2 (ji x.tk)∧vF w x.tk
theorem F5.keeps {w w':World} {l:List oZ} (h:F5 w l) (hk:aF [] w w'):F5 w' l:=fun x hx=>⟨(h x hx).1.keeps hk,(h x hx).2.keeps hk⟩
def ef (l:List oZ):List Od:=l.map fun x=>⟨x.fr,dd x.tk⟩
theorem tu (l:List oZ):(ef l).length=l.length:=List.length_map _
theorem A5 {l:List oZ} {k:Nat} (h:k<l.length):(ef l).getD k Od.zero=⟨l[k].fr,dd l[k].tk⟩:=by
 unfold ef;rw [List.getD_eq_getElem?_getD,List.getElem?_map,List.getElem?_eq_getElem h];rfl
theorem LR {lv:Value} {l:List oZ} {p:oZ→Bool} {f:FuncId} {first cap:List Value} [bP Tryz.prog f] {w:World} (h:Rd w lv 2 (r8 l)) (ch:∀ x∈l,∀ w',aF [] w w'→aj Tryz.prog f (first++[.agg x.cells.toArray]++cap) w' (.bool (p x))) :
  aj Tryz.prog 173 [lv,.func (.func f) first.toArray cap.toArray] w (.int .i64 (gA p l)):=by
 obtain ⟨a,cp,b,o,rfl,df,bO,ha,hc⟩:=h
 rw [kC] at *
 unfold maxLen at bO
 refine ah Tryz.func173 rfl rfl ?_
 refine Jr<|Ja rfl<|Jn<|Jq<|Jr<|Jv rfl<|JI rfl<|Jv rfl<|Jn<|J0 ?_
 refine aX (fun k:Nat=>k≤l.length∧∀ i,i<k→(l[i]?.map p).getD false=false) (fun k=>[(8,.int .i64 k),(7,.int .i64 l.length),(0,.slice a l.length cp),(1,.func (.func f) first.toArray cap.toArray)]) (fun _=>[]) (fun k=>l.length-k) ?_ ?_
 ·apply aK 0 ⟨Nat.zero_le _,fun i h=>by omega⟩
  case hs1=>exact cn
  case ht=>(try simp only [List.take_zero,List.map_nil,List.nil_append]);exact .nil
 rintro k ⟨hk,hf⟩
 by_cases aN:k<l.length
 ·have cM:=ha (CJ aN)
  have aD:=(hc k _ (yW aN)).2
  have ix:=ch _ (List.getElem_mem aN)
  have hps:(l[k]?.map p).getD false=p l[k]:=by simp [aN]
  unfold oZ.cells at aD ix
  (refine Jr<|JA rfl<|Jn<|Jq<|Jd rfl fun aq=>Jk<|Jq<|J0<|Jr<|Jv rfl<|Ja rfl<|Ji<|Jv rfl<|Jv rfl<|Jv rfl<|ab (fM cM aq) rfl ?_;refine ab (iz (eG.base aD rfl)) rfl ?_;refine ag bC rfl (fun w' az=>(ix w' (Mem.keeps az))) ?_;refine Jn<|pV rfl (fun aq=>?_) fun aq=>?_;refine Jr<|Jv rfl<|Ja rfl<|Jn<|Je<|Jm<|Jh<|Jh<|Jm<|Jh<|JT ?_;rotate_left;refine Jw<|Jj<|Jt<|Jg<|JB rfl (by omega)<|Jv rfl<|Jn ?_;rotate_right)
  ·rw [fT hf aN aq]
  ·apply aL (k+1) ⟨by omega,fun i hi=>by
    by_cases e:i=k
    ·rw [e,hps];exact aq
    ·exact hf i (by omega)⟩ (by omega)
   case hs1=>exact cn
   case ht=>(try simp only [List.take_zero,List.map_nil,List.nil_append]);exact .nil
 ·obtain rfl:k=l.length:=by omega
  refine Jr<|JA rfl<|Jn<|Jq<|Jc rfl fun aq=>Jp<|Jl<|Jo<|Jt<|Jr<|Ja rfl<|Jn<|Je<|JT ?_
  rw [fm hf]
theorem K0 {x:oZ} {f:Int} {b:Nat} {w:World} (f1:w.cell? ⟨b,0,none⟩=some (.int .i64 f)):aj Tryz.prog 174 [.agg x.cells.toArray,.pointer (some ⟨b,0,none⟩)] w (.bool (decide (f<x.fr))):=by
 unfold oZ.cells
 refine ah Tryz.func174 rfl rfl ?_
 (refine Jr<|Jy rfl rfl fun _ _=>Ja rfl<|Ji<|bF rfl rfl ae ?_;refine JL rfl .here rfl<|ab (ai (.of rfl) (At.base f1 rfl)) rfl ?_;refine JE rfl<|Ja rfl<|Jn<|Je<|JT ?_)
 rfl
def Lq (r:Ro) (l:List Od):Int:=if fN r≠0 then fN r else TL r l
def QC (r:Ro) (l:List Od):Int:=aV [fN r,bS (decide ((16:Int)<(l.length:Nat))) 5]
theorem OS (r:Ro) (l:List Od):Lq r l=if QC r l≠0 then QC r l else jm (Ke r l) l.length:=by
 unfold Lq QC TL
 by_cases h1:fN r=0
 ·rw [if_neg (not_not_intro h1)]
  by_cases h2:(16:Int)<(l.length:Nat)
  ·rw [if_pos h2,if_pos (by rw [h1,decide_eq_true h2];decide),h1,decide_eq_true h2];rfl
  ·rw [if_neg h2,if_neg (by rw [h1,decide_eq_false h2];decide)]
 ·have:aV [fN r,bS (decide ((16:Int)<(l.length:Nat))) 5]=fN r:=by unfold aV;rw [if_pos h1]
  rw [if_pos h1,this,if_pos h1]
def Hw (l:List oZ) (k:Nat):Int:=if k=0 then -1 else ((ef l).getD (k-1) Od.zero).fr
theorem OY {r:Ro} {l:List oZ} {k:Nat} (h:k<l.length):Ke r (ef l) k=aV [fR l[k].fr 0 10000000,bS (decide (l[k].fr≤Hw l k)) 11,Ap r (dd l[k].tk)]:=by
 unfold Ke Hw
 have:(ef l)[k]? = some ⟨l[k].fr,dd l[k].tk⟩:=by unfold ef;rw [List.getElem?_map,List.getElem?_eq_getElem h];rfl
 rw [this];rfl
theorem Fj {l:List oZ} {k:Nat} (h:k<l.length):Hw l (k+1)=l[k].fr:=by
 unfold Hw
 rw [if_neg (by omega),Nat.add_sub_cancel,A5 h]
set_option maxHeartbeats 1000000 in
theorem wa {r:Ro} {s d t p kv:Value} {l:List oZ} {w:World} (h:RR w r s d t p) (cJ:mP r) (hw:Rd w kv 2 (r8 l)) (hM:F5 w l) :
  aj Tryz.prog 171 [RA r s d t p,kv] w (.int .i64 (Lq r (ef l))):=by
 have h1:=Rd.one h.sr
 have h2:=Rd.one h.de
 have h3:=Rd.one h.ti
 have h4:=Rd.one h.po
 obtain ⟨aw,cw,bw,ow,rfl,Ny,Bj,SN,Ic⟩:=hw
 rw [kC] at *
 unfold maxLen at Bj
 have tB:=tu l
 have jd:∀ w',aF [] w w'→aj Tryz.prog 34 [.agg #[.int .i64 r.lv,.int .i64 r.ma,s,d,t,p]] w' (.int .i64 (fN r)):=fun w' hk=>bZ (h.keeps hk) cJ
 have hX:=OS r (ef l)
 have hA:QC r (ef l)=aV [fN r,bS (decide ((16:Int)<(l.length:Nat))) 5]:=by unfold QC;rw [tB]
 unfold RA
 refine ah Tryz.func171 rfl rfl ?_
 (refine Jr<|Jy rfl rfl fun _ _=>Ja rfl<|Jn<|Jq<|Jr<|ab (cr .here) rfl ?_;refine ag bC rfl (fun w' az=>(jd w' (Mem.keeps az))) ?_;refine Jv rfl<|JI rfl<|JE rfl<|ag aZ rfl (fun w' az=>(dL _ 5 w')) ?_;refine bb (aA (.cons (.of rfl) (.cons (.of rfl) .nil)) rfl rfl rfl rfl) rfl fun _ _=>?_;refine ag bC rfl (fun w' az=>(dF (Mem.dh az .here rfl rfl) (bU.cons (bU.cons bU.nil)))) ?_;refine Ja rfl<|Ji<|Jv rfl<|JD rfl<|Jn<|fY rfl (fun aq=>?_) fun aq=>?_;refine Jr<|Jv rfl<|Ja rfl<|Jn<|Ju<|JT ?_;rotate_left;refine Jk<|Jr<|Ja rfl<|Jn<|Jq<|Jr<|Jv rfl<|JI rfl<|Jv rfl<|Jn<|J0 ?_;rotate_right)
 ·rw [hX,hA,if_pos aq]
 have Mh:QC r (ef l)=0:=by rw [hA];exact Decidable.not_not.1 aq
 rw [if_neg (not_not_intro Mh),tB] at hX
 clear aq
 rename_i b2 sQ bq mT
 refine aX (fun k:Nat=>k≤l.length∧∀ i,i<k→Ke r (ef l) i=0) (fun k=>[(23,.int .i64 (k:Nat)),(22,.int .i64 (l.length:Nat)),(21,.slice aw l.length cw),(6,.int .i64 (Hw l k)),(2,.pointer (some ⟨b2,0,none⟩))])
  (fun k=>[JP b2 r s d t p]) (fun k=>l.length-k) ?_ ?_
 ·apply aK 0 ⟨Nat.zero_le _,fun i hi=>by omega⟩
  case hs1=>exact cn
  case ht=>(try simp only [List.take_zero,List.map_nil,List.nil_append]);exact .cons (.there .here) .nil
 rintro k ⟨hk,hf⟩
 by_cases aN:k<l.length
 ·have Ih:=SN (CJ aN)
  have aD:=(Ic k _ (yW aN)).2
  unfold oZ.cells at aD
  have hx:=hM _ (List.getElem_mem aN)
  have jk:=OY (r:=r) aN
  have zj:=Fj aN
  generalize l[k]=x at aD hx jk zj ⊢
  obtain ⟨xf,xt,xv⟩:=x
  dsimp only at aD hx jk zj ⊢
  have iD:=Rd.one hx.1
  have htk:∀ w',aF [] w w'→aj Tryz.prog 164 [.agg #[.int .i64 r.lv,.int .i64 r.ma,s,d,t,p],xv] w' (.int .i64 (Ap r (dd xt))):=fun w' hk=>qZ (h.keeps hk) (hx.1.keeps hk) (hx.2.keeps hk)
  (refine Jr<|JA rfl<|Jn<|Jq<|Jd rfl fun aq=>Jk<|Jq<|J0<|Jr<|ab (aC (.of rfl) (.of rfl) Ih (by omega) aq bo) rfl ?_;refine ab (iz (eG.base aD rfl)) rfl ?_;refine Jz rfl rfl fun _ _=>ao (.of rfl) (.of rfl) .here rfl rfl (gn rfl iD) (bE rfl) ak ?_;refine Jn<|Jq<|Jq ?_)
  with_reducible refine cQ 13 (by kernel_rfl) ?_
  (refine an kr rfl ?_;refine an (gp .here) rfl ?_;refine aU dK rfl (fun w' az=>(lQ xf 0 10000000 w')) ?_;refine an kr rfl ?_;refine an (gp .here) rfl ?_;refine an lx rfl ?_;refine an (kB (.of rfl) (.of rfl)) rfl ?_;refine aU aZ rfl (fun w' az=>(dL _ 11 w')) ?_;refine an (cr (.there .here)) rfl ?_;refine an kr rfl ?_;refine an (gp .here) rfl ?_;refine aU aZ rfl (fun w' az=>(htk w' (Mem.keeps az))) ?_;refine en (aA (.cons (.of rfl) (.cons (.of rfl) (.cons (.of rfl) .nil))) rfl rfl rfl rfl) rfl rfl ?_)
  with_reducible refine dy rfl fun b55 V8=>?_
  (refine ag bC rfl (fun w' az=>(dF (Mem.dh az .here rfl rfl) (bU.cons (bU.cons (bU.cons bU.nil))))) ?_;refine Ja rfl<|Ji<|Jv rfl<|JD rfl<|Jn<|fY rfl (fun aq=>?_) fun aq=>?_;refine Jr<|Jv rfl<|Ja rfl<|Jn<|Ju<|Jm<|Jh<|Jh<|Jm<|Jh<|JT ?_;rotate_left;refine Jk<|Jg<|bF rfl rfl ae ?_;refine JL rfl (.there .here) rfl<|Ja rfl<|Jx<|Jj<|Jt<|Jg<|JB rfl (by omega)<|Jv rfl<|Jn ?_;rotate_right)
  ·rw [← jk] at aq ⊢
   have hB:jm (Ke r (ef l)) l.length=Ke r (ef l) k:=eY hf aN aq
   rw [hX,hB]
  have hz:Ke r (ef l) k=0:=by rw [jk];exact Decidable.not_not.1 aq
  rw [← zj]
  apply aL (k+1) ⟨by omega,fun i hi=>by
   by_cases e:i=k
   ·rw [e];exact hz
   ·exact hf i (by omega)⟩ (by omega)
  case hs1=>exact cn
  case ht=>(try simp only [List.take_zero,List.map_nil,List.nil_append]);exact .cons bI .nil
 ·obtain rfl:k=l.length:=by omega
  have SZ:jm (Ke r (ef l)) l.length=0:=dT.2 hf
  refine Jr<|JA rfl<|Jn<|Jq<|Jc rfl fun aq=>Jp<|Jl<|Jo<|Jt<|Jr<|Ja rfl<|Jn<|Je<|JT ?_
  rw [hX,SZ]
end Go.Proofs.A1
namespace Go.Proofs.A1
open Go Go.SL
set_option maxHeartbeats 2000000 in
theorem M4 {r:Ro} {s d t p kv:Value} {l:List oZ} {w:World} (h:RR w r s d t p) (B4:fN r=0) (hw:Rd w kv 2 (r8 l)) (hM:F5 w l) (hO:MR r (ef l)) :
  bd Tryz.prog 172 [RA r s d t p,kv] w [] (fun _:Value×Value×Value×Value=>True) (fun x=>.tuple #[RA (iq r (ef l)).1 x.1 x.2.1 x.2.2.1 x.2.2.2,.int .i64 (iq r (ef l)).2.1,.int .i64 (iq r (ef l)).2.2]) (fun x=>rb (iq r (ef l)).1 x):=by
 have eK:=xj B4
 have zi:=eK.lim
 have zj:=eK.len
 have cJ:mP r:=by unfold mP;omega
 have Ua:=oA eK eK.val
 have hlf:=hO.C8
 rw [tu] at hlf
 have tB:=tu l
 have h1:=Rd.one h.sr
 have h2:=Rd.one h.de
 have h3:=Rd.one h.ti
 have h4:=Rd.one h.po
 obtain ⟨a,cp,b,o,rfl,df,bO,ha,hc⟩:=hw
 rw [kC] at *
 unfold maxLen at bO
 have hX:iq r (ef l)=if jm (AZ r (ef l)) l.length=0 then (M1 r (ef l) l.length,0,0) else (Ro.nil,((MM (AZ r (ef l)) l.length:Nat):Int),jm (AZ r (ef l)) l.length):=by unfold iq;rw [tB]
 unfold RA
 refine aR Tryz.func172 rfl rfl ?_
 refine Jr<|Jy rfl rfl fun _ _=>Jz rfl rfl fun _ _=>Ja rfl<|Ja rfl<|Ji<|ab (cr (.there .here)) rfl ?_
 rename_i b2 sQ b4 vC
 refine JN bC rfl (fun w1 aJ=>yQ (h.keeps aJ.keeps) cJ (by omega)) ?_
 intro y _
 dsimp only [id_eq,List.cons_append,List.nil_append]
 obtain ⟨s1,d1,t1,p1⟩:=y
 dsimp only
 unfold RA PB
 refine cP (r:=r) (s:=s1) (d:=d1) (t:=t1) (p:=p1) (by unfold rb PB;exact .cons .here (.cons .here (.cons .here (.cons .here .nil)))) fun k1 k2 k3 k4=>?_
 (refine Jz rfl rfl fun _ _=>ao (.of rfl) (.of rfl) .here rfl rfl (ib rfl rfl k1 k2 k3 k4) (bE rfl) ak ?_;refine Jn<|Jq<|Jr<|Jv rfl<|JI rfl<|Jv rfl<|Jn<|J0 ?_)
 rename_i b7 SM
 refine aX (ι:=Nat×(Value×Value×Value×Value)×List Po) (fun y=>y.1≤l.length∧JV r (ef l) y.1 y.2.2∧(∀ j,j<y.1→AZ r (ef l) j=0)∧y.2.1.1.oneCell'=true∧y.2.1.2.1.oneCell'=true∧y.2.1.2.2.1.oneCell'=true∧y.2.1.2.2.2.oneCell'=true) (fun y=>[(17,.int .i64 (y.1:Nat)),(16,.int .i64 (l.length:Nat)),(15,.slice a l.length cp),(7,.pointer (some ⟨b7,0,none⟩)),(4,.pointer (some ⟨b4,0,none⟩))])
  (fun y=>[JP b7 r (y.2.1.1) (y.2.1.2.1) (y.2.1.2.2.1) (y.2.1.2.2.2),J1 r y.2.1.1,J2 r y.2.1.2.1,J3 r y.2.1.2.2.1,row 188 3 y.2.1.2.2.2 y.2.2.length (iW y.2.2),bD b4 (.cells #[.int .i64 0,.int .i64 0,.slice none 0 0,.slice none 0 0,.slice none 0 0,.slice none 0 0] 41 (0,0))]) (fun y=>l.length-y.1) ?_ ?_
 ·apply aK (0,(s1,d1,t1,p1),r.po) ⟨Nat.zero_le _,⟨rfl,eK.val⟩,fun j hj=>absurd hj (Nat.not_lt_zero j),k1,k2,k3,k4⟩
  case hs1=>exact cn
  case ht=>exact sK
 clear k1 k2 k3 k4 s1 d1 t1 p1
 rintro ⟨i,⟨s1,d1,t1,p1⟩,q⟩ ⟨hi,P1,Ma,k1,k2,k3,k4⟩
 dsimp only at hi P1 Ma k1 k2 k3 k4 ⊢
 have hqf:=oA eK P1.val
 by_cases aN:i<l.length
 ·have cM:=ha (CJ aN)
  have aD:=(hc i _ (yW aN)).2
  have jj:=List.getElem_mem aN
  have hx:=hM _ jj
  have rF:i<(ef l).length:=by omega
  have Ns:=A5 aN
  have hti:=hO.tk i rF
  have T5:(ef l)[i].tk=dd l[i].tk:=by
   rw [List.getD_eq_getElem?_getD,List.getElem?_eq_getElem rF,Option.getD_some] at Ns
   rw [Ns]
  rw [T5] at hti
  have HZ:AZ r (ef l) i=(kU (r.wp q) (dd l[i].tk)).2.2:=by unfold AZ;rw [P1.eq,Ns]
  have a7:M1 r (ef l) (i+1)=(kU (r.wp q) (dd l[i].tk)).1:=by rw [M1,P1.eq,Ns]
  have ll:=fun h0=>P1.next B4 hO rF h0
  unfold oZ.cells at aD
  generalize l[i]=x at *
  obtain ⟨xf,xt,xv⟩:=x
  dsimp only at *
  have iD:=Rd.one hx.1
  (refine Jr<|JA rfl<|Jn<|Jq<|Jd rfl fun aq=>Jk<|Jq<|J0<|Jr<|Jv rfl<|ab (fM cM aq) rfl ?_;refine ab (iz (eG.base aD rfl)) rfl ?_;refine Jz rfl rfl fun _ _=>Ja rfl<|ao (.of rfl) (.of rfl) .here rfl rfl (gn rfl iD) (bE rfl) ak ?_;refine Ji<|ab (cr (.there .here)) rfl ?_;refine bF rfl rfl ae ?_;refine JL rfl .here rfl ?_)
  refine JN aZ rfl (fun w1 aJ=>DO (r:=r.wp q) (RR.wp (cE aJ bI rfl) (cG aJ cY rfl) (cD aJ ei rfl) (cy aJ eC rfl)) (eK.wp P1.val) (by show q.length≤500;omega) (hx.1.keeps aJ.keeps) (hx.2.keeps aJ.keeps) (hti.wp q)) ?_
  have kW:∀ q',kU (r.wp q) (dd xt)=(r.wp q',0,0)→True:=fun _ _=>trivial
  generalize kU (r.wp q) (dd xt)=R at *
  obtain ⟨R,at_,e_⟩:=R
  rintro ⟨s2,d2,t2,p2⟩ _
  dsimp only at HZ a7 ⊢
  unfold RA
  refine cP (r:=R) (s:=s2) (d:=d2) (t:=t2) (p:=p2) (a8 _ _) fun m1 m2 m3 m4=>?_
  clear kW
  (refine Jv rfl<|JJ rfl rfl<|JJ rfl rfl<|JJ rfl rfl<|Jz rfl rfl fun _ _=>ao (.of rfl) (.of rfl) .here rfl rfl (ib rfl rfl m1 m2 m3 m4) (bE rfl) ak ?_;refine Ja rfl<|Ja rfl<|Jn<|Jq<|Jr<|Jv rfl<|JD rfl<|Jn<|fY rfl (fun aq=>?_) fun aq=>?_;refine Jr<|ab (aS .nil ak) rfl ?_;refine Jv rfl<|Jv rfl<|ao (.of rfl) (.of rfl) vp rfl rfl (ib rfl rfl rfl rfl rfl rfl) (bE rfl) ak ?_;refine Ja rfl<|Ja rfl<|Jn<|Ju<|Jm<|Jh<|Jh<|Jm<|Jh ?_;rotate_left;refine Jk<|Jg<|ab (cr .here) rfl ?_;refine ao (.of rfl) (.of rfl) oq rfl rfl (ib rfl rfl m1 m2 m3 m4) (bE rfl) ak ?_;refine Jx<|Jj<|Jt<|Jg<|JB rfl (by omega)<|Jv rfl<|Jn ?_;rotate_right)
  ·have hne:AZ r (ef l) i≠0:=by rw [HZ];exact aq
   have hE:jm (AZ r (ef l)) l.length=e_:=(eY Ma aN hne).trans HZ
   have e4:iq r (ef l)=(Ro.nil,((i:Nat):Int),e_):=by rw [hX,hE,if_neg aq,ML Ma aN hne]
   rw [e4]
   dsimp only
   refine aQ 186 2 ?_;refine aQ 90 3 ?_;refine aQ 187 3 ?_;refine aQ 188 3 ?_
   first | with_reducible apply aO | with_reducible apply aP
   case he=>exact lp rfl inferInstance rfl ei ak (by rfl) (by rfl) (by rfl)
   case hR=>
    intro w' az
    exact aB (.slice none 0 0,.slice none 0 0,.slice none 0 0,.slice none 0 0) trivial (by exact .cons cY (.cons bI (.cons (.there .here) (.cons .here .nil)))) az rfl
  have hz:e_=0:=Decidable.not_not.1 aq
  have W6:AZ r (ef l) i=0:=HZ.trans hz
  obtain ⟨q',vw,_⟩:=ll W6
  have SU:R=r.wp q':=a7.symm.trans vw.eq
  subst SU
  apply aL (i+1,(s2,d2,t2,p2),q') ⟨by show i+1≤_;omega,vw,fun j hj=>by
   by_cases e:j=i
   ·rw [e];exact W6
   ·exact Ma j (by have:j<i+1:=hj;omega),m1,m2,m3,m4⟩ (by show l.length-(i+1)<l.length-i;omega)
  case hs1=>exact cn
  case ht=>
   dsimp only
   have w1:(r.wp q').lv=r.lv:=rfl
   have w2:(r.wp q').ma=r.ma:=rfl
   have w3:(r.wp q').sr=r.sr:=rfl
   have w4:(r.wp q').de=r.de:=rfl
   have w5:(r.wp q').ti=r.ti:=rfl
   have w6:(r.wp q').po=q':=rfl
   unfold J1 J2 J3 J4
   rw [w1,w2,w3,w4,w5,w6]
   exact .cons .here (.cons (.there .here) (.cons (.there .here) (.cons (.there .here) (.cons (.there .here) (.cons oq .nil)))))
 ·have e:i=l.length:=by omega
  subst e
  (refine Jr<|JA rfl<|Jn<|Jq<|Jc rfl fun aq=>Jp<|Jl<|Jo<|Jt<|Jr<|ab (cr .here) rfl ?_;refine ao (.of rfl) (.of rfl) eC rfl rfl (ib rfl rfl k1 k2 k3 k4) (bE rfl) ak ?_;refine Ja rfl<|Ja rfl<|Jn<|Je ?_)
  have hE:jm (AZ r (ef l)) l.length=0:=dT.2 Ma
  have e4:iq r (ef l)=(r.wp q,0,0):=by rw [hX,hE,if_pos rfl,P1.eq]
  rw [e4]
  dsimp only
  first | with_reducible apply aO | with_reducible apply aP
  case he=>exact lp rfl inferInstance rfl .here ak (by rfl) (by rfl) (by rfl)
  case hR=>
   intro w' az
   exact aB (s1,d1,t1,p1) trivial (by exact .cons bI (.cons bI (.cons bI (.cons bI .nil)))) az rfl
theorem OR {r:Ro} {l:List Od} (h:Lq r l=0):fN r=0∧MR r l:=by
 unfold Lq at h
 by_cases c:fN r=0
 ·rw [if_neg (not_not_intro c)] at h
  exact ⟨c,YK h⟩
 ·rw [if_pos c] at h;exact absurd h c
end Go.Proofs.A1
namespace Go.SL
open Go
def yJ (l:List Oper) (m:Nat) (p:List Nat):Bool:=
 l.all mC&&sY l 0&&j8 l.toArray (l.take m) 0&&(List.range' m (l.length-m)).all (fun k=>(List.range m).all fun i=>p.any (Nat.beq i)||((ic l []).getD k 0).testBit i)&&Nat.ble m l.length
structure EN (l:List Oper) (m:Nat) (p:List Nat):Prop where
 op:∀ o∈l,mC o=true
 ac:sY l 0=true
 AY:j8 l.toArray (l.take m) 0=true
 tail:∀ k,m≤k→k<l.length→∀ i,i<m→i ∉ p→((ic l []).getD k 0).testBit i=true
 le:m≤l.length
theorem yI {l:List Oper} {m:Nat} {p:List Nat} (h:yJ l m p=true):EN l m p:=by
 simp only [yJ,Bool.and_eq_true,List.all_eq_true] at h
 obtain ⟨⟨⟨⟨h1,h2⟩,h3⟩,h5⟩,h6⟩:=h
 refine ⟨h1,h2,h3,fun k hk aN i hi hne=>?_,by simpa using h6⟩
 have:=h5 k (List.mem_range'_1.2 ⟨hk,by omega⟩) i (List.mem_range.2 hi)
 rw [Bool.or_eq_true] at this
 refine this.resolve_left fun h=>hne ?_
 obtain ⟨x,hx,hxe⟩:=List.any_eq_true.1 h
 rw [Nat.eq_of_beq_eq_true hxe];exact hx
theorem oI {l:List Oper} {m:Nat} {p:List Nat} (hc:EN l m p) {i j:Nat} {x y:Oper} (xD:i<j) (hj:j<m) (hx:l[i]? = some x) (hy:l[j]? = some y):pD l.toArray x y i=true:=by
 have:=mB hc.AY (i:=i) (j:=j) xD (by rw [List.getElem?_take,if_pos (by omega)];exact hx) (by rw [List.getElem?_take,if_pos hj];exact hy)
 simpa using this
theorem yK {l:List Oper} {m:Nat} {p:List Nat} (hc:EN l m p) {listed:Array Bool} (hsz:listed.size=l.length) (zn:DC l (Ls listed)) {i:Nat} (hi:i∈Region.ready .any l.toArray listed) (hm:m≤i):∀ j,j<m→j ∉ p→Ls listed j:=by
 intro j hj VH
 obtain ⟨o,ho,hn,hd⟩:=(dz hsz).1 hi
 have aN:i<l.length:=(List.getElem?_eq_some_iff.1 ho).1
 have C3:DC l (fun k=>k=i∨Ls listed k):=by
  intro k ok hk hL e he hb
  rcases hL with e' | hL
  ·subst e'
   rw [ho] at hk;cases hk
   exact .inr (hd e he hb)
  ·exact .inr (zn k ok hk hL e he hb)
 rcases gK C3 hc.ac i aN (.inl rfl) j (hc.tail i hm aN j hj VH) with h | h
 ·omega
 ·exact h
section
variable {P:Program} {c:Cx} {D:List Nat} {sl:aG} {hs:List ba} {Q:Exit→Act→World→Prop} {l:List Oper} {m:Nat}
theorem Lk {p:List Nat} (hc:EN l m p) (Ft:∀ q∈p,q<m→zV l q) (Uf:∀ c a w,¬ Q (.panic c) a w) {S:List cO} {nf:(Nat→Value)→aG} (Se:sH P c hs l 0 (l.take m) (fun _=>sl) [] S nf) {a0:Act} (h0:bK sl a0) (H3:a0.tmps.size=c.nt)
  (tail:∀ β a w,St c D (nf β) (dI β (fun _=>true) S 0++hs) a w→wpAnyIn (FR none) 0 P .any l.toArray Q (l.length-m) (k8 l.length m) a w) :
  ∀ (fuel:Nat) (listed:Array Bool) (a:Act) (w:World),MU c D hs l m S a0 fuel listed a w→wpAnyIn (FR none) 0 P .any l.toArray Q fuel listed a w:=by
 have hle:=hc.le
 have HY:mV sl [] (fun _=>sl) []:=fun β t v hv=>.inr ⟨fun oj h=>(List.not_mem_nil h).elim,hv⟩
 obtain ⟨Bu,_,kc,fJ⟩:=Se.spec (sl:=sl) [] rfl rfl HY
 rw [List.nil_append] at kc fJ
 rw [Nat.zero_add,List.length_take,Nat.min_eq_left hle] at Bu
 have dQ:∀ (j:Nat) (o:Oper),j<m→l[j]? = some o→(l.take m)[j]? = some o:=fun j o hj ho=>by rw [List.getElem?_take,if_pos hj];exact ho
 have fh:∀ (j:Nat) (o:Oper),(l.take m)[j]? = some o→j<m∧l[j]? = some o:=fun j o ho=>by
  rw [List.getElem?_take] at ho
  split at ho
  ·exact ⟨by assumption,ho⟩
  ·cases ho
 have NB:∀ j,j<m→∃ s,S[j]? = some s:=fun j hj=>⟨S[j]'(by omega),List.getElem?_eq_getElem (by omega)⟩
 have l6:∀ fuel listed a w,MU c D hs l m S a0 fuel listed a w→(∀ i,i<m→Ls listed i)→wpAnyIn (FR none) 0 P .any l.toArray Q fuel listed a w:=by
  intro fuel listed a w hI dR
  have hL:∀ i,i<l.length→(Ls listed i↔i<m):=fun i _=>⟨fun h=>Nat.lt_of_not_le fun hm=>hI.hi i hm h,dR i⟩
  obtain ⟨U,vW,pM,rH⟩:=hI.left
  have gP:U.Perm (List.range' m (l.length-m)):=by
   rw [List.perm_ext_iff_of_nodup vW (List.nodup_range')]
   intro i
   rw [pM i,List.mem_range'_1]
   constructor
   ·rintro ⟨h1,h2⟩
    exact ⟨Nat.le_of_not_lt fun h=>h2 (dR i h),by omega⟩
   ·rintro ⟨h1,h2⟩
    exact ⟨by omega,hI.hi i h1⟩
  have hlen:fuel=l.length-m:=by rw [← rH,gP.length_eq,List.length_range']
  have H4:listed=k8 l.length m:=by
   have uI:(k8 l.length m).size=l.length:=by simp [k8];omega
   apply Array.ext
   ·rw [hI.sz,uI]
   ·intro i h1 h2
    rw [hI.sz] at h1
    have h3:=hL i h1
    unfold Ls at h3
    rw [Array.getD_eq_getD_getElem?,Array.getElem?_eq_getElem (by rw [hI.sz];exact h1),Option.getD_some] at h3
    have h4:(k8 l.length m)[i]=decide (i<m):=by
     simp only [k8,List.getElem_toArray]
     by_cases hi:i<m
     ·rw [List.getElem_append_left (by simpa using hi)];simp [hi]
     ·rw [List.getElem_append_right (by simpa using hi)];simp [hi]
    rw [h4]
    by_cases hi:i<m
    ·rw [h3.2 hi];simp [hi]
    ·have:¬ listed[i]=true:=fun h=>hi (h3.1 h)
     simp [hi,this]
  subst hlen
  rw [H4]
  obtain ⟨β,hm,kW⟩:=hI.own
  have e:dI β (fun i=>listed.getD i false) S 0=dI β (fun _=>true) S 0:=gX fun j s hj=>by
   have gR:j<m:=by have:=(List.getElem?_eq_some_iff.1 hj).1;omega
   rw [Nat.zero_add]
   exact ⟨dR j gR,fun _=>rfl⟩
  rw [e] at hm
  refine tail β a w ⟨by rw [List.append_assoc];exact hm,fun t v hv=>?_,hI.size,hI.defers⟩
  rcases kc β t v hv with ⟨j,oj,s,h1,h2,h3,h4⟩ | ⟨h1,h2⟩
  ·obtain ⟨gR,lI⟩:=fh j oj h1
   rw [h4];exact kW j oj t s lI h2 h3 (dR j gR)
  ·rw [hI.A2 t fun j oj hj jl=>h1 oj (List.mem_of_getElem? (dQ j oj (Nat.lt_of_not_le fun hm=>hI.hi j hm jl) hj))]
   exact h0 t v h2
 intro fuel
 induction fuel with
 | zero =>
  intro listed a w hI
  obtain ⟨U,_,pM,rH⟩:=hI.left
  have hU:U=[]:=List.length_eq_zero_iff.1 rH
  refine l6 0 listed a w hI fun i hi=>Classical.byContradiction fun hn=>?_
  have:=(pM i).2 ⟨by omega,hn⟩
  rw [hU] at this;cases this
 | succ fuel ih =>
  intro listed a w hI
  by_cases dR:∀ i,i<m→Ls listed i
  ·exact l6 _ listed a w hI dR
  ·have hex:∃ i,i<m∧¬ Ls listed i:=Classical.byContradiction fun hh=>dR fun i hi=>Classical.byContradiction fun hn=>hh ⟨i,hi,hn⟩
   obtain ⟨i0,vT,oX⟩:=hex
   have main:∀ i,i∈Region.ready .any l.toArray listed→i<m→wpOpIn (FR none) 0 P l.toArray Q i (wpAnyIn (FR none) 0 P .any l.toArray Q fuel (listed.setIfInBounds i true)) a w∧(i∈p→wpAnyIn (FR none) 0 P .any l.toArray Q (fuel+1) listed a w):=by
    intro i hi oM
    obtain ⟨o,ho,hn,ln⟩:=(dz hI.sz).1 hi
    obtain ⟨d,EM,s,hd,fy,qU,su,eK⟩:=fJ i o (Nat.zero_le _) (dQ i o oM ho)
    obtain ⟨CS,CT,B,hB,hG⟩:=eK
    obtain ⟨β,hm,kW⟩:=hI.own
    have lk:∀ (j:Nat),e9 o j=true→Ls listed j:=fun j hw=>by
     obtain ⟨e,he,hb,pe⟩:=dp hw
     rw [← pe];exact ln e he hb
    have pf:∀ (j:Nat) (oj:Oper) (e:Nat),l[j]? = some oj→j<m→j≠i→oj.dst=some e→d≠e:=by
     intro j oj e hj gR hne he
     rcases Nat.lt_or_ge j i with h | h
     ·exact fun e'=>(di (oI hc h oM hj ho) he hd).1 e'.symm
     ·exact (di (oI hc (show i<j by omega) gR ho hj) hd he).1
    have iK:i<listed.size:=by rw [hI.sz];omega
    have B2:mC o=true:=hc.op o (List.mem_of_getElem? ho)
    -- zX cT Ot zX operation looks at
    have hT:∀ t∈o.looksAt l.toArray,∀ v,cI (EM β) t=some v→a.tmps[t]? = some v:=by
     intro t ht v hv
     rcases su β t v hv with ⟨j,oj,sj,h1,h2,h3,h4⟩ | ⟨h1,h2⟩
     ·have mR:j<i:=by have:=(List.getElem?_eq_some_iff.1 h1).1;rw [List.length_take] at this;omega
      rw [List.getElem?_take,if_pos mR] at h1 h3
      obtain ⟨gR,lI⟩:=fh j oj h1
      have jl:=lk j ((di (oI hc mR oM lI ho) h2 hd).2 (.inl ht))
      rw [h4];exact kW j oj t sj lI h2 h3 jl
     ·rw [hI.A2 t fun j oj hj jl ig=>?_]
      ·exact h0 t v h2
      ·have gR:j<m:=Nat.lt_of_not_le fun hm=>hI.hi j hm jl
       rcases Nat.lt_trichotomy j i with h | h | h
       ·exact h1 oj (List.mem_of_getElem? (by rw [List.getElem?_take,if_pos h];exact dQ j oj gR hj)) ig
       ·subst h;exact hn jl
       ·have hw:=(di (oI hc h gR ho hj) hd ig).2 (.inr ht)
        obtain ⟨e,he,hb,pe⟩:=dp hw
        have:=hI.dc j oj hj jl e he hb
        rw [pe] at this
        exact hn this
    have uQ:∀ t v,cI (EM β) t=some v→t<c.nt:=by
     intro t v hv
     rcases su β t v hv with ⟨j,oj,sj,h1,h2,_,_⟩ | ⟨_,h2⟩
     ·have mR:j<i:=by have:=(List.getElem?_eq_some_iff.1 h1).1;rw [List.length_take] at this;omega
      rw [List.getElem?_take,if_pos mR] at h1
      obtain ⟨d',_,_,vA,zm,_⟩:=fJ j oj (Nat.zero_le _) h1
      rw [h2] at vA;cases vA
      exact zm
     ·have:=h0 t v h2
      rw [← H3]
      exact (Array.getElem?_eq_some_iff.1 this).1
    obtain ⟨a',lo,je,_⟩:=nX hI.size uQ hT
    have zp:jw c hs (S.take i) B β w:=by
     rintro A (rfl | ⟨j,hj,sj,h1,rfl⟩)
     ·exact hm.sublist ((List.sublist_append_left _ _).trans (List.sublist_append_right _ _))
     ·have mR:j<i:=by have:=(List.getElem?_eq_some_iff.1 h1).1;rw [List.length_take] at this;omega
      rw [List.getElem?_take,if_pos mR] at h1
      have jl:=lk j (hB j hj)
      exact hm.sublist ((qz (lst:=fun i=>listed.getD i false) (i:=0) h1 (by rw [Nat.zero_add];exact jl)).append (List.sublist_append_left _ _))
    have hq:=hG β a' w lo zp
    have hex:=hP (o:=o) (ops:=l.toArray) B2 je
    -- Of a done operation Q9 Tg not SQ on this one
    have nQ:∀ j,Ls listed j→∀ x k,vk l j k=true→β k=tR β i x k:=by
     intro j jl x k hk
     refine (tQ fun e=>?_).symm
     subst e
     unfold vk at hk
     rw [Bool.or_eq_true] at hk
     rcases hk with hk | hk
     ·have:j=k:=by simpa using hk
      subst this;exact hn jl
     ·have PJ:j<l.length:=by
       have gR:j<m:=Nat.lt_of_not_le fun hm=>hI.hi j hm jl
       omega
      exact hn (gK hI.dc hc.ac j PJ jl k hk)
    have gr:∀ v w',MS i s β w v w'→wpAnyIn (FR none) 0 P .any l.toArray Q fuel (listed.setIfInBounds i true) (a.put o.dst v) w':=by
     rintro v w' ⟨x,rfl,hk,fp,kD,gZ,vU⟩
     refine ih _ _ _ ⟨by simpa using hI.sz,?_,?_,by rw [hd];exact hI.defers,by simpa [Act.put,hd] using hI.size,?_,?_,tR β i x,?_,?_⟩
     ·intro k ok re hL e he hb
      rw [cj iK] at hL ⊢
      rcases hL with e' | hL
      ·subst e'
       rw [ho] at re;cases re
       exact .inr (ln e he hb)
      ·exact .inr (hI.dc k ok re hL e he hb)
     ·intro k re hL
      rw [cj iK] at hL
      rcases hL with e | hL
      ·omega
      ·exact hI.hi k re hL
     ·intro t ht
      have h1:d≠t:=fun e=>by subst e;exact ht i o ho ((cj iK).2 (.inl rfl)) hd
      rw [hd]
      simp only [Act.put,Array.getElem?_setIfInBounds_ne h1]
      exact hI.A2 t fun j oj hj hL=>ht j oj hj ((cj iK).2 (.inr hL))
     ·obtain ⟨U,vW,pM,rH⟩:=hI.left
      refine ⟨U.erase i,vW.erase i,fun k=>?_,?_⟩
      ·rw [vW.mem_erase_iff,pM k,cj iK]
       constructor
       ·rintro ⟨h1,h2,h3⟩
        exact ⟨h2,fun h=>h.elim h1 h3⟩
       ·rintro ⟨h1,h2⟩
        exact ⟨fun e=>h2 (.inl e),h1,fun h=>h2 (.inr h)⟩
      ·have PK:i∈U:=(pM i).2 ⟨by omega,hn⟩
       rw [List.length_erase_of_mem PK,rH];rfl
     ·have lH:Mem c (s.A (tR β i x)++(dI β (fun i=>listed.getD i false) S 0++(hs++lX D))) w':=Mem.ND (As:=[]) hm fun rJ _ hf=>by
       rw [show rJ=[] from hf]
       exact ⟨hk,fp,kD,gZ,fun b hb=>.inr (vU b hb)⟩
      have e1:dI β (fun i=>listed.getD i false) S 0=dI (tR β i x) (fun i=>listed.getD i false) S 0:=gX fun j sj hj=>by
       refine ⟨rfl,fun hl=>?_⟩
       rw [Nat.zero_add] at hl
       have gR:j<m:=by have:=(List.getElem?_eq_some_iff.1 hj).1;omega
       obtain ⟨oj,H0⟩:∃ oj,l[j]? = some oj:=⟨l[j]'(by omega),List.getElem?_eq_getElem (by omega)⟩
       obtain ⟨_,_,s2,_,_,hs2,_,uM⟩:=fJ j oj (Nat.zero_le _) (dQ j oj gR H0)
       rw [hj] at hs2;cases hs2
       exact uM.CT _ _ (nQ j hl x)
      rw [e1,← List.append_assoc] at lH
      refine lH.perm ((qB (k:=i) qU ?_ ?_ ?_).append_right _)
      ·rw [Nat.zero_add]
       show listed.getD i false=false
       have:¬ listed.getD i false=true:=hn
       simpa using this
      ·rw [Nat.zero_add];exact (cj iK).2 (.inl rfl)
      ·intro j hj
       rw [Nat.zero_add] at hj
       simp [Array.getD_eq_getD_getElem?,Array.getElem?_setIfInBounds_ne (Ne.symm hj)]
     ·intro j oj e sj hj he jo hL
      rw [cj iK] at hL
      by_cases mR:j=i
      ·subst mR
       rw [ho] at hj;cases hj
       rw [hd] at he;cases he
       rw [qU] at jo;cases jo
       rw [hd]
       simp [Act.put,hI.size,fy]
      ·have Ab:=hL.resolve_left mR
       have gR:j<m:=Nat.lt_of_not_le fun hm=>hI.hi j hm Ab
       obtain ⟨_,_,s2,_,_,hs2,_,uM⟩:=fJ j oj (Nat.zero_le _) (dQ j oj gR hj)
       rw [jo] at hs2;cases hs2
       rw [hd]
       simp only [Act.put,Array.getElem?_setIfInBounds_ne (pf j oj e hj gR mR he)]
       rw [← uM.CS _ _ (nQ j Ab x)]
       exact kW j oj e sj hj he jo Ab
    have Nn:=hq
    refine ⟨?_,fun Sx=>?_⟩
    rotate_left
    ·obtain ⟨d',x',k',Up,pos',WD,Bl,Pt,eF⟩:=Ft i Sx oM
     rw [ho] at Bl;cases Bl
     rw [if_pos (by simp [Region.wanted])] at Nn
     unfold qf at Nn
     obtain ⟨v,hv,Bt⟩:=Bz Nn
     have vU:Region.free .any l.toArray listed i=true:=xH eF fun j hj hne hb=>by
      have lI:j<l.length:=by simpa using hj
      have dw:((ic l []).getD i 0).testBit j=true:=by
       rw [Array.getD_eq_getD_getElem?] at hb
       simpa [lI] using hb
      have VG:j<listed.size:=by rw [hI.sz];exact lI
      rcases wZ hc.ac hI.sz hI.dc hi dw with e | hL
      ·exact absurd e hne
      ·unfold Ls at hL
       rw [Array.getD_eq_getD_getElem?,Array.getElem?_eq_getElem VG] at hL ⊢
       exact hL
     refine wpAnyIn_take (oi:=⟨some d',.extract x' k',Up,pos',WD,none⟩) (v:=v) rfl (by simpa using ho) Pt vU (by simpa using hi) (fun c a w h=>(Uf c _ w h).elim) ⟨.inl ⟨by simp [Region.wanted],fun w2=>by rw [← hex];exact Bt w2⟩,fun w2=>rfl⟩ (gr v w hv)
    unfold wpOpIn
    rw [show l.toArray[i]? = some o from by simpa using ho]
    simp only []
    rw [gD je] at hq
    split
    ·rename_i hw
     rw [if_pos hw] at hq
     refine ⟨dE _ _ _ _ _,?_⟩
     rw [Oper.semAt_eq _ _ _ (fun cc he=>by simp [mC,he] at B2),← hex]
     unfold qf at hq
     revert hq
     generalize (execOp a'.eval o).run P w=res
     intro hq
     match res,hq with
     | .ok (.value v) w',hq=>exact gr v w' hq
     | .ok (.enter f args) w', ⟨e, ch⟩ =>
      subst e
      refine ⟨by simp [FR,Fence.wide],(gQ ch).mono fun e vH h=>?_⟩
      obtain ⟨v,rfl,hq⟩:=h
      exact gr v vH hq
    ·rename_i hw
     rw [if_neg hw] at hq
     exact ⟨fun _ _=>trivial,gr undef w hq⟩
   by_cases hp:∃ q,q∈p∧q<m∧q∈Region.ready .any l.toArray listed
   ·obtain ⟨q,LZ,xA,Sb⟩:=hp
    exact (main q Sb xA).2 LZ
   ·refine ⟨fun hr=>?_,fun i hi=>?_⟩
    ·obtain ⟨i,hi⟩:=iR hI.sz hc.ac ⟨i0,by omega,oX⟩
     rw [hr] at hi;cases hi
    ·have oM:i<m:=Nat.lt_of_not_le fun hm=>by
      have Kk:=yK hc hI.sz hI.dc hi hm
      have Bt:∀ q,q<m→Ls listed q:=by
       intro q
       induction q using Nat.strongRecOn with
       | _ q ih =>
        intro Vd
        by_cases LY:q∈p
        ·by_cases Xy:Ls listed q
         ·exact Xy
         ·refine absurd ⟨q,LY,Vd,(dz hI.sz).2 ⟨l[q]'(by omega),List.getElem?_eq_getElem (by omega),Xy,fun e he hb=>?_⟩⟩ hp
          have aN:=jv hc.ac (List.getElem?_eq_getElem (show q<l.length by omega)) e he hb
          exact ih e.on (by omega) (by omega)
        ·exact Kk q Vd LY
      exact oX (Bt i0 vT)
     exact (main i hi oM).1
theorem wC {id:Nat} (m:Nat) (p:List Nat) [pJ:Qv P] (jd:yJ l m p=true) (Ft:∀ q∈p,zV l q) (k:oy P c D hs l Q m 0 m l (fun _=>sl) []):Tr c D sl hs (WP P none (.region id l.toArray true) Q):=fun a w a7=>by
 obtain ⟨S,nf,hp,ht⟩:=k
 have h:(Code.region id l.toArray true).wpIn (FR none) 0 P (NP Q) a w:=wpIn_region_any pJ.eq (by
  refine Lk (p:=p) (yI jd) (fun q hq _=>Ft q hq) (fun c a w h=>h.elim) hp a7.cT a7.size (fun β a w a7=>ht β a w a7) l.toArray.size _ _ _ ⟨by simp,?_,?_,a7.defers,a7.size,fun t _=>rfl,?_,fun _=>undef,?_,?_⟩
  ·exact fun k o _ hL=>absurd hL (eJ _ _)
  ·exact fun k _ hL=>eJ _ _ hL
  ·exact ⟨List.range l.length,List.nodup_range,fun i=>⟨fun h=>⟨by simpa using h,eJ _ _⟩,fun h=>by simpa using h.1⟩,by simp⟩
  ·have e:∀ (T:List cO) (i:Nat),dI (fun _=>undef) (fun i=>(Array.replicate l.toArray.size false).getD i false) T i=[]:=by
    intro T
    induction T with
    | nil=>intro i;rfl
    | cons s T ih =>
     intro i
     have:=eJ l.toArray.size i
     unfold Ls at this
     unfold dI
     rw [if_neg this,ih];rfl
   rw [e]
   exact a7.mem.drew
  ·exact fun j o d s _ _ _ hL=>absurd hL (eJ _ _))
 exact wpIn_mono h fun e a' w' h=>by
  cases e with
  | panic c=>exact h.elim
  | _=>exact h
end
theorem tq {l:List Oper} {p d k:Nat} {x:Operand} {ty:TypeId} {pos:String} {af:Array Edge} (h:l[p]? = some ⟨some d,.extract x k,ty,pos,af,none⟩) (h2:Region.noSelect l.toArray=true) (h3:Region.free .any l.toArray ((List.range l.length).map fun j=>((ic l []).getD p 0).testBit j).toArray p=true):zV l p:=⟨d,x,k,ty,pos,af,h,h2,h3⟩
end Go.SL
namespace Go.Proofs.A1
open Go Go.SL
def g4:Value→Value×Value×Value×Value
 | .agg a=>(a.getD 0 (.slice none 0 0),a.getD 1 (.slice none 0 0),a.getD 2 (.slice none 0 0),a.getD 3 (.slice none 0 0))
 | _=>(.slice none 0 0,.slice none 0 0,.slice none 0 0,.slice none 0 0)
theorem uX (x:Value×Value×Value×Value):∃ v,g4 v=x:=⟨.agg #[x.1,x.2.1,x.2.2.1,x.2.2.2],rfl⟩
def GF (r:Ro) (o:ByteArray) (f:Int):Int:=aV [pn r o,fR f 0 10000000]
def qu (r:Ro) (l:List Od) (o:ByteArray) (f:Int):Int:=if Lq r l≠0 then Lq r l else if GF r o f≠0 then GF r o f else (iq r (l.take (gT l f))).2.2
def sM (r:Ro) (l:List Od) (o:ByteArray) (f:Int):List ByteArray:=if qu r l o f≠0 then [] else cu (iq r (l.take (gT l f))).1 o
theorem LP (l:List oZ) (f:Int):gA (fun x:oZ=>decide (f<x.fr)) l=if gT (ef l) f<l.length then ((gT (ef l) f:Nat):Int) else -1:=by
 have hn:gT (ef l) f=l.findIdx fun x=>decide (f<x.fr):=by
  unfold gT ef
  rw [List.findIdx_map];rfl
 rw [hn]
 by_cases c:(l.findIdx fun x=>decide (f<x.fr))<l.length
 ·rw [if_pos c]
  refine fT (fun i hi=>?_) c (List.findIdx_getElem (w:=c))
  have:=List.not_of_lt_findIdx hi
  rw [List.getElem?_eq_getElem (by omega)]
  simpa using this
 ·rw [if_neg c]
  refine fm fun i hi=>?_
  have:=List.not_of_lt_findIdx (p:=fun x:oZ=>decide (f<x.fr)) (xs:=l) (i:=i) (by omega)
  rw [List.getElem?_eq_getElem hi]
  simpa using this
theorem MR.take {r:Ro} {l:List Od} (h:MR r l) (n:Nat):MR r (l.take n):=by
 refine ⟨by rw [List.length_take];have:=h.C8;omega,fun k hk=>?_,fun i j hi hj xD=>?_,fun k hk=>?_⟩
 ·rw [List.length_take] at hk;rw [List.getElem_take];exact h.fr k (by omega)
 ·rw [List.length_take] at hi hj;rw [List.getElem_take,List.getElem_take];exact h.inc i j (by omega) (by omega) xD
 ·rw [List.length_take] at hk;rw [List.getElem_take];exact h.tk k (by omega)
theorem DS {r:Ro} {l:List Od} (hc:fN r=0) (hO:MR r l) (h:(iq r l).2.2=0):∃ q,iL r q∧(iq r l).1=r.wp q:=by
 unfold iq at h ⊢
 by_cases c:jm (AZ r l) l.length=0
 ·rw [if_pos c]
  obtain ⟨q,hq⟩:=GS hc hO l.length (Nat.le_refl _) (dT.1 c)
  exact ⟨q,hq.val,hq.eq⟩
 ·rw [if_neg c] at h;exact absurd h c
set_option maxHeartbeats 2000000 in
theorem Qt {r:Ro} {s d t p kv:Value} {l:List oZ} (o:ByteArray) (f:Int) {w:World} (h:RR w r s d t p) (cJ:mP r) (hw:Rd w kv 2 (r8 l)) (hM:F5 w l) :
  bd Tryz.prog 64 [RA r s d t p,kv,.string o,.int .i64 f] w [] (fun _:Value=>True) (fun v=>.tuple #[v,.int .i64 (qu r (ef l) o f)]) (fun v=>[row 9 1 v (sM r (ef l) o f).length (aM (sM r (ef l) o f))]):=by
 have h1:=Rd.one h.sr
 have h2:=Rd.one h.de
 have h3:=Rd.one h.ti
 have h4:=Rd.one h.po
 have B1:=hw
 obtain ⟨a,cp,b,ow,rfl,df,bO,ha,hc⟩:=hw
 rw [kC] at *
 unfold maxLen at bO
 have tB:=tu l
 have HZ:∀ w',aF [] w w'→aj Tryz.prog 171 [.agg #[.int .i64 r.lv,.int .i64 r.ma,s,d,t,p],.slice a l.length cp] w' (.int .i64 (Lq r (ef l))):=fun w' hk=>wa (h.keeps hk) cJ (B1.keeps hk) (hM.keeps hk)
 have lO:∀ w',aF [] w w'→aj Tryz.prog 112 [.agg #[.int .i64 r.lv,.int .i64 r.ma,s,d,t,p],.string o] w' (.int .i64 (pn r o)):=fun w' hk=>ek o (h.keeps hk)
 unfold RA
 refine aR Tryz.func64 rfl rfl ?_
 (refine Jr<|Jy rfl rfl fun _ _=>Jy rfl rfl fun _ _=>Ja rfl<|Ja rfl<|Jn<|Jq<|Jr<|ab (cr (.there .here)) rfl ?_;refine Jv rfl<|ag aZ rfl (fun w' az=>(HZ w' (Mem.keeps az))) ?_;refine Ja rfl<|Ji<|Jv rfl<|JD rfl<|Jn<|fY rfl (fun aq=>?_) fun aq=>?_;refine Jr<|Jv rfl<|Ja rfl<|Ja rfl<|Jn<|Ju ?_;rotate_left;refine Jk<|Jq<|Jq ?_;rotate_right)
 ·have e1:qu r (ef l) o f=Lq r (ef l):=if_pos aq
  have e2:sM r (ef l) o f=[]:=if_pos (by rw [e1];exact aq)
  rw [e1,e2]
  refine aQ 9 1 ?_
  first | with_reducible apply aO | with_reducible apply aP
  case he=>exact fL rfl rfl rfl
  case hR=>
   intro w' az
   exact aB (.slice none 0 0) trivial (by exact .cons .here .nil) az rfl
 have QS:qu r (ef l) o f=if GF r o f≠0 then GF r o f else (iq r ((ef l).take (gT (ef l) f))).2.2:=if_neg aq
 obtain ⟨B4,hO⟩:=OR (Decidable.not_not.1 aq)
 clear aq
 rename_i b4 vC b7 SM
 with_reducible refine cQ 6 (by kernel_rfl) ?_
 (refine an (cr (.there .here)) rfl ?_;refine an lx rfl ?_;refine aU aZ rfl (fun w' az=>(lO w' (Mem.keeps az))) ?_;refine an (gp .here) rfl ?_;refine aU dK rfl (fun w' az=>(lQ f 0 10000000 w')) ?_;refine en (aA (.cons (.of rfl) (.cons (.of rfl) .nil)) rfl rfl rfl rfl) rfl rfl ?_)
 with_reducible refine dy rfl fun bq mT=>?_
 (refine ag bC rfl (fun w' az=>(dF (Mem.dh az .here rfl rfl) (bU.cons (bU.cons bU.nil)))) ?_;refine Ja rfl<|Ji<|Jv rfl<|JD rfl<|Jn<|fY rfl (fun aq=>?_) fun aq=>?_;refine Jr<|Jv rfl<|Ja rfl<|Ja rfl<|Jn<|Ju ?_;rotate_left;refine Jk<|Jr<|Jv rfl<|ab (bn .nil (.cons (.of rfl) .nil)) rfl ?_;rotate_right)
 ·have e1:qu r (ef l) o f=GF r o f:=by rw [QS];exact if_pos aq
  have e2:sM r (ef l) o f=[]:=if_pos (by rw [e1];exact aq)
  rw [e1,e2]
  refine aQ 9 1 ?_
  first | with_reducible apply aO | with_reducible apply aP
  case he=>exact fL rfl rfl rfl
  case hR=>
   intro w' az
   exact aB (.slice none 0 0) trivial (by exact .cons .here .nil) az rfl
 have XK:qu r (ef l) o f=(iq r ((ef l).take (gT (ef l) f))).2.2:=by rw [QS];exact if_neg aq
 clear QS
 have QS:=XK
 have hsd:o∈cm r:=by
  have:=(bH (by decide)).1 (cg.1 (Decidable.not_not.1 aq) (pn r o) (by simp))
  rwa [decide_eq_false_iff_not,bT,Classical.not_not] at this
 clear aq XK
 with_reducible apply ag
 case hr=>exact aZ
 case hd=>rfl
 case hc=>
  intro w' az
  have f7:w'.cell? ⟨b7,0,none⟩=some (.int .i64 f):=At.lit (by exact Take.there .here) rfl w' az
  exact LR (f:=174) (p:=fun x:oZ=>decide (f<x.fr)) (first:=[]) (cap:=[.pointer (some ⟨b7,0,none⟩)]) (B1.keeps az.keeps) (fun x _ w2 ez=>K0 (cd f7 rfl ez))
 rw [LP]
 have Pk:=Ol (ef l) f
 rw [tB] at Pk
 by_cases jY:gT (ef l) f<l.length
 ·rw [if_pos jY]
  have Ph:gT (ef l) f≤l.length:=Pk
  have Pj:gT (ef l) f=gT (ef l) f:=rfl
  refine Ja rfl<|Jn<|Jq<|Jr<|Jv rfl<|JA rfl<|Jn<|Jc rfl fun aq=>Jk<|Jq ?_
  have uJ:qu r (ef l) o f=(iq r ((ef l).take (gT (ef l) f))).2.2∧sM r (ef l) o f=if (iq r ((ef l).take (gT (ef l) f))).2.2≠0 then [] else cu (iq r ((ef l).take (gT (ef l) f))).1 o:=by
   have x1:qu r (ef l) o f=(iq r ((ef l).take (gT (ef l) f))).2.2:=by rw [QS,Pj]
   refine ⟨x1,?_⟩
   unfold sM
   rw [x1,Pj]
  have P2:=hO.take (gT (ef l) f)
  have pe:(ef l).take (gT (ef l) f)=ef (l.take (gT (ef l) f)):=by unfold ef;rw [List.map_take]
  rw [pe] at uJ P2
  have uL:=DS B4 P2
  have uK:Rd w (Go.sliced a 0 (((gT (ef l) f):Nat):Int).toNat cp 2) 2 (r8 (l.take (gT (ef l) f))):=by
   have:=B1.sliced (l:=0) (m:=(gT (ef l) f)) (Nat.zero_le _) Ph
   rw [Int.toNat_natCast]
   rwa [List.drop_zero,show (r8 l).take (gT (ef l) f)=r8 (l.take (gT (ef l) f)) by unfold r8;rw [List.map_take]] at this
  have Wj:F5 w (l.take (gT (ef l) f)):=fun x hx=>hM x (List.mem_of_mem_take hx)
  rw [uJ.1,uJ.2]
  have qN:∀ w',aF [] w w'→bd Tryz.prog 172 [.agg #[.int .i64 r.lv,.int .i64 r.ma,s,d,t,p],Go.sliced a 0 (((gT (ef l) f):Nat):Int).toNat cp 2] w' [] (fun _:Value×Value×Value×Value=>True) (fun x=>.tuple #[RA (iq r (ef (l.take (gT (ef l) f)))).1 x.1 x.2.1 x.2.2.1 x.2.2.2,.int .i64 (iq r (ef (l.take (gT (ef l) f)))).2.1,.int .i64 (iq r (ef (l.take (gT (ef l) f)))).2.2]) (fun x=>rb (iq r (ef (l.take (gT (ef l) f)))).1 x):=fun w' hk=>M4 (h.keeps hk) B4 (uK.keeps hk) (Wj.keeps hk) P2
  generalize iq r (ef (l.take (gT (ef l) f)))=R at uL qN ⊢
  obtain ⟨R,at_,e_⟩:=R
  dsimp only at uL qN ⊢
  with_reducible refine wC 10 [7,8] (by kernel_rfl) (List.forall_mem_cons.2 ⟨tq rfl (by kernel_rfl) (by kernel_rfl),List.forall_mem_cons.2 ⟨tq rfl (by kernel_rfl) (by kernel_rfl),fun _ h=>absurd h List.not_mem_nil⟩⟩) ?_
  (refine au (fun β=>(cF (.of rfl) bI ak (by rfl))) du rfl ?_;refine au (fun β=>(aY (.of rfl))) du rfl ?_;refine au (fun β=>(aY (.of rfl))) du rfl ?_;refine au (fun β=>(gI (.of rfl) (.of rfl) (by omega) (by omega))) du rfl ?_)
  dsimp only [Nat.zero_add,Nat.reduceAdd]
  with_reducible apply fb (ι:=Value×Value×Value×Value) (Φ:=fun _=>True) (val:=fun x=>.tuple #[.agg #[.int .i64 R.lv,.int .i64 R.ma,x.1,x.2.1,x.2.2.1,x.2.2.2],.int .i64 at_,.int .i64 e_]) (own:=fun x=>[J1 R x.1,J2 R x.2.1,J3 R x.2.2.1,J4 R x.2.2.2]) (g:=g4) (B:=[]) (args:=fun _=>[.agg #[.int .i64 r.lv,.int .i64 r.ma,s,d,t,p],Go.sliced a 0 (((gT (ef l) f):Nat):Int).toNat cp 2])
  case hg=>exact uX
  case hB=>rfl
  case hr=>exact fun β=>bh (.of rfl) (.cons (.of rfl) (.cons (.of rfl) .nil)) inferInstance rfl
  case hd=>rfl
  case hc=>exact fun β w' hb=>qN w' hb.mem.keeps
  dsimp only [Nat.reduceAdd]
  with_reducible apply au
  case hr=>(intro β;exact aY (.of rfl))
  case hi=>exact fun β β' h=>by simp only [h 4 (by kernel_rfl)]
  case hd=>rfl
  dsimp only [Nat.reduceAdd]
  with_reducible apply au
  case hr=>(intro β;exact dG (.of rfl) rfl)
  case hi=>exact fun β β' h=>by simp only [h 4 (by kernel_rfl)]
  case hd=>rfl
  dsimp only [Nat.reduceAdd]
  (refine au (fun β=>(dG (.of rfl) rfl)) du rfl ?_;refine au (fun β=>(dG (.of rfl) rfl)) du rfl ?_)
  refine kP (fun β=>(uk rfl)) (fun _ _ _=>rfl) rfl ?_
  refine fC fun β=>?_
  dsimp only [eI,List.nil_append,List.cons_append,List.append_eq,Nat.reduceAdd]
  generalize eQ (β 9)=Qn
  generalize g4 (β 4)=y
  obtain ⟨s1,d1,t1,p1⟩:=y
  clear β
  dsimp only
  refine cP (r:=R) (s:=s1) (d:=d1) (t:=t1) (p:=p1) (by unfold rb PB;exact .cons .here (.cons .here (.cons .here (.cons .here .nil)))) fun m1 m2 m3 m4=>?_
  refine cV (rs:=[10]) (by kernel_rfl) (by simp) (List.forall_mem_cons.2 ⟨?_,fun _ h=>absurd h List.not_mem_nil⟩)
  refine c6 rfl ?_
  (refine ao (.of rfl) (.of rfl) ei rfl rfl (ib rfl rfl m1 m2 m3 m4) (bE rfl) ak ?_;refine Jn ?_)
  refine cV (rs:=[11]) (by kernel_rfl) (by simp) (List.forall_mem_cons.2 ⟨?_,fun _ h=>absurd h List.not_mem_nil⟩)
  refine c6 rfl ?_
  refine Ja rfl<|Jn ?_
  refine cV (rs:=[12]) (by kernel_rfl) (by simp) (List.forall_mem_cons.2 ⟨?_,fun _ h=>absurd h List.not_mem_nil⟩)
  refine c6 rfl ?_
  refine Ja rfl<|Jn ?_
  with_reducible refine cW (by kernel_rfl) ?_
  clear qN
  by_cases z8:e_=0
  ·obtain ⟨q,We,SU⟩:=uL z8
   clear uL
   rw [if_neg (not_not_intro z8)]
   subst SU
   subst z8
   have Sg:=(xj B4).wp We
   have zi:=Sg.lim
   have zj:=Sg.len
   (refine Jt<|Jq<|Jr<|Jv rfl<|JD rfl<|Jn<|Jc rfl fun aq=>Jk<|Jr<|ab (cr .here) rfl ?_;refine Jv rfl ?_)
   have Vr:(cu (r.wp q) o).length=(r.wp q).lv.toNat:=by unfold cu;simp
   rw [Vr]
   generalize r.wp q=R at *
   refine JN aZ rfl (fun w1 aJ=>uS (r:=R) o ⟨cE aJ (by exact Take.there .here) rfl,cG aJ bI rfl,cD aJ cY rfl,cy aJ ei rfl⟩ (by omega) (by omega)) ?_
   intro hv _
   dsimp only [id_eq,List.cons_append,List.nil_append]
   refine aW (E:=9) (sz:=1) (v:=hv) (by exact .here) fun va vc e=>?_
   subst e
   refine Ja rfl<|Ja rfl<|Jn<|Je ?_
   first | with_reducible apply aO | with_reducible apply aP
   case he=>exact fL rfl rfl rfl
   case hR=>
    intro w' az
    exact aB (.slice va R.lv.toNat vc) trivial (by exact .cons .here .nil) az rfl
  ·clear uL
   rw [if_pos z8]
   refine Jt<|Jq<|Jr<|Jv rfl<|JD rfl<|Jn<|Jd rfl fun aq=>Jr<|Jv rfl<|Ja rfl<|Ja rfl<|Jn<|Ju ?_
   refine aQ 9 1 ?_
   first | with_reducible apply aO | with_reducible apply aP
   case he=>exact fL rfl rfl rfl
   case hR=>
    intro w' az
    exact aB (.slice none 0 0) trivial (by exact .cons .here .nil) az rfl
 ·rw [if_neg jY]
  have Ph:l.length≤l.length:=Nat.le_refl _
  have Pj:gT (ef l) f=l.length:=by omega
  refine Ja rfl<|Jn<|Jq<|Jr<|Jv rfl<|JA rfl<|Jn<|Jd rfl fun aq=>Jg<|Jv rfl<|JI rfl<|Ja rfl<|Jn<|Jq ?_
  have uJ:qu r (ef l) o f=(iq r ((ef l).take l.length)).2.2∧sM r (ef l) o f=if (iq r ((ef l).take l.length)).2.2≠0 then [] else cu (iq r ((ef l).take l.length)).1 o:=by
   have x1:qu r (ef l) o f=(iq r ((ef l).take l.length)).2.2:=by rw [QS,Pj]
   refine ⟨x1,?_⟩
   unfold sM
   rw [x1,Pj]
  have P2:=hO.take l.length
  have pe:(ef l).take l.length=ef (l.take l.length):=by unfold ef;rw [List.map_take]
  rw [pe] at uJ P2
  have uL:=DS B4 P2
  have uK:Rd w (Go.sliced a 0 ((l.length:Nat):Int).toNat cp 2) 2 (r8 (l.take l.length)):=by
   have:=B1.sliced (l:=0) (m:=l.length) (Nat.zero_le _) Ph
   rw [Int.toNat_natCast]
   rwa [List.drop_zero,show (r8 l).take l.length=r8 (l.take l.length) by unfold r8;rw [List.map_take]] at this
  have Wj:F5 w (l.take l.length):=fun x hx=>hM x (List.mem_of_mem_take hx)
  rw [uJ.1,uJ.2]
  have qN:∀ w',aF [] w w'→bd Tryz.prog 172 [.agg #[.int .i64 r.lv,.int .i64 r.ma,s,d,t,p],Go.sliced a 0 ((l.length:Nat):Int).toNat cp 2] w' [] (fun _:Value×Value×Value×Value=>True) (fun x=>.tuple #[RA (iq r (ef (l.take l.length))).1 x.1 x.2.1 x.2.2.1 x.2.2.2,.int .i64 (iq r (ef (l.take l.length))).2.1,.int .i64 (iq r (ef (l.take l.length))).2.2]) (fun x=>rb (iq r (ef (l.take l.length))).1 x):=fun w' hk=>M4 (h.keeps hk) B4 (uK.keeps hk) (Wj.keeps hk) P2
  generalize iq r (ef (l.take l.length))=R at uL qN ⊢
  obtain ⟨R,at_,e_⟩:=R
  dsimp only at uL qN ⊢
  with_reducible refine wC 10 [7,8] (by kernel_rfl) (List.forall_mem_cons.2 ⟨tq rfl (by kernel_rfl) (by kernel_rfl),List.forall_mem_cons.2 ⟨tq rfl (by kernel_rfl) (by kernel_rfl),fun _ h=>absurd h List.not_mem_nil⟩⟩) ?_
  (refine au (fun β=>(cF (.of rfl) bI ak (by rfl))) du rfl ?_;refine au (fun β=>(aY (.of rfl))) du rfl ?_;refine au (fun β=>(aY (.of rfl))) du rfl ?_;refine au (fun β=>(gI (.of rfl) (.of rfl) (by omega) (by omega))) du rfl ?_)
  dsimp only [Nat.zero_add,Nat.reduceAdd]
  with_reducible apply fb (ι:=Value×Value×Value×Value) (Φ:=fun _=>True) (val:=fun x=>.tuple #[.agg #[.int .i64 R.lv,.int .i64 R.ma,x.1,x.2.1,x.2.2.1,x.2.2.2],.int .i64 at_,.int .i64 e_]) (own:=fun x=>[J1 R x.1,J2 R x.2.1,J3 R x.2.2.1,J4 R x.2.2.2]) (g:=g4) (B:=[]) (args:=fun _=>[.agg #[.int .i64 r.lv,.int .i64 r.ma,s,d,t,p],Go.sliced a 0 ((l.length:Nat):Int).toNat cp 2])
  case hg=>exact uX
  case hB=>rfl
  case hr=>exact fun β=>bh (.of rfl) (.cons (.of rfl) (.cons (.of rfl) .nil)) inferInstance rfl
  case hd=>rfl
  case hc=>exact fun β w' hb=>qN w' hb.mem.keeps
  dsimp only [Nat.reduceAdd]
  with_reducible apply au
  case hr=>(intro β;exact aY (.of rfl))
  case hi=>exact fun β β' h=>by simp only [h 4 (by kernel_rfl)]
  case hd=>rfl
  dsimp only [Nat.reduceAdd]
  with_reducible apply au
  case hr=>(intro β;exact dG (.of rfl) rfl)
  case hi=>exact fun β β' h=>by simp only [h 4 (by kernel_rfl)]
  case hd=>rfl
  dsimp only [Nat.reduceAdd]
  (refine au (fun β=>(dG (.of rfl) rfl)) du rfl ?_;refine au (fun β=>(dG (.of rfl) rfl)) du rfl ?_)
  refine kP (fun β=>(uk rfl)) (fun _ _ _=>rfl) rfl ?_
  refine fC fun β=>?_
  dsimp only [eI,List.nil_append,List.cons_append,List.append_eq,Nat.reduceAdd]
  generalize eQ (β 9)=Qn
  generalize g4 (β 4)=y
  obtain ⟨s1,d1,t1,p1⟩:=y
  clear β
  dsimp only
  refine cP (r:=R) (s:=s1) (d:=d1) (t:=t1) (p:=p1) (by unfold rb PB;exact .cons .here (.cons .here (.cons .here (.cons .here .nil)))) fun m1 m2 m3 m4=>?_
  refine cV (rs:=[10]) (by kernel_rfl) (by simp) (List.forall_mem_cons.2 ⟨?_,fun _ h=>absurd h List.not_mem_nil⟩)
  refine c6 rfl ?_
  (refine ao (.of rfl) (.of rfl) ei rfl rfl (ib rfl rfl m1 m2 m3 m4) (bE rfl) ak ?_;refine Jn ?_)
  refine cV (rs:=[11]) (by kernel_rfl) (by simp) (List.forall_mem_cons.2 ⟨?_,fun _ h=>absurd h List.not_mem_nil⟩)
  refine c6 rfl ?_
  refine Ja rfl<|Jn ?_
  refine cV (rs:=[12]) (by kernel_rfl) (by simp) (List.forall_mem_cons.2 ⟨?_,fun _ h=>absurd h List.not_mem_nil⟩)
  refine c6 rfl ?_
  refine Ja rfl<|Jn ?_
  with_reducible refine cW (by kernel_rfl) ?_
  clear qN
  by_cases z8:e_=0
  ·obtain ⟨q,We,SU⟩:=uL z8
   clear uL
   rw [if_neg (not_not_intro z8)]
   subst SU
   subst z8
   have Sg:=(xj B4).wp We
   have zi:=Sg.lim
   have zj:=Sg.len
   (refine Jt<|Jq<|Jr<|Jv rfl<|JD rfl<|Jn<|Jc rfl fun aq=>Jk<|Jr<|ab (cr .here) rfl ?_;refine Jv rfl ?_)
   have Vr:(cu (r.wp q) o).length=(r.wp q).lv.toNat:=by unfold cu;simp
   rw [Vr]
   generalize r.wp q=R at *
   refine JN aZ rfl (fun w1 aJ=>uS (r:=R) o ⟨cE aJ (by exact Take.there .here) rfl,cG aJ bI rfl,cD aJ cY rfl,cy aJ ei rfl⟩ (by omega) (by omega)) ?_
   intro hv _
   dsimp only [id_eq,List.cons_append,List.nil_append]
   refine aW (E:=9) (sz:=1) (v:=hv) (by exact .here) fun va vc e=>?_
   subst e
   refine Ja rfl<|Ja rfl<|Jn<|Je ?_
   first | with_reducible apply aO | with_reducible apply aP
   case he=>exact fL rfl rfl rfl
   case hR=>
    intro w' az
    exact aB (.slice va R.lv.toNat vc) trivial (by exact .cons .here .nil) az rfl
  ·clear uL
   rw [if_pos z8]
   refine Jt<|Jq<|Jr<|Jv rfl<|JD rfl<|Jn<|Jd rfl fun aq=>Jr<|Jv rfl<|Ja rfl<|Ja rfl<|Jn<|Ju ?_
   refine aQ 9 1 ?_
   first | with_reducible apply aO | with_reducible apply aP
   case he=>exact fL rfl rfl rfl
   case hR=>
    intro w' az
    exact aB (.slice none 0 0) trivial (by exact .cons .here .nil) az rfl
end Go.Proofs.A1
namespace Go.Proofs
open Go.Shelf
def Tryz.si:Go.Shelf.Ren:=⟨fun | 156=>278 | 165=>326 | 166=>327 | 169=>328 | 240=>357 | 241=>358 | 276=>379 | 277=>380 | n=>n,fun | 31=>32 | 9=>9 | 3=>3 | 4=>4 | 0=>0 | 20=>20 | 72=>397 | 76=>401 | 70=>395 | 37=>351 | 75=>400 | 127=>421 | 164=>437 | 5=>5 | 80=>197 | n=>n,fun | n=>n⟩
theorem Tryz.Ec:Go.Proofs.Lays.n156 Tryz.prog Tryz.si:={
 mixed:=by kernel_rfl
 f156:=Tryz.func278.trans (congrArg some (by kernel_rfl))
 f165:=Tryz.func326.trans (congrArg some (by kernel_rfl))
 f166:=Tryz.func327.trans (congrArg some (by kernel_rfl))
 f169:=Tryz.func328.trans (congrArg some (by kernel_rfl))
 f240:=Tryz.func357.trans (congrArg some (by kernel_rfl))
 f241:=Tryz.func358.trans (congrArg some (by kernel_rfl))
 f276:=Tryz.func379.trans (congrArg some (by kernel_rfl))
 f277:=Tryz.func380.trans (congrArg some (by kernel_rfl))
 t0:=Tryz.underlying0
 a0:=Tryz.isAgg0
 z0:=Tryz.sizeOf0
 v0:=Tryz.zeroValue0
 t3:=Tryz.underlying3
 a3:=Tryz.isAgg3
 z3:=Tryz.sizeOf3
 v3:=Tryz.zeroValue3
 t4:=Tryz.underlying4
 a4:=Tryz.isAgg4
 z4:=Tryz.sizeOf4
 v4:=Tryz.zeroValue4
 t9:=Tryz.underlying9
 a9:=Tryz.isAgg9
 z9:=Tryz.sizeOf9
 v9:=Tryz.zeroValue9
 t20:=Tryz.underlying20
 a20:=Tryz.isAgg20
 z20:=Tryz.sizeOf20
 v20:=Tryz.zeroValue20
 t31:=Tryz.underlying32
 a31:=Tryz.isAgg32
 z31:=Tryz.sizeOf32
 v31:=Tryz.zeroValue32
 t37:=Tryz.underlying351
 a37:=Tryz.isAgg351
 z37:=Tryz.sizeOf351
 v37:=Tryz.zeroValue351
 t70:=Tryz.underlying395
 a70:=Tryz.isAgg395
 z70:=Tryz.sizeOf395
 v70:=Tryz.zeroValue395
 t72:=Tryz.underlying397
 a72:=Tryz.isAgg397
 z72:=Tryz.sizeOf397
 v72:=Tryz.zeroValue397
 t75:=Tryz.underlying400
 a75:=Tryz.isAgg400
 z75:=Tryz.sizeOf400
 v75:=Tryz.zeroValue400
 t76:=Tryz.underlying401
 a76:=Tryz.isAgg401
 z76:=Tryz.sizeOf401
 v76:=Tryz.zeroValue401
 t127:=Tryz.underlying421
 a127:=Tryz.isAgg421
 z127:=Tryz.sizeOf421
 v127:=Tryz.zeroValue421
 t164:=Tryz.underlying437
 a164:=Tryz.isAgg437
 z164:=Tryz.sizeOf437
 v164:=Tryz.zeroValue437 }
theorem Tryz.ly:Builder.Extra Tryz.prog Tryz.si:={
 sizeBuilder:=by kernel_rfl
 liesBuilder:=by kernel_rfl
 t5:=Tryz.underlying5
 a5:=Tryz.isAgg5
 z5:=Tryz.sizeOf5
 v5:=Tryz.zeroValue5
 infoByte:=by kernel_rfl
 cellsByte:=by kernel_rfl
 sizeByte:=by kernel_rfl
 neB5:=by decide }
open Go.RowKit in
theorem Tryz.strings_Join_none (a:Option Addr) (c:Nat) (sep:ByteArray) (w:World) :
  Calls Tryz.prog 278 #[.slice a 0 c,.string sep] w fun e w'=>e=.returned (.string ⟨#[]⟩)∧w'=w:=Any.strings_Join_none Tryz.Ec Tryz.ly a c sep w
open Go.RowKit in
theorem Tryz.strings_Join (bk o c:Nat) (xs:List ByteArray) (sep:ByteArray) (w:World) (PT:∀ (j:Nat) x,xs[j]? = some x→w.cell? ⟨bk,o+j,none⟩=some (.string x)) (hbk:bk<w.heap.size) (hN:xs.length≤140737488355328) (df:xs.length≤c) (hlen:(Lib.join (xs.map (·.data.toList)) sep.data.toList).length≤140737488355328) :
  Calls Tryz.prog 278 #[.slice (some ⟨bk,o,none⟩) xs.length c,.string sep] w fun e w'=>e=.returned (.string ⟨(Lib.join (xs.map (·.data.toList)) sep.data.toList).toArray⟩)∧Below w.heap.size w w':=Any.strings_Join Tryz.Ec Tryz.ly bk o c xs sep w PT hbk hN df hlen
def Tryz.Bb:Go.Shelf.Ren:=⟨fun | 243=>279 | 246=>329 | 283=>359 | 284=>360 | 285=>361 | 286=>362 | 129=>313 | 317=>381 | 318=>382 | 319=>383 | 320=>384 | 337=>393 | 338=>394 | n=>n,fun | 3=>3 | 9=>9 | 2=>2 | 4=>4 | 171=>422 | 0=>0 | 53=>383 | 37=>351 | 5=>5 | 173=>424 | 212=>441 | 51=>381 | 20=>20 | 213=>442 | 46=>318 | 232=>449 | 233=>450 | n=>n,fun | 17=>1 | 18=>3 | 19=>4 | n=>n⟩
theorem Tryz.LI:Go.Proofs.Lays.n243 Tryz.prog Tryz.Bb:={
 mixed:=by kernel_rfl
 f129:=Tryz.func313.trans (congrArg some (by kernel_rfl))
 f243:=Tryz.func279.trans (congrArg some (by kernel_rfl))
 f246:=Tryz.func329.trans (congrArg some (by kernel_rfl))
 f283:=Tryz.func359.trans (congrArg some (by kernel_rfl))
 f284:=Tryz.func360.trans (congrArg some (by kernel_rfl))
 f285:=Tryz.func361.trans (congrArg some (by kernel_rfl))
 f286:=Tryz.func362.trans (congrArg some (by kernel_rfl))
 f317:=Tryz.func381.trans (congrArg some (by kernel_rfl))
 f318:=Tryz.func382.trans (congrArg some (by kernel_rfl))
 f319:=Tryz.func383.trans (congrArg some (by kernel_rfl))
 f320:=Tryz.func384.trans (congrArg some (by kernel_rfl))
 f337:=Tryz.func393.trans (congrArg some (by kernel_rfl))
 f338:=Tryz.func394.trans (congrArg some (by kernel_rfl))
 t0:=Tryz.underlying0
 a0:=Tryz.isAgg0
 z0:=Tryz.sizeOf0
 v0:=Tryz.zeroValue0
 t2:=Tryz.underlying2
 a2:=Tryz.isAgg2
 z2:=Tryz.sizeOf2
 v2:=Tryz.zeroValue2
 t3:=Tryz.underlying3
 a3:=Tryz.isAgg3
 z3:=Tryz.sizeOf3
 v3:=Tryz.zeroValue3
 t4:=Tryz.underlying4
 a4:=Tryz.isAgg4
 z4:=Tryz.sizeOf4
 v4:=Tryz.zeroValue4
 t5:=Tryz.underlying5
 a5:=Tryz.isAgg5
 z5:=Tryz.sizeOf5
 v5:=Tryz.zeroValue5
 t9:=Tryz.underlying9
 a9:=Tryz.isAgg9
 z9:=Tryz.sizeOf9
 v9:=Tryz.zeroValue9
 t20:=Tryz.underlying20
 a20:=Tryz.isAgg20
 z20:=Tryz.sizeOf20
 v20:=Tryz.zeroValue20
 t37:=Tryz.underlying351
 a37:=Tryz.isAgg351
 z37:=Tryz.sizeOf351
 v37:=Tryz.zeroValue351
 t46:=Tryz.underlying318
 a46:=Tryz.isAgg318
 z46:=Tryz.sizeOf318
 v46:=Tryz.zeroValue318
 t51:=Tryz.underlying381
 a51:=Tryz.isAgg381
 z51:=Tryz.sizeOf381
 v51:=Tryz.zeroValue381
 t53:=Tryz.underlying383
 a53:=Tryz.isAgg383
 z53:=Tryz.sizeOf383
 v53:=Tryz.zeroValue383
 t171:=Tryz.underlying422
 a171:=Tryz.isAgg422
 z171:=Tryz.sizeOf422
 v171:=Tryz.zeroValue422
 t173:=Tryz.underlying424
 a173:=Tryz.isAgg424
 z173:=Tryz.sizeOf424
 v173:=Tryz.zeroValue424
 t212:=Tryz.underlying441
 a212:=Tryz.isAgg441
 z212:=Tryz.sizeOf441
 v212:=Tryz.zeroValue441
 t213:=Tryz.underlying442
 a213:=Tryz.isAgg442
 z213:=Tryz.sizeOf442
 t232:=Tryz.underlying449
 a232:=Tryz.isAgg449
 z232:=Tryz.sizeOf449
 v232:=Tryz.zeroValue449
 t233:=Tryz.underlying450
 a233:=Tryz.isAgg450
 z233:=Tryz.sizeOf450
 v233:=Tryz.zeroValue450
 g17:=by kernel_rfl
 g18:=by kernel_rfl
 g19:=by kernel_rfl }
open Go.RowKit Go.Sort Go.Lib in
theorem Tryz.internal_strconv_Itoa_small (i:Nat) (hi:i<100) (w:World) :
  Calls Tryz.prog 279 #[.int .i64 i] w fun e w'=>e=.returned (.string ⟨(Lib.decDigits i).toArray⟩)∧w'=w:=Any.internal_strconv_Itoa_small Tryz.LI i hi w
end Go.Proofs
namespace Go
def Result.up {α:Type} (w:World):Result α→Prop
  | .ok _ w'=>w.drawn≤w'.drawn
  | .halt _ w'=>w.drawn≤w'.drawn
theorem Result.dq {α:Type} {w w':World} (h:w.drawn≤w'.drawn) {r:Result α} (k:r.up w'):r.up w:=by
  cases r <;> exact Nat.le_trans h k
theorem Qr {α:Type} (a:Ask α):∀ w:World,w.drawn≤(w.ask a).2.drawn:=by
  induction a with
  | done a=>intro w;exact Nat.le_refl _
  | ask Of range k ih =>
    intro w
    unfold World.ask
    dsimp only
    split
    · exact ih _ w
    · exact Nat.le_trans (Nat.le_succ _) (ih _ { w with drawn:=w.drawn+1 })
theorem Ou (w:World) (c:Sys):w.drawn≤(w.sys c).2.drawn:=by
  unfold World.sys
  have h:=Qr (Kernel.perform c w.os) w
  generalize w.ask (Kernel.perform c w.os)=r at h
  obtain ⟨⟨x,os⟩,w'⟩:=r
  cases x <;> first | exact Nat.le_refl _ | exact h
theorem yi {p:Program} {w:World} {at_:Addr} {u:TypeId} {k:Addr} {v:Value} {atomic:Bool} {r:World×List Addr}
    (h:w.viewStore p at_ u k v atomic=.ok r):r.1.drawn=w.drawn:=by
  unfold World.viewStore at h
  simp only [bind,Except.bind,pure,Except.pure,throw,throwThe,MonadExceptOf.throw] at h
  repeat' split at h
  all_goals first | (cases h;rfl) | (injection h with h;rw [← h]) | nomatch h
theorem By {p:Program} {w:World} {a:Addr} {v:Value} {atomic:Bool} {r:World×List Addr}
    (h:w.farStore p a v atomic=.ok r):r.1.drawn=w.drawn:=by
  unfold World.farStore at h
  split at h
  · split at h
    · next e=>injection h with h;rw [← h];exact yi e
    · nomatch h
  · nomatch h
theorem FH (w:World) (a:Addr) (n:Nat):(w.freeze a n).drawn=w.drawn:=by
  unfold World.freeze;split <;> rfl
theorem yC {α:Type} (p:Program) (s:Sem α):∀ w:World,(s.run p w).up w:=by
  induction s with
  | pure a=>intro w;exact Nat.le_refl _
  | load m a k ih =>
    intro w;unfold Sem.run
    split
    · exact ih _ w
    · split
      · exact ih _ w
      · exact Nat.le_refl _
  | store m a v k ih =>
    intro w
    cases v <;> first
      | exact Nat.le_refl _
      | (simp only [Sem.run]
         split
         · split
           · exact Nat.le_refl _
           · exact ih (w.setCell _ _)
         · split
           · next hf=>exact Result.dq (Nat.le_of_eq (By hf).symm) (ih _)
           · exact Nat.le_refl _)
  | new o k ih=>intro w;exact ih _ _
  | shape r k ih=>intro w;exact ih _ w
  | freeze a n k ih=>intro w;exact Result.dq (Nat.le_of_eq (FH w a n).symm) (ih (w.freeze a n))
  | frozen a k ih=>intro w;exact ih _ w
  | getObj r k ih =>
    intro w;unfold Sem.run
    split
    · exact Nat.le_refl _
    · exact ih _ w
    · exact Nat.le_refl _
  | setObj r o k ih =>
    intro w;unfold Sem.run
    split
    · exact Nat.le_refl _
    · exact ih _
    · exact Nat.le_refl _
  | choose q k ih =>
    intro w;unfold Sem.run
    split
    · exact ih _ w
    · exact Result.dq (Nat.le_succ w.drawn) (ih _ { w with drawn:=w.drawn+1 })
  | sys c k ih=>intro w;exact Result.dq (Ou w c) (ih _ _)
  | program k ih=>intro w;exact ih _ w
  | mark m k ih=>intro w;exact ih w
  | halt h=>intro w;exact Nat.le_refl _
theorem qv {α:Type} (p:Program) (s:Sem α) (w:World) (es:Array Event):(s.runT p w es).1.up w:=by
  rw [Sem.runT_fst];exact yC p s w
theorem gq {α:Type} {p:Program} {s:Sem α} {w w':World} {a:α} (h:s.run p w=.ok a w'):w.drawn≤w'.drawn:=by
  have k:=yC p s w
  rw [h] at k;exact k
theorem Mf {α:Type} {p:Program} {s:Sem α} {w w':World} {a:Halt} (h:s.run p w=.halt a w'):w.drawn≤w'.drawn:=by
  have k:=yC p s w
  rw [h] at k;exact k
theorem OX {α:Type} {p:Program} {s:Sem α} {w w':World} {es Mp:Array Event} {a:α} (h:s.runT p w es=(.ok a w',Mp)):w.drawn≤w'.drawn:=by
  have k:=qv p s w es
  rw [h] at k;exact k
theorem Ij {α:Type} {p:Program} {s:Sem α} {w w':World} {es Mp:Array Event} {a:Halt} (h:s.runT p w es=(.halt a w',Mp)):w.drawn≤w'.drawn:=by
  have k:=qv p s w es
  rw [h] at k;exact k
theorem jb {α:Type} {p:Program} {s:Sem α} {w w':World} {es:Array Event} {a:α} (h:(s.runT p w es).1=.ok a w'):w.drawn≤w'.drawn:=by
  have k:=qv p s w es
  rw [h] at k;exact k
theorem kq {α:Type} {p:Program} {s:Sem α} {w w':World} {es:Array Event} {a:Halt} (h:(s.runT p w es).1=.halt a w'):w.drawn≤w'.drawn:=by
  have k:=qv p s w es
  rw [h] at k;exact k
def GStep.up (w:World):GStep→Prop
  | .go _ w' _=>w.drawn≤w'.drawn
  | .comm _ _ _ _ w' _=>w.drawn≤w'.drawn
  | .spawn _ _ w' _=>w.drawn≤w'.drawn
  | .count _ w' _=>w.drawn≤w'.drawn
  | .timer _ _ w' _=>w.drawn≤w'.drawn
  | .alone _ _ w' _=>w.drawn≤w'.drawn
  | .newcoro _ _ _ w' _=>w.drawn≤w'.drawn
  | .coroswitch _ _ _ w' _=>w.drawn≤w'.drawn
  | .collect _ w' _=>w.drawn≤w'.drawn
  | .watch _ w' _=>w.drawn≤w'.drawn
  | .ended _ _ _=>True
theorem GStep.dq {w w':World} (h:w.drawn≤w'.drawn) {s:GStep} (k:s.up w'):s.up w:=by
  cases s <;> first | trivial | exact Nat.le_trans h k
theorem GStep.yj {w:World} {c:Prop} [Decidable c] {s t:GStep} (h:s.up w) (k:t.up w):(if c then s else t).up w:=by
  split
  · exact h
  · exact k
theorem GStep.iB {w:World} (es:Array Event) {s:GStep} (k:s.up w):(s.after es).up w:=by
  cases s <;> exact k
theorem nY (fr:Frame) (m:String) (w:World):(endThrow fr m w).up w:=Nat.le_refl _
theorem Da (w0 w:World) (fd:Nat) (text:ByteArray) (o:Outcome):(endWith w fd text o).up w0:=by
  unfold endWith;dsimp only
  split
  · split <;> trivial
  · trivial
  · trivial
theorem nZ (p:Program) (fr:Frame) (v:Value) (w:World):(endPrinting p fr v w).up w:=by
  unfold endPrinting;dsimp only
  split
  · exact nY _ _ _
  · trivial
theorem sD (p:Program) (fr:Frame) (callers:List Frame) (dying:Option Dying) (m:String) (w:World):(endFatal p fr callers dying m w).up w:=by
  unfold endFatal;dsimp only
  split
  · next h=>exact gq h
  · trivial
  · trivial
theorem Ca (p:Program) (fr:Frame) (d:Dying) (f:Fatal) (w:World):(writeOn p fr d f w).up w:=by
  unfold writeOn;dsimp only
  split
  · trivial
  · split
    · next h=>exact OX h
    · next h=>exact Ij h
    · trivial
    · trivial
theorem Qb (p:Program) (fr:Frame) (d:Dying) (w:World):(die p fr d w).up w:=by
  unfold die;dsimp only
  split
  · exact Ca _ _ _ _ _
  · split
    · split
      · exact Nat.le_refl _
      · exact Da _ _ _ _ _
    · split
      · exact Nat.le_refl _
      · split
        · next h=>exact gq h
        · trivial
      · apply GStep.iB
        split
        · next h=>exact jb h
        · next h=>exact jb h
        · trivial
        · next h=>exact GStep.dq (kq h) (nZ _ _ _ _)
        · trivial
      · trivial
theorem jK (p:Program) (main:Bool) (fr:Frame) (callers:List Frame) (dying:Option Dying) (v:Value) (w:World) :
    (doReturn p main fr callers dying v w).up w:=by
  unfold doReturn;dsimp only
  repeat' split
  all_goals first | trivial | exact Nat.le_refl _
theorem sW (p:Program) (fr:Frame) (callers:List Frame) (dying:Option Dying) (d:Deferred) (w:World) :
    (callDeferred p fr callers dying d w).up w:=by
  unfold callDeferred;dsimp only
  apply GStep.yj
  · trivial
  · apply GStep.iB
    repeat' split
    all_goals first
      | trivial
      | exact jb (by assumption)
      | exact kq (by assumption)
      | exact GStep.dq (kq (by assumption)) (sD _ _ _ _ _ _)
      | exact GStep.dq (kq (by assumption)) (nY _ _ _)
theorem EP (p:Program) (main:Bool) (fr:Frame) (callers:List Frame) (dying:Option Dying) (w:World) :
    (unwind p main fr callers dying w).up w:=by
  unfold unwind;dsimp only
  split
  · apply GStep.iB
    split
    · next h=>exact jb h
    · trivial
  · exact sW _ _ _ _ _ _
  · split
    · trivial
    · split
      · trivial
      · split
        · exact Nat.le_refl _
        · split
          · split
            · exact Nat.le_refl _
            · split
              · next h=>exact gq h
              · trivial
              · trivial
          · split
            · exact nZ _ _ _ _
            · trivial
    · split
      · exact jK _ _ _ _ _ _ _
      · apply GStep.iB
        split
        · next h=>exact GStep.dq (jb h) (jK _ _ _ _ _ _ _)
        · trivial
        · trivial
theorem Iv (p:Program) (fr:Frame) (callers:List Frame) (dying:Option Dying) (g:Nat) (w:World) :
    (early p fr callers dying g w).up w:=by
  unfold early;dsimp only
  repeat' split
  all_goals first
    | trivial
    | exact Nat.le_refl _
    | (next h _=>have k:=gq h;exact k)
    | (next h _ _=>have k:=gq h;exact k)
    | (next h=>have k:=gq h;exact k)
    | (next h _ _ _=>have k:=gq h;exact k)
    | (next h _ _ _ _=>have k:=gq h;exact k)
theorem q6 (p:Program) (listen:Bool) (fr:Frame) (callers:List Frame) (dying:Option Dying) (s:Sem Next) (w:World) :
    (stepG.apply p listen fr callers dying s w).up w:=by
  unfold stepG.apply;dsimp only
  apply GStep.iB
  have hr:∃ r:Result Next×Array Event,(if listen=true then s.runT p w #[] else (s.run p w,#[]))=r∧r.1.up w:=by
    refine ⟨_,rfl,?_⟩
    split
    · exact qv p s w #[]
    · exact yC p s w
  obtain ⟨r,hr,hu⟩:=hr
  rw [hr]
  generalize r.1=r1 at hu ⊢
  repeat' split
  all_goals first
    | trivial
    | exact Q2 hu (by assumption)
    | exact Kz hu (by assumption)
    | exact hu
    | (refine GStep.dq ?_ (nY _ _ _);first | exact hu | exact Q2 hu (by assumption) | exact Kz hu (by assumption))
    | (refine GStep.dq ?_ (sD _ _ _ _ _ _);exact hu)
    | (refine GStep.dq ?_ (Iv _ _ _ _ _ _);exact hu)
theorem D3 (p:Program) (listen:Bool) (fr:Frame) (callers:List Frame) (dying:Option Dying) (w:World) :
    (stepG.oper p listen fr callers dying w).up w:=by
  unfold stepG.oper
  repeat' split
  all_goals first | trivial | exact q6 _ _ _ _ _ _ _
theorem Mn (p:Program) (main listen:Bool) (fr:Frame) (callers:List Frame) (dying:Option Dying) (w:World) :
    (stepG.exec p main listen fr callers dying w).up w:=by
  unfold stepG.exec;dsimp only
  split
  all_goals first
    | trivial
    | exact Nat.le_refl _
    | (split
       · first | exact Nat.le_refl _ | (apply GStep.yj <;> first | exact Nat.le_refl _ | trivial) | trivial
       · apply GStep.iB
         split
         · next h=>exact GStep.dq (jb h) (jK _ _ _ _ _ _ _)
         · trivial)
    | (split <;> first | exact Nat.le_refl _ | trivial)
    | (generalize exitTo _ _ = o; cases o with
       | none =>
         split
         · first | exact Nat.le_refl _ | (apply GStep.yj <;> first | exact Nat.le_refl _ | trivial) | trivial
         · apply GStep.iB
           split
           · next h=>exact GStep.dq (jb h) (jK _ _ _ _ _ _ _)
           · trivial
       | some k=>exact Nat.le_refl _)
    | (generalize gotoIn _ _ = o; cases o with
       | none =>
         split
         · first | exact Nat.le_refl _ | (apply GStep.yj <;> first | exact Nat.le_refl _ | trivial) | trivial
         · apply GStep.iB
           split
           · next h=>exact GStep.dq (jb h) (jK _ _ _ _ _ _ _)
           · trivial
       | some k=>exact Nat.le_refl _)
    | (apply GStep.iB
       split
       · next h=>first | (have k:=jb h;exact k) | exact GStep.dq (jb h) (q6 _ _ _ _ _ _ _)
       · first | trivial | (next h=>have k:=kq h;exact k)
       done)
    | (apply GStep.iB
       split
       · next h=>(have k:=jb h;exact k)
       · next h=>(have k:=kq h;exact k)
       · trivial)
    | exact q6 _ _ _ _ _ _ _
    | exact D3 _ _ _ _ _ _
    | (generalize Extern.next _ = o; cases o with
       | none=>trivial
       | some e=>exact q6 _ _ _ _ _ _ _)
    | (split
       · exact Nat.le_refl _
       · split
         · next h=>have k:=gq h;exact k
         · trivial)
    | (split
       · exact D3 _ _ _ _ _ _
       · exact Nat.le_refl _)
    | skip
theorem Gy (p:Program) (main:Bool) (g:Goroutine) (w:World) (listen:Bool):(stepG p main g w listen).up w:=by
  unfold stepG
  split
  split
  · exact Qb _ _ _ _
  · exact Mn _ _ _ _ _ _ _
  · exact EP _ _ _ _ _ _
def Stepped.up (w:World):Stepped→Prop
  | .next m=>w.drawn≤m.world.drawn
  | .ended _ _=>True
theorem Stepped.dq {w w':World} (h:w.drawn≤w'.drawn) {s:Stepped} (k:s.up w'):s.up w:=by
  cases s <;> first | trivial | exact Nat.le_trans h k
theorem yY (p:Program) (gs:Array Goroutine) (rest:Rest) (w:World):(look p gs rest w).up w:=by
  unfold look;dsimp only
  split
  · split
    · trivial
    · split
      · trivial
      · split
        · next h=>have k:=gq h;exact k
        · trivial
        · trivial
  · trivial
theorem yg {rest:Rest} {cases:Array CommCase} {w w':World} (h:waitingAt rest cases w=some w'):w.drawn≤w'.drawn:=by
  unfold waitingAt at h
  split at h
  · split at h
    · injection h with h;rw [← h];exact Nat.le_refl _
    · nomatch h
  · injection h with h;rw [← h];exact Nat.le_refl _
theorem u7 (p:Program) (rest:Rest) (gs:Array Goroutine) (i:Nat) (g:Goroutine) (cases:Array CommCase) (BM:Bool)
    (shape:CommShape) (w:World):(communicate p rest gs i g cases BM shape w).1.up w:=by
  unfold communicate;dsimp only
  split
  · trivial
  · split
    · split
      · split
        · next h=>exact yg h
        · trivial
      · exact Nat.le_refl _
    · split
      · trivial
      · next h=>
        have k:=gq h
        split
        · split
          · next h2=>
            have k2:=Mf h2
            exact Nat.le_trans k k2
          · trivial
        · exact k
        · exact k
        · split
          · exact k
          · split
            · next h3=>have k3:=gq h3;exact Nat.le_trans k k3
            · trivial
        · exact k
        · exact k
        · trivial
theorem Iw (w:World) (c:Nat):(drain w c).2.drawn=w.drawn:=by
  unfold drain;split <;> rfl
theorem wX (m:Machine) (k:Nat) (t:Timer) (when period:Nat):(retime m k t when period).2.world.drawn=m.world.drawn:=by
  unfold retime;dsimp only
  split
  · exact Iw _ _
  · rfl
theorem A9 {m:Machine} {var:Addr} {f:Nat→Timer→Value×Machine} {n:Nat} (hf:∀ k t,(f k t).2.world.drawn=n) {r:Value×Machine}
    (h:timerOp.named m var f=.ok r):r.2.world.drawn=n:=by
  unfold timerOp.named at h
  split at h
  · injection h with h;rw [← h];exact hf _ _
  · nomatch h
theorem Ff {m m':Machine} {var:Addr} (h:timerOp.opened m var=some m'):m'.world.drawn=m.world.drawn:=by
  unfold timerOp.opened at h
  split at h
  · split at h
    · injection h with h;rw [← h]
    · nomatch h
  · injection h with h;rw [← h]
theorem Cl {m:Machine} {op:TimerOp} {r:Value×Machine} (h:timerOp m op=.ok r):r.2.world.drawn=m.world.drawn:=by
  unfold timerOp at h
  split at h
  · split at h
    · injection h with h;rw [← h];rfl
    · split at h
      · split at h
        · nomatch h
        · injection h with h;rw [← h]
      · nomatch h
  · exact A9 (fun k t=>wX m k t 0 t.period) h
  · split at h
    · next ho=>exact (A9 (fun k t=>wX _ k t _ _) h).trans (Ff ho)
    · nomatch h
  · injection h with h;rw [← h];rfl
theorem GN (p:Program) (m:Machine) (k:Nat):(serve p m k).up m.world:=by
  unfold serve;dsimp only
  split
  · trivial
  · exact Nat.le_refl _
  · split
    · trivial
    · exact Nat.le_refl _
def Move.up (w:World):Move→Prop
  | .goroutine m _=>w.drawn≤m.world.drawn
  | .machine s _=>s.up w
theorem vh (p:Program) (m:Machine):(askOn p m).up m.world:=by
  unfold askOn;dsimp only
  split
  · trivial
  · next h=>
    have k:=gq h
    split
    · exact Stepped.dq k (GN _ _ _)
    · split
      · split
        · exact k
        · split
          · exact k
          · split
            · trivial
            · trivial
      · split
        · split
          · trivial
          · next h0=>
            have k0:=gq h0
            split
            · exact Nat.le_trans k k0
            · split
              · trivial
              · next h3=>have k3:=gq h3;exact Nat.le_trans k (Nat.le_trans k0 k3)
        · split
          · trivial
          · next h2=>
            have k2:=gq h2
            split
            · trivial
            · next h0=>
              have k0:=gq h0
              split
              · exact Nat.le_trans (Nat.le_trans k k2) k0
              · split
                · trivial
                · next h3=>have k3:=gq h3;exact Nat.le_trans (Nat.le_trans k k2) (Nat.le_trans k0 k3)
          · next h2=>have k2:=gq h2;exact Nat.le_trans k k2
          · next h2=>
            have k2:=gq h2
            split
            · trivial
            · next h0=>
              have k0:=gq h0
              split
              · exact Nat.le_trans (Nat.le_trans k k2) k0
              · split
                · trivial
                · next h3=>have k3:=gq h3;exact Nat.le_trans (Nat.le_trans k k2) (Nat.le_trans k0 k3)
theorem Move.dq {w w':World} (h:w.drawn≤w'.drawn) {s:Move} (k:s.up w'):s.up w:=by
  cases s with
  | goroutine m i=>exact Nat.le_trans h k
  | machine s ops=>exact Stepped.dq h k
theorem EJ (p:Program) (m:Machine):(Go.ask p m).up m.world:=by
  unfold Go.ask
  split
  · split
    · trivial
    · next h=>
      have k:=gq h
      split
      · next hl=>
        have k2:=yY p m.gs m.rest ‹World›
        rw [hl] at k2
        exact Move.dq (Nat.le_trans k k2) (vh _ _)
      · exact Stepped.dq k (yY _ _ _ _)
    · next h=>have k:=gq h;exact Move.dq k (vh _ _)
  · exact vh _ _
theorem LA (p:Program) (m:Machine):(move p m).up m.world:=by
  unfold move
  split
  · split
    · exact Nat.le_refl _
    · trivial
  · split
    · split
      · exact Nat.le_refl _
      · exact EJ p { m with rest:=_ }
    · exact EJ p m
theorem yD (p:Program) (m:Machine) (i:Nat) (listen:Bool):(Go.runT p m i listen).1.up m.world:=by
  unfold Go.runT;dsimp only
  have h:=Gy p (i==0) (m.gs.swapAt! i { (default:Goroutine) with status:=.finished }).1 m.world listen
  generalize stepG p (i==0) (m.gs.swapAt! i { (default:Goroutine) with status:=.finished }).1 m.world listen=s at h ⊢
  cases s with
  | ended o w es=>trivial
  | comm g cases BM shape w es=>exact Stepped.dq h (u7 _ _ _ _ _ _ _ _ _)
  | go g w es=>exact h
  | spawn g child w es=>exact h
  | count g w es =>
    dsimp only
    split
    · trivial
    · exact h
  | alone g on w es=>exact h
  | collect g w es=>exact Stepped.dq h (yY _ _ _ _)
  | watch g w es=>exact h
  | newcoro g c d w es=>exact h
  | coroswitch g c exit w es =>
    dsimp only
    split
    · exact h
    · exact h
    · trivial
  | timer g op w es =>
    dsimp only
    split
    · next ht=>have k:=Cl ht;exact Nat.le_trans h (Nat.le_of_eq k.symm)
    · exact h
    · trivial
    · trivial
theorem KT (p:Program) (m:Machine):(step p m).up m.world:=by
  unfold step stepT
  have h:=LA p m
  generalize move p m=v at h ⊢
  cases v with
  | goroutine m' i=>exact Stepped.dq h (yD p m' i true)
  | machine s ops=>exact h
theorem K5 (p:Program) (n:Nat):∀ m:Machine,(runN p n m).up m.world:=by
  induction n with
  | zero=>intro m;exact Nat.le_refl _
  | succ n ih =>
    intro m
    have h:=KT p m
    unfold runN
    generalize step p m=s at h ⊢
    cases s with
    | next m'=>exact Stepped.dq h (ih m')
    | ended o w=>trivial
theorem Steps.up {P:Program} {m m':Machine} (h:Steps P m m'):m.world.drawn≤m'.world.drawn:=by
  obtain ⟨n,hn⟩:=h
  have k:=K5 P n m
  rw [hn] at k;exact k
theorem Calls.up {P:Program} {f:FuncId} {args:Array Value} {w:World} {v:Value} {R:World→Prop}
    (h:Calls P f args w fun e w'=>e=.returned v∧R w'):Calls P f args w fun e w'=>e=.returned v∧R w'∧w.drawn≤w'.drawn:=by
  intro cs
  obtain ⟨e,w',fr,⟨rfl,hR⟩,hc,hf,hl⟩:=h cs
  exact ⟨_,w',fr,⟨rfl,hR,Steps.up hc⟩,hc,hf,hl⟩
end Go
