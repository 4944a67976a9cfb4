/- Parts of the proof: MC PS P6d MD ME MF PC MG MH MI P6f P6g GkPoolK MJ MK PW. -/
import Derived.Test.YteonnodafmegaaaGreatDoorCM14
import Derived.Test.YteonnodafmegaaaGreatDoorCM04
import Derived.Test.YteonnodafmegaaaGreatDoorCM06
import Derived.Test.YteonnodafmegaaaGreatDoorCM09
import Derived.Test.YteonnodafmegaaaGreatDoorCM03
import Derived.Test.YteonnodafmegaaaGreatDoorCM11
set_option linter.unusedSectionVars false
set_option linter.unusedVariables false
set_option linter.unusedSimpArgs false
namespace Go.Proofs.A1
open Go Go.SL
open Tryz
open Tryz renaming prog->T_
def poN (p:Po):List ByteArray:=[p.ou,p.ip]
def Bi (r:Ro) (k:Nat):List ByteArray:=ew r++((r.po.take k).map poN).flatten
def xk (r:Ro):Bool:=decide (r.sr.length<=10)&&decide (r.de.length<=10)&&decide (r.ti.length<=10)&&decide (r.po.length<=48)
def Bj (r:Ro):Bool:=xk r&&FT (Bi r r.po.length)
theorem yn {r:Ro} {k:Nat} (h:k<r.po.length):Bi r (k+1)=Bi r k++[r.po[k].ou,r.po[k].ip]:=by
 unfold Bi;rw [List.take_succ_eq_append_getElem h,List.map_append,List.flatten_append,Zh]
 rfl
theorem ru {r:Ro} (h:xk r=true):r.sr.length<=10/\r.de.length<=10/\r.ti.length<=10/\r.po.length<=48:=by
 unfold xk at h;simp only [Bool.and_eq_true,decide_eq_true_eq] at h;exact ⟨h.1.1.1,h.1.1.2,h.1.2,h.2⟩
theorem Bk {r:Ro} (h:xk r=true):nP r:=by
 have:=ru h;exact ⟨by omega,by omega,by omega,by omega⟩
theorem HN {r:Ro} (h:xk r=true):np r:=by
 have:=ru h;exact ⟨by omega,by omega,by omega⟩
theorem Bh (r:Ro):∀ k,k<=r.po.length->(Bi r k).length=(ew r).length+2*k
 | 0,_=>by unfold Bi;simp
 | k+1,h=>by rw [yn (by omega),Zg,Bh r k (by omega)];simp;omega
theorem Mr {r:Ro} {s d t p:Value} {w:World} (h:RR w r s d t p):aj T_ 18 [RA r s d t p] w (.bool (Bj r)):=by
 obtain ⟨h1,h2,h3,h4⟩:=h.one;have Xt:xk r=true->∀ w',aD [] w w'->bh T_ 77 [.agg #[.int .i64 r.lv,.int .i64 r.ma,s,d,t,p]] w' [] (fun _:Value=>True) id (fun x=>[row 9 1 x (ew r).length (aM (ew r))]):=fun e w' hk=>EN (h.keeps hk) (Bk e)
 have BV:=h.sr;have DG:=h.de;have JM:=h.po;have xx:=h.ti;obtain ⟨a1,dZ,G2,GX,rfl,nS,hG,kK,kc⟩:=BV;obtain ⟨a2,dB,LG,Lr,rfl,jK,eE,iT,jL⟩:=DG;obtain ⟨a3,dQ,Fu,EI,rfl,lo,fD,qA,nW⟩:=xx;obtain ⟨a4,e9,PF,Lq,rfl,tO,km,CE,vZ⟩:=JM;rw [cu] at *;rw [bZ] at *;rw [bO] at *;rw [cT] at *;unfold maxLen at hG eE fD km;unfold RA;refine ah func18 I I ?_
 (refine Jr<|Jy I I fun _ _=>Ja I<|Jn<|Jq<|Jr<|bK I I ae ?_;refine JL I .here I<|JI I<|JE I<|Jv I<|aC I I inferInstance (fun hg br=>(ao (.of I) ae)) I ?_;refine aC I I inferInstance (fun hg br=>(ag (.bL hg I) (At.lit .here I))) I ?_;refine aC I I inferInstance (fun hg br=>(cg (.bL hg I))) I ?_;refine aC I I inferInstance (fun hg br=>(mn (.bL hg I) (.of I))) I ?_;refine ab (bX (.of I) I) I ?_;refine Jv I<|aC I I inferInstance (fun hg br=>(ao (.of I) ae)) I ?_;refine aC I I inferInstance (fun hg br=>(ag (.bL hg I) (At.lit .here I))) I ?_;refine aC I I inferInstance (fun hg br=>(cg (.bL hg I))) I ?_;refine aC I I inferInstance (fun hg br=>(mn (.bL hg I) (.of I))) I ?_;refine ab (bX (.of I) I) I ?_;refine Jv I<|aC I I inferInstance (fun hg br=>(ao (.of I) ae)) I ?_;refine aC I I inferInstance (fun hg br=>(ag (.bL hg I) (At.lit .here I))) I ?_;refine aC I I inferInstance (fun hg br=>(cg (.bL hg I))) I ?_;refine aC I I inferInstance (fun hg br=>(mn (.bL hg I) (.of I))) I ?_;refine ab (bX (.of I) I) I ?_;refine Jn<|oz I (fun ar=>?_) fun ar=>?_;refine Jr<|Ja I<|Jn<|Ju<|JT ?_;rotate_left;refine Jk<|Jr<|ab (cr .here) I ?_;rotate_right)
 ·have e:Bj r=false:=by
   unfold Bj;have e2:xk r=false:=by
    rw [<- Bool.not_eq_true];intro q;have:=ru q;omega
   rw [e2];rfl
  rw [e]
 have hA:xk r=true:=by
  unfold xk;simp only [Bool.and_eq_true,decide_eq_true_eq];omega
 obtain ⟨f1,f2,f3,f4⟩:=ru hA;have CC:=Xt hA;clear ar;rename_i b1 tR;have vS:(ew r).length<=30:=by
  unfold ew ct cz cd;simp only [Zg,Zd];omega
 refine JN bN I (fun w1 aS=>CC w1 aS.keeps) ?_;intro x _;dsimp only [id_eq,Zb,Za];refine Ja I<|Jn<|Jq<|Jr<|Ja I<|Jn<|J0 ?_;refine aY (ι:=Nat×Value×List ByteArray) (fun y=>y.1<=r.po.length/\y.2.2=Bi r y.1) (fun y=>[(4,.int .i64 (y.1:Nat)),(3,y.2.1),(1,.pointer (some ⟨b1,0,none⟩))]) (fun y=>[row 9 1 y.2.1 y.2.2.length (aM y.2.2),JQ b1 r (.slice a1 r.sr.length dZ) (.slice a2 r.de.length dB) (.slice a3 r.ti.length dQ) (.slice a4 r.po.length e9)]) (fun y=>r.po.length-y.1) ?_ ?_
 ·apply aK (0,x,ew r) ⟨Zi _,by unfold Bi;simp⟩
  case hs1=>exact cj
  case ht=>
   exact .cons .here (.cons .here .nil)
 rintro ⟨k,v',L⟩ ⟨hk,hL⟩;dsimp only at hk hL ⊢;have Gu:L.length=(ew r).length+2*k:=by rw [hL,Bh r k hk]
 have hlen:(aM L).length=L.length*1:=by rw [dd];omega
 by_cases aL:k<r.po.length
 ·have cM:=CE (kD aL);obtain ⟨ir,aF⟩:=vZ k _ (iN aL);unfold Po.cells at aF;have c1:=aF 1 _ I;have c2:=aF 2 _ I;have kl:=yn (r:=r) aL;rw [<- hL] at kl;generalize r.po[k]=q at aF c1 c2 kl
  (refine Jq<|Jr<|Jv I<|bK I I ae ?_;refine JL I (.there .here) I<|JI I<|JA I<|Jn<|Jd I fun ar=>Jk<|Jq<|J0 ?_)
  with_reducible refine cC 14 (by kernel_rfl) ?_
  (refine ak jP I ?_;refine ak kA I ?_;refine ak (gD (.there .here)) I ?_;refine ak jP I ?_;refine ak (gj cM ar) I ?_;refine ak kA I ?_;refine ak (ag (.of I) (At.base c1 I)) I ?_;refine ak kA I ?_;refine ak (gD (.there .here)) I ?_;refine ak jP I ?_;refine ak (gj cM ar) I ?_;refine ak kA I ?_;refine ak (ag (.of I) (At.base c2 I)) I ?_;refine dX (aB (.cons (.of I) (.cons (.of I) .nil)) I I I I) I I ?_)
  with_reducible refine cY I fun bq mA=>?_
  refine bE (.of I) (.of I) (.there .here) .here an (by rfl) (ie I I) (by rfl) (by rfl) (by rfl) eV (by rfl) ?_;intro z;refine Ja I<|Jx<|Jj<|Jt<|Jg<|Jv I<|JB I (by omega)<|Ja I<|Jn ?_;apply aJ (k+1,z,L++[q.ou,q.ip]) ⟨(show k+1<=r.po.length from aL),kl.symm⟩ (by show r.po.length-(k+1)<r.po.length-k;omega)
  case hs1=>exact cj
  case ht=>
   show bn _ [row 9 1 z (L++[q.ou,q.ip]).length (aM (L++[q.ou,q.ip])),JQ b1 r (.slice a1 r.sr.length dZ) (.slice a2 r.de.length dB) (.slice a3 r.ti.length dQ) (.slice a4 r.po.length e9)] _;rw [show aM (L++[q.ou,q.ip])=aM L++[.string q.ou,.string q.ip] from eQ _ _,Zg,show [q.ou,q.ip].length=2 from I];exact .cons .here (.cons (.there .here) .nil)
 obtain rfl:k=r.po.length:=by omega
 clear hk aL;have e:Bj r=FT L:=by unfold Bj;rw [hA,<- hL];rfl
 rw [e]
 (refine Jq<|Jr<|Jv I<|bK I I ae ?_;refine JL I (.there .here) I<|JI I<|JA I<|Jn<|Jc I fun ar=>Jp<|Jl<|Jo<|Jt<|Jr<|Jv I ?_)
 refine ai bN I (fun w' aq=>Bg (dL aq (by exact .here) I)) ?_;refine Ja I<|Jn<|Je<|JT ?_
 rfl
theorem Kr {l:List Int}:aV (0::l)=aV l:=by
 conv=>lhs;unfold aV
 rw [if_neg (by decide)]
theorem RP (a:Int):aV [a]=a:=by
 unfold aV;split
 ·rfl
 ·rename_i q;rw [Decidable.not_not] at q;rw [q];rfl
theorem Kq {a:Int} {l:List Int} (h:a≠0):aV (a::l)=a:=by unfold aV;rw [if_pos h]
theorem MW {l1 l2:List ByteArray} {e bad:Int} (h1:e=bad) (h2:bad≠0->l1=[]) (h3:bad=0->l1=l2):QE l1 l2 e bad=true:=by
 subst h1;unfold QE;by_cases h:e=0
 ·rw [h3 h,h];simp
 ·rw [h2 h];simp [h]
theorem uK {v1 v2:Value} {l1 l2:List ByteArray} {e bad:Int} {w:World} (h1:Rd w v1 1 (fG l1)) (h2:Rd w v2 1 (fG l2)) (e1:e=bad) (e2:bad≠0->l1=[]) (e3:bad=0->l1=l2):aj T_ 35 [v1,.int .i64 e,.int .i64 bad,v2] w (.bool true):=by
 have:=MZ (e:=e) (bad:=bad) h1 h2;rwa [MW e1 e2 e3] at this
theorem ns {r:Ro} {i:Nat} (hi:i<r.ti.length):gq r i=r.ti[i]:=by
 unfold gq;rw [List.getD_eq_getElem?_getD,Zc hi];rfl
theorem K3 {r:Ro} {s d t p:Value} (v:Int) (so de:ByteArray) {w:World} (h:RR w r s d t p) (hf:nP r):aj T_ 39 [.agg #[.int .i64 v,.string so,.string de],RA r s d t p] w (.int .i64 (jw r v so de)):=by
 obtain ⟨h1,h2,h3,h4⟩:=h.one;have hcr:∀ {w'},aD [] w w'->aj T_ 25 [.agg #[.int .i64 r.lv,.int .i64 r.ma,s,d,t,p]] w' (.int .i64 (gB r)):=fun hk=>xG (h.keeps hk) hf
 have qk:∀ {w'},aD [] w w'->aj T_ 26 [.agg #[.int .i64 r.lv,.int .i64 r.ma,s,d,t,p],.string de] w' (.int .i64 (tW r de)):=fun hk=>DV de (h.keeps hk)
 have JU:∀ {w'},aD [] w w'->aj T_ 27 [.agg #[.int .i64 r.lv,.int .i64 r.ma,s,d,t,p],.int .i64 v] w' (.int .i64 (BI r v)):=fun hk=>Ay v (h.keeps hk)
 have hsrc:∀ {w'},aD [] w w'->aj T_ 29 [.agg #[.int .i64 r.lv,.int .i64 r.ma,s,d,t,p],.string so] w' (.int .i64 (Lk r so)):=fun hk=>DU so (h.keeps hk)
 unfold RA;refine ah func39 I I ?_
 (refine Jr<|Jy I I fun _ _=>Jy I I fun _ _=>Ja I<|Jn<|Jq<|Jr<|ab (cr .here) I ?_;refine ai bN I (fun w' aq=>(hcr (Mem.keeps aq))) ?_;refine Ja I<|Ji<|Jv I<|JD I<|Jn<|gl I (fun ar=>?_) fun ar=>?_;refine Jr<|Jv I<|Ja I<|Jn<|Ju<|JT ?_;rotate_left;refine Jk<|Jq ?_;rotate_right)
 ·rw [show jw r v so de=gB r from Kq ar]
 have e:jw r v so de=aV [BI r v,Lk r so,tW r de]:=by unfold jw;rw [Decidable.not_not.1 ar,Kr]
 rw [e]
 with_reducible refine cC 13 (by kernel_rfl) ?_
 (refine ak (cr .here) I ?_;refine ak kA I ?_;refine ak (gD (.there .here)) I ?_;refine aQ aX I (fun w' aq=>(JU (Mem.keeps aq))) ?_;refine ak (cr .here) I ?_;refine ak kA I ?_;refine ak (gD (.there .here)) I ?_;refine aQ aX I (fun w' aq=>(hsrc (Mem.keeps aq))) ?_;refine ak (cr .here) I ?_;refine ak kA I ?_;refine ak (gD (.there .here)) I ?_;refine aQ aX I (fun w' aq=>(qk (Mem.keeps aq))) ?_;refine dX (aB (.cons (.of I) (.cons (.of I) (.cons (.of I) .nil))) I I I I) I I ?_)
 with_reducible refine cY I fun bq mA=>?_
 (refine ai bN I (fun w' aq=>(kq (Mem.df aq .here I I) (bQ.cons (bQ.cons (bQ.cons bQ.nil))))) ?_;refine Ja I<|Jn<|Je<|JT ?_)
 rfl
theorem DY {r:Ro} (h:gB r=0) (v:Int) (x:ByteArray):(ep r.po v x).getD ⟨#[]⟩≠⟨#[]⟩↔gC r.po v x=true:=by
 unfold gC;cases e:ep r.po v x with
 | none=>simp
 | some i =>
  obtain ⟨p,hp,_,_,rfl⟩:=fC e;simpa using OY h p hp
theorem DX {r:Ro} (h:gB r=0) (v:Int) (x:ByteArray):(ep r.po v x).getD ⟨#[]⟩=⟨#[]⟩↔gC r.po v x=false:=by
 have:=DY h v x;rw [<- Bool.not_eq_true,<- this,Decidable.not_not]
theorem OM {r:Ro} {so:ByteArray} (hs:so∈ct r):∃ i:Nat,∃ hi:i<r.sr.length,bd (ct r) so=(i:Nat)/\mi r so=r.sr[i].mx:=by
 obtain ⟨mF,_⟩:=eD (di hs);have vS:(ct r).length=r.sr.length:=by unfold ct;rw [Zd]
 have hl:=Nat.lt_of_lt_of_eq mF vS;have:=di hs;refine ⟨(bd (ct r) so).toNat,hl,by omega,?_⟩;unfold mi;rw [List.getD_eq_getElem?_getD,Zc hl];rfl
theorem U6 {r:Ro} {de:ByteArray} (hs:de∈cz r):∃ i:Nat,∃ hi:i<r.de.length,bd (cz r) de=(i:Nat)/\jV r de=r.de[i].mx:=by
 obtain ⟨mF,_⟩:=eD (di hs);have vS:(cz r).length=r.de.length:=by unfold cz;rw [Zd]
 have hl:=Nat.lt_of_lt_of_eq mF vS;have:=di hs;refine ⟨(bd (cz r) de).toNat,hl,by omega,?_⟩;unfold jV;rw [List.getD_eq_getElem?_getD,Zc hl];rfl
theorem OJ {r:Ro} (h:gB r=0) {i:Nat} (hi:i<r.ti.length):r.ti[i].nm≠⟨#[]⟩:=(Fp h).ne (.inr (.inr (List.mem_map.2 ⟨_,Zj hi,I⟩)))

theorem Hg {r:Ro} {v:Int} {so de:ByteArray} (h:jw r v so de=0):gB r=0:=by
 unfold jw at h;rw [bI] at h;exact h _ List.mem_cons_self
def nG (r:Ro) (v:Int) (L:List ByteArray):Nat:=L.countP fun x=>decide ((ep r.po v x).getD ⟨#[]⟩=⟨#[]⟩)
theorem Gz {r:Ro} {v:Int} {L:List ByteArray} {k:Nat} (h:k<L.length):nG r v (L.take (k+1))=nG r v (L.take k)+if (ep r.po v L[k]).getD ⟨#[]⟩=⟨#[]⟩ then 1 else 0:=by
 unfold nG;rw [List.take_succ_eq_append_getElem h,List.countP_append,List.countP_singleton];congr 1;by_cases e:(ep r.po v L[k]).getD ⟨#[]⟩=⟨#[]⟩ <;> simp [e]
theorem NN (r:Ro) (v:Int) (L:List ByteArray):nG r v L<=L.length:=List.countP_le_length
theorem E7 {r:Ro} {s d t p lv:Value} (v:Int) {L:List ByteArray} {w:World} (h:RR w r s d t p) (hl:Rd w lv 1 (fG L)):aj T_ 265 [RA r s d t p,.int .i64 v,lv] w (.int .i64 (nG r v L:Nat)):=by
 obtain ⟨h1,h2,h3,h4⟩:=h.one;have xA:∀ (o:ByteArray) {w'},aD [] w w'->aj T_ 133 [.agg #[.int .i64 r.lv,.int .i64 r.ma,s,d,t,p],.int .i64 v,.string o] w' (.string ((ep r.po v o).getD ⟨#[]⟩)):=fun o _ hk=>rO v o (h.keeps hk)
 obtain ⟨a,cap,b,o,rfl,c8,bV,ha,hc⟩:=hl;rw [bA] at *;unfold maxLen at bV;unfold RA;refine ah func265 I I ?_;refine Jr<|Jy I I fun _ _=>Ja I<|Ji<|Ja I<|Jn<|Jq<|Jr<|Ja I<|Jn<|J0 ?_;rename_i b3 tQ;refine aY (ι:=Nat) (fun k=>k<=L.length) (fun k=>[(8,.int .i64 (k:Nat)),(7,.int .i64 (nG r v (L.take k):Nat)),(1,.int .i64 v),(2,.slice a L.length cap),(3,.pointer (some ⟨b3,0,none⟩))]) (fun _=>[JQ b3 r s d t p]) (fun k=>L.length-k) ?_ ?_
 ·apply aK (0:Nat) (show (0:Nat)<=L.length from Zi _)
  case hs1=>exact cj
  case ht=>(try simp only [Ze,Zf,Za]);exact .cons .here .nil
 rintro k hk;by_cases aL:k<L.length
 ·have cM:=ha (iy aL);have aF:=(hc k _ (fF aL)).2 0 _ I;have htk:=Gz (r:=r) (v:=v) aL;have hle:nG r v (L.take k)<=k:=by have:=NN r v (L.take k);rw [List.length_take] at this;omega
  generalize L[k]=x at aF htk;have k9:nG r v (L.take k)+1<=9223372036854775807:=by omega
  generalize nG r v (L.take k)=m at hle k9 htk;refine Jq<|Jr<|Jv I<|Jv I<|JI I<|JA I<|Jn<|Jd I fun ar=>Jk<|Jq<|J0<|Jq ?_
  with_reducible refine cW 8 (by kernel_rfl) ?_
  (refine aA (cr .here) I ?_;refine iv I I ?_;refine iv I I ?_;refine iv I I ?_;refine aA (gj cM ar) I ?_;refine aA (ag (.of I) (At.base aF I)) I ?_;refine c6 dH I (fun w' aq=>(xA x (Mem.keeps aq))) ?_;refine aA (eh (.of I) (.of I)) I ?_)
  with_reducible refine cZ ?_
  (refine Jn<|gl I (fun ar=>?_) fun ar=>?_;refine Jg<|Jv I<|JB I (by omega)<|Ja I<|Jx<|Jj<|Jt<|Jg<|Jv I<|JB I (by omega)<|Ja I<|Jn ?_;rotate_left;refine Jw<|Jj<|Jt<|Jg<|Jv I<|JB I (by omega)<|Ja I<|Jn ?_;rotate_right)
  ·rw [if_pos ar] at htk;apply aJ (k+1) (show k+1<=L.length from aL) (show L.length-(k+1)<L.length-k by omega)
   case hs1=>
    rw [htk];exact .cons I (.cons I (.cons I (.cons I (.cons I .nil))))
   case ht=>exact oA
  ·rw [if_neg ar] at htk;apply aJ (k+1) (show k+1<=L.length from aL) (show L.length-(k+1)<L.length-k by omega)
   case hs1=>
    rw [htk];exact .cons I (.cons I (.cons I (.cons I (.cons I .nil))))
   case ht=>exact oA
 ·obtain rfl:k=L.length:=by omega
  refine Jq<|Jr<|Jv I<|Jv I<|JI I<|JA I<|Jn<|Jc I fun ar=>Jp<|Jl<|Jo<|Jt<|Jr<|Jv I<|Ja I<|Jn<|Je<|JT ?_;rw [List.take_length]
def z6 (r:Ro):List ByteArray->List ByteArray->Bool
 | a::l,b::m=>if a=b then z6 r l m else decide (bd (cd r) a<bd (cd r) b)
 | _,_=>false
def M8 (r:Ro) (v:Int) (A B:List ByteArray):Bool:=if nG r v A=nG r v B then (if A.length=B.length then z6 r A B else decide (A.length<B.length)) else decide (nG r v A<nG r v B)
theorem Gb {r:Ro} {A B:List ByteArray} {k:Nat} (ha:k<A.length) (hb:k<B.length):z6 r (A.drop k) (B.drop k)=if A[k]=B[k] then z6 r (A.drop (k+1)) (B.drop (k+1)) else decide (bd (cd r) A[k]<bd (cd r) B[k]):=by
 rw [List.drop_eq_getElem_cons ha,List.drop_eq_getElem_cons hb,z6]
theorem IL {r:Ro} {s d t p av bv:Value} (v:Int) {A B:List ByteArray} {w:World} (h:RR w r s d t p) (hA:Rd w av 1 (fG A)) (hB:Rd w bv 1 (fG B)):aj T_ 183 [RA r s d t p,.int .i64 v,av,bv] w (.bool (M8 r v A B)):=by
 obtain ⟨h1,h2,h3,h4⟩:=h.one;have Rs:∀ {w'},aD [] w w'->aj T_ 265 [.agg #[.int .i64 r.lv,.int .i64 r.ma,s,d,t,p],.int .i64 v,av] w' (.int .i64 (nG r v A:Nat)):=fun hk=>E7 v (h.keeps hk) (Rd.keeps hA hk)
 have Rr:∀ {w'},aD [] w w'->aj T_ 265 [.agg #[.int .i64 r.lv,.int .i64 r.ma,s,d,t,p],.int .i64 v,bv] w' (.int .i64 (nG r v B:Nat)):=fun hk=>E7 v (h.keeps hk) (Rd.keeps hB hk)
 have Pa:∀ (o:ByteArray) {w'},aD [] w w'->aj T_ 60 [.agg #[.int .i64 r.lv,.int .i64 r.ma,s,d,t,p],.string o] w' (.int .i64 (bd (cd r) o)):=fun o _ hk=>nI o (h.keeps hk)
 unfold M8;generalize nG r v A=fa at Rs ⊢;generalize nG r v B=fb at Rr ⊢;obtain ⟨a,cap,b,o,rfl,c8,bV,ha,hc⟩:=hA;obtain ⟨a2,dB,b2,o2,rfl,jK,eE,iT,jL⟩:=hB;rw [bA A] at *;rw [bA B] at *;unfold maxLen at bV eE;have J8:=fun {w'}=>Rs (w':=w')
 have Aj:=fun {w'}=>Rr (w':=w')
 clear Rs Rr;unfold RA;refine ah func183 I I ?_;refine Jr<|Jy I I fun _ _=>Ja I<|Jn<|Jq<|Jq ?_;rename_i b4 uQ
 with_reducible refine cW 9 (by kernel_rfl) ?_
 (refine aA (cr .here) I ?_;refine iv I I ?_;refine iv I I ?_;refine c6 dH I (fun w' aq=>(J8 (Mem.keeps aq))) ?_;refine aA (cr .here) I ?_;refine iv I I ?_;refine iv I I ?_;refine c6 dH I (fun w' aq=>(Aj (Mem.keeps aq))) ?_;refine aA (fZ (.of I) (.of I)) I ?_)
 with_reducible refine cZ ?_
 (refine Jn<|gl I (fun ar=>?_) fun ar=>?_;refine Jq ?_;rotate_left;refine Jk<|Jq<|Jr<|Jv I<|JI I<|Jv I<|JI I<|JD I<|Jn<|gl I (fun ar=>?_) fun ar=>?_;refine Jr<|Jv I<|JI I<|Jv I<|JI I<|JA I<|Ja I<|Jn<|Ju<|JT ?_;rotate_left;refine Jk<|Jq<|Jr<|Ja I<|Jn<|J0 ?_;rotate_right;rotate_right)
 ·with_reducible refine cW 8 (by kernel_rfl) ?_
  (refine aA (cr .here) I ?_;refine iv I I ?_;refine iv I I ?_;refine c6 dH I (fun w' aq=>(J8 (Mem.keeps aq))) ?_;refine aA (cr .here) I ?_;refine iv I I ?_;refine iv I I ?_;refine c6 dH I (fun w' aq=>(Aj (Mem.keeps aq))) ?_)
  with_reducible refine cZ ?_
  refine JA I<|Ja I<|Jn<|Ju<|JT ?_;rw [if_neg (by omega)];congr 1;exact decide_eq_decide.2 (by omega)
 ·rw [if_pos (by omega),if_neg (by omega)];congr 1;exact decide_eq_decide.2 (by omega)
 have Rq:fa=fb:=by omega
 have hle:A.length=B.length:=by omega
 rw [if_pos Rq,if_pos hle];clear ar J8 Aj Rq;refine aY (ι:=Nat) (fun k=>k<=A.length/\z6 r A B=z6 r (A.drop k) (B.drop k)) (fun k=>[(9,.int .i64 (k:Nat)),(2,.slice a A.length cap),(3,.slice a2 B.length dB),(4,.pointer (some ⟨b4,0,none⟩))]) (fun _=>[JQ b4 r s d t p]) (fun k=>A.length-k) ?_ ?_
 ·apply aK (0:Nat) ⟨Zi _,I⟩
  case hs1=>exact cj
  case ht=>(try simp only [Ze,Zf,Za]);exact .cons .here .nil
 rintro k ⟨hk,hx⟩;by_cases aL:k<A.length
 ·have fE:k<B.length:=by omega
  have cM:=ha (iy aL);have dD:=iT (iy fE);have cA:=(hc k _ (fF aL)).2 0 _ I;have cB:=(jL k _ (fF fE)).2 0 _ I;rw [Gb aL fE] at hx;generalize A[k]=x at cA hx;generalize B[k]=y at cB hx;refine Jq<|Jr<|Jv I<|Jv I<|JI I<|JA I<|Jn<|Jd I fun ar=>Jk<|Jq<|J0<|Jq ?_
  with_reducible refine cW 9 (by kernel_rfl) ?_
  (refine iv I I ?_;refine iv I I ?_;refine aA (gj cM ar) I ?_;refine aA (ag (.of I) (At.base cA I)) I ?_;refine iv I I ?_;refine iv I I ?_;refine aA (az (.of I) (.of I) dD (by omega) (by omega) ba) I ?_;refine aA (ag (.of I) (At.base cB I)) I ?_;refine aA (ig (.of I) (.of I)) I ?_)
  with_reducible refine cZ ?_
  (refine Jn<|gl I (fun ar=>?_) fun ar=>?_;refine Jq ?_;rotate_left;refine Jw<|Jj<|Jt<|Jg<|Jv I<|JB I (by omega)<|Ja I<|Jn ?_;rotate_right)
  ·with_reducible refine cW 14 (by kernel_rfl) ?_
   (refine aA (cr .here) I ?_;refine iv I I ?_;refine iv I I ?_;refine aA (az (.of I) (.of I) cM (by omega) (by assumption) ba) I ?_;refine aA (ag (.of I) (At.base cA I)) I ?_;refine c6 aX I (fun w' aq=>(Pa x (Mem.keeps aq))) ?_;refine aA (cr .here) I ?_;refine iv I I ?_;refine iv I I ?_;refine aA (az (.of I) (.of I) dD (by omega) (by omega) ba) I ?_;refine aA (ag (.of I) (At.base cB I)) I ?_;refine c6 aX I (fun w' aq=>(Pa y (Mem.keeps aq))) ?_;refine aA (mm (.of I) (.of I)) I ?_;refine aA (cF (.of I)) I ?_)
   with_reducible refine cZ ?_
   refine Jn<|Je<|Jm<|Jh<|Jh<|Jm<|Jh<|JT ?_;rw [hx,if_neg ar]
  rw [if_pos (Decidable.not_not.1 ar)] at hx;apply aJ (k+1) ⟨(show k+1<=A.length from aL),hx⟩ (show A.length-(k+1)<A.length-k by omega)
  case hs1=>exact cj
  case ht=>(try simp only [Ze,Zf,Za]);exact .cons .here .nil
 ·obtain rfl:k=A.length:=by omega
  refine Jq<|Jr<|Jv I<|Jv I<|JI I<|JA I<|Jn<|Jc I fun ar=>Jp<|Jl<|Jo<|Jt<|Jr<|Ja I<|Jn<|Je<|JT ?_;rw [hx,List.drop_length]
  rfl
def CS (r:Ro) (x:ByteArray):Ti:=gq r (bd (cd r) x).toNat
theorem HB {r:Ro} {x:ByteArray} (h:x∈cd r):∃ j:Nat,∃ hj:j<r.ti.length,bd (cd r) x=(j:Nat)/\CS r x=r.ti[j]/\r.ti[j].nm=x:=by
 obtain ⟨mF,hx⟩:=eD (di h);have vS:(cd r).length=r.ti.length:=by unfold cd;rw [Zd]
 have hl:=Nat.lt_of_lt_of_eq mF vS;have:=di h;refine ⟨(bd (cd r) x).toNat,hl,by omega,?_,?_⟩
 ·unfold CS;rw [ns hl]
 ·exact (List.getElem_map (f:=Ti.nm) (l:=r.ti) (h:=mF)).symm.trans hx
def Qc (r:Ro) (v:Int) (so:ByteArray) (f:Bool) (m:Int) (x:ByteArray):Bool:=f&&gC r.po v x&&decide (jX r v x=so)||!gC r.po v x&&decide ((CS r x).fr=m)
def GV (r:Ro) (v:Int) (so:ByteArray):Bool->Int->List ByteArray->Option Int
 | _,m,[]=>some m
 | f,m,x::l=>if Qc r v so f m x=true then GV r v so false (CS r x).to l else none
def QM (r:Ro) (v:Int) (so de:ByteArray) (L:List ByteArray):Bool:=decide (GV r v so true (mi r so) L=some (jV r de))
theorem G7 {r:Ro} {v:Int} {so:ByteArray} {f:Bool} {m:Int} {L:List ByteArray} {k:Nat} (h:k<L.length):GV r v so f m (L.drop k)=if Qc r v so f m L[k]=true then GV r v so false (CS r L[k]).to (L.drop (k+1)) else none:=by
 rw [List.drop_eq_getElem_cons h,GV]
set_option maxHeartbeats 1000000 in
theorem EV {r:Ro} {s d t p lv:Value} (v:Int) (so de:ByteArray) {L:List ByteArray} {w:World} (h:RR w r s d t p) (hb:gB r=0) (hs:so∈ct r) (hd:de∈cz r) (hl:Rd w lv 1 (fG L)) (hL:∀ x∈L,x∈cd r):aj T_ 75 [RA r s d t p,.int .i64 v,.string so,.string de,lv] w (.bool (QM r v so de L)):=by
 obtain ⟨h1,h2,h3,h4⟩:=h.one;obtain ⟨i0,pW,YG,YF⟩:=OM hs;obtain ⟨j0,tM,ej0,en0⟩:=U6 hd;have NB:∀ {w'},aD [] w w'->aj T_ 130 [.agg #[.int .i64 r.lv,.int .i64 r.ma,s,d,t,p],.string so] w' (.int .i64 (i0:Nat)):=fun hk=>by rw [<- YG];exact r7 so (h.keeps hk)
 have SH:∀ {w'},aD [] w w'->aj T_ 56 [.agg #[.int .i64 r.lv,.int .i64 r.ma,s,d,t,p],.string de] w' (.int .i64 (j0:Nat)):=fun hk=>by rw [<- ej0];exact uU de (h.keeps hk)
 have XW:∀ (o:ByteArray) (j:Nat),bd (cd r) o=(j:Nat)->∀ {w'},aD [] w w'->aj T_ 60 [.agg #[.int .i64 r.lv,.int .i64 r.ma,s,d,t,p],.string o] w' (.int .i64 (j:Nat)):=fun o j e _ hk=>by rw [<- e];exact nI o (h.keeps hk)
 have xA:∀ (o:ByteArray) {w'},aD [] w w'->aj T_ 133 [.agg #[.int .i64 r.lv,.int .i64 r.ma,s,d,t,p],.int .i64 v,.string o] w' (.string ((ep r.po v o).getD ⟨#[]⟩)):=fun o _ hk=>rO v o (h.keeps hk)
 have Rz:∀ (o:ByteArray),o≠⟨#[]⟩->∀ {w'},aD [] w w'->aj T_ 131 [.agg #[.int .i64 r.lv,.int .i64 r.ma,s,d,t,p],.int .i64 v,.string o] w' (.string (jX r v o)):=fun o ho _ hk=>by rw [<- Ft hb v ho];exact y7 v o ho (h.keeps hk)
 have BV:=h.sr;have DG:=h.de;have xx:=h.ti;obtain ⟨a1,dZ,G2,GX,rfl,nS,hG,kK,kc⟩:=BV;obtain ⟨a2,dB,LG,Lr,rfl,jK,eE,iT,jL⟩:=DG;obtain ⟨a3,dQ,Fu,EI,rfl,lo,fD,qA,nW⟩:=xx;obtain ⟨a4,e9,PF,Lq,rfl,tO,km,CE,vZ⟩:=hl;rw [cu] at *;rw [bZ] at *;rw [bO] at *;rw [bA] at *;unfold maxLen at hG eE fD km;have we:=kK (gL pW);have ql:=iT (gS tM);have cS:w.cell? ⟨G2,GX+i0*2+1,none⟩=some (.int .i64 (mi r so)):=by rw [YF];exact (kc i0 _ (fk pW)).2 1 _ I
 have cD:w.cell? ⟨LG,Lr+j0*3+1,none⟩=some (.int .i64 (jV r de)):=by rw [en0];exact (jL j0 _ (fu tM)).2 1 _ I
 unfold RA QM;refine ah func75 I I ?_;refine Jr<|Jy I I fun _ _=>Ja I<|Jn<|Jq ?_;rename_i b5 G0
 with_reducible refine cW 9 (by kernel_rfl) ?_
 (refine mG I I ae ?_;refine aA (gD .here) I ?_;refine aA (cr .here) I ?_;refine iv I I ?_;refine c6 aX I (fun w' aq=>(NB (Mem.keeps aq))) ?_;refine aA (az (.of I) (.of I) we (by omega) (by omega) ba) I ?_;refine mG I I ae ?_;refine aA (ag (.of I) (At.base cS I)) I ?_;refine aA (cF (.of I)) I ?_)
 with_reducible refine cZ ?_
 refine Jn<|Jq<|Jr<|Ja I<|Jn<|J0 ?_;clear cS we;refine aY (ι:=Nat×Int) (fun y=>y.1<=L.length/\GV r v so true (mi r so) L=GV r v so (decide (y.1=0)) y.2 (L.drop y.1)) (fun y=>[(12,.int .i64 (y.1:Nat)),(11,.int .i64 y.2),(1,.int .i64 v),(2,.string so),(3,.string de),(4,.slice a4 L.length e9),(5,.pointer (some ⟨b5,0,none⟩)),(10,.bool false)]) (fun _=>[JQ b5 r (.slice a1 r.sr.length dZ) (.slice a2 r.de.length dB) (.slice a3 r.ti.length dQ) p]) (fun y=>L.length-y.1) ?_ ?_
 ·apply aK (0,mi r so) ⟨Zi _,I⟩
  case hs1=>exact cj
  case ht=>(try simp only [Ze,Zf,Za]);exact .cons .here .nil
 rintro ⟨k,m⟩ ⟨hk,hx⟩;dsimp only at hk hx ⊢;by_cases aL:k<L.length
 ·have cM:=CE (iy aL);have cA:=(vZ k _ (fF aL)).2 0 _ I;have my:=hL _ (Zj aL);rw [G7 aL] at hx;generalize L[k]=x at cA hx my;obtain ⟨j,hj,ej,et,en⟩:=HB my;have Pa:=fun {w'}=>XW x j ej (w':=w')
  have ui:=qA (eO hj);obtain ⟨ir,aF⟩:=nW j _ (dY hj);unfold Ti.cells at aF;have sS:=fun {w'}=>Rz r.ti[j].nm (OJ hb hj) (w':=w')
  have g1:=DY hb v r.ti[j].nm;have g2:=DX hb v r.ti[j].nm;have W3:Qc r v so (decide (k=0)) m x=(decide (k=0)&&gC r.po v r.ti[j].nm&&decide (jX r v r.ti[j].nm=so)||!gC r.po v r.ti[j].nm&&decide (r.ti[j].fr=m)):=by unfold Qc;rw [et,en]
  rw [et] at hx;generalize r.ti[j]=z at aF sS g1 g2 W3 hx;refine Jq<|Jr<|Jv I<|Jv I<|JI I<|JA I<|Jn<|Jd I fun ar=>Jk<|Jq<|J0<|Jq ?_
  with_reducible refine cC 11 (by kernel_rfl) ?_
  (refine ak kA I ?_;refine ak (gD .here) I ?_;refine ak (cr .here) I ?_;refine ak jP I ?_;refine ak jP I ?_;refine ak (gj cM ar) I ?_;refine ak (ag (.of I) (At.base cA I)) I ?_;refine aQ aX I (fun w' aq=>(Pa (Mem.keeps aq))) ?_;refine ak (az (.of I) (.of I) ui (by omega) (by omega) ba) I ?_;refine ak (iI (eU.base aF I)) I ?_;refine dX (oM I) I I ?_)
  with_reducible refine cY I fun bq mA=>?_
  (refine au (.of I) (.of I) .here I I (fx I I I) (bF I) an ?_;refine Ji<|ab (cr (.there .here)) I ?_;refine Jv I<|bK I I ae ?_;refine JL I .here I<|ai dH I (fun w' aq=>(xA _ (Mem.keeps aq))) ?_;refine ab (ig (.of I) (.of I)) I ?_;refine Ja I<|Ji<|Jv I<|JC I<|Jv I<|fM I I I I ?_;refine ab (bH (.of I) I) I ?_;refine Jv I<|aC I I inferInstance (fun hg br=>(cm (.of I) (.there .here) an (by rfl))) I ?_;refine fM I I I I ?_;refine aC I I inferInstance (fun hg br=>(ao (.of I) ae)) I ?_;refine aC I I inferInstance (fun hg br=>(ag (.bL hg I) (At.lit .here I))) I ?_;refine gJ I I (fun hg=>(bj (.of I) (.cons (.bL hg I) (.cons (.bL hg I) (.cons (.bL hg I) .nil))) inferInstance fL)) I (fun hg w' aq=>(sS (Mem.keeps aq))) ?_;refine fM I I I I ?_;refine aC I I inferInstance (fun hg br=>(eh (.bL hg I) (.bL hg I))) I ?_;refine ab (bH (.of I) I) I ?_;refine Ja I<|Jn<|Jq<|Jr<|Jv I<|JH I<|Jv I<|fM I I I I ?_;refine aC I I inferInstance (fun hg br=>(aZ (.bL hg I))) I ?_;refine ek I I inferInstance (fun hg br=>(ao (.of I) ae)) I ?_;refine ek I I inferInstance (fun hg br=>(ag (.bL hg I) (At.lit .here I))) I ?_;refine ek I I inferInstance (fun hg br=>(aZ (.of I))) I ?_;refine ek I I inferInstance (fun hg br=>(fZ (.bL hg I) (.bL hg I))) I ?_;refine aC I I inferInstance (fun hg br=>(ju hg (.bL hg I) I)) I ?_;refine ab (bH (.of I) I) I ?_;refine Jn<|oz I (fun ar=>?_) fun ar=>?_;refine Jr<|Ja I<|Jn<|Ju<|Jm<|Jh<|Jh<|Jm<|Jh<|JT ?_;rotate_left;refine Jk<|Jg<|bK I I ae ?_;refine JL I .here I<|Ja I<|Jx<|Jj<|Jt<|Jg<|Jv I<|JB I (by omega)<|Ja I<|Jn ?_;rotate_right)
  ·have hz:Qc r v so (decide (k=0)) m x=false:=by
    rw [W3];obtain ⟨q1,q2⟩:=ar;cases eb:gC r.po v z.nm
    ·have:z.fr≠m:=q2.resolve_left fun q=>by rw [g1.1 q] at eb;cases eb
     rw [decide_eq_false this];simp
    ·have:¬ k=0\/¬ jX r v z.nm=so:=q1.imp (fun q=>q.elim (fun q0=>by omega) (fun q0=>absurd (g1.2 eb) q0)) id
     rcases this with q | q
     ·rw [decide_eq_false q];simp
     ·rw [decide_eq_false q];simp
   rw [hz,if_neg (by decide)] at hx;rw [hx];simp
  have hz:Qc r v so (decide (k=0)) m x=true:=by
   rw [W3];rcases ar with ⟨⟨q1,q2⟩,q3⟩ | ⟨q1,q2⟩
   ·rw [g1.1 q2,decide_eq_true q3,decide_eq_true (show k=0 by omega)];rfl
   ·rw [g2.1 (Decidable.not_not.1 q1),decide_eq_true (Decidable.not_not.1 q2)];simp
  rw [hz,if_pos I] at hx;apply aJ (k+1,z.to) ⟨(show k+1<=L.length from aL),by
   show _=GV r v so (decide (k+1=0)) z.to (L.drop (k+1));rw [show decide (k+1=0)=false from decide_eq_false (by omega)];exact hx⟩ (show L.length-(k+1)<L.length-k by omega)
  case hs1=>exact cj
  case ht=>(try simp only [Ze,Zf,Za]);exact .cons (.there .here) .nil
 ·obtain rfl:k=L.length:=by omega
  rw [List.drop_length,GV] at hx;refine Jq<|Jr<|Jv I<|Jv I<|JI I<|JA I<|Jn<|Jc I fun ar=>Jp<|Jl<|Jo<|Jt<|Jq ?_
  with_reducible refine cW 11 (by kernel_rfl) ?_
  (refine iv I I ?_;refine mG I I ae ?_;refine aA (gD .here) I ?_;refine aA (cr .here) I ?_;refine iv I I ?_;refine c6 aX I (fun w' aq=>(SH (Mem.keeps aq))) ?_;refine aA (az (.of I) (.of I) ql (by omega) (by omega) ba) I ?_;refine mG I I ae ?_;refine aA (ag (.of I) (At.base cD I)) I ?_;refine aA (jE (.of I) (.of I)) I ?_;refine aA (cF (.of I)) I ?_)
  with_reducible refine cZ ?_
  refine Jn<|Je<|JT ?_;rw [hx];simp
def Fm (r:Ro) (L:List ByteArray):Int:=if (6:Int)<(L.length:Nat) then 5 else PC r L
theorem Iy {l:List ByteArray} {x:ByteArray}:(!fI l x)=decide (bd l x<0):=by
 rw [Bool.eq_iff_iff,Bool.not_eq_true',<- Bool.not_eq_true,ef,decide_eq_true_iff];exact ⟨fun h=>by have:=cq.2 h;omega,fun h q=>by have:=di q;omega⟩
theorem DT {r:Ro} {s d t p lv:Value} {L:List ByteArray} {w:World} (h:RR w r s d t p) (hl:Rd w lv 1 (fG L)):aj T_ 74 [RA r s d t p,lv] w (.int .i64 (Fm r L)):=by
 obtain ⟨h1,h2,h3,h4⟩:=h.one;have Pa:∀ (o:ByteArray) {w'},aD [] w w'->aj T_ 60 [.agg #[.int .i64 r.lv,.int .i64 r.ma,s,d,t,p],.string o] w' (.int .i64 (bd (cd r) o)):=fun o _ hk=>nI o (h.keeps hk)
 have mF:=hl;obtain ⟨a,cp,b,o',rfl,c8,bV,ha,SK⟩:=hl;rw [bA] at *;unfold maxLen at bV;unfold RA;refine ah func74 I I ?_
 (refine Jr<|Jy I I fun _ _=>Ja I<|Jn<|Jq<|Jr<|Jv I<|JI I<|JE I<|Jn<|gl I (fun ar=>?_) fun ar=>?_;refine Jr<|Ja I<|Jn<|Ju<|JT ?_;rotate_left;refine Jk<|Jq<|Jr<|Ja I<|Jn<|J0 ?_;rotate_right)
 ·rw [show Fm r L=5 from if_pos ar]
 rw [show Fm r L=jq (qi r L) L.length from if_neg ar];rename_i b2 uh;refine aY (ι:=Nat) (fun k=>k<=L.length/\∀ i,i<k->qi r L i=0) (fun k=>[(5,.int .i64 (k:Nat)),(1,.slice a L.length cp),(2,.pointer (some ⟨b2,0,none⟩))]) (fun _=>[JQ b2 r s d t p]) (fun k=>L.length-k) ?_ ?_
 ·apply aK (0:Nat) ⟨Zi _,fun i hi=>absurd hi (Nat.not_lt_zero _)⟩
  case hs1=>exact cj
  case ht=>(try simp only [Ze,Zf,Za]);exact .cons .here .nil
 rintro k ⟨hk,hf⟩;by_cases aL:k<L.length
 ·have cM:=ha (iy aL);have c0:w.cell? ⟨b,o'+k*1,none⟩=some (.string L[k]):=(SK k _ (fF aL)).2 0 _ I;have ja:=rj (r:=r) aL;rw [Iy] at ja;have rf:Rd w (Go.sliced a 0 (k:Int).toNat cp 1) 1 (fG (L.take k)):=by
   have:=mF.sliced (l:=0) (m:=k) (Zi _) (by omega);rw [Int.toNat_natCast];rwa [List.drop_zero,show (fG L).take k=fG (L.take k) by unfold fG;rw [List.map_take]] at this
  have V2:∀ {w'},aD [] w w'->aj T_ 59 [Go.sliced a 0 (k:Int).toNat cp 1,.string L[k]] w' (.bool (fI (L.take k) L[k])):=fun hk=>DH _ (rf.keeps hk)
  have kl:qi r L k=0->∀ i,i<k+1->qi r L i=0:=fun e i hi=>by
   by_cases e2:i=k
   ·rw [e2];exact e
   ·exact hf i (by omega)
  have SM:qi r L k≠0->jq (qi r L) L.length=qi r L k:=fun e=>eS hf aL e
  refine Jq<|Jr<|Jv I<|Jv I<|JI I<|JA I<|Jn<|Jd I fun ar=>Jk<|Jq<|J0<|Jq ?_
  with_reducible refine cC 18 (by kernel_rfl) ?_
  (refine ak (cr .here) I ?_;refine ak jP I ?_;refine ak jP I ?_;refine ak (gj cM ar) I ?_;refine ak (ag (.of I) (At.base c0 I)) I ?_;refine aQ aX I (fun w' aq=>(Pa _ (Mem.keeps aq))) ?_;refine ak (mm (.of I) (.of I)) I ?_;refine aQ aX I (fun w' aq=>(kB _ 10 w')) ?_;refine ak jP I ?_;refine ak jP I ?_;refine ak (fY (.of I) (.of I) (by omega) (by omega)) I ?_;refine ak jP I ?_;refine ak jP I ?_;refine ak (gj cM ar) I ?_;refine ak (ag (.of I) (At.base c0 I)) I ?_;refine aQ aX I (fun w' aq=>(V2 (Mem.keeps aq))) ?_;refine aQ aX I (fun w' aq=>(kB _ 9 w')) ?_;refine dX (aB (.cons (.of I) (.cons (.of I) .nil)) I I I I) I I ?_)
  with_reducible refine cY I fun bq mA=>?_
  (refine ai bN I (fun w' aq=>(kq (Mem.df aq .here I I) (bQ.cons (bQ.cons bQ.nil)))) ?_;refine Ja I<|Ji<|Jv I<|JD I<|Jn<|gl I (fun ar=>?_) fun ar=>?_;refine Jr<|Jv I<|Ja I<|Jn<|Je<|Jm<|Jh<|Jh<|Jm<|Jh<|JT ?_;rotate_left;refine Jw<|Jj<|Jt<|Jg<|Jv I<|JB I (by omega)<|Ja I<|Jn ?_;rotate_right)
  ·rw [<- ja] at ar ⊢;rw [SM ar]
  have hz:qi r L k=0:=by rw [ja];exact Decidable.not_not.1 ar
  apply aJ (k+1) ⟨(show k+1<=L.length from aL),kl hz⟩ (show L.length-(k+1)<L.length-k by omega)
  case hs1=>exact cj
  case ht=>(try simp only [Ze,Zf,Za]);exact .cons (.there .here) .nil
 ·obtain rfl:k=L.length:=by omega
  rw [dN.2 hf];refine Jq<|Jr<|Jv I<|Jv I<|JI I<|JA I<|Jn<|Jc I fun ar=>Jp<|Jl<|Jo<|Jt<|Jr<|Ja I<|Jn<|Je<|JT ?_
  rfl
theorem zm {r:Ro} (dU:rb r) (hd:(cd r).Nodup) {v:Int} {so:ByteArray}:∀ (L:List ByteArray) (b:Bool) (m:Int),(∀ x∈L,x∈cd r)->Lg r r.po v so b m L=GV r v so b m L
 | [],_,_,_=>rfl
 | x :: l, b, m, hL => by
  obtain ⟨j,hj,ej,et,en⟩:=HB (hL x List.mem_cons_self);have ht:dG r j=x:=by unfold dG;rw [ns hj];exact en
  have e1:j9 r x=(CS r x).fr:=by rw [<- ht,uI dU.ue hd hj,ht,et,ns hj]
  have e2:jR r x=(CS r x).to:=by rw [<- ht,rQ dU.ue hd hj,ht,et,ns hj]
  have e3:(gC r.po v x&&decide (pZ r.po v (ct r) x=so))=(gC r.po v x&&decide (jX r v x=so)):=by
   have:=q5 dU.ue dU.val v so j;unfold xb at this;rw [ht] at this;rw [this];show _=(gC r.po v (dG r j)&&decide (pZ r.po v (ct r) (dG r j)=so));rw [ht]
  rw [Lg,GV,e1,e2,e3];unfold Qc;rw [Bool.and_assoc];split
  ·exact zm dU hd l false _ fun y hy=>hL y (List.mem_cons_of_mem _ hy)
  ·rfl
theorem LS {r:Ro} (dU:rb r) (hd:(cd r).Nodup) {v:Int} {so de:ByteArray} (hb:jw r v so de=0) (L:List ByteArray):KB r v so de L=if Fm r L≠0 then Fm r L else if QM r v so de L=true then 0 else 19:=by
 unfold KB R5 Fm;rw [hb,Kr,RP];by_cases h6:(6:Int)<(L.length:Nat)
 ·rw [if_pos h6,decide_eq_true h6]
  rfl
 ·rw [if_neg h6,decide_eq_false h6];rw [if_neg (show ¬ bG false 5≠0 by decide)];by_cases h5:PC r L=0
  ·rw [if_neg (not_not_intro h5),if_neg (not_not_intro h5)];have hL:∀ x∈L,x∈cd r:=fun x hx=>by
    obtain ⟨k,hk,rfl⟩:=List.getElem_of_mem hx;have e:qi r L k=0:=dN.1 h5 k hk;rw [rj hk,bI] at e;have e2:=e (bG (!fI (cd r) L[k]) 10) List.mem_cons_self;rw [bD (by decide)] at e2;rw [<- ef];cases q:fI (cd r) L[k]
    ·rw [q] at e2;cases e2
    ·rfl
   unfold GD QM;rw [zm dU hd L true _ hL];cases q:GV r v so true (mi r so) L with
   | none=>simp
   | some m =>
    by_cases e:m=jV r de
    ·subst e;simp [bG]
    ·simp [bG,e]
  ·rw [if_pos h5,if_pos h5]
theorem Ke {r:Ro} (hd:(cd r).Nodup) {p:List Nat} (hp:∀ i∈p,i<r.ti.length) {j:Nat} (hj:j<r.ti.length):fI (p.map (dG r)) (dG r j)=p.contains j:=by
 rw [Bool.eq_iff_iff,ef,List.contains_iff_mem,List.mem_map];constructor
 ·rintro ⟨i,hi,e⟩;rw [<- uv hd (hp i hi) hj e];exact hi
 ·exact fun h=>⟨j,h,I⟩
theorem Km {r:Ro} (hb:gB r=0) (v:Int) (L:List ByteArray):nG r v L=xF r.po v L:=by
 unfold nG xF;refine List.countP_congr fun x _=>?_;rw [decide_eq_true_iff,Bool.not_eq_true',DX hb v x]
theorem IK (r:Ro):∀ A B:List ByteArray,z6 r A B=Gc (bd (cd r)) A B
 | [],[]=>rfl
 | [],_::_=>rfl
 | _::_,[]=>rfl
 | a::l,b::m=>by rw [z6,Gc,IK r l m]
theorem M7 {r:Ro} (hb:gB r=0) (hd:(cd r).Nodup) {v:Int} (so:ByteArray) {a b:List Nat} (ha:∀ i∈a,i<r.ti.length) (hc:∀ i∈b,i<r.ti.length):M8 r v (a.map (dG r)) (b.map (dG r))=(dE r r.po v so).lt a b:=by
 rw [<- IG (po:=r.po) (v:=v) (s:=so) hd ha hc];unfold M8 WT;rw [Km hb,Km hb,IK];by_cases h1:xF r.po v (a.map (dG r))=xF r.po v (b.map (dG r))
 ·rw [if_pos h1,if_neg (not_not_intro h1)];by_cases h2:(a.map (dG r)).length=(b.map (dG r)).length
  ·rw [if_pos h2,if_neg (not_not_intro h2)]
  ·rw [if_neg h2,if_pos h2]
 ·rw [if_neg h1,if_pos h1]
theorem QL {r:Ro} (dU:rb r) (hd:(cd r).Nodup) {v:Int} {so de:ByteArray} (hs:so∈ct r) {p:List Nat} (hp:(dE r r.po v so).ok p):QM r v so de (p.map (dG r))=decide ((dE r r.po v so).fin p=jV r de):=by
 have aL:∀ i∈p,i<r.ti.length:=Wn.tw hp;have hL:∀ x∈p.map (dG r),x∈cd r:=fun x hx=>by
  obtain ⟨i,hi,rfl⟩:=List.mem_map.1 hx;exact pI (aL i hi)
 have hw:=TI (po:=r.po) (v:=v) (s:=so) (m:=jV r de) dU.ue hd (Wn.vw hp) aL;rw [oI hs,zm dU hd _ _ _ hL] at hw;unfold QM;exact decide_eq_decide.2 (hw.trans ⟨fun h=>h.2,fun h=>⟨hp,h⟩⟩)
theorem Qa {r:Ro} (dU:rb r) {v:Int} {so:ByteArray} {p:List Nat} {j:Nat} (hj:j<r.ti.length):(dE r r.po v so).step p j=(!p.contains j&&(p.isEmpty&&gC r.po v (dG r j)&&decide (jX r v (dG r j)=so)||!gC r.po v (dG r j)&&decide ((gq r j).fr=(dE r r.po v so).fin p))):=by
 have e:(gC r.po v (dG r j)&&decide (jX r v (dG r j)=so))=(dE r r.po v so).ca j:=q5 dU.ue dU.val v so j;unfold Wn.step;rw [Bool.and_assoc,e,show decide (j<(dE r r.po v so).n)=true from decide_eq_true hj,Bool.true_and]
 rfl
def Hb (r:Ro) (v:Int) (so de:ByteArray) (k:Nat) (p:List Nat):List (List ByteArray):=((dE r r.po v so).all (jV r de) k p).map fun q=>q.map (dG r)
theorem Ha (r:Ro) (v:Int) (so de:ByteArray) (k:Nat) (p:List Nat):Hb r v so de (k+1) p=(if (dE r r.po v so).fin p=jV r de then [p.map (dG r)] else [])++(((List.range r.ti.length).filter ((dE r r.po v so).step p)).flatMap fun j=>Hb r v so de k (p++[j])):=by
 unfold Hb;rw [Wn.all,List.map_append,List.map_flatMap];congr 1;split <;> rfl
def PV (r:Ro) (v:Int) (so de:ByteArray) (k:Nat) (p:List Nat) (i:Nat):List (List ByteArray):=((List.range i).filter ((dE r r.po v so).step p)).flatMap fun j=>Hb r v so de k (p++[j])
theorem G9 (r:Ro) (v:Int) (so de:ByteArray) (k:Nat) (p:List Nat) (i:Nat):PV r v so de k p (i+1)=PV r v so de k p i++if (dE r r.po v so).step p i=true then Hb r v so de k (p++[i]) else []:=by
 unfold PV;rw [List.range_succ,List.filter_append,List.flatMap_append];congr 1;by_cases h:(dE r r.po v so).step p i=true
 ·rw [List.filter_cons,if_pos h,if_pos h];simp
 ·rw [List.filter_cons,if_neg h,if_neg h];rfl
end Go.Proofs.A1
namespace Go.SL
open Go
theorem yB {E:TypeId} {ws:List Value} {ys:List (List Value)}:∀ {vs:List Value} {xs:List (List Value)},vs.length=xs.length->fA E (vs++ws) (xs++ys)=fA E vs xs++fA E ws ys
 | [],[],_=>rfl
 | [],_::_,h=>by simp at h
 | _::_,[],h=>by simp at h
 | v' :: vs, x' :: xs, h => by
  simp only [List.length_cons,Nat.add_right_cancel_iff] at h;simp only [Zb,fA,yB h]
section
variable {P:Program} {c:Cx} {D:List Nat} {sl:aI} {hs:List a8} {X:Act->World->Prop}
theorem A2 {E:TypeId} {vs ws:List Value} {xs ys:List (List Value)} {h1 h2:List a8} (ht:Take hs (jn E vs xs) h1) (ht2:Take h1 (jn E ws ys) h2) (hl:vs.length=xs.length)
  (k:Tr c D sl (jn E (vs++ws) (xs++ys)::h2) X):Tr c D sl hs X:=fun a w a7=>by
 have hT:bn hs [jn E vs xs,jn E ws ys] h2:=.cons ht (.cons ht2 .nil);have hm:=a7.mem.jd (hT.append (mC D));obtain ⟨kk,fp,tK,⟨f1,Z2,rfl,g1,⟨f2,f3,rfl,g2,g3⟩⟩,hb⟩:=hm;refine k a w (a7.heap ⟨kk,(f1++f2)++f3,by rw [Zh];exact tK,⟨f1++f2,f3,I,?_,g3⟩,by rw [Zh];exact hb⟩);show ch (hp w) (fA E (vs++ws) (xs++ys)) (f1++f2);rw [yB hl];exact ch.append_iff.2 ⟨f1,f2,I,g1,g2⟩
end
end Go.SL
namespace Go.Proofs.A1
open Go Go.SL
open Tryz
open Tryz renaming prog->T_
structure lE (fP:List Value) (W:List (List ByteArray)) (bv:Value) (B:List ByteArray) (vs:List Value) (xs:List (List Value)):Prop where
 len:fP.length=W.length
 pl:vs.length=xs.length
 rd:∀ (i:Nat) (x:Value) (L:List ByteArray),fP[i]? = some x->W[i]? = some L->(x=bv/\L=B)\/∃ j:Nat,vs[j]? = some x/\xs[j]? = some (aM L)
theorem lE.one (bv:Value) (B:List ByteArray):lE [bv] [B] bv B [] []:=⟨I,I,fun i x L hx hL=>by
 cases i with
 | zero=>simp at hx hL;exact .inl ⟨hx.symm,hL.symm⟩
 | succ i=>simp at hx⟩
theorem lE.nil (bv:Value) (B:List ByteArray):lE [] [] bv B [] []:=⟨I,I,fun i x L hx _=>by simp at hx⟩
theorem Si {r:Ro} {v:Int} {so:ByteArray} {p:List Nat} (hp:(dE r r.po v so).ok p) {j:Nat} (hl:p.getLast? = some j):(dE r r.po v so).fin p=(gq r j).to:=by
 unfold Wn.fin;rw [hl];rfl
theorem L9 {c:Cx} {D:List Nat} {sl:aI} {hs:List a8} {X:Act->World->Prop} {p:Prop} (h:∀ w,Mem c hs w->p) (k:p->Tr c D sl hs X):Tr c D sl hs X:=fun a w a7=>k (h w a7.qP) a w a7
theorem F4 {c:Cx} {hs hs':List a8} {w:World} {E:TypeId} {vs:List Value} {xs:List (List Value)} (hm:Mem c hs w) (ht:Take hs (jn E vs xs) hs') {j:Nat} {x:Value} {X:List Value} (h:vs[j]? = some x) (h2:xs[j]? = some X):x.oneCell'=true:=Rd.one (hm.vq ht h h2)
theorem yE:∀ l:List Value,(l.map fun u=>[u]).flatten=l
 | []=>rfl
 | x::l=>by rw [List.map_cons,List.flatten_cons,yE l];rfl
theorem ph {α β:Type} {f:α->List β} {m:Nat}:∀ l:List α,(∀ j∈l,(f j).length<=m)->(l.flatMap f).length<=l.length*m
 | [],_=>by simp
 | x :: l, h => by
  have h1:=h x List.mem_cons_self;have h2:=ph l fun j hj=>h j (List.mem_cons_of_mem _ hj)
  rw [List.flatMap_cons,Zg,List.length_cons,Nat.succ_mul];omega
theorem Wn.Fz {N:Wn} {d:Int} (hn:N.n<=6):∀ (k:Nat) (p:List Nat),(N.all d k p).length<=7 ^ k
 | 0,_=>Zi _
 | k + 1, p => by
  have h1:=ph (f:=fun j=>N.all d k (p++[j])) (m:=7 ^ k) ((List.range N.n).filter (N.step p)) fun j _=>Wn.Fz hn k (p++[j])
  have h2:((List.range N.n).filter (N.step p)).length<=6:=Nat.le_trans (List.length_filter_le _ _) (by rw [List.length_range];exact hn);have h3:=Nat.mul_le_mul_right (7 ^ k) h2;have h4:0<7 ^ k:=Nat.pow_pos (by decide);rw [Wn.all,Zg,Nat.pow_succ];have h5:(if N.fin p=d then [p] else []).length<=1:=by split <;> simp
  omega
theorem Eh {r:Ro} {v:Int} {so de:ByteArray} (hn:r.ti.length<=6) (k:Nat) (p:List Nat):(Hb r v so de k p).length<=7 ^ k:=by
 unfold Hb;rw [Zd];exact Wn.Fz hn k p
theorem LQ {r:Ro} {v:Int} {so de:ByteArray} (hn:r.ti.length<=6) (k:Nat) (p:List Nat) (i:Nat):(PV r v so de k p i).length<=i*7 ^ k:=by
 refine Nat.le_trans (ph (m:=7 ^ k) _ fun j _=>Eh hn k _) (Nat.mul_le_mul_right _ ?_);exact Nat.le_trans (List.length_filter_le _ _) (by rw [List.length_range];exact Nat.le_refl _)
theorem Wx {k:Nat} (h:k<=6):7 ^ k<=117649:=Nat.le_trans (Nat.pow_le_pow_right (by decide) h) (by decide)
theorem lE.app {fP oC:List Value} {W W2:List (List ByteArray)} {bv mv:Value} {B M:List ByteArray} {vs P0:List Value} {xs Ss:List (List Value)} (h:lE fP W bv B vs xs) (h2:lE oC W2 mv M P0 Ss):lE (fP++oC) (W++W2) bv B (vs++[mv]++P0) (xs++[aM M]++Ss):=by
 have vO:=h.pl;refine ⟨by rw [Zg,Zg,h.len,h2.len],by simp only [Zg,h.pl,h2.pl,List.length_singleton],fun i x L hx hL=>?_⟩;by_cases hi:i<fP.length
 ·rw [List.getElem?_append_left hi] at hx;rw [List.getElem?_append_left (by rw [<- h.len];exact hi)] at hL;rcases h.rd i x L hx hL with e | ⟨j,e1,e2⟩
  ·exact .inl e
  ·have hj:=(List.getElem?_eq_some_iff.1 e1).1;refine .inr ⟨j,?_,?_⟩
   ·rw [Zh,List.getElem?_append_left hj];exact e1
   ·rw [Zh,List.getElem?_append_left (by omega)];exact e2
 ·rw [List.getElem?_append_right (by omega)] at hx;rw [List.getElem?_append_right (by rw [<- h.len];omega),<- h.len] at hL;rcases h2.rd _ x L hx hL with ⟨e1,e2⟩ | ⟨j,e1,e2⟩
  ·subst e1 e2;refine .inr ⟨vs.length,?_,?_⟩
   ·rw [Zh,List.getElem?_append_right (Nat.le_refl _),Nat.sub_self];rfl
   ·rw [Zh,vO,List.getElem?_append_right (Nat.le_refl _),Nat.sub_self];rfl
  ·refine .inr ⟨vs.length+1+j,?_,?_⟩
   ·rw [List.getElem?_append_right (by rw [Zg,List.length_singleton];omega),Zg,List.length_singleton,Nat.add_sub_cancel_left];exact e1
   ·rw [List.getElem?_append_right (by rw [Zg,List.length_singleton];omega),Zg,List.length_singleton,<- vO,Nat.add_sub_cancel_left];exact e2
set_option maxHeartbeats 2000000 in
theorem He {r:Ro} {s d t p':Value} (v:Int) (so de:ByteArray) (hb:gB r=0) (hs:so∈ct r) (hd:de∈cz r) (jf:(cd r).Nodup):∀ (k:Nat) {p:List Nat} {bv:Value} {w:World},RR w r s d t p'->(dE r r.po v so).ok p->k+p.length=r.ti.length+1->Rd w bv 1 (fG (p.map (dG r))) ->
  bh T_ 182 [RA r s d t p',.int .i64 v,.string so,.string de,bv] w [] (fun y:Value×List Value×List Value×List (List Value)=>lE y.2.1 (Hb r v so de k p) bv (p.map (dG r)) y.2.2.1 y.2.2.2) (fun y=>y.1) (fun y=>[row 32 1 y.1 y.2.1.length y.2.1,jn 9 y.2.2.1 y.2.2.2])
 | 0, p, bv, w, h, hp, hk, hl => by
  have:=Wn.sH hp;have e:(dE r r.po v so).n=r.ti.length:=rfl;omega
 | k + 1, p, bv, w, h, hp, hk, hl => by
  have ih:=@He r s d t p' v so de hb hs hd jf k;have dU:=Di hb;have aL:∀ i∈p,i<r.ti.length:=Wn.tw hp;have hL:∀ x∈p.map (dG r),x∈cd r:=fun x hx=>by
   obtain ⟨i,hi,rfl⟩:=List.mem_map.1 hx;exact pI (aL i hi)
  obtain ⟨h1,h2,h3,h4⟩:=h.one;have h5:=Rd.one hl;obtain ⟨i0,pW,YG,YF⟩:=OM hs;have NB:∀ {w'},aD [] w w'->aj T_ 130 [.agg #[.int .i64 r.lv,.int .i64 r.ma,s,d,t,p'],.string so] w' (.int .i64 (i0:Nat)):=fun hk=>by rw [<- YG];exact r7 so (h.keeps hk)
  have hiw:∀ {w'},aD [] w w'->aj T_ 75 [.agg #[.int .i64 r.lv,.int .i64 r.ma,s,d,t,p'],.int .i64 v,.string so,.string de,bv] w' (.bool (decide ((dE r r.po v so).fin p=jV r de))):=fun hk=>by rw [<- QL dU jf hs hp];exact EV v so de (h.keeps hk) hb hs hd (Rd.keeps hl hk) hL
  have xA:∀ (o:ByteArray) {w'},aD [] w w'->aj T_ 133 [.agg #[.int .i64 r.lv,.int .i64 r.ma,s,d,t,p'],.int .i64 v,.string o] w' (.string ((ep r.po v o).getD ⟨#[]⟩)):=fun o _ hk=>rO v o (h.keeps hk)
  have Rz:∀ (o:ByteArray),o≠⟨#[]⟩->∀ {w'},aD [] w w'->aj T_ 131 [.agg #[.int .i64 r.lv,.int .i64 r.ma,s,d,t,p'],.int .i64 v,.string o] w' (.string (jX r v o)):=fun o ho _ hk=>by rw [<- Ft hb v ho];exact y7 v o ho (h.keeps hk)
  have BV:=h.sr;have xx:=h.ti;have mF:=hl;obtain ⟨a1,dZ,G2,GX,rfl,nS,hG,kK,kc⟩:=BV;obtain ⟨a3,dQ,Fu,EI,rfl,lo,fD,qA,nW⟩:=xx;obtain ⟨a4,e9,PF,Lq,rfl,tO,km,CE,vZ⟩:=mF;rw [cu] at *;rw [bO] at *;rw [bA,Zd] at *;unfold maxLen at hG fD km;have we:=kK (gL pW);have cS:w.cell? ⟨G2,GX+i0*2+1,none⟩=some (.int .i64 (mi r so)):=by rw [YF];exact (kc i0 _ (fk pW)).2 1 _ I
  unfold RA;refine aR func182 I I ?_;refine qG ?_;refine mJ ?_;refine bb (HZ (.of I) I) I (fun _ _=>?_);refine YN I I ?_;refine u4 ?_;refine uq ?_;refine qG ?_;refine mJ ?_;refine YN I I ?_;refine u4 ?_;refine uq ?_;rename_i b5 G0;refine Hv (ι:=Value×List Value) (fun y=>lE y.2 (if (dE r r.po v so).fin p=jV r de then [p.map (dG r)] else []) (.slice a4 p.length e9) (p.map (dG r)) [] []) (fun y=>[(11,y.1),(1,.int .i64 v),(2,.string so),(3,.string de),(4,.slice a4 p.length e9),(5,.pointer (some ⟨b5,0,none⟩))]) (fun y=>[row 32 1 y.1 y.2.length y.2,JQ b5 r (.slice a1 r.sr.length dZ) d (.slice a3 r.ti.length dQ) p']) ?_ ?_
  ·(refine Jr<|ab (cr .here) I ?_;refine Jv I<|Jv I<|Jv I<|Jv I<|ai Cy I (fun w' aq=>(hiw (Mem.keeps aq))) ?_;refine Jn<|gl I (fun ar=>?_) fun ar=>?_;refine Jg<|Jv I<|Jv I<|bb (aB (.cons (.of I) .nil) I I I I) I fun _ _=>?_;rotate_left;refine Jk ?_;rotate_right)
   ·refine aP 32 1 ?_;refine bE (.of I) (.of I) .here (.there .here) an (by rfl) (eF I) (by rfl) (by rfl) (by rfl) eV (by rfl) ?_;intro q;refine Ja I<|Jn ?_;dsimp only [Za,Nat.zero_add]
    with_reducible apply ur (q,[.slice a4 p.length e9]) (by rw [if_pos ar];exact lE.one _ _)
    case h1=>exact .cons I (.cons I (.cons I (.cons I (.cons I (.cons I .nil)))))
    case ht=>
     exact .cons .here (.cons (.there .here) .nil)
   ·refine aP 32 1 ?_
    with_reducible apply ur (.slice none 0 0,[]) (by rw [if_neg ar];exact lE.nil _ _)
    case h1=>exact .cons I (.cons I (.cons I (.cons I (.cons I (.cons I .nil)))))
    case ht=>
     exact .cons .here (.cons .here .nil)
  rintro ⟨ov,fP⟩ hW;dsimp only at hW ⊢;refine qG ?_
  with_reducible refine cW 9 (by kernel_rfl) ?_
  (refine mG I I ae ?_;refine aA (gD (.there .here)) I ?_;refine aA (cr (.there .here)) I ?_;refine iv I I ?_;refine c6 aX I (fun w' aq=>(NB (Mem.keeps aq))) ?_;refine aA (az (.of I) (.of I) we (by omega) (by omega) ba) I ?_;refine mG I I ae ?_;refine aA (ag (.of I) (At.base cS I)) I ?_;refine aA (cF (.of I)) I ?_)
  with_reducible refine cZ ?_
  refine u4 ?_;refine uq ?_;refine Hv (ι:=Unit) (fun _=>True) (fun _=>[(11,ov),(12,.int .i64 ((dE r r.po v so).fin p)),(1,.int .i64 v),(2,.string so),(3,.string de),(4,.slice a4 p.length e9),(5,.pointer (some ⟨b5,0,none⟩))]) (fun _=>[row 32 1 ov fP.length fP,JQ b5 r (.slice a1 r.sr.length dZ) d (.slice a3 r.ti.length dQ) p']) ?_ ?_
  ·by_cases hne:p=[]
   ·have hz:p.length=0:=by rw [hne];rfl
    have e:(dE r r.po v so).fin p=mi r so:=by rw [hne];exact oI hs
    rw [e];refine Jr<|Jv I<|JI I<|JE I<|Jn<|Jc I fun ar=>Jk ?_
    with_reducible apply ur () trivial
    case h1=>exact .cons I (.cons I (.cons I (.cons I (.cons I (.cons I (.cons I .nil))))))
    case ht=>exact oA
   have hlp:0<p.length:=List.length_pos_iff.2 hne;have hj:=aL _ (List.getLast_mem hne);have Rp:=Si hp (List.getLast?_eq_some_getLast hne);have LD:p[p.length-1]'(by omega)=p.getLast hne:=(List.getLast_eq_getElem hne).symm;generalize p.getLast hne=j at hj Rp LD;have CB:p.length-1<(p.map (dG r)).length:=by rw [Zd];omega
   have Yl:=CE (iy CB);have c4:w.cell? ⟨PF,Lq+((p.length:Int)-1).toNat*1,none⟩=some (.string (dG r j)):=by
    rw [show ((p.length:Int)-1).toNat=p.length-1 by omega];have:=(vZ _ _ (fF CB)).2 0 _ I;rw [List.getElem_map,LD] at this;exact this
   have Pa:∀ {w'},aD [] w w'->aj T_ 60 [.agg #[.int .i64 r.lv,.int .i64 r.ma,.slice a1 r.sr.length dZ,d,.slice a3 r.ti.length dQ,p'],.string (dG r j)] w' (.int .i64 (j:Nat)):=fun hk=>by rw [<- rZ jf hj];exact nI _ (h.keeps hk)
   have ui:=qA (eO hj);have c3:w.cell? ⟨Fu,EI+j*3+2,none⟩=some (.int .i64 (gq r j).to):=by rw [ns hj];exact (nW j _ (dY hj)).2 2 _ I
   rw [<- Rp] at c3;refine Jr<|Jv I<|JI I<|JE I<|Jn<|Jd I fun ar=>?_
   with_reducible refine cW 14 (by kernel_rfl) ?_
   (refine mG I I ae ?_;refine aA (gD (.there .here)) I ?_;refine aA (cr (.there .here)) I ?_;refine iv I I ?_;refine iv I I ?_;refine aA (cg (.of I)) I ?_;refine aA (sD (.of I) (.of I) (QO (by omega))) I ?_;refine aA (az (.of I) (.of I) Yl (by omega) (by omega) ba) I ?_;refine aA (ag (.of I) (At.base c4 I)) I ?_;refine c6 aX I (fun w' aq=>(Pa (Mem.keeps aq))) ?_;refine aA (az (.of I) (.of I) ui (by omega) (by omega) ba) I ?_;refine mG I I ae ?_;refine aA (ag (.of I) (At.base c3 I)) I ?_;refine aA (cF (.of I)) I ?_)
   with_reducible refine cZ ?_
   refine Jn ?_
   with_reducible apply ur () trivial
   case h1=>exact .cons I (.cons I (.cons I (.cons I (.cons I (.cons I (.cons I .nil))))))
   case ht=>exact oA
  rintro ⟨⟩ _;refine Jq<|Jr<|Ja I<|Jn<|J0 ?_;refine jY 9 ?_;refine aY (ι:=Nat×Value×List Value×List Value×List (List Value)) (fun y=>y.1<=r.ti.length/\lE y.2.2.1 ((if (dE r r.po v so).fin p=jV r de then [p.map (dG r)] else [])++PV r v so de k p y.1) (.slice a4 p.length e9) (p.map (dG r)) y.2.2.2.1 y.2.2.2.2) (fun y=>[(13,.int .i64 (y.1:Nat)),(11,y.2.1),(12,.int .i64 ((dE r r.po v so).fin p)),(1,.int .i64 v),(2,.string so),(3,.string de),(4,.slice a4 p.length e9),(5,.pointer (some ⟨b5,0,none⟩))]) (fun y=>[row 32 1 y.2.1 y.2.2.1.length y.2.2.1,jn 9 y.2.2.2.1 y.2.2.2.2,JQ b5 r (.slice a1 r.sr.length dZ) d (.slice a3 r.ti.length dQ) p']) (fun y=>r.ti.length-y.1) ?_ ?_
  ·with_reducible apply aK (0,ov,fP,[],[]) ⟨Zi _,by rw [show PV r v so de k p 0=[] from I,List.append_nil];exact hW⟩
   case hs1=>exact cj
   case ht=>exact oA
  clear hW;rintro ⟨i,ov,fP,vs,xs⟩ ⟨hi,hW⟩;dsimp only at hi hW ⊢;by_cases kG:i<r.ti.length
  ·have cM:=qA (eO kG);obtain ⟨ir,aF⟩:=nW i _ (dY kG);unfold Ti.cells at aF;have sS:=fun {w'}=>Rz r.ti[i].nm (OJ hb kG) (w':=w')
   have V2:∀ {w'},aD [] w w'->aj T_ 59 [.slice a4 p.length e9,.string r.ti[i].nm] w' (.bool (p.contains i)):=fun hk=>by
    rw [<- Ke jf aL kG,show dG r i=r.ti[i].nm by unfold dG;rw [ns kG]];exact DH _ (Rd.keeps hl hk)
   have g1:=DY hb v r.ti[i].nm;have g2:=DX hb v r.ti[i].nm;have a7:=Qa dU (v:=v) (so:=so) (p:=p) kG;have YX:dG r i=r.ti[i].nm:=by unfold dG;rw [ns kG]
   have VJ:=G9 r v so de k p i;rw [show dG r i=r.ti[i].nm by unfold dG;rw [ns kG],ns kG] at a7;generalize r.ti[i]=z at aF sS V2 g1 g2 a7 YX
   (refine Jq<|Jr<|Jv I<|bK I I ae ?_;refine JL I bT I<|JI I<|JA I<|Jn<|Jd I fun ar=>Jk<|Jq<|J0<|Jr<|bK I I ae ?_;refine JL I bT I<|Jv I<|ab (gj cM ar) I ?_;refine ab (iI (eU.base aF I)) I ?_;refine Jz I I fun _ _=>au (.of I) (.of I) .here I I (fx I I I) (bF I) an ?_;refine Ji<|ab (cr db) I ?_;refine Jv I<|bK I I ae ?_;refine JL I .here I<|ai dH I (fun w' aq=>(xA _ (Mem.keeps aq))) ?_;refine ab (ig (.of I) (.of I)) I ?_;refine Ja I<|Ji<|Jv I<|JI I<|JC I<|Jv I<|fM I I I I ?_;refine ab (bH (.of I) I) I ?_;refine Jv I<|aC I I inferInstance (fun hg br=>(cm (.of I) db an (by rfl))) I ?_;refine fM I I I I ?_;refine aC I I inferInstance (fun hg br=>(ao (.of I) ae)) I ?_;refine aC I I inferInstance (fun hg br=>(ag (.bL hg I) (At.lit .here I))) I ?_;refine gJ I I (fun hg=>(bj (.of I) (.cons (.bL hg I) (.cons (.bL hg I) (.cons (.bL hg I) .nil))) inferInstance fL)) I (fun hg w' aq=>(sS (Mem.keeps aq))) ?_;refine fM I I I I ?_;refine aC I I inferInstance (fun hg br=>(eh (.bL hg I) (.bL hg I))) I ?_;refine ab (bH (.of I) I) I ?_;refine Ja I<|Ji<|Jv I<|bK I I ae ?_;refine JL I .here I<|ai aX I (fun w' aq=>(V2 (Mem.keeps aq))) ?_;refine JH I<|Jv I<|fM I I I I ?_;refine aC I I inferInstance (fun hg br=>(aZ (.bL hg I))) I ?_;refine ek I I inferInstance (fun hg br=>(aZ (.of I))) I ?_;refine ek I I inferInstance (fun hg br=>(eY (.bL hg I))) I ?_;refine ek I I inferInstance (fun hg br=>(aZ (.bL hg I))) I ?_;refine ek I I inferInstance (fun hg br=>(ao (.of I) ae)) I ?_;refine ek I I inferInstance (fun hg br=>(ag (.bL hg I) (At.lit .here I))) I ?_;refine ek I I inferInstance (fun hg br=>(aZ (.of I))) I ?_;refine ek I I inferInstance (fun hg br=>(jE (.bL hg I) (.bL hg I))) I ?_;refine ek I I inferInstance (fun hg br=>(gM hg (.bL hg I) I)) I ?_;refine aC I I inferInstance (fun hg br=>(ju hg (.bL hg I) I)) I ?_;refine ab (bH (.of I) I) I ?_;refine Jn<|oz I (fun ar=>?_) fun ar=>?_;refine Jq ?_;rotate_left;refine Jw<|Jj<|Jt<|Jg<|Jv I<|JB I (by omega)<|Ja I<|Jn ?_;rotate_right)
   ·have hz:(dE r r.po v so).step p i=true:=by
     rw [a7];obtain ⟨q0,hq⟩:=ar;rw [q0];rcases hq with ⟨⟨q1,q2⟩,q3⟩ | ⟨q1,q2⟩
     ·have:p.isEmpty=true:=by rw [List.isEmpty_iff_length_eq_zero];omega
      rw [this,g1.1 q2,decide_eq_true q3];rfl
     ·rw [g2.1 (Decidable.not_not.1 q1),decide_eq_true q2];simp
    rw [hz,if_pos I] at VJ;have hlen:(fG (p.map (dG r))).length=p.length:=by rw [bA,Zd]
    have Zm:r.ti.length<=6:=dU.len.2.2;have pe:=Wn.ji.2 ⟨hp,hz⟩;have Pd:=Eh (v:=v) (so:=so) (de:=de) Zm k (p++[i]);have Gr:=LQ (v:=v) (so:=so) (de:=de) Zm k p i;have Uz:=Wx (k:=k) (by omega);have hf4:i*7 ^ k<=6*117649:=Nat.mul_le_mul (by omega) Uz;have hf5:(if (dE r r.po v so).fin p=jV r de then [p.map (dG r)] else []).length<=1:=by split <;> simp
    have hv1:fP.length<=1000000:=by have:=hW.len;rw [Zg] at this;omega
    have tI:dG r i=z.nm:=YX
    with_reducible refine u5 8 (gU [(0,2),(2,6)]) (by kernel_rfl) ?_
    refine sh (fun β=>(aB .nil I I I I)) (fun _ _ _=>rfl) I I ?_;refine iQ (fun β=>(aZ (.of I))) qz I I ?_;dsimp only [Nat.zero_add,Nat.reduceAdd]
    with_reducible apply zf (jx:=0) (n0:=0) (xs:=[]) (news:=fG (p.map (dG r))) (Vx:=fun β=>.slice (some ⟨eM (β 0),0,none⟩) 0 0) (Vy:=fun _=>.slice a4 p.length e9) (Ax:=fun β=>[bC (eM (β 0)) (.cells #[] 9 (0,0))]) (B:=[])
    case hB=>rfl
    case hS=>rfl
    case hrow=>
     rintro β w' fp ⟨f1,f2,e,⟨h,h'⟩,h0⟩;obtain rfl:f2=[]:=h0;rw [e,h];exact ⟨I,I,.inr ⟨eM (β 0),0,#[],I,h',Nat.le_refl _,Zi _,I,I⟩⟩
    case htk=>exact pK I I
    case hti=>rfl
    case h0=>rfl
    case hwx=>kernel_rfl
    case hx=>exact fun β=>.of I
    case hy=>exact fun β=>.of I
    case hsrc=>exact fun β w' hb=>Rd.keeps hl hb.mem.keeps
    case h1=>exact ux _
    case hz=>rfl
    case hsz=>rfl
    case hb0=>rfl
    case hb=>rw [hlen];omega
    case hd=>rfl
    rw [<- oD,hlen,Nat.zero_add,Za];dsimp only [Nat.reduceAdd];refine iQ (fun β=>(ao (.of I) ae)) qz I I ?_;refine iQ (fun β=>(ag (.of I) (At.lit .here I))) qz I I ?_;refine sh (fun β=>(aB (.cons (.of I) .nil) I I I I)) (fun _ _ _=>rfl) I I ?_;dsimp only [Nat.reduceAdd]
    with_reducible apply zf (jx:=2) (n0:=p.length) (xs:=aM (p.map (dG r))) (news:=[[.string z.nm]]) (Vx:=fun β=>β 2) (Vy:=fun β=>.slice (some ⟨eM (β 5),0,none⟩) 1 1) (Ax:=fun β=>[row 9 1 (β 2) p.length (aM (p.map (dG r)))]) (B:=[5])
    case hB=>kernel_rfl
    case hS=>rfl
    case hrow=>exact fun β w' fp ⟨f1,f2,e,h,h0⟩=>by obtain rfl:f2=[]:=h0;rw [e,List.append_nil];exact h
    case htk=>exact pK I I
    case hti=>rfl
    case h0=>rfl
    case hwx=>kernel_rfl
    case hx=>exact fun β=>.of I
    case hy=>exact fun β=>.of I
    case hsrc=>
     intro β w' hb;have m6:=hb.at 5 (by simp) (s:=⟨fun β=>.slice (some ⟨eM (β 5),0,none⟩) 1 1,fun β=>[bC (eM (β 5)) (.cells #[.string z.nm] 9 (0,0))]⟩) (by kernel_rfl)
     dsimp only [Zb,Za] at m6;exact Mem.df m6 (by exact .here) I I
    case h1=>
     intro r' LA u hu;simp only [List.mem_singleton] at LA;subst LA;simp only [List.mem_singleton] at hu;subst hu;rfl
    case hz=>rfl
    case hsz=>rfl
    case hb0=>rfl
    case hb=>simp only [List.length_singleton];omega
    case hd=>rfl
    rw [show ([[Value.string z.nm]]:List (List Value)).flatten=[.string z.nm] from I,show ([[Value.string z.nm]]:List (List Value)).length=1 from I];dsimp only [Nat.reduceAdd];have VL:aM (p.map (dG r))++[.string z.nm]=aM ((p++[i]).map (dG r)):=by rw [List.map_append,eQ,List.map_singleton,tI];rfl
    rw [VL]
    with_reducible apply iQ (F:=fun β=>β 6)
    case hr=>(intro β;exact cF (.of I))
    case hi=>exact fun β β' h=>by simp only [h 6 (by kernel_rfl)]
    case hd=>rfl
    case hn=>rfl
    refine D8 fun β=>?_;have vO:p.length+1=(p++[i]).length:=by rw [Zg];rfl
    rw [vO];change Tr _ _ _ [bC (eM (β 5)) (.cells #[.string z.nm] 9 (0,0)),row 9 1 (β 6) (p++[i]).length (aM ((p++[i]).map (dG r))),bC _ (.cells #[.string z.nm,.int .i64 z.fr,.int .i64 z.to] 122 (0,0)),row 32 1 ov fP.length fP,jn 9 vs xs,JQ b5 r (.slice a1 r.sr.length dZ) d (.slice a3 r.ti.length dQ) p'] _;generalize β 6=mv;generalize eM (β 5)=b6
    with_reducible refine dp (by kernel_rfl) ?_
    refine aW (E:=9) (sz:=1) (v:=mv) (by exact Take.there .here) fun ma mc e=>?_;subst e
    (refine Jt<|Jg<|Jv I<|ab (cr fy) I ?_;refine Jv I<|Jv I<|Jv I<|Jv I ?_)
    with_reducible apply jh
    case hr=>exact Cy
    case hd=>rfl
    case ht=>exact bn.nil
    case hc=>
     intro w1 fp aS _ hs1;obtain rfl:fp=[]:=hs1;have Xe:Rd w1 (.slice ma (p++[i]).length mc) 1 (fG ((p++[i]).map (dG r))):=dL (E:=9) aS (by exact Take.there .here) (by rw [Zd]);exact ih (p:=p++[i]) (h.keeps aS.keeps) pe (by rw [Zg,List.length_singleton];omega) Xe
    rintro ⟨OQ,oC,P0,Ss⟩ UI
    try dsimp only [id_eq,Zb,Za] at UI ⊢
    have Y2:oC.length<=117649:=by have:=UI.len;omega
    refine L9 (p:=∀ u∈oC,u.oneCell'=true) (fun w' aq u hu=>by
     obtain ⟨j,hj,rfl⟩:=List.getElem_of_mem hu;have RG:=UI.len;rcases UI.rd j _ _ (Zc hj) (Zc (by omega)) with ⟨e,_⟩ | ⟨m,e1,e2⟩
     ·rw [e];rfl
     ·exact F4 (E:=9) (vs:=P0) (xs:=Ss) aq (by exact Take.there .here) e1 e2) fun ir=>?_
    refine lg (E:=9) (vs:=vs) (xs:=xs) re (v:=.slice ma (p++[i]).length mc) (x:=aM ((p++[i]).map (dG r))) (n:=(p++[i]).length) db (by rw [dd,Zd]) hW.pl ?_;refine A2 (E:=9) (vs:=vs++[.slice ma (p++[i]).length mc]) (ws:=P0) (by exact .here) (by exact Take.there .here) (by simp only [Zg,List.length_singleton,hW.pl]) ?_;have ZI:=lE.app hW UI;rw [Zh,<- VJ] at ZI
    with_reducible apply gK (n:=fP.length) (xs:=fP) (news:=oC.map fun u=>[u])
    case hx=>exact Is.of I
    case hy=>exact Is.of I
    case ht=>exact fg
    case hsrc=>exact fun w' aq=>aq.H4 (E:=32) (n:=oC.length) (ys:=oC) (v:=OQ) (by exact Take.there .here) I
    case h1=>
     intro r' LA u hu;obtain ⟨y,hy,rfl⟩:=List.mem_map.1 LA;simp only [List.mem_singleton] at hu;subst hu;exact ir _ hy
    case hz=>rfl
    case hsz=>rfl
    case hb0=>rfl
    case hb=>rw [Zd];omega
    case hd=>rfl
    intro v';rw [yE,Zd];refine Ja I<|Jx<|Jj<|Jt<|Jg<|Jv I<|JB I (by omega)<|Ja I<|Jn ?_;have Lx:fP.length+oC.length=(fP++oC).length:=(Zg).symm;rw [Lx]
    with_reducible apply aJ (i+1,v',fP++oC,vs++[.slice ma (p++[i]).length mc]++P0,xs++[aM ((p++[i]).map (dG r))]++Ss) ⟨Nat.succ_le_of_lt kG,ZI⟩ (show r.ti.length-(i+1)<r.ti.length-i by omega)
    case hs1=>exact cj
    case ht=>exact oA
   have hz:(dE r r.po v so).step p i=false:=by
    rw [a7];rcases ar with q | ⟨q1,q2⟩
    ·rw [q];rfl
    ·cases eb:gC r.po v z.nm
     ·have q3:¬ z.fr=(dE r r.po v so).fin p:=q2.resolve_left fun q=>by rw [g1.1 q] at eb;cases eb
      rw [decide_eq_false q3];simp
     ·have q4:¬ p=[]\/¬ jX r v z.nm=so:=q1.imp (fun q=>q.elim (fun q0 e=>by rw [e] at q0;exact q0 I) (fun q0=>absurd (g1.2 eb) q0)) id
      rcases q4 with q | q
      ·have:p.isEmpty=false:=by cases p with | nil=>exact absurd I q | cons=>rfl
       rw [this];simp
      ·rw [decide_eq_false q];simp
   rw [hz,if_neg (by decide),List.append_nil] at VJ
   with_reducible apply aJ (i+1,ov,fP,vs,xs) ⟨Nat.succ_le_of_lt kG,(show lE fP (_++PV r v so de k p (i+1)) _ _ vs xs by rw [VJ];exact hW)⟩ (show r.ti.length-(i+1)<r.ti.length-i by omega)
   case hs1=>exact cj
   case ht=>exact oA
  obtain rfl:i=r.ti.length:=by omega
  (refine Jq<|Jr<|Jv I<|bK I I ae ?_;refine JL I bT I<|JI I<|JA I<|Jn<|Jc I fun ar=>Jp<|Jl<|Jo<|Jt<|Jr<|Jv I<|Ja I<|Jn<|Je ?_)
  first | with_reducible apply aN | with_reducible apply aO
  case he=>exact dJ I I
  case hR=>
   intro w' aq;exact aG (ov,fP,vs,xs) (by rw [Ha];exact hW) (by exact .cons .here (.cons .here .nil)) aq I
theorem wH {α:Type} (lt:α->α->Bool):∀ (l:List α) (b x:α),jM lt b (l++[x])=if lt x (jM lt b l) then x else jM lt b l
 | [],_,_=>rfl
 | y::l,b,x=>by rw [Zb,jM,jM,wH lt l]
def GW (r:Ro) (v:Int) (so de:ByteArray):List ByteArray:=((mg r v so de).getD []).map (dG r)
def MF (r:Ro) (v:Int) (so de:ByteArray):Int:=if (mg r v so de).isNone then 18 else 0
def Wg (x:Value) (L:List ByteArray) (vs:List Value) (xs:List (List Value)):Prop:=(x=.slice none 0 0/\L=[])\/∃ j:Nat,vs[j]? = some x/\xs[j]? = some (aM L)
theorem Mem.Bx {c:Cx} {hs hs':List a8} {w:World} {x:Value} {L:List ByteArray} {vs:List Value} {xs:List (List Value)} (hm:Mem c hs w) (ht:Take hs (jn 9 vs xs) hs') (h:Wg x L vs xs):Rd w x 1 (fG L):=by
 rcases h with ⟨e,e2⟩ | ⟨j,h1,h2⟩
 ·subst e e2;exact Rd.nil w 1
 ·have:=hm.vq ht h1 h2;rwa [show (aM L).map (fun u=>[u])=fG L by unfold aM fG;rw [List.map_map];rfl] at this
set_option maxHeartbeats 2000000 in
theorem S5 {r:Ro} {s d t p':Value} (v:Int) (so de:ByteArray) {w:World} (h:RR w r s d t p') (hb:gB r=0) (hs:so∈ct r) (hd:de∈cz r) (jf:(cd r).Nodup) :
  bh T_ 73 [RA r s d t p',.int .i64 v,.string so,.string de] w [] (fun y:Value×List Value×List (List Value)=>Wg y.1 (GW r v so de) y.2.1 y.2.2) (fun y=>.tuple #[y.1,.int .i64 (MF r v so de)]) (fun y=>[jn 9 y.2.1 y.2.2]):=by
 obtain ⟨h1,h2,h3,h4⟩:=h.one;have dU:=Di hb;unfold RA;refine aR func73 I I ?_
 (refine Jr<|Jy I I fun _ _=>Ja I<|Ja I<|Ji<|ab (cr .here) I ?_;refine Jv I<|Jv I<|Jv I ?_)
 rename_i b4 uQ;refine JN Cy I (fun w1 aS=>He (s:=s) (d:=d) (t:=t) (p':=p') v so de hb hs hd jf (r.ti.length+1) (p:=[]) (h.keeps aS.keeps) (Wn.ny _) I (show Rd w1 (.slice none 0 0) 1 (fG []) from Rd.nil w1 1)) ?_;rintro ⟨ov,fP,vs,xs⟩ hW
 try dsimp only [id_eq,Zb,Za] at hW ⊢
 cases e:(dE r r.po v so).all (jV r de) (r.ti.length+1) [] with
 | nil =>
  have eP:mg r v so de=none:=by unfold mg;rw [show (dE r r.po v so).all (jV r de) ((dE r r.po v so).n+1) []=[] from e]
  have hz:fP.length=0:=by rw [hW.len];unfold Hb;rw [e];rfl
  have e1:MF r v so de=18:=by unfold MF;rw [eP];rfl
  have e2:GW r v so de=[]:=by unfold GW;rw [eP];rfl
  refine aW (v:=ov) (by exact .here) fun oa oc e0=>?_;subst e0;refine Ja I<|Jn<|Jq<|Jr<|Jv I<|JI I<|JC I<|Jn<|Jd I fun ar=>Jr<|Ja I<|Ja I<|Jn<|Ju ?_
  first | with_reducible apply aN | with_reducible apply aO
  case he=>exact fW I I I
  case hR=>
   intro w' aq;exact aG (.slice none 0 0,vs,xs) (.inl ⟨I,e2⟩) (by exact .cons (.there .here) .nil) aq (by rw [e1])
 | cons a l =>
  have hN:Hb r v so de (r.ti.length+1) []=(a::l).map fun q=>q.map (dG r):=by unfold Hb;rw [e]
  have Lx:fP.length=l.length+1:=by rw [hW.len,hN];simp
  have dC:∀ q∈a::l,∀ i∈q,i<r.ti.length:=fun q hq=>Wn.tw (Wn.uM (Wn.ny _) (e ▸ hq)).1
  have eP:mg r v so de=some (jM (dE r r.po v so).lt a l):=by unfold mg;rw [show (dE r r.po v so).all (jV r de) ((dE r r.po v so).n+1) []=a::l from e]
  have e1:MF r v so de=0:=by unfold MF;rw [eP];rfl
  have e2:GW r v so de=(jM (dE r r.po v so).lt a l).map (dG r):=by unfold GW;rw [eP];rfl
  have hIn:∀ (i:Nat) (hi:i<fP.length),Wg fP[i] (((a::l)[i]'(by rw [List.length_cons];omega)).map (dG r)) vs xs:=fun i hi=>by
   have hq:=hW.rd i fP[i] (((a::l)[i]'(by rw [List.length_cons];omega)).map (dG r)) (Zc hi) (by rw [hN,List.getElem?_map,Zc (by rw [List.length_cons];omega)];rfl);rcases hq with ⟨q1,q2⟩ | q
   ·exact .inl ⟨q1,q2⟩
   ·exact .inr q
  rw [e1,e2];clear hW e1 e2 eP hN;refine c7 (E:=32) (sz:=1) (v:=ov) (by exact .here) (by omega) fun ga ca cur e1 nV BW BS tL=>?_;subst e1;unfold maxLen at BW;have ja:∀ (i:Nat) (hi:i<fP.length),(fP++cur)[i*1]? = some fP[i]:=fun i hi=>by rw [Nat.mul_one,List.getElem?_append_left hi];exact Zc hi
  have ZT:=hIn 0 (by omega);rw [List.getElem_cons_zero] at ZT;have c0:(fP++cur)[0]? = some fP[0]:=ja 0 (by omega)
  (refine Ja I<|Jn<|Jq<|Jr<|Jv I<|JI I<|JC I<|Jn<|Jc I fun ar=>Jk<|Jr<|Jv I<|ab (az (.of I) (.of I) I (by omega) (by omega) ba) I ?_;refine ab (ag (.of I) (At.lP .here c0)) I ?_;refine Ja I<|Jn<|Jq<|Jr<|Ja I<|Jn<|J0 ?_)
  refine aY (ι:=Nat×Value×List Nat) (fun y=>1<=y.1/\y.1<=fP.length/\y.2.2=jM (dE r r.po v so).lt a (l.take (y.1-1))/\Wg y.2.1 (y.2.2.map (dG r)) vs xs) (fun y=>[(12,.int .i64 (y.1:Nat)),(11,y.2.1),(10,.slice (some ⟨ga,0,none⟩) fP.length ca),(1,.int .i64 v),(4,.pointer (some ⟨b4,0,none⟩))]) (fun y=>[bC ga (.cells (fP++cur).toArray 32 (0,0)),jn 9 vs xs,JQ b4 r s d t p']) (fun y=>fP.length-y.1) ?_ ?_
  ·with_reducible apply aK (1,fP[0],a) ⟨Nat.le_refl _,by omega,I,ZT⟩
   case hs1=>exact cj
   case ht=>exact oA
  rintro ⟨i,bv,q⟩ ⟨Ai,hi,hq,V1⟩;dsimp only at Ai hi hq V1 ⊢;by_cases aL:i<fP.length
  ·have c1:=ja i aL;have Uv:=hIn i aL;have Nw:i-1<l.length:=by omega
   have ZG:(a::l)[i]'(by rw [List.length_cons];omega)=l[i-1]:=by
    obtain ⟨j,rfl⟩:∃ j,i=j+1:=⟨i-1,by omega⟩
    rfl
   have T6:q∈a::l:=by
    rw [hq];have:=(l9 (lt:=(dE r r.po v so).lt) (fun {_ _ _}=>Wn.lt_trans) (fun {_ _}=>Wn.vE) (Wn.lt_irrefl _) (l.take (i-1)) a).1
    rcases List.mem_cons.1 this with h | h
    ·rw [h];exact List.mem_cons_self
    ·exact List.mem_cons_of_mem _ (List.mem_of_mem_take h)
   have VS:=M7 hb jf (v:=v) so (dC (l[i-1]) (List.mem_cons_of_mem _ (Zj Nw))) (dC q T6);rw [ZG] at Uv;have kl:jM (dE r r.po v so).lt a (l.take i)=if (dE r r.po v so).lt l[i-1] q=true then l[i-1] else q:=by
    obtain ⟨j,rfl⟩:∃ j,i=j+1:=⟨i-1,by omega⟩;rw [List.take_succ_eq_append_getElem (by omega),wH,hq];rfl
   rw [<- VS] at kl;generalize l[i-1]=x at Uv VS kl;generalize fP[i]=xv at c1 Uv;refine Jq<|Jr<|Jv I<|Jv I<|JI I<|JA I<|Jn<|Jd I fun ar=>Jk<|Jq<|J0<|Jq ?_
   with_reducible refine cW 8 (by kernel_rfl) ?_
   (refine aA (cr bT) I ?_;refine iv I I ?_;refine iv I I ?_;refine iv I I ?_;refine aA (az (.of I) (.of I) I (by omega) ar ba) I ?_;refine aA (ag (.of I) (At.lP .here c1)) I ?_;refine iv I I ?_;refine c6 nO I (fun w' aq=>(IL v (RR.keeps h (Mem.keeps aq)) (Mem.Bx aq (.there .here) Uv) (Mem.Bx aq (.there .here) V1))) ?_)
   with_reducible refine cZ ?_
   (refine Jn<|oz I (fun ar=>?_) fun ar=>?_;refine Jg<|Jv I<|Jv I<|ab (az (.of I) (.of I) I (by omega) (by assumption) ba) I ?_;refine ab (ag (.of I) (At.lP .here c1)) I ?_;refine Ja I<|Jx<|Jj<|Jt<|Jg<|Jv I<|JB I (by omega)<|Ja I<|Jn ?_;rotate_left;refine Jw<|Jj<|Jt<|Jg<|Jv I<|JB I (by omega)<|Ja I<|Jn ?_;rotate_right)
   ·rw [ar,if_pos I] at kl
    with_reducible apply aJ (i+1,xv,x) ⟨Nat.le_succ_of_le Ai,Nat.succ_le_of_lt aL,(show x=jM (dE r r.po v so).lt a (l.take (i+1-1)) by rw [Nat.add_sub_cancel];exact kl.symm),Uv⟩ (show fP.length-(i+1)<fP.length-i by omega)
    case hs1=>exact cj
    case ht=>exact oA
   ·rw [ar,if_neg (by decide)] at kl
    with_reducible apply aJ (i+1,bv,q) ⟨Nat.le_succ_of_le Ai,Nat.succ_le_of_lt aL,(show q=jM (dE r r.po v so).lt a (l.take (i+1-1)) by rw [Nat.add_sub_cancel];exact kl.symm),V1⟩ (show fP.length-(i+1)<fP.length-i by omega)
    case hs1=>exact cj
    case ht=>exact oA
  ·have il:l.length<=i-1:=by omega
   rw [List.take_of_length_le il] at hq;subst hq;refine Jq<|Jr<|Jv I<|Jv I<|JI I<|JA I<|Jn<|Jc I fun ar=>Jp<|Jl<|Jo<|Jt<|Jr<|Jv I<|Ja I<|Ja I<|Jn<|Je ?_
   first | with_reducible apply aN | with_reducible apply aO
   case he=>exact fW I I I
   case hR=>
    intro w' aq;exact aG (bv,vs,xs) V1 (by exact .cons (.there .here) .nil) aq I
theorem S4 {r:Ro} {v:Int} {so de:ByteArray} (h:jw r v so de=0):rk r v so de=MF r v so de/\mf r v so de=GW r v so de:=by
 unfold rk mf MF GW;rw [if_neg (not_not_intro h),if_neg (not_not_intro h)];exact ⟨I,I⟩
theorem C8 {r:Ro} {v:Int} {so de:ByteArray} (h:MF r v so de≠0):GW r v so de=[]:=by
 unfold MF at h;unfold GW;cases e:mg r v so de with
 | none=>rfl
 | some p=>rw [e] at h;exact absurd rfl h
theorem Gw {f:FuncId} {args:List Value} {w:World} (h:False):aj T_ f args w (.bool true):=h.elim
theorem Oa {r:Ro} {L:List ByteArray} (h:Fm r L=0):∀ x∈L,x∈cd r:=fun x hx=>by
 unfold Fm at h;split at h
 ·cases h
 obtain ⟨k,hk,rfl⟩:=List.getElem_of_mem hx;have e:qi r L k=0:=dN.1 h k hk;rw [rj hk,bI] at e;have e2:=e (bG (!fI (cd r) L[k]) 10) List.mem_cons_self;rw [bD (by decide)] at e2;rw [<- ef];cases q:fI (cd r) L[k]
 ·rw [q] at e2;cases e2
 ·rfl
set_option maxRecDepth 20000 in
set_option maxHeartbeats 4000000 in
theorem Hf {r:Ro} {s d t p cv:Value} {L:List ByteArray} {w:World} (h:RR w r s d t p) (v:Int) (so de:ByteArray) (hc:Rd w cv 1 (fG L)):aj T_ 9 [RA r s d t p,.agg #[.int .i64 v,.string so,.string de],cv] w (.bool true):=by
 obtain ⟨h1,h2,h3,h4⟩:=h.one;have h5:=Rd.one hc;have AR:=hc;obtain ⟨ac,Ol,bc,oc,rfl,ZC,Zn,SN,SK⟩:=AR;rw [bA] at *;have W7:∀ {w'},aD [] w w'->aj T_ 18 [.agg #[.int .i64 r.lv,.int .i64 r.ma,s,d,t,p]] w' (.bool (Bj r)):=fun hk=>Mr (h.keeps hk)
 have Yj:∀ w',aj T_ 19 [.agg #[.int .i64 v,.string so,.string de]] w' (.bool (Vl so de)):=fun w'=>D6 v so de w'
 have W6:∀ {w'},aD [] w w'->aj T_ 69 [.slice ac L.length Ol] w' (.bool (FT L)):=fun hk=>Bg (Rd.keeps hc hk)
 have Pj:nP r->∀ {w'},aD [] w w'->aj T_ 39 [.agg #[.int .i64 v,.string so,.string de],.agg #[.int .i64 r.lv,.int .i64 r.ma,s,d,t,p]] w' (.int .i64 (jw r v so de)):=fun hf _ hk=>K3 v so de (h.keeps hk) hf
 have X3:∀ {w'},aD [] w w'->aj T_ 74 [.agg #[.int .i64 r.lv,.int .i64 r.ma,s,d,t,p],.slice ac L.length Ol] w' (.int .i64 (Fm r L)):=fun hk=>DT (h.keeps hk) (Rd.keeps hc hk)
 have Us:gB r=0->so∈ct r->de∈cz r->Fm r L=0->∀ {w'},aD [] w w'->aj T_ 75 [.agg #[.int .i64 r.lv,.int .i64 r.ma,s,d,t,p],.int .i64 v,.string so,.string de,.slice ac L.length Ol] w' (.bool (QM r v so de L)):=fun a b c e _ hk=>EV v so de (h.keeps hk) a b c (Rd.keeps hc hk) (Oa e)
 unfold RA;refine ah func9 I I ?_
 (refine Jr<|Jy I I fun _ _=>Jy I I fun _ _=>Ja I<|Jn<|Jq<|Jr<|ai om I (fun w' aq=>(Fw w')) ?_;refine JH I<|Jv I<|aC I I inferInstance (fun hg br=>(cm (.of I) (.there .here) an (by rfl))) I ?_;refine gJ I I (fun hg=>(bj (.of I) (.cons (.bL hg I) .nil) inferInstance fL)) I (fun hg w' aq=>(W7 (Mem.keeps aq))) ?_;refine aC I I inferInstance (fun hg br=>(eY (.bL br I))) I ?_;refine ab (bX (.of I) I) I ?_;refine Jv I<|aC I I inferInstance (fun hg br=>(cm (.of I) .here an (by rfl))) I ?_;refine gJ I I (fun hg=>(bj (.of I) (.cons (.bL hg I) .nil) inferInstance fL)) I (fun hg w' aq=>(Yj w')) ?_;refine aC I I inferInstance (fun hg br=>(eY (.bL hg I))) I ?_;refine ab (bX (.of I) I) I ?_;refine Jv I<|fM I I I I ?_;refine aC I I inferInstance (fun hg br=>(cg (.bL hg I))) I ?_;refine aC I I inferInstance (fun hg br=>(mn (.bL hg I) (.of I))) I ?_;refine ab (bX (.of I) I) I ?_;refine Jv I<|fM I I I I ?_;refine gJ I I (fun hg=>(bj (.of I) (.cons (.bL hg I) .nil) inferInstance fL)) I (fun hg w' aq=>(W6 (Mem.keeps aq))) ?_;refine aC I I inferInstance (fun hg br=>(eY (.bL hg I))) I ?_;refine ab (bX (.of I) I) I ?_;refine Jn<|oz I (fun ar=>?_) fun ar=>?_;refine Jr<|ai om I (fun w' aq=>(Fw w')) ?_;refine Ja I<|Jn<|Ju<|JT ?_;rotate_left;refine Jk<|Jq ?_;rotate_right)
 ·rfl
 have hA:xk r=true:=by
  have hb:Bj r=true:=ar.1.1.1.2;unfold Bj at hb;exact (Bool.and_eq_true _ _ ▸ hb).1
 have hL6:L.length<=1000000:=by have:=ar.1.2;omega
 have hF:=HN hA;have Yu:=Bk hA;have UH:=fun {w'}=>Pj Yu (w':=w')
 clear ar Pj;rename_i b2 uh b3 tQ
 skip
 with_reducible refine fc 14 (by kernel_rfl) ?_
 refine aH (fun β=>(cm (.of I) (.there .here) an (by rfl))) bM I ?_;dsimp only [Nat.zero_add,Nat.reduceAdd]
 with_reducible apply im (ι:=Value×Value×Value×Value) (Φ:=fun _=>True) (val:=fun x=>.agg #[.int .i64 r.lv,.int .i64 r.ma,x.1,x.2.1,x.2.2.1,x.2.2.2]) (own:=fun x=>uw r x) (g:=g4) (B:=[]) (args:=fun _=>[.agg #[.int .i64 r.lv,.int .i64 r.ma,s,d,t,p]])
 case hg=>exact B4
 case hB=>rfl
 case hr=>exact fun β=>bj (.of I) (.cons (.of I) .nil) inferInstance I
 case hd=>rfl
 case hc=>exact fun β w' hb=>lC (h.keeps hb.mem.keeps) Yu
 dsimp only [Nat.reduceAdd]
 (refine aH (fun β=>(ao (.of I) ae)) bM I ?_;refine aH (fun β=>(ag (.of I) (At.lit .here I))) bM I ?_;refine aH (fun β=>(ao (.of I) ae)) bM I ?_;refine aH (fun β=>(ag (.of I) (At.lit .here I))) bM I ?_;refine aH (fun β=>(ao (.of I) ae)) bM I ?_;refine aH (fun β=>(ag (.of I) (At.lit .here I))) bM I ?_)
 dsimp only [Nat.reduceAdd]
 with_reducible apply im (ι:=Value) (Φ:=fun _=>True) (val:=fun x=>.tuple #[x,.int .i64 (rk r v so de)]) (own:=fun x=>[row 9 1 x (mf r v so de).length (aM (mf r v so de))]) (g:=id) (B:=[1]) (args:=fun β=>[.agg #[.int .i64 r.lv,.int .i64 r.ma,(g4 (β 1)).1,(g4 (β 1)).2.1,(g4 (β 1)).2.2.1,(g4 (β 1)).2.2.2],.int .i64 v,.string so,.string de])
 case hg=>exact fun x=>⟨x,I⟩
 case hB=>kernel_rfl
 case hr=>exact fun β=>bj (.of I) ((.cons (.of I) (.cons (.of I) (.cons (.of I) (.cons (.of I) .nil))))) inferInstance I
 case hd=>rfl
 case hc=>
  intro β w' hb;have m1:=hb.at 1 List.mem_cons_self I;dsimp only at m1;exact D3 v so de (OP m1 (bz _ _)) hF I I
 dsimp only [id_eq,Nat.reduceAdd]
 with_reducible apply aH (F:=fun β=>.tuple #[β 8,.int .i64 (rk r v so de)])
 case hr=>(intro β;exact aZ (.of I))
 case hi=>exact fun β β' h=>by simp only [h 8 (by kernel_rfl)]
 case hd=>rfl
 dsimp only [Nat.reduceAdd]
 with_reducible apply aH (F:=fun β=>β 8)
 case hr=>(intro β;exact gN (.of I) I)
 case hi=>exact fun β β' h=>by simp only [h 8 (by kernel_rfl)]
 case hd=>rfl
 dsimp only [Nat.reduceAdd]
 with_reducible apply aH (F:=fun β=>.int .i64 (rk r v so de))
 case hr=>(intro β;exact gN (.of I) I)
 case hi=>exact bM
 case hd=>rfl
 dsimp only [Nat.reduceAdd]
 with_reducible apply aH (F:=fun β=>β 8)
 case hr=>(intro β;exact cF (.of I))
 case hi=>exact fun β β' h=>by simp only [h 8 (by kernel_rfl)]
 case hd=>rfl
 dsimp only [Nat.reduceAdd]
 with_reducible apply aH (F:=fun β=>.int .i64 (rk r v so de))
 case hr=>(intro β;exact cF (.of I))
 case hi=>exact bM
 case hd=>rfl
 dsimp only [Nat.reduceAdd];refine ic fun β=>?_;unfold uw;dsimp only [fK,Za,Zb,List.append_eq,Nat.reduceAdd];generalize β 8=xc;generalize g4 (β 1)=ya;clear β
 with_reducible refine dp (by kernel_rfl) ?_
 refine fj [JQ b2 r s d t p,bC b3 (.cells #[.int .i64 v,.string so,.string de] 29 (0,0)),row 9 1 xc (mf r v so de).length (aM (mf r v so de))] (by exact .cons re (.cons fy (.cons fg .nil))) ?_;refine Jt<|Jq ?_
 with_reducible refine fc 12 (by kernel_rfl) ?_
 refine aH (fun β=>(cm (.of I) .here an (by rfl))) bM I ?_;dsimp only [Nat.zero_add,Nat.reduceAdd]
 with_reducible apply im (ι:=Value×Value×Value×Value) (Φ:=fun _=>True) (val:=fun x=>.agg #[.int .i64 r.lv,.int .i64 r.ma,x.1,x.2.1,x.2.2.1,x.2.2.2]) (own:=fun x=>uw r x) (g:=g4) (B:=[]) (args:=fun _=>[.agg #[.int .i64 r.lv,.int .i64 r.ma,s,d,t,p]])
 case hg=>exact B4
 case hB=>rfl
 case hr=>exact fun β=>bj (.of I) (.cons (.of I) .nil) inferInstance I
 case hd=>rfl
 case hc=>exact fun β w' hb=>lC (h.keeps hb.mem.keeps) Yu
 dsimp only [Nat.reduceAdd]
 (refine aH (fun β=>(ao (.of I) ae)) bM I ?_;refine aH (fun β=>(ag (.of I) (At.lit (.there .here) I))) bM I ?_;refine aH (fun β=>(ao (.of I) ae)) bM I ?_;refine aH (fun β=>(ag (.of I) (At.lit (.there .here) I))) bM I ?_;refine aH (fun β=>(ao (.of I) ae)) bM I ?_;refine aH (fun β=>(ag (.of I) (At.lit (.there .here) I))) bM I ?_;refine aH (fun β=>(aZ (.of I))) bM I ?_)
 dsimp only [Nat.reduceAdd]
 with_reducible apply im (ι:=Value) (Φ:=fun _=>True) (val:=id) (own:=fun x=>[row 9 1 x L.length (aM L)]) (g:=id) (B:=[]) (args:=fun _=>[.slice ac L.length Ol])
 case hg=>exact fun x=>⟨x,I⟩
 case hB=>rfl
 case hr=>exact fun β=>bj (.of I) (.cons (.of I) .nil) inferInstance I
 case hd=>rfl
 case hc=>exact fun β w' hb=>Ei (Rd.keeps hc hb.mem.keeps) hL6
 dsimp only [id_eq,Nat.reduceAdd]
 with_reducible apply cV (B:=[1,9]) (F:=fun _=>.int .i64 (KB r v so de L)) (args:=fun β=>[.agg #[.int .i64 r.lv,.int .i64 r.ma,(g4 (β 1)).1,(g4 (β 1)).2.1,(g4 (β 1)).2.2.1,(g4 (β 1)).2.2.2],.int .i64 v,.string so,.string de,β 9])
 case hB=>kernel_rfl
 case hr=>exact fun β=>bj (.of I) (.cons (.of I) (.cons (.of I) (.cons (.of I) (.cons (.of I) (.cons (.of I) .nil))))) inferInstance I
 case hi=>exact bM
 case hd=>rfl
 case hc=>
  intro β w' hb;have m1:=hb.at 1 List.mem_cons_self I;have m2:=hb.at 9 (List.mem_cons_of_mem _ List.mem_cons_self) I;dsimp only at m1;dsimp only [Zb,Za] at m2;have m3:=dL (E:=9) (v:=β 9) (n:=L.length) m2 (by exact .here) I;exact Ec v so de (OP m1 (bz _ _)) hF m3
 dsimp only [Nat.reduceAdd];refine aH (fun β=>(cF (.of I))) bM I ?_;dsimp only [Nat.reduceAdd];refine ic fun β=>?_;unfold uw;dsimp only [fK,Za,Zb,List.append_eq,Nat.reduceAdd];generalize β 9=yi;generalize g4 (β 1)=ya;clear β
 with_reducible refine dp (by kernel_rfl) ?_
 refine fj [JQ b2 r s d t p,bC b3 (.cells #[.int .i64 v,.string so,.string de] 29 (0,0)),row 9 1 xc (mf r v so de).length (aM (mf r v so de))] (by exact .cons fy (.cons fy (.cons fy .nil))) ?_;by_cases hb:jw r v so de=0
 ·obtain ⟨ZN,-,hs,hd⟩:=rm hb;have jk:=Hg hb;have jf:=ZN.nd;obtain ⟨x1,x2⟩:=S4 hb;have x3:=LS ZN jf hb L
  (refine Jt<|Jr<|ab (cr (.there .here)) I ?_;refine ab (cr .here) I ?_;refine ai aX I (fun w' aq=>(UH (Mem.keeps aq))) ?_;refine Ja I<|Ji<|Jv I<|Ja I<|Ji<|Ja I<|Jn<|Jq<|Jr<|Jv I<|JC I<|Jn<|Jd I fun ar=>Jr<|ab (cr .here) I ?_;refine bK I I ae ?_;refine JL I (.there .here) I<|bK I I ae ?_;refine JL I (.there .here) I<|bK I I ae ?_;refine JL I (.there .here) I ?_)
  refine JN nO I (fun w1 aS=>S5 v so de (h.keeps aS.keeps) jk hs hd jf) ?_;rintro ⟨yc,vs,xs⟩ my
  try dsimp only [id_eq,Zb,Za] at my ⊢
  (refine Jv I<|JJ I I<|JJ I I<|Ja I<|Ja I<|Ji<|ab (cr (.there .here)) I ?_;refine Jv I<|ai aX I (fun w' aq=>(X3 (Mem.keeps aq))) ?_;refine Ja I<|Ji<|Jv I<|JC I<|Jv I<|aC I I inferInstance (fun hg br=>(cm (.of I) (.there .here) an (by rfl))) I ?_;refine aC I I inferInstance (fun hg br=>(ao (.of I) ae)) I ?_;refine aC I I inferInstance (fun hg br=>(ag (.bL hg I) (At.lit bT I))) I ?_;refine aC I I inferInstance (fun hg br=>(ao (.of I) ae)) I ?_;refine aC I I inferInstance (fun hg br=>(ag (.bL hg I) (At.lit bT I))) I ?_;refine aC I I inferInstance (fun hg br=>(ao (.of I) ae)) I ?_;refine aC I I inferInstance (fun hg br=>(ag (.bL hg I) (At.lit bT I))) I ?_;refine fM I I I I ?_)
  by_cases hz:Fm r L=0
  ·have XK:=fun {w'}=>Us jk hs hd hz (w':=w')
   (refine gJ I I (fun hg=>(bj (.of I) (.cons (.bL hg I) (.cons (.bL hg I) (.cons (.bL hg I) (.cons (.bL hg I) (.cons (.bL hg I) .nil))))) inferInstance fL)) I (fun hg w' aq=>(XK (Mem.keeps aq))) ?_;refine aC I I inferInstance (fun hg br=>(eY (.bL hg I))) I ?_;refine ab (bH (.of I) I) I ?_;refine Jn<|oz I (fun ar=>?_) fun ar=>?_;refine Jg<|Ja I<|Ji<|Jv I<|Jv I<|Jv I<|Jv I ?_;rotate_left;refine Jk<|Jr<|Jv I<|Jv I<|Jv I<|Jv I ?_;rotate_right)
   ·have x4:KB r v so de L=19:=by rw [x3,if_neg (not_not_intro hz),if_neg (by rw [ar.2];decide)]
    rw [x4];refine ai nO I (fun w1 aS=>uK (l1:=mf r v so de) (l2:=GW r v so de) (dL aS db I) (Mem.Bx aS (by exact .here) my) x1 (fun q=>x2.trans (C8 q)) (fun _=>x2)) ?_
    (refine Jv I<|fM I I I I ?_;refine fM I I I I ?_;refine aC I I inferInstance (fun hg br=>(jE (.bL br I) (.bL br I))) I ?_;refine ab (bH (.of I) I) I ?_;refine Ja I<|Jn<|Je<|JT ?_)
    rfl
   ·have x4:KB r v so de L=Fm r L:=by rw [x3,if_neg (not_not_intro hz),if_pos (ar.resolve_left (not_not_intro hz)),hz]
    rw [x4];refine ai nO I (fun w1 aS=>uK (l1:=mf r v so de) (l2:=GW r v so de) (dL aS db I) (Mem.Bx aS (by exact .here) my) x1 (fun q=>x2.trans (C8 q)) (fun _=>x2)) ?_
    (refine Jv I<|fM I I I I ?_;refine fM I I I I ?_;refine aC I I inferInstance (fun hg br=>(jE (.bL br I) (.bL br I))) I ?_;refine ab (bH (.of I) I) I ?_;refine Ja I<|Jn<|Je<|JT ?_)
    simp
  ·have hzx:(decide (Fm r L=0)==true)=true->False:=fun q=>hz (by simpa using q)
   have x4:KB r v so de L=Fm r L:=by rw [x3,if_pos hz]
   (refine gJ I I (fun hg=>(bj (.of I) (.cons (.bL hg I) (.cons (.bL hg I) (.cons (.bL hg I) (.cons (.bL hg I) (.cons (.bL hg I) .nil))))) inferInstance fL)) I (fun hg w' aq=>(Gw (hzx hg))) ?_;refine aC I I inferInstance (fun hg br=>(eY (.bL hg I))) I ?_;refine ab (bH (.of I) I) I ?_;refine Jn<|oz I (fun _=>by omega) fun ar=>?_;refine Jk<|Jr<|Jv I<|Jv I<|Jv I<|Jv I ?_)
   rw [x4];refine ai nO I (fun w1 aS=>uK (l1:=mf r v so de) (l2:=GW r v so de) (dL aS db I) (Mem.Bx aS (by exact .here) my) x1 (fun q=>x2.trans (C8 q)) (fun _=>x2)) ?_
   (refine Jv I<|fM I I I I ?_;refine fM I I I I ?_;refine aC I I inferInstance (fun hg br=>(jE (.bL br I) (.bL br I))) I ?_;refine ab (bH (.of I) I) I ?_;refine Ja I<|Jn<|Je<|JT ?_)
   simp
 ·have x1:rk r v so de=jw r v so de:=by unfold rk;rw [if_pos hb]
  have x2:mf r v so de=[]:=by unfold mf;rw [if_pos hb]
  have x4:KB r v so de L=jw r v so de:=by
   have e:R5 r v so de L=jw r v so de:=by unfold R5;exact Kq hb
   unfold KB;rw [e,if_pos hb]
  rw [x4]
  (refine Jt<|Jr<|ab (cr (.there .here)) I ?_;refine ab (cr .here) I ?_;refine ai aX I (fun w' aq=>(UH (Mem.keeps aq))) ?_;refine Ja I<|Ji<|Jv I<|Ja I<|Ji<|Ja I<|Jn<|Jq<|Jr<|Jv I<|JC I<|Jn<|Jc I fun ar=>Jk<|Jr<|Jv I<|Jv I<|Jv I<|Jv I ?_)
  refine ai nO I (fun w1 aS=>uK (l1:=mf r v so de) (l2:=[]) (dL aS bT I) (show Rd _ (.slice none 0 0) 1 (fG []) from Rd.nil _ 1) x1 (fun _=>x2) (fun q=>absurd q hb)) ?_
  (refine Jv I<|fM I I I I ?_;refine fM I I I I ?_;refine aC I I inferInstance (fun hg br=>(jE (.bL br I) (.bL br I))) I ?_;refine ab (bH (.of I) I) I ?_;refine Ja I<|Jn<|Je<|JT ?_)
  simp
end Go.Proofs.A1
