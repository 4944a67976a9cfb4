/- Parts of the proof: LH TryzShelf GkDraws LI LJ. -/
import Derived.Test.YteonnodafmegaaaGreatDoorCM11
import Derived.Test.YteonnodafmegaaaGreatDoorCM04
import Derived.Shelf.Strings.OnBuilder
import Derived.Shelf.Strconv.Itoa3
import Derived.Ground.NamesProg
import Derived.Ground.Names2Prog
import Derived.Test.YteonnodafmegaaaGreatDoorProg
import Derived.Calls
import Derived.RunT
import Derived.Test.YteonnodafmegaaaGreatDoorCM10
import Derived.Lib.AppendIntMem
set_option linter.unusedSectionVars false
set_option linter.unusedVariables false
set_option linter.unusedSimpArgs false
namespace Go.Proofs.A1
open Go Go.SL
open Tryz
open Tryz renaming prog->T_
def g4:Value->Value×Value×Value×Value
 | .agg a=>(a.getD 0 (.slice none 0 0),a.getD 1 (.slice none 0 0),a.getD 2 (.slice none 0 0),a.getD 3 (.slice none 0 0))
 | _=>(.slice none 0 0,.slice none 0 0,.slice none 0 0,.slice none 0 0)
theorem B4 (x:Value×Value×Value×Value):∃ v,g4 v=x:=⟨.agg #[x.1,x.2.1,x.2.2.1,x.2.2.2],I⟩
def HL (r:Ro) (o:ByteArray) (f:Int):Int:=aV [tW r o,gH f 0 10000000]
def rz (r:Ro) (l:List Od) (o:ByteArray) (f:Int):Int:=if MS r l≠0 then MS r l else if HL r o f≠0 then HL r o f else (iV r (l.take (iK l f))).2.2
def ub (r:Ro) (l:List Od) (o:ByteArray) (f:Int):List ByteArray:=if rz r l o f≠0 then [] else cG (iV r (l.take (iK l f))).1 o
theorem Ni (l:List qq) (f:Int):ia (fun x:qq=>decide (f<x.fr)) l=if iK (eC l) f<l.length then ((iK (eC l) f:Nat):Int) else -1:=by
 have hn:iK (eC l) f=l.findIdx fun x=>decide (f<x.fr):=by
  unfold iK eC;rw [List.findIdx_map];rfl
 rw [hn];by_cases c:(l.findIdx fun x=>decide (f<x.fr))<l.length
 ·rw [if_pos c];refine gP (fun i hi=>?_) c (List.findIdx_getElem (w:=c));have:=List.not_of_lt_findIdx hi;rw [Zc (by omega)];simpa using this
 ·rw [if_neg c];refine fO fun i hi=>?_;have:=List.not_of_lt_findIdx (p:=fun x:qq=>decide (f<x.fr)) (xs:=l) (i:=i) (by omega)
  rw [Zc hi];simpa using this
theorem Oz.take {r:Ro} {l:List Od} (h:Oz r l) (n:Nat):Oz r (l.take n):=by
 refine ⟨by rw [List.length_take];have:=h.DM;omega,fun k hk=>?_,fun i j hi hj yR=>?_,fun k hk=>?_⟩
 ·rw [List.length_take] at hk;rw [List.getElem_take];exact h.fr k (by omega)
 ·rw [List.length_take] at hi hj;rw [List.getElem_take,List.getElem_take];exact h.inc i j (by omega) (by omega) yR
 ·rw [List.length_take] at hk;rw [List.getElem_take];exact h.tk k (by omega)
theorem Ey {r:Ro} {l:List Od} (hc:gB r=0) (hO:Oz r l) (h:(iV r l).2.2=0):∃ q,jl r q/\(iV r l).1=r.wp q:=by
 unfold iV at h ⊢;by_cases c:jq (BB r l) l.length=0
 ·rw [if_pos c];obtain ⟨q,hq⟩:=HW hc hO l.length (Nat.le_refl _) (dN.1 c);exact ⟨q,hq.val,hq.eq⟩
 ·rw [if_neg c] at h;exact absurd h c
set_option maxHeartbeats 2000000 in
theorem Sk {r:Ro} {s d t p kv:Value} {l:List qq} (o:ByteArray) (f:Int) {w:World} (h:RR w r s d t p) (cL:np r) (hw:Rd w kv 2 (tx l)) (hM:G5 w l) :
  bh T_ 64 [RA r s d t p,kv,.string o,.int .i64 f] w [] (fun _:Value=>True) (fun v=>.tuple #[v,.int .i64 (rz r (eC l) o f)]) (fun v=>[row 9 1 v (ub r (eC l) o f).length (aM (ub r (eC l) o f))]):=by
 obtain ⟨h1,h2,h3,h4⟩:=h.one;have AM:=hw;obtain ⟨a,cp,b,ow,rfl,c8,bV,ha,hc⟩:=hw;rw [lj] at *;unfold maxLen at bV;have rT:=uJ l;have JO:∀ w',aD [] w w'->aj T_ 171 [.agg #[.int .i64 r.lv,.int .i64 r.ma,s,d,t,p],.slice a l.length cp] w' (.int .i64 (MS r (eC l))):=fun w' hk=>xJ (h.keeps hk) cL (AM.keeps hk) (hM.keeps hk)
 have lM:∀ w',aD [] w w'->aj T_ 112 [.agg #[.int .i64 r.lv,.int .i64 r.ma,s,d,t,p],.string o] w' (.int .i64 (tW r o)):=fun w' hk=>eG o (h.keeps hk)
 unfold RA;refine aR func64 I I ?_
 (refine Jr<|Jy I I fun _ _=>Jy I I fun _ _=>Ja I<|Ja I<|Jn<|Jq<|Jr<|ab (cr (.there .here)) I ?_;refine Jv I<|ai aX I (fun w' aq=>(JO w' (Mem.keeps aq))) ?_;refine Ja I<|Ji<|Jv I<|JD I<|Jn<|gl I (fun ar=>?_) fun ar=>?_;refine Jr<|Jv I<|Ja I<|Ja I<|Jn<|Ju ?_;rotate_left;refine Jk<|Jq<|Jq ?_;rotate_right)
 ·have e1:rz r (eC l) o f=MS r (eC l):=if_pos ar;have e2:ub r (eC l) o f=[]:=if_pos (by rw [e1];exact ar);rw [e1,e2];refine aP 9 1 ?_
  first | with_reducible apply aN | with_reducible apply aO
  case he=>exact fW I I I
  case hR=>
   intro w' aq;exact aG (.slice none 0 0) trivial (by exact .cons .here .nil) aq I
 have SS:rz r (eC l) o f=if HL r o f≠0 then HL r o f else (iV r ((eC l).take (iK (eC l) f))).2.2:=if_neg ar
 obtain ⟨AR,hO⟩:=Qv (Decidable.not_not.1 ar);clear ar;rename_i b4 uQ b7 UE
 with_reducible refine cC 6 (by kernel_rfl) ?_
 (refine ak (cr (.there .here)) I ?_;refine ak jP I ?_;refine aQ aX I (fun w' aq=>(lM w' (Mem.keeps aq))) ?_;refine ak (gD .here) I ?_;refine aQ dH I (fun w' aq=>(mI f 0 10000000 w')) ?_;refine dX (aB (.cons (.of I) (.cons (.of I) .nil)) I I I I) I I ?_)
 with_reducible refine cY I fun bq mA=>?_
 (refine ai bN I (fun w' aq=>(dF (Mem.df aq .here I I) (bQ.cons (bQ.cons bQ.nil)))) ?_;refine Ja I<|Ji<|Jv I<|JD I<|Jn<|gl I (fun ar=>?_) fun ar=>?_;refine Jr<|Jv I<|Ja I<|Ja I<|Jn<|Ju ?_;rotate_left;refine Jk<|Jr<|Jv I<|ab (bo .nil (.cons (.of I) .nil)) I ?_;rotate_right)
 ·have e1:rz r (eC l) o f=HL r o f:=by rw [SS];exact if_pos ar
  have e2:ub r (eC l) o f=[]:=if_pos (by rw [e1];exact ar);rw [e1,e2];refine aP 9 1 ?_
  first | with_reducible apply aN | with_reducible apply aO
  case he=>exact fW I I I
  case hR=>
   intro w' aq;exact aG (.slice none 0 0) trivial (by exact .cons .here .nil) aq I
 have Z3:rz r (eC l) o f=(iV r ((eC l).take (iK (eC l) f))).2.2:=by rw [SS];exact if_neg ar
 clear SS;have SS:=Z3;have hsd:o∈cz r:=by
  have:=(bD (by decide)).1 (bI.1 (Decidable.not_not.1 ar) (tW r o) (by simp));rwa [decide_eq_false_iff_not,cq,Classical.not_not] at this
 clear ar Z3
 with_reducible apply ai
 case hr=>exact aX
 case hd=>rfl
 case hc=>
  intro w' aq;have f7:w'.cell? ⟨b7,0,none⟩=some (.int .i64 f):=At.lit (by exact Take.there .here) I w' aq;exact Nk (f:=174) (p:=fun x:qq=>decide (f<x.fr)) (first:=[]) (cap:=[.pointer (some ⟨b7,0,none⟩)]) (AM.keeps aq.keeps) (fun x _ w2 eR=>Ms (cy f7 I eR))
 rw [Ni];have QY:=P3 (eC l) f;rw [rT] at QY;by_cases kc:iK (eC l) f<l.length
 ·rw [if_pos kc];have QW:iK (eC l) f<=l.length:=QY;have QX:iK (eC l) f=iK (eC l) f:=rfl;refine Ja I<|Jn<|Jq<|Jr<|Jv I<|JA I<|Jn<|Jc I fun ar=>Jk<|Jq ?_;have vM:rz r (eC l) o f=(iV r ((eC l).take (iK (eC l) f))).2.2/\ub r (eC l) o f=if (iV r ((eC l).take (iK (eC l) f))).2.2≠0 then [] else cG (iV r ((eC l).take (iK (eC l) f))).1 o:=by
   have x1:rz r (eC l) o f=(iV r ((eC l).take (iK (eC l) f))).2.2:=by rw [SS,QX]
   refine ⟨x1,?_⟩;unfold ub;rw [x1,QX]
  have RK:=hO.take (iK (eC l) f);have mU:(eC l).take (iK (eC l) f)=eC (l.take (iK (eC l) f)):=by unfold eC;rw [List.map_take]
  rw [mU] at vM RK;have vN:=Ey AR RK;have rf:Rd w (Go.sliced a 0 (((iK (eC l) f):Nat):Int).toNat cp 2) 2 (tx (l.take (iK (eC l) f))):=by
   have:=AM.sliced (l:=0) (m:=(iK (eC l) f)) (Zi _) QW;rw [Int.toNat_natCast];rwa [List.drop_zero,show (tx l).take (iK (eC l) f)=tx (l.take (iK (eC l) f)) by unfold tx;rw [List.map_take]] at this
  have Yr:G5 w (l.take (iK (eC l) f)):=fun x hx=>hM x (List.mem_of_mem_take hx)
  rw [vM.1,vM.2];have rS:∀ w',aD [] w w'->bh T_ 172 [.agg #[.int .i64 r.lv,.int .i64 r.ma,s,d,t,p],Go.sliced a 0 (((iK (eC l) f):Nat):Int).toNat cp 2] w' [] (fun _:Value×Value×Value×Value=>True) (fun x=>.tuple #[RA (iV r (eC (l.take (iK (eC l) f)))).1 x.1 x.2.1 x.2.2.1 x.2.2.2,.int .i64 (iV r (eC (l.take (iK (eC l) f)))).2.1,.int .i64 (iV r (eC (l.take (iK (eC l) f)))).2.2]) (fun x=>uw (iV r (eC (l.take (iK (eC l) f)))).1 x):=fun w' hk=>OO (h.keeps hk) AR (rf.keeps hk) (Yr.keeps hk) RK
  generalize iV r (eC (l.take (iK (eC l) f)))=R at vN rS ⊢;obtain ⟨R,at_,e_⟩:=R;dsimp only at vN rS ⊢
  with_reducible refine xY 10 [7,8] (by kernel_rfl) (List.forall_mem_cons.2 ⟨uF I (by kernel_rfl) (by kernel_rfl),List.forall_mem_cons.2 ⟨uF I (by kernel_rfl) (by kernel_rfl),fun _ h=>absurd h List.not_mem_nil⟩⟩) ?_
  (refine aH (fun β=>(cm (.of I) bT an (by rfl))) dM I ?_;refine aH (fun β=>(aZ (.of I))) dM I ?_;refine aH (fun β=>(aZ (.of I))) dM I ?_;refine aH (fun β=>(fY (.of I) (.of I) (by omega) (by omega))) dM I ?_)
  dsimp only [Nat.zero_add,Nat.reduceAdd]
  with_reducible apply im (ι:=Value×Value×Value×Value) (Φ:=fun _=>True) (val:=fun x=>.tuple #[.agg #[.int .i64 R.lv,.int .i64 R.ma,x.1,x.2.1,x.2.2.1,x.2.2.2],.int .i64 at_,.int .i64 e_]) (own:=fun x=>[J1 R x.1,J2 R x.2.1,J3 R x.2.2.1,J4 R x.2.2.2]) (g:=g4) (B:=[]) (args:=fun _=>[.agg #[.int .i64 r.lv,.int .i64 r.ma,s,d,t,p],Go.sliced a 0 (((iK (eC l) f):Nat):Int).toNat cp 2])
  case hg=>exact B4
  case hB=>rfl
  case hr=>exact fun β=>bj (.of I) (.cons (.of I) (.cons (.of I) .nil)) inferInstance I
  case hd=>rfl
  case hc=>exact fun β w' hb=>rS w' hb.mem.keeps
  dsimp only [Nat.reduceAdd]
  with_reducible apply aH
  case hr=>(intro β;exact aZ (.of I))
  case hi=>exact fun β β' h=>by simp only [h 4 (by kernel_rfl)]
  case hd=>rfl
  dsimp only [Nat.reduceAdd]
  with_reducible apply aH
  case hr=>(intro β;exact gN (.of I) I)
  case hi=>exact fun β β' h=>by simp only [h 4 (by kernel_rfl)]
  case hd=>rfl
  dsimp only [Nat.reduceAdd]
  (refine aH (fun β=>(gN (.of I) I)) dM I ?_;refine aH (fun β=>(gN (.of I) I)) dM I ?_)
  refine nN (fun β=>(oM I)) (fun _ _ _=>rfl) I ?_;refine ic fun β=>?_;dsimp only [fK,Za,Zb,List.append_eq,Nat.reduceAdd];generalize eM (β 9)=Se;generalize g4 (β 4)=y;obtain ⟨s1,d1,t1,p1⟩:=y;clear β;dsimp only;refine dW (r:=R) (s:=s1) (d:=d1) (t:=t1) (p:=p1) (by unfold uw PB;exact .cons .here (.cons .here (.cons .here (.cons .here .nil)))) fun m1 m2 m3 m4=>?_;refine cU (rs:=[10]) (by kernel_rfl) (by simp) (List.forall_mem_cons.2 ⟨?_,fun _ h=>absurd h List.not_mem_nil⟩);refine dj I ?_
  (refine au (.of I) (.of I) fg I I (iS I I m1 m2 m3 m4) (bF I) an ?_;refine Jn ?_)
  refine cU (rs:=[11]) (by kernel_rfl) (by simp) (List.forall_mem_cons.2 ⟨?_,fun _ h=>absurd h List.not_mem_nil⟩);refine dj I ?_;refine Ja I<|Jn ?_;refine cU (rs:=[12]) (by kernel_rfl) (by simp) (List.forall_mem_cons.2 ⟨?_,fun _ h=>absurd h List.not_mem_nil⟩);refine dj I ?_;refine Ja I<|Jn ?_
  with_reducible refine dp (by kernel_rfl) ?_
  clear rS;by_cases AQ:e_=0
  ·obtain ⟨q,Ym,UK⟩:=vN AQ;clear vN;rw [if_neg (not_not_intro AQ)];subst UK;subst AQ;have Uc:=(Di AR).wp Ym;have BZ:=Uc.lim;have vS:=Uc.len
   (refine Jt<|Jq<|Jr<|Jv I<|JD I<|Jn<|Jc I fun ar=>Jk<|Jr<|ab (cr .here) I ?_;refine Jv I ?_)
   have Xu:(cG (r.wp q) o).length=(r.wp q).lv.toNat:=by unfold cG;simp
   rw [Xu];generalize r.wp q=R at *;refine JN aX I (fun w1 aS=>vV (r:=R) o ⟨du aS (by exact Take.there .here) I,dw aS bT I,dq aS db I,cX aS fg I⟩ (by omega) (by omega)) ?_;intro hv _;dsimp only [id_eq,Zb,Za];refine aW (E:=9) (sz:=1) (v:=hv) (by exact .here) fun va vc e=>?_;subst e;refine Ja I<|Ja I<|Jn<|Je ?_
   first | with_reducible apply aN | with_reducible apply aO
   case he=>exact fW I I I
   case hR=>
    intro w' aq;exact aG (.slice va R.lv.toNat vc) trivial (by exact .cons .here .nil) aq I
  ·clear vN;rw [if_pos AQ];refine Jt<|Jq<|Jr<|Jv I<|JD I<|Jn<|Jd I fun ar=>Jr<|Jv I<|Ja I<|Ja I<|Jn<|Ju ?_;refine aP 9 1 ?_
   first | with_reducible apply aN | with_reducible apply aO
   case he=>exact fW I I I
   case hR=>
    intro w' aq;exact aG (.slice none 0 0) trivial (by exact .cons .here .nil) aq I
 ·rw [if_neg kc];have QW:l.length<=l.length:=Nat.le_refl _;have QX:iK (eC l) f=l.length:=by omega
  refine Ja I<|Jn<|Jq<|Jr<|Jv I<|JA I<|Jn<|Jd I fun ar=>Jg<|Jv I<|JI I<|Ja I<|Jn<|Jq ?_;have vM:rz r (eC l) o f=(iV r ((eC l).take l.length)).2.2/\ub r (eC l) o f=if (iV r ((eC l).take l.length)).2.2≠0 then [] else cG (iV r ((eC l).take l.length)).1 o:=by
   have x1:rz r (eC l) o f=(iV r ((eC l).take l.length)).2.2:=by rw [SS,QX]
   refine ⟨x1,?_⟩;unfold ub;rw [x1,QX]
  have RK:=hO.take l.length;have mU:(eC l).take l.length=eC (l.take l.length):=by unfold eC;rw [List.map_take]
  rw [mU] at vM RK;have vN:=Ey AR RK;have rf:Rd w (Go.sliced a 0 ((l.length:Nat):Int).toNat cp 2) 2 (tx (l.take l.length)):=by
   have:=AM.sliced (l:=0) (m:=l.length) (Zi _) QW;rw [Int.toNat_natCast];rwa [List.drop_zero,show (tx l).take l.length=tx (l.take l.length) by unfold tx;rw [List.map_take]] at this
  have Yr:G5 w (l.take l.length):=fun x hx=>hM x (List.mem_of_mem_take hx)
  rw [vM.1,vM.2];have rS:∀ w',aD [] w w'->bh T_ 172 [.agg #[.int .i64 r.lv,.int .i64 r.ma,s,d,t,p],Go.sliced a 0 ((l.length:Nat):Int).toNat cp 2] w' [] (fun _:Value×Value×Value×Value=>True) (fun x=>.tuple #[RA (iV r (eC (l.take l.length))).1 x.1 x.2.1 x.2.2.1 x.2.2.2,.int .i64 (iV r (eC (l.take l.length))).2.1,.int .i64 (iV r (eC (l.take l.length))).2.2]) (fun x=>uw (iV r (eC (l.take l.length))).1 x):=fun w' hk=>OO (h.keeps hk) AR (rf.keeps hk) (Yr.keeps hk) RK
  generalize iV r (eC (l.take l.length))=R at vN rS ⊢;obtain ⟨R,at_,e_⟩:=R;dsimp only at vN rS ⊢
  with_reducible refine xY 10 [7,8] (by kernel_rfl) (List.forall_mem_cons.2 ⟨uF I (by kernel_rfl) (by kernel_rfl),List.forall_mem_cons.2 ⟨uF I (by kernel_rfl) (by kernel_rfl),fun _ h=>absurd h List.not_mem_nil⟩⟩) ?_
  (refine aH (fun β=>(cm (.of I) bT an (by rfl))) dM I ?_;refine aH (fun β=>(aZ (.of I))) dM I ?_;refine aH (fun β=>(aZ (.of I))) dM I ?_;refine aH (fun β=>(fY (.of I) (.of I) (by omega) (by omega))) dM I ?_)
  dsimp only [Nat.zero_add,Nat.reduceAdd]
  with_reducible apply im (ι:=Value×Value×Value×Value) (Φ:=fun _=>True) (val:=fun x=>.tuple #[.agg #[.int .i64 R.lv,.int .i64 R.ma,x.1,x.2.1,x.2.2.1,x.2.2.2],.int .i64 at_,.int .i64 e_]) (own:=fun x=>[J1 R x.1,J2 R x.2.1,J3 R x.2.2.1,J4 R x.2.2.2]) (g:=g4) (B:=[]) (args:=fun _=>[.agg #[.int .i64 r.lv,.int .i64 r.ma,s,d,t,p],Go.sliced a 0 ((l.length:Nat):Int).toNat cp 2])
  case hg=>exact B4
  case hB=>rfl
  case hr=>exact fun β=>bj (.of I) (.cons (.of I) (.cons (.of I) .nil)) inferInstance I
  case hd=>rfl
  case hc=>exact fun β w' hb=>rS w' hb.mem.keeps
  dsimp only [Nat.reduceAdd]
  with_reducible apply aH
  case hr=>(intro β;exact aZ (.of I))
  case hi=>exact fun β β' h=>by simp only [h 4 (by kernel_rfl)]
  case hd=>rfl
  dsimp only [Nat.reduceAdd]
  with_reducible apply aH
  case hr=>(intro β;exact gN (.of I) I)
  case hi=>exact fun β β' h=>by simp only [h 4 (by kernel_rfl)]
  case hd=>rfl
  dsimp only [Nat.reduceAdd]
  (refine aH (fun β=>(gN (.of I) I)) dM I ?_;refine aH (fun β=>(gN (.of I) I)) dM I ?_)
  refine nN (fun β=>(oM I)) (fun _ _ _=>rfl) I ?_;refine ic fun β=>?_;dsimp only [fK,Za,Zb,List.append_eq,Nat.reduceAdd];generalize eM (β 9)=Se;generalize g4 (β 4)=y;obtain ⟨s1,d1,t1,p1⟩:=y;clear β;dsimp only;refine dW (r:=R) (s:=s1) (d:=d1) (t:=t1) (p:=p1) (by unfold uw PB;exact .cons .here (.cons .here (.cons .here (.cons .here .nil)))) fun m1 m2 m3 m4=>?_;refine cU (rs:=[10]) (by kernel_rfl) (by simp) (List.forall_mem_cons.2 ⟨?_,fun _ h=>absurd h List.not_mem_nil⟩);refine dj I ?_
  (refine au (.of I) (.of I) fg I I (iS I I m1 m2 m3 m4) (bF I) an ?_;refine Jn ?_)
  refine cU (rs:=[11]) (by kernel_rfl) (by simp) (List.forall_mem_cons.2 ⟨?_,fun _ h=>absurd h List.not_mem_nil⟩);refine dj I ?_;refine Ja I<|Jn ?_;refine cU (rs:=[12]) (by kernel_rfl) (by simp) (List.forall_mem_cons.2 ⟨?_,fun _ h=>absurd h List.not_mem_nil⟩);refine dj I ?_;refine Ja I<|Jn ?_
  with_reducible refine dp (by kernel_rfl) ?_
  clear rS;by_cases AQ:e_=0
  ·obtain ⟨q,Ym,UK⟩:=vN AQ;clear vN;rw [if_neg (not_not_intro AQ)];subst UK;subst AQ;have Uc:=(Di AR).wp Ym;have BZ:=Uc.lim;have vS:=Uc.len
   (refine Jt<|Jq<|Jr<|Jv I<|JD I<|Jn<|Jc I fun ar=>Jk<|Jr<|ab (cr .here) I ?_;refine Jv I ?_)
   have Xu:(cG (r.wp q) o).length=(r.wp q).lv.toNat:=by unfold cG;simp
   rw [Xu];generalize r.wp q=R at *;refine JN aX I (fun w1 aS=>vV (r:=R) o ⟨du aS (by exact Take.there .here) I,dw aS bT I,dq aS db I,cX aS fg I⟩ (by omega) (by omega)) ?_;intro hv _;dsimp only [id_eq,Zb,Za];refine aW (E:=9) (sz:=1) (v:=hv) (by exact .here) fun va vc e=>?_;subst e;refine Ja I<|Ja I<|Jn<|Je ?_
   first | with_reducible apply aN | with_reducible apply aO
   case he=>exact fW I I I
   case hR=>
    intro w' aq;exact aG (.slice va R.lv.toNat vc) trivial (by exact .cons .here .nil) aq I
  ·clear vN;rw [if_pos AQ];refine Jt<|Jq<|Jr<|Jv I<|JD I<|Jn<|Jd I fun ar=>Jr<|Jv I<|Ja I<|Ja I<|Jn<|Ju ?_;refine aP 9 1 ?_
   first | with_reducible apply aN | with_reducible apply aO
   case he=>exact fW I I I
   case hR=>
    intro w' aq;exact aG (.slice none 0 0) trivial (by exact .cons .here .nil) aq I
end Go.Proofs.A1
namespace Go.Proofs
open Go.Shelf
def Tryz.tE:Go.Shelf.Ren:=⟨fun | 156=>278 | 165=>326 | 166=>327 | 169=>328 | 240=>357 | 241=>358 | 276=>379 | 277=>380 | n=>n,fun | 31=>32 | 9=>9 | 3=>3 | 4=>4 | 0=>0 | 20=>20 | 72=>397 | 76=>401 | 70=>395 | 37=>351 | 75=>400 | 127=>421 | 164=>437 | 5=>5 | 80=>197 | n=>n,fun | n=>n⟩
theorem Tryz.EU:Go.Proofs.Lays.n156 Tryz.prog Tryz.tE:={
 mixed:=by kernel_rfl
 f156:=Tryz.func278.trans (congrArg some (by kernel_rfl))
 f165:=Tryz.func326.trans (congrArg some (by kernel_rfl))
 f166:=Tryz.func327.trans (congrArg some (by kernel_rfl))
 f169:=Tryz.func328.trans (congrArg some (by kernel_rfl))
 f240:=Tryz.func357.trans (congrArg some (by kernel_rfl))
 f241:=Tryz.func358.trans (congrArg some (by kernel_rfl))
 f276:=Tryz.func379.trans (congrArg some (by kernel_rfl))
 f277:=Tryz.func380.trans (congrArg some (by kernel_rfl))
 t0:=Tryz.underlying0
 a0:=Tryz.isAgg0
 z0:=Tryz.sizeOf0
 v0:=Tryz.zeroValue0
 t3:=Tryz.underlying3
 a3:=Tryz.isAgg3
 z3:=Tryz.sizeOf3
 v3:=Tryz.zeroValue3
 t4:=Tryz.underlying4
 a4:=Tryz.isAgg4
 z4:=Tryz.sizeOf4
 v4:=Tryz.zeroValue4
 t9:=Tryz.underlying9
 a9:=Tryz.isAgg9
 z9:=Tryz.sizeOf9
 v9:=Tryz.zeroValue9
 t20:=Tryz.underlying20
 a20:=Tryz.isAgg20
 z20:=Tryz.sizeOf20
 v20:=Tryz.zeroValue20
 t31:=Tryz.underlying32
 a31:=Tryz.isAgg32
 z31:=Tryz.sizeOf32
 v31:=Tryz.zeroValue32
 t37:=Tryz.underlying351
 a37:=Tryz.isAgg351
 z37:=Tryz.sizeOf351
 v37:=Tryz.zeroValue351
 t70:=Tryz.underlying395
 a70:=Tryz.isAgg395
 z70:=Tryz.sizeOf395
 v70:=Tryz.zeroValue395
 t72:=Tryz.underlying397
 a72:=Tryz.isAgg397
 z72:=Tryz.sizeOf397
 v72:=Tryz.zeroValue397
 t75:=Tryz.underlying400
 a75:=Tryz.isAgg400
 z75:=Tryz.sizeOf400
 v75:=Tryz.zeroValue400
 t76:=Tryz.underlying401
 a76:=Tryz.isAgg401
 z76:=Tryz.sizeOf401
 v76:=Tryz.zeroValue401
 t127:=Tryz.underlying421
 a127:=Tryz.isAgg421
 z127:=Tryz.sizeOf421
 v127:=Tryz.zeroValue421
 t164:=Tryz.underlying437
 a164:=Tryz.isAgg437
 z164:=Tryz.sizeOf437
 v164:=Tryz.zeroValue437 }
theorem Tryz.me:Builder.Extra Tryz.prog Tryz.tE:={
 sizeBuilder:=by kernel_rfl
 liesBuilder:=by kernel_rfl
 t5:=Tryz.underlying5
 a5:=Tryz.isAgg5
 z5:=Tryz.sizeOf5
 v5:=Tryz.zeroValue5
 infoByte:=by kernel_rfl
 cellsByte:=by kernel_rfl
 sizeByte:=by kernel_rfl
 neB5:=by decide }
open Go.RowKit in
theorem Tryz.strings_Join_none (a:Option Addr) (c:Nat) (sep:ByteArray) (w:World) :
  Calls Tryz.prog 278 #[.slice a 0 c,.string sep] w fun e w'=>e=.returned (.string ⟨#[]⟩)/\w'=w:=Any.strings_Join_none Tryz.EU Tryz.me a c sep w
open Go.RowKit in
theorem Tryz.strings_Join (bk o c:Nat) (xs:List ByteArray) (sep:ByteArray) (w:World) (Rx:∀ (j:Nat) x,xs[j]? = some x->w.cell? ⟨bk,o+j,none⟩=some (.string x)) (hbk:bk<w.heap.size) (hN:xs.length<=140737488355328) (c8:xs.length<=c) (hlen:(Lib.join (xs.map (·.data.toList)) sep.data.toList).length<=140737488355328) :
  Calls Tryz.prog 278 #[.slice (some ⟨bk,o,none⟩) xs.length c,.string sep] w fun e w'=>e=.returned (.string ⟨(Lib.join (xs.map (·.data.toList)) sep.data.toList).toArray⟩)/\Below w.heap.size w w':=Any.strings_Join Tryz.EU Tryz.me bk o c xs sep w Rx hbk hN c8 hlen
def Tryz.BJ:Go.Shelf.Ren:=⟨fun | 243=>279 | 246=>329 | 283=>359 | 284=>360 | 285=>361 | 286=>362 | 129=>313 | 317=>381 | 318=>382 | 319=>383 | 320=>384 | 337=>393 | 338=>394 | n=>n,fun | 3=>3 | 9=>9 | 2=>2 | 4=>4 | 171=>422 | 0=>0 | 53=>383 | 37=>351 | 5=>5 | 173=>424 | 212=>441 | 51=>381 | 20=>20 | 213=>442 | 46=>318 | 232=>449 | 233=>450 | n=>n,fun | 17=>1 | 18=>3 | 19=>4 | n=>n⟩
theorem Tryz.M9:Go.Proofs.Lays.n243 Tryz.prog Tryz.BJ:={
 mixed:=by kernel_rfl
 f129:=Tryz.func313.trans (congrArg some (by kernel_rfl))
 f243:=Tryz.func279.trans (congrArg some (by kernel_rfl))
 f246:=Tryz.func329.trans (congrArg some (by kernel_rfl))
 f283:=Tryz.func359.trans (congrArg some (by kernel_rfl))
 f284:=Tryz.func360.trans (congrArg some (by kernel_rfl))
 f285:=Tryz.func361.trans (congrArg some (by kernel_rfl))
 f286:=Tryz.func362.trans (congrArg some (by kernel_rfl))
 f317:=Tryz.func381.trans (congrArg some (by kernel_rfl))
 f318:=Tryz.func382.trans (congrArg some (by kernel_rfl))
 f319:=Tryz.func383.trans (congrArg some (by kernel_rfl))
 f320:=Tryz.func384.trans (congrArg some (by kernel_rfl))
 f337:=Tryz.func393.trans (congrArg some (by kernel_rfl))
 f338:=Tryz.func394.trans (congrArg some (by kernel_rfl))
 t0:=Tryz.underlying0
 a0:=Tryz.isAgg0
 z0:=Tryz.sizeOf0
 v0:=Tryz.zeroValue0
 t2:=Tryz.underlying2
 a2:=Tryz.isAgg2
 z2:=Tryz.sizeOf2
 v2:=Tryz.zeroValue2
 t3:=Tryz.underlying3
 a3:=Tryz.isAgg3
 z3:=Tryz.sizeOf3
 v3:=Tryz.zeroValue3
 t4:=Tryz.underlying4
 a4:=Tryz.isAgg4
 z4:=Tryz.sizeOf4
 v4:=Tryz.zeroValue4
 t5:=Tryz.underlying5
 a5:=Tryz.isAgg5
 z5:=Tryz.sizeOf5
 v5:=Tryz.zeroValue5
 t9:=Tryz.underlying9
 a9:=Tryz.isAgg9
 z9:=Tryz.sizeOf9
 v9:=Tryz.zeroValue9
 t20:=Tryz.underlying20
 a20:=Tryz.isAgg20
 z20:=Tryz.sizeOf20
 v20:=Tryz.zeroValue20
 t37:=Tryz.underlying351
 a37:=Tryz.isAgg351
 z37:=Tryz.sizeOf351
 v37:=Tryz.zeroValue351
 t46:=Tryz.underlying318
 a46:=Tryz.isAgg318
 z46:=Tryz.sizeOf318
 v46:=Tryz.zeroValue318
 t51:=Tryz.underlying381
 a51:=Tryz.isAgg381
 z51:=Tryz.sizeOf381
 v51:=Tryz.zeroValue381
 t53:=Tryz.underlying383
 a53:=Tryz.isAgg383
 z53:=Tryz.sizeOf383
 v53:=Tryz.zeroValue383
 t171:=Tryz.underlying422
 a171:=Tryz.isAgg422
 z171:=Tryz.sizeOf422
 v171:=Tryz.zeroValue422
 t173:=Tryz.underlying424
 a173:=Tryz.isAgg424
 z173:=Tryz.sizeOf424
 v173:=Tryz.zeroValue424
 t212:=Tryz.underlying441
 a212:=Tryz.isAgg441
 z212:=Tryz.sizeOf441
 v212:=Tryz.zeroValue441
 t213:=Tryz.underlying442
 a213:=Tryz.isAgg442
 z213:=Tryz.sizeOf442
 t232:=Tryz.underlying449
 a232:=Tryz.isAgg449
 z232:=Tryz.sizeOf449
 v232:=Tryz.zeroValue449
 t233:=Tryz.underlying450
 a233:=Tryz.isAgg450
 z233:=Tryz.sizeOf450
 v233:=Tryz.zeroValue450
 g17:=by kernel_rfl
 g18:=by kernel_rfl
 g19:=by kernel_rfl }
open Go.RowKit Go.Sort Go.Lib in
theorem Tryz.internal_strconv_Itoa_small (i:Nat) (hi:i<100) (w:World) :
  Calls Tryz.prog 279 #[.int .i64 i] w fun e w'=>e=.returned (.string ⟨(Lib.decDigits i).toArray⟩)/\w'=w:=Any.internal_strconv_Itoa_small Tryz.M9 i hi w
end Go.Proofs
namespace Go
def Result.up {α:Type} (w:World):Result α->Prop
  | .ok _ w'=>w.drawn<=w'.drawn
  | .halt _ w'=>w.drawn<=w'.drawn
theorem Result.dK {α:Type} {w w':World} (h:w.drawn<=w'.drawn) {r:Result α} (k:r.up w'):r.up w:=by
  cases r <;> exact Nat.le_trans h k
theorem Sj {α:Type} (a:Ask α):∀ w:World,w.drawn<=(w.ask a).2.drawn:=by
  induction a with
  | done a=>intro w;exact Nat.le_refl _
  | ask LR range k ih =>
    intro w;unfold World.ask;dsimp only;split
    · exact ih _ w
    · exact Nat.le_trans (Nat.le_succ _) (ih _ { w with drawn:=w.drawn+1 })
theorem P9 (w:World) (c:Sys):w.drawn<=(w.sys c).2.drawn:=by
  unfold World.sys;have h:=Sj (Kernel.perform c w.os) w;generalize w.ask (Kernel.perform c w.os)=r at h;obtain ⟨⟨x,os⟩,w'⟩:=r;cases x <;> first | exact Nat.le_refl _ | exact h
theorem zo {p:Program} {w:World} {at_:Addr} {u:TypeId} {k:Addr} {v:Value} {atomic:Bool} {r:World×List Addr}
    (h:w.viewStore p at_ u k v atomic=.ok r):r.1.drawn=w.drawn:=by
  unfold World.viewStore at h;simp only [bind,Except.bind,pure,Except.pure,throw,throwThe,MonadExceptOf.throw] at h
  repeat' split at h
  all_goals first | (cases h;rfl) | (injection h with h;rw [<- h]) | nomatch h
theorem B8 {p:Program} {w:World} {a:Addr} {v:Value} {atomic:Bool} {r:World×List Addr}
    (h:w.farStore p a v atomic=.ok r):r.1.drawn=w.drawn:=by
  unfold World.farStore at h;split at h
  · split at h
    · next e=>injection h with h;rw [<- h];exact zo e
    · nomatch h
  · nomatch h
theorem Gy (w:World) (a:Addr) (n:Nat):(w.freeze a n).drawn=w.drawn:=by
  unfold World.freeze;split <;> rfl
theorem zF {α:Type} (p:Program) (s:Sem α):∀ w:World,(s.run p w).up w:=by
  induction s with
  | pure a=>intro w;exact Nat.le_refl _
  | load m a k ih =>
    intro w;unfold Sem.run;split
    · exact ih _ w
    · split
      · exact ih _ w
      · exact Nat.le_refl _
  | store m a v k ih =>
    intro w
    cases v <;> first
      | exact Nat.le_refl _
      | (simp only [Sem.run]
         split
         · split
           · exact Nat.le_refl _
           · exact ih (w.setCell _ _)
         · split
           · next hf=>exact Result.dK (Nat.le_of_eq (B8 hf).symm) (ih _)
           · exact Nat.le_refl _)
  | new o k ih=>intro w;exact ih _ _
  | shape r k ih=>intro w;exact ih _ w
  | freeze a n k ih=>intro w;exact Result.dK (Nat.le_of_eq (Gy w a n).symm) (ih (w.freeze a n))
  | frozen a k ih=>intro w;exact ih _ w
  | getObj r k ih =>
    intro w;unfold Sem.run;split
    · exact Nat.le_refl _
    · exact ih _ w
    · exact Nat.le_refl _
  | setObj r o k ih =>
    intro w;unfold Sem.run;split
    · exact Nat.le_refl _
    · exact ih _
    · exact Nat.le_refl _
  | choose q k ih =>
    intro w;unfold Sem.run;split
    · exact ih _ w
    · exact Result.dK (Nat.le_succ w.drawn) (ih _ { w with drawn:=w.drawn+1 })
  | sys c k ih=>intro w;exact Result.dK (P9 w c) (ih _ _)
  | program k ih=>intro w;exact ih _ w
  | mark m k ih=>intro w;exact ih w
  | halt h=>intro w;exact Nat.le_refl _
theorem rA {α:Type} (p:Program) (s:Sem α) (w:World) (es:Array Event):(s.runT p w es).1.up w:=by
  rw [Sem.runT_fst];exact zF p s w
theorem ij {α:Type} {p:Program} {s:Sem α} {w w':World} {a:α} (h:s.run p w=.ok a w'):w.drawn<=w'.drawn:=by
  have k:=zF p s w;rw [h] at k;exact k
theorem NJ {α:Type} {p:Program} {s:Sem α} {w w':World} {a:Halt} (h:s.run p w=.halt a w'):w.drawn<=w'.drawn:=by
  have k:=zF p s w;rw [h] at k;exact k
theorem QB {α:Type} {p:Program} {s:Sem α} {w w':World} {es NX:Array Event} {a:α} (h:s.runT p w es=(.ok a w',NX)):w.drawn<=w'.drawn:=by
  have k:=rA p s w es;rw [h] at k;exact k
theorem Kf {α:Type} {p:Program} {s:Sem α} {w w':World} {es NX:Array Event} {a:Halt} (h:s.runT p w es=(.halt a w',NX)):w.drawn<=w'.drawn:=by
  have k:=rA p s w es;rw [h] at k;exact k
theorem jG {α:Type} {p:Program} {s:Sem α} {w w':World} {es:Array Event} {a:α} (h:(s.runT p w es).1=.ok a w'):w.drawn<=w'.drawn:=by
  have k:=rA p s w es;rw [h] at k;exact k
theorem lb {α:Type} {p:Program} {s:Sem α} {w w':World} {es:Array Event} {a:Halt} (h:(s.runT p w es).1=.halt a w'):w.drawn<=w'.drawn:=by
  have k:=rA p s w es;rw [h] at k;exact k
def GStep.up (w:World):GStep->Prop
  | .go _ w' _=>w.drawn<=w'.drawn
  | .comm _ _ _ _ w' _=>w.drawn<=w'.drawn
  | .spawn _ _ w' _=>w.drawn<=w'.drawn
  | .count _ w' _=>w.drawn<=w'.drawn
  | .timer _ _ w' _=>w.drawn<=w'.drawn
  | .alone _ _ w' _=>w.drawn<=w'.drawn
  | .newcoro _ _ _ w' _=>w.drawn<=w'.drawn
  | .coroswitch _ _ _ w' _=>w.drawn<=w'.drawn
  | .collect _ w' _=>w.drawn<=w'.drawn
  | .watch _ w' _=>w.drawn<=w'.drawn
  | .ended _ _ _=>True
theorem GStep.dK {w w':World} (h:w.drawn<=w'.drawn) {s:GStep} (k:s.up w'):s.up w:=by
  cases s <;> first | trivial | exact Nat.le_trans h k
theorem GStep.zp {w:World} {c:Prop} [Decidable c] {s t:GStep} (h:s.up w) (k:t.up w):(if c then s else t).up w:=by
  split
  · exact h
  · exact k
theorem GStep.jc {w:World} (es:Array Event) {s:GStep} (k:s.up w):(s.after es).up w:=by
  cases s <;> exact k
theorem pj (fr:Frame) (m:String) (w:World):(endThrow fr m w).up w:=Nat.le_refl _
theorem DO (w0 w:World) (fd:Nat) (text:ByteArray) (o:Outcome):(endWith w fd text o).up w0:=by
  unfold endWith;dsimp only;split
  · split <;> trivial
  · trivial
  · trivial
theorem pn (p:Program) (fr:Frame) (v:Value) (w:World):(endPrinting p fr v w).up w:=by
  unfold endPrinting;dsimp only;split
  · exact pj _ _ _
  · trivial
theorem tV (p:Program) (fr:Frame) (callers:List Frame) (dying:Option Dying) (m:String) (w:World):(endFatal p fr callers dying m w).up w:=by
  unfold endFatal;dsimp only;split
  · next h=>exact ij h
  · trivial
  · trivial
theorem CJ (p:Program) (fr:Frame) (d:Dying) (f:Fatal) (w:World):(writeOn p fr d f w).up w:=by
  unfold writeOn;dsimp only;split
  · trivial
  · split
    · next h=>exact QB h
    · next h=>exact Kf h
    · trivial
    · trivial
theorem R1 (p:Program) (fr:Frame) (d:Dying) (w:World):(die p fr d w).up w:=by
  unfold die;dsimp only;split
  · exact CJ _ _ _ _ _
  · split
    · split
      · exact Nat.le_refl _
      · exact DO _ _ _ _ _
    · split
      · exact Nat.le_refl _
      · split
        · next h=>exact ij h
        · trivial
      · apply GStep.jc
        split
        · next h=>exact jG h
        · next h=>exact jG h
        · trivial
        · next h=>exact GStep.dK (lb h) (pn _ _ _ _)
        · trivial
      · trivial
theorem ku (p:Program) (main:Bool) (fr:Frame) (callers:List Frame) (dying:Option Dying) (v:Value) (w:World) :
    (doReturn p main fr callers dying v w).up w:=by
  unfold doReturn;dsimp only
  repeat' split
  all_goals first | trivial | exact Nat.le_refl _
theorem um (p:Program) (fr:Frame) (callers:List Frame) (dying:Option Dying) (d:Deferred) (w:World) :
    (callDeferred p fr callers dying d w).up w:=by
  unfold callDeferred;dsimp only;apply GStep.zp
  · trivial
  · apply GStep.jc
    repeat' split
    all_goals first
      | trivial
      | exact jG (by assumption)
      | exact lb (by assumption)
      | exact GStep.dK (lb (by assumption)) (tV _ _ _ _ _ _)
      | exact GStep.dK (lb (by assumption)) (pj _ _ _)
theorem FE (p:Program) (main:Bool) (fr:Frame) (callers:List Frame) (dying:Option Dying) (w:World) :
    (unwind p main fr callers dying w).up w:=by
  unfold unwind;dsimp only;split
  · apply GStep.jc
    split
    · next h=>exact jG h
    · trivial
  · exact um _ _ _ _ _ _
  · split
    · trivial
    · split
      · trivial
      · split
        · exact Nat.le_refl _
        · split
          · split
            · exact Nat.le_refl _
            · split
              · next h=>exact ij h
              · trivial
              · trivial
          · split
            · exact pn _ _ _ _
            · trivial
    · split
      · exact ku _ _ _ _ _ _ _
      · apply GStep.jc
        split
        · next h=>exact GStep.dK (jG h) (ku _ _ _ _ _ _ _)
        · trivial
        · trivial
theorem Kt (p:Program) (fr:Frame) (callers:List Frame) (dying:Option Dying) (g:Nat) (w:World) :
    (early p fr callers dying g w).up w:=by
  unfold early;dsimp only
  repeat' split
  all_goals first
    | trivial
    | exact Nat.le_refl _
    | (next h _=>have k:=ij h;exact k)
    | (next h _ _=>have k:=ij h;exact k)
    | (next h=>have k:=ij h;exact k)
    | (next h _ _ _=>have k:=ij h;exact k)
    | (next h _ _ _ _=>have k:=ij h;exact k)
theorem se (p:Program) (listen:Bool) (fr:Frame) (callers:List Frame) (dying:Option Dying) (s:Sem Next) (w:World) :
    (stepG.apply p listen fr callers dying s w).up w:=by
  unfold stepG.apply;dsimp only;apply GStep.jc;have hr:∃ r:Result Next×Array Event,(if listen=true then s.runT p w #[] else (s.run p w,#[]))=r/\r.1.up w:=by
    refine ⟨_,rfl,?_⟩;split
    · exact rA p s w #[]
    · exact zF p s w
  obtain ⟨r,hr,hu⟩:=hr;rw [hr];generalize r.1=r1 at hu ⊢
  repeat' split
  all_goals first
    | trivial
    | exact S6 hu (by assumption)
    | exact LW hu (by assumption)
    | exact hu
    | (refine GStep.dK ?_ (pj _ _ _);first | exact hu | exact S6 hu (by assumption) | exact LW hu (by assumption))
    | (refine GStep.dK ?_ (tV _ _ _ _ _ _);exact hu)
    | (refine GStep.dK ?_ (Kt _ _ _ _ _ _);exact hu)
theorem EJ (p:Program) (listen:Bool) (fr:Frame) (callers:List Frame) (dying:Option Dying) (w:World) :
    (stepG.oper p listen fr callers dying w).up w:=by
  unfold stepG.oper
  repeat' split
  all_goals first | trivial | exact se _ _ _ _ _ _ _
theorem NV (p:Program) (main listen:Bool) (fr:Frame) (callers:List Frame) (dying:Option Dying) (w:World) :
    (stepG.exec p main listen fr callers dying w).up w:=by
  unfold stepG.exec;dsimp only;split
  all_goals first
    | trivial
    | exact Nat.le_refl _
    | (split
       · first | exact Nat.le_refl _ | (apply GStep.zp <;> first | exact Nat.le_refl _ | trivial) | trivial
       · apply GStep.jc
         split
         · next h=>exact GStep.dK (jG h) (ku _ _ _ _ _ _ _)
         · trivial)
    | (split <;> first | exact Nat.le_refl _ | trivial)
    | (generalize exitTo _ _ = o; cases o with
       | none =>
         split
         · first | exact Nat.le_refl _ | (apply GStep.zp <;> first | exact Nat.le_refl _ | trivial) | trivial
         · apply GStep.jc
           split
           · next h=>exact GStep.dK (jG h) (ku _ _ _ _ _ _ _)
           · trivial
       | some k=>exact Nat.le_refl _)
    | (generalize gotoIn _ _ = o; cases o with
       | none =>
         split
         · first | exact Nat.le_refl _ | (apply GStep.zp <;> first | exact Nat.le_refl _ | trivial) | trivial
         · apply GStep.jc
           split
           · next h=>exact GStep.dK (jG h) (ku _ _ _ _ _ _ _)
           · trivial
       | some k=>exact Nat.le_refl _)
    | (apply GStep.jc
       split
       · next h=>first | (have k:=jG h;exact k) | exact GStep.dK (jG h) (se _ _ _ _ _ _ _)
       · first | trivial | (next h=>have k:=lb h;exact k)
       done)
    | (apply GStep.jc
       split
       · next h=>(have k:=jG h;exact k)
       · next h=>(have k:=lb h;exact k)
       · trivial)
    | exact se _ _ _ _ _ _ _
    | exact EJ _ _ _ _ _ _
    | (generalize Extern.next _ = o; cases o with
       | none=>trivial
       | some e=>exact se _ _ _ _ _ _ _)
    | (split
       · exact Nat.le_refl _
       · split
         · next h=>have k:=ij h;exact k
         · trivial)
    | (split
       · exact EJ _ _ _ _ _ _
       · exact Nat.le_refl _)
    | skip
theorem HG (p:Program) (main:Bool) (g:Goroutine) (w:World) (listen:Bool):(stepG p main g w listen).up w:=by
  unfold stepG;split;split
  · exact R1 _ _ _ _
  · exact NV _ _ _ _ _ _ _
  · exact FE _ _ _ _ _ _
def Stepped.up (w:World):Stepped->Prop
  | .next m=>w.drawn<=m.world.drawn
  | .ended _ _=>True
theorem Stepped.dK {w w':World} (h:w.drawn<=w'.drawn) {s:Stepped} (k:s.up w'):s.up w:=by
  cases s <;> first | trivial | exact Nat.le_trans h k
theorem zZ (p:Program) (gs:Array Goroutine) (rest:Rest) (w:World):(look p gs rest w).up w:=by
  unfold look;dsimp only;split
  · split
    · trivial
    · split
      · trivial
      · split
        · next h=>have k:=ij h;exact k
        · trivial
        · trivial
  · trivial
theorem zn {rest:Rest} {cases:Array CommCase} {w w':World} (h:waitingAt rest cases w=some w'):w.drawn<=w'.drawn:=by
  unfold waitingAt at h;split at h
  · split at h
    · injection h with h;rw [<- h];exact Nat.le_refl _
    · nomatch h
  · injection h with h;rw [<- h];exact Nat.le_refl _
theorem wA (p:Program) (rest:Rest) (gs:Array Goroutine) (i:Nat) (g:Goroutine) (cases:Array CommCase) (Ck:Bool)
    (shape:CommShape) (w:World):(communicate p rest gs i g cases Ck shape w).1.up w:=by
  unfold communicate;dsimp only;split
  · trivial
  · split
    · split
      · split
        · next h=>exact zn h
        · trivial
      · exact Nat.le_refl _
    · split
      · trivial
      · next h=>
        have k:=ij h;split
        · split
          · next h2=>
            have k2:=NJ h2;exact Nat.le_trans k k2
          · trivial
        · exact k
        · exact k
        · split
          · exact k
          · split
            · next h3=>have k3:=ij h3;exact Nat.le_trans k k3
            · trivial
        · exact k
        · exact k
        · trivial
theorem Ku (w:World) (c:Nat):(drain w c).2.drawn=w.drawn:=by
  unfold drain;split <;> rfl
theorem yu (m:Machine) (k:Nat) (t:Timer) (when period:Nat):(retime m k t when period).2.world.drawn=m.world.drawn:=by
  unfold retime;dsimp only;split
  · exact Ku _ _
  · rfl
theorem BH {m:Machine} {var:Addr} {f:Nat->Timer->Value×Machine} {n:Nat} (hf:∀ k t,(f k t).2.world.drawn=n) {r:Value×Machine}
    (h:timerOp.named m var f=.ok r):r.2.world.drawn=n:=by
  unfold timerOp.named at h;split at h
  · injection h with h;rw [<- h];exact hf _ _
  · nomatch h
theorem F6 {m m':Machine} {var:Addr} (h:timerOp.opened m var=some m'):m'.world.drawn=m.world.drawn:=by
  unfold timerOp.opened at h;split at h
  · split at h
    · injection h with h;rw [<- h]
    · nomatch h
  · injection h with h;rw [<- h]
theorem CR {m:Machine} {op:TimerOp} {r:Value×Machine} (h:timerOp m op=.ok r):r.2.world.drawn=m.world.drawn:=by
  unfold timerOp at h;split at h
  · split at h
    · injection h with h;rw [<- h];rfl
    · split at h
      · split at h
        · nomatch h
        · injection h with h;rw [<- h]
      · nomatch h
  · exact BH (fun k t=>yu m k t 0 t.period) h
  · split at h
    · next ho=>exact (BH (fun k t=>yu _ k t _ _) h).trans (F6 ho)
    · nomatch h
  · injection h with h;rw [<- h];rfl
theorem HR (p:Program) (m:Machine) (k:Nat):(serve p m k).up m.world:=by
  unfold serve;dsimp only;split
  · trivial
  · exact Nat.le_refl _
  · split
    · trivial
    · exact Nat.le_refl _
def Move.up (w:World):Move->Prop
  | .goroutine m _=>w.drawn<=m.world.drawn
  | .machine s _=>s.up w
theorem wI (p:Program) (m:Machine):(askOn p m).up m.world:=by
  unfold askOn;dsimp only;split
  · trivial
  · next h=>
    have k:=ij h;split
    · exact Stepped.dK k (HR _ _ _)
    · split
      · split
        · exact k
        · split
          · exact k
          · split
            · trivial
            · trivial
      · split
        · split
          · trivial
          · next h0=>
            have k0:=ij h0;split
            · exact Nat.le_trans k k0
            · split
              · trivial
              · next h3=>have k3:=ij h3;exact Nat.le_trans k (Nat.le_trans k0 k3)
        · split
          · trivial
          · next h2=>
            have k2:=ij h2;split
            · trivial
            · next h0=>
              have k0:=ij h0;split
              · exact Nat.le_trans (Nat.le_trans k k2) k0
              · split
                · trivial
                · next h3=>have k3:=ij h3;exact Nat.le_trans (Nat.le_trans k k2) (Nat.le_trans k0 k3)
          · next h2=>have k2:=ij h2;exact Nat.le_trans k k2
          · next h2=>
            have k2:=ij h2;split
            · trivial
            · next h0=>
              have k0:=ij h0;split
              · exact Nat.le_trans (Nat.le_trans k k2) k0
              · split
                · trivial
                · next h3=>have k3:=ij h3;exact Nat.le_trans (Nat.le_trans k k2) (Nat.le_trans k0 k3)
theorem Move.dK {w w':World} (h:w.drawn<=w'.drawn) {s:Move} (k:s.up w'):s.up w:=by
  cases s with
  | goroutine m i=>exact Nat.le_trans h k
  | machine s ops=>exact Stepped.dK h k
theorem Fx (p:Program) (m:Machine):(Go.ask p m).up m.world:=by
  unfold Go.ask;split
  · split
    · trivial
    · next h=>
      have k:=ij h;split
      · next hl=>
        have k2:=zZ p m.gs m.rest ‹World›;rw [hl] at k2;exact Move.dK (Nat.le_trans k k2) (wI _ _)
      · exact Stepped.dK k (zZ _ _ _ _)
    · next h=>have k:=ij h;exact Move.dK k (wI _ _)
  · exact wI _ _
theorem M0 (p:Program) (m:Machine):(move p m).up m.world:=by
  unfold move;split
  · split
    · exact Nat.le_refl _
    · trivial
  · split
    · split
      · exact Nat.le_refl _
      · exact Fx p { m with rest:=_ }
    · exact Fx p m
theorem zG (p:Program) (m:Machine) (i:Nat) (listen:Bool):(Go.runT p m i listen).1.up m.world:=by
  unfold Go.runT;dsimp only;have h:=HG p (i==0) (m.gs.swapAt! i { (default:Goroutine) with status:=.finished }).1 m.world listen
  generalize stepG p (i==0) (m.gs.swapAt! i { (default:Goroutine) with status:=.finished }).1 m.world listen=s at h ⊢
  cases s with
  | ended o w es=>trivial
  | comm g cases Ck shape w es=>exact Stepped.dK h (wA _ _ _ _ _ _ _ _ _)
  | go g w es=>exact h
  | spawn g child w es=>exact h
  | count g w es =>
    dsimp only;split
    · trivial
    · exact h
  | alone g on w es=>exact h
  | collect g w es=>exact Stepped.dK h (zZ _ _ _ _)
  | watch g w es=>exact h
  | newcoro g c d w es=>exact h
  | coroswitch g c exit w es =>
    dsimp only;split
    · exact h
    · exact h
    · trivial
  | timer g op w es =>
    dsimp only;split
    · next ht=>have k:=CR ht;exact Nat.le_trans h (Nat.le_of_eq k.symm)
    · exact h
    · trivial
    · trivial
theorem Ml (p:Program) (m:Machine):(step p m).up m.world:=by
  unfold step stepT;have h:=M0 p m;generalize move p m=v at h ⊢;cases v with
  | goroutine m' i=>exact Stepped.dK h (zG p m' i true)
  | machine s ops=>exact h
theorem Mx (p:Program) (n:Nat):∀ m:Machine,(runN p n m).up m.world:=by
  induction n with
  | zero=>intro m;exact Nat.le_refl _
  | succ n ih =>
    intro m;have h:=Ml p m;unfold runN;generalize step p m=s at h ⊢;cases s with
    | next m'=>exact Stepped.dK h (ih m')
    | ended o w=>trivial
theorem Steps.up {P:Program} {m m':Machine} (h:Steps P m m'):m.world.drawn<=m'.world.drawn:=by
  obtain ⟨n,hn⟩:=h;have k:=Mx P n m;rw [hn] at k;exact k
theorem Calls.up {P:Program} {f:FuncId} {args:Array Value} {w:World} {v:Value} {R:World->Prop}
    (h:Calls P f args w fun e w'=>e=.returned v/\R w'):Calls P f args w fun e w'=>e=.returned v/\R w'/\w.drawn<=w'.drawn:=by
  intro cs;obtain ⟨e,w',fr,⟨rfl,hR⟩,hc,hf,hl⟩:=h cs;exact ⟨_,w',fr,⟨rfl,hR,Steps.up hc⟩,hc,hf,hl⟩
end Go
namespace Go.Proofs.A1
open Go Go.SL
open Tryz
open Tryz renaming prog->T_
def oy (n:Int):ByteArray:=⟨#[UInt8.ofNat (48+n.toNat)]⟩
theorem U5:∀ i,i<=9->(⟨(Lib.decDigits i).toArray⟩:ByteArray)=⟨#[UInt8.ofNat (48+i)]⟩:=by
 intro i h
 match i,h with
 | 0,_=>simp [Lib.decDigits]
 | 1,_=>simp [Lib.decDigits]
 | 2,_=>simp [Lib.decDigits]
 | 3,_=>simp [Lib.decDigits]
 | 4,_=>simp [Lib.decDigits]
 | 5,_=>simp [Lib.decDigits]
 | 6,_=>simp [Lib.decDigits]
 | 7,_=>simp [Lib.decDigits]
 | 8,_=>simp [Lib.decDigits]
 | 9,_=>simp [Lib.decDigits]
theorem Na (n:Int) (h0:0<=n) (h1:n<=9) (w:World):aj T_ 279 [.int .i64 n] w (.string (oy n)):=by
 obtain ⟨i,rfl⟩:∃ i:Nat,n=(i:Nat):=⟨n.toNat,by omega⟩;refine Calls.mono (internal_strconv_Itoa_small i (by omega) w) fun e w' ⟨he,hw⟩=>⟨?_,by rw [hw];exact .refl _ _⟩;rw [he,U5 i (by omega)];unfold oy;rw [Int.toNat_natCast]
theorem oZ (n:Int) (h0:0<=n) (h1:n<=9) (w:World):aj T_ 193 [.int .i64 n] w (.string (oy n)):=by
 refine ah func193 I I ?_
 (refine Jr<|Ja I<|Ji<|Jv I<|ai bN I (fun w' aq=>(Na n h0 h1 w')) ?_;refine Ja I<|Jn<|Je<|JT ?_)
 rfl
theorem IS (n:Int):(oy n).size=1:=rfl
def yL (l:List ByteArray) (sep:ByteArray):ByteArray:=⟨(Lib.join (l.map (·.data.toList)) sep.data.toList).toArray⟩
theorem QK {lv:Value} {l:List ByteArray} (sep:ByteArray) {w:World} (h:Rd w lv 1 (fG l)) (hl:l.length<=1000) (hlen:(Lib.join (l.map (·.data.toList)) sep.data.toList).length<=140737488355328) :
  aj T_ 278 [lv,.string sep] w (.string (yL l sep)):=by
 obtain ⟨a,cap,b,o,rfl,c8,bV,ha,hc⟩:=h;rw [bA] at *;cases l with
 | nil=>exact Calls.mono (strings_Join_none a cap sep w) fun e w' ⟨he,hw⟩=>⟨he,by rw [hw];exact .refl _ _⟩
 | cons x r =>
  have:=ha (by simp [fG]);subst this;have aF:∀ (j:Nat) y,(x::r)[j]? = some y->w.cell? ⟨b,o+j,none⟩=some (.string y):=fun j y hj=>by
   have:=(hc j [.string y] (by unfold fG;rw [List.getElem?_map,hj];rfl)).2 0 _ I;simpa using this
  refine Calls.mono (Calls.up (strings_Join b o cap (x::r) sep w aF ?_ (by omega) c8 hlen)) fun e w' ⟨he,hw,hd⟩=>⟨he,aD.Ix hw hd⟩;exact World.block_lt_of_cell? w _ (aF 0 x I)
theorem IQ (l:List (List UInt8)) (sep:List UInt8) (n:Nat) (h:∀ x∈l,x.length<=n):(Lib.join l sep).length<=l.length*(n+sep.length):=by
 cases l with
 | nil=>simp [Lib.join]
 | cons x r =>
  have key:∀ (r:List (List UInt8)),(∀ y∈r,y.length<=n)->(Lib.joinTail sep r).length<=r.length*(n+sep.length):=by
   intro r
   induction r with
   | nil=>intro _;simp [Lib.joinTail]
   | cons y r ih =>
    intro hy;have h1:=hy y (by simp);have h2:=ih fun z hz=>hy z (by simp [hz])
    simp only [Lib.joinTail,List.map_cons,List.flatten_cons,Zg,List.length_cons,Nat.succ_mul] at h2 ⊢;omega
  rw [Lib.join_cons,Zg,List.length_cons,Nat.succ_mul];have h1:=h x (by simp);have h2:=key r fun z hz=>h z (by simp [hz])
  omega
def OV (l:List ByteArray):ByteArray:=yL l ⟨#[32]⟩++⟨#[10]⟩
theorem yK {l:List ByteArray} (h4:l.length<=4) (h:∀ x∈l,x.size<=24):(Lib.join (l.map (·.data.toList)) [32]).length<=100:=by
 have:=IQ (l.map (·.data.toList)) [32] 24 (by
  intro x hx;obtain ⟨y,hy,rfl⟩:=List.mem_map.1 hx;have:=h y hy;rw [Array.length_toList];exact this)
 rw [Zd] at this;have h2:([32]:List UInt8).length=1:=rfl;rw [h2] at this;omega
theorem vI {l:List ByteArray} (h4:l.length<=4) (h:∀ x∈l,x.size<=24):(yL l ⟨#[32]⟩).size<=100:=by
 have:=yK h4 h;unfold yL;show Array.size _<=100;rw [List.size_toArray];exact this
theorem gY {l:List ByteArray} (h4:l.length<=4) (h:∀ x∈l,x.size<=24):(OV l).size<=101:=by
 have:=vI h4 h;unfold OV;rw [ByteArray.size_append];have:ByteArray.size ⟨#[10]⟩=1:=rfl;omega
theorem sN {v:Value} {l:List ByteArray} {w:World} (h:Rd w v 1 (fG l)) (h4:l.length<=4) (hs:∀ x∈l,x.size<=24):aj T_ 192 [v] w (.string (OV l)):=by
 have hj:∀ w',aD [] w w'->aj T_ 278 [v,.string ⟨#[32]⟩] w' (.string (yL l ⟨#[32]⟩)):=fun w' hk=>QK (l:=l) ⟨#[32]⟩ (h.keeps hk) (by omega) (Nat.le_trans (yK h4 hs) (by decide))
 have hz:=vI h4 hs;have h1:ByteArray.size ⟨#[10]⟩=1:=rfl;have hb:(yL l ⟨#[32]⟩).size+ByteArray.size ⟨#[10]⟩<=9223372036854775807:=by omega
 refine ah func192 I I ?_
 (refine Jr<|Ja I<|Ji<|Jv I<|ai aX I (fun w' aq=>(hj w' (Mem.keeps aq))) ?_;refine ab (sE (.of I) (.of I) hb) I ?_;refine Ja I<|Jn<|Je<|JT ?_)
 rfl
def DI:List Value:=[.string ⟨#[114,111,117,116,101,114]⟩,.func (.func 271) #[] #[],.string ⟨#[115,111,117,114,99,101]⟩,.func (.func 273) #[] #[],.string ⟨#[100,101,115,116,105,110,97,116,105,111,110]⟩,.func (.func 275) #[] #[],.string ⟨#[116,105,101]⟩,.func (.func 276) #[] #[],.string ⟨#[112,111,105,110,116]⟩,.func (.func 277) #[] #[]]
theorem NO (w:World):aj T_ 191 [] w (.agg DI.toArray):=by
 unfold DI;refine ah func191 I I ?_
 (refine Jr<|Jz I I fun _ _=>Ji<|ab (aT (.cons (.of I) (.cons (.of I) .nil)) an) I ?_;refine ab (aT (.cons (.of I) (.cons (.of I) .nil)) an) I ?_;refine ab (aT (.cons (.of I) (.cons (.of I) .nil)) an) I ?_;refine ab (aT (.cons (.of I) (.cons (.of I) .nil)) an) I ?_;refine ab (aT (.cons (.of I) (.cons (.of I) .nil)) an) I ?_;refine ab (aT (.cons (.of I) (.cons (.of I) (.cons (.of I) (.cons (.of I) (.cons (.of I) .nil))))) an) I ?_;refine au (.of I) (.of I) .here I I (bJ I (bJ I (Vr I I I I I I I I))) (bF I) an ?_;refine Jn<|Je<|pG I (kW I inferInstance I .here an (by rfl)) ?_)
 rfl
def wR:ByteArray:=⟨#[114,111,117,116,101,114]⟩
def wS:ByteArray:=⟨#[115,111,117,114,99,101]⟩
def wD:ByteArray:=⟨#[100,101,115,116,105,110,97,116,105,111,110]⟩
def wT:ByteArray:=⟨#[116,105,101]⟩
def wP:ByteArray:=⟨#[112,111,105,110,116]⟩
def Hi:ByteArray:=⟨#[102,114,101,101]⟩
def Hh:ByteArray:=⟨#[112,114,111,116,101,99,116,101,100]⟩
def VC (r:Ro):ByteArray:=OV [wR,oy r.lv,oy r.ma]
def M6 (x:Sr):ByteArray:=OV [wS,x.nm,oy x.mx]
def YS (b:Bool):ByteArray:=if b=true then Hh else Hi
def Lv (x:De):ByteArray:=OV [wD,x.nm,oy x.mx,YS x.pr]
def M5 (x:Ti):ByteArray:=OV [wT,x.nm,oy x.fr,oy x.to]
def Sz (x:Po):ByteArray:=OV [wP,oy x.lv,x.ou,x.ip]
def mZ (a:ByteArray) (l:List ByteArray):ByteArray:=l.foldl (fun a b=>a++b) a
theorem qd {a:ByteArray} {α:Type} {f:α->ByteArray} {l:List α} {k:Nat} (h:k<l.length):mZ a ((l.take (k+1)).map f)=mZ a ((l.take k).map f)++f l[k]:=by
 unfold mZ;rw [List.take_succ_eq_append_getElem h,List.map_append,List.foldl_append];rfl
theorem mY {n:Nat}:∀ {l:List ByteArray} {a:ByteArray},(∀ x∈l,x.size<=n)->(mZ a l).size<=a.size+n*l.length
 | [],a,_=>Nat.le_refl _
 | x :: l, a, h => by
  have:=mY (l:=l) (a:=a++x) fun y hy=>h y (List.mem_cons_of_mem _ hy)
  rw [ByteArray.size_append] at this;have h1:=h x List.mem_cons_self;show (mZ (a++x) l).size<=_;rw [List.length_cons,Nat.mul_succ];omega
theorem qe {n:Nat} {a:ByteArray} {α:Type} {f:α->ByteArray} {l:List α} {k:Nat} (hn:∀ x∈l,(f x).size<=n):(mZ a ((l.take k).map f)).size<=a.size+n*l.length:=by
 have:=mY (n:=n) (a:=a) (l:=(l.take k).map f) (by
  intro x hx;obtain ⟨y,hy,rfl⟩:=List.mem_map.1 hx;exact hn y (List.mem_of_mem_take hy))
 rw [Zd,List.length_take] at this;have:n*min k l.length<=n*l.length:=Nat.mul_le_mul_left _ (Nat.min_le_right _ _);omega
def Ww (r:Ro):ByteArray:=mZ (mZ (mZ (mZ (VC r) (r.sr.map M6)) (r.de.map Lv)) (r.ti.map M5)) (r.po.map Sz)
def Ia (r:Ro):ByteArray:=if gB r=0 then Ww r else ⟨#[]⟩
theorem MX {s:ByteArray} (h:kg s=true):s.size<=24:=by
 unfold kg at h;simp only [Bool.and_eq_true,decide_eq_true_eq] at h;exact h.1.1.2
structure Prn (r:Ro):Prop where
 n0:(0<=r.lv/\r.lv<=9)/\0<=r.ma/\r.ma<=9
 sr:∀ x∈r.sr,x.nm.size<=24/\0<=x.mx/\x.mx<=9
 de:∀ x∈r.de,x.nm.size<=24/\0<=x.mx/\x.mx<=9
 ti:∀ x∈r.ti,x.nm.size<=24/\(0<=x.fr/\x.fr<=9)/\0<=x.to/\x.to<=9
 po:∀ x∈r.po,(x.ou.size<=24/\x.ip.size<=24)/\0<=x.lv/\x.lv<=9
 len:(r.sr.length<=8/\r.de.length<=8/\r.ti.length<=6)/\r.po.length<=42
theorem prn {r:Ro} (h:gB r=0):Prn r:=by
 have ho:=Di h;have hp:=prt (td h).2.1;have hl:=ho.lim;have na:∀ s∈ew r,s.size<=24:=fun s hs=>MX (hp.nm s hs)
 have n1:∀ s∈ct r,s.size<=24:=fun s hs=>na s (List.mem_append_left _ (List.mem_append_left _ hs))
 have n2:∀ s∈cz r,s.size<=24:=fun s hs=>na s (List.mem_append_left _ (List.mem_append_right _ hs))
 have n3:∀ s∈cd r,s.size<=24:=fun s hs=>na s (List.mem_append_right _ hs)
 refine ⟨by omega,fun x hx=>?_,fun x hx=>?_,fun x hx=>?_,fun x hx=>?_,hp.len,pF ho ho.val⟩
 ·have:=ho.sm x hx;exact ⟨n1 _ (List.mem_map_of_mem hx),by omega,by omega⟩
 ·have:=ho.dm x hx;exact ⟨n2 _ (List.mem_map_of_mem hx),by omega,by omega⟩
 ·have:=ho.tm x hx;exact ⟨n3 _ (List.mem_map_of_mem hx),by omega,by omega⟩
 ·have:=ho.val.Lw x hx;exact ⟨⟨(ho.val.out x hx).elim (n2 _) (n3 _),(ho.val.xw x hx).elim (n1 _) (n3 _)⟩,by omega,by omega⟩
theorem sL {a b c:ByteArray} (ha:a.size<=24) (hb:b.size<=24) (hc:c.size<=24):∀ x∈[a,b,c],x.size<=24:=by
 intro x hx;simp only [List.mem_cons,List.not_mem_nil,or_false] at hx;rcases hx with rfl | rfl | rfl <;> assumption
theorem jj {a b c d:ByteArray} (ha:a.size<=24) (hb:b.size<=24) (hc:c.size<=24) (hd:d.size<=24):∀ x∈[a,b,c,d],x.size<=24:=by
 intro x hx;simp only [List.mem_cons,List.not_mem_nil,or_false] at hx;rcases hx with rfl | rfl | rfl | rfl <;> assumption
theorem fo (n:Int):(oy n).size<=24:=by rw [IS];decide
theorem CV (b:Bool):(YS b).size<=24:=by cases b <;> decide
theorem Oy {r:Ro} {s d t p:Value} {w:World} (h:RR w r s d t p) (cL:np r):aj T_ 85 [RA r s d t p] w (.tuple #[.string (Ia r),.int .i64 (gB r)]):=by
 obtain ⟨h1,h2,h3,h4⟩:=h.one;have jk:∀ w',aD [] w w'->aj T_ 34 [.agg #[.int .i64 r.lv,.int .i64 r.ma,s,d,t,p]] w' (.int .i64 (gB r)):=fun w' hk=>eN (h.keeps hk) cL
 have BV:=h.sr;have DG:=h.de;have xx:=h.ti;have JM:=h.po;obtain ⟨a1,dZ,G2,GX,rfl,nS,hG,kK,kc⟩:=BV;obtain ⟨a2,dB,LG,Lr,rfl,jK,eE,iT,jL⟩:=DG;obtain ⟨a3,dQ,Fu,EI,rfl,lo,fD,qA,nW⟩:=xx;obtain ⟨a4,e9,PF,Lq,rfl,tO,km,CE,vZ⟩:=JM;rw [cu] at *;rw [bZ] at *;rw [bO] at *;rw [cT] at *;unfold maxLen at hG eE fD km;unfold RA;refine ah func85 I I ?_
 (refine Jr<|Jy I I fun _ _=>Ja I<|Ja I<|Jn<|Jq<|Jr<|ab (cr .here) I ?_;refine ai bN I (fun w' aq=>(jk w' (Mem.keeps aq))) ?_;refine Ja I<|Ji<|Jv I<|JD I<|Jn<|gl I (fun ar=>?_) fun ar=>?_;refine Jr<|Jv I<|Ja I<|Ja I<|Jn<|Ju<|pG I (fW I I I) ?_;rotate_left;refine Jk<|Jr<|ai om I (fun w' aq=>(NO w')) ?_;refine Jz I I fun _ _=>au (.of I) (.of I) .here I I (bJ I (bJ I (Vr I I I I I I I I))) (bF I) an ?_;refine Jn<|Jq ?_;rotate_right)
 ·unfold Ia;rw [if_neg ar]
 have h0:gB r=0:=Decidable.not_not.1 ar;have hN:=prn h0;have e0:Ia r=Ww r:=if_pos h0;rw [e0,h0];unfold DI
 skip
 try simp only [setCells,List.set_cons_zero,List.set_cons_succ]
 have q1:=hN.n0
 with_reducible refine fc 12 (by kernel_rfl) ?_
 (refine aH (fun β=>(hY (.of I) (.of I) (by omega) (by omega) ba)) bM I ?_;refine aH (fun β=>(ao (.of I) ae)) bM I ?_;refine aH (fun β=>(ag (.of I) (At.lit .here I))) bM I ?_;refine aH (fun β=>(ao (.of I) ae)) bM I ?_;refine aH (fun β=>(ag (.of I) (At.lit (.there .here) I))) bM I ?_)
 dsimp only [Nat.zero_add,Nat.reduceAdd]
 with_reducible apply cV (B:=[]) (F:=fun _=>.string (oy r.lv)) (args:=fun _=>[.int .i64 r.lv])
 case hB=>rfl
 case hr=>exact fun β=>bj (.of I) (.cons (.of I) .nil) inferInstance I
 case hi=>exact bM
 case hd=>rfl
 case hc=>exact fun β w' dD=>oZ _ (by omega) (by omega) _
 dsimp only [Nat.reduceAdd]
 (refine aH (fun β=>(ao (.of I) ae)) bM I ?_;refine aH (fun β=>(ag (.of I) (At.lit (.there .here) I))) bM I ?_)
 dsimp only [Nat.zero_add,Nat.reduceAdd]
 with_reducible apply cV (B:=[]) (F:=fun _=>.string (oy r.ma)) (args:=fun _=>[.int .i64 r.ma])
 case hB=>rfl
 case hr=>exact fun β=>bj (.of I) (.cons (.of I) .nil) inferInstance I
 case hi=>exact bM
 case hd=>rfl
 case hc=>exact fun β w' dD=>oZ _ (by omega) (by omega) _
 dsimp only [Nat.reduceAdd]
 skip
 refine nN (fun β=>(aB (.cons (.of I) (.cons (.of I) (.cons (.of I) .nil))) I I I I)) (fun _ _ _=>rfl) I ?_;dsimp only [Nat.zero_add,Nat.reduceAdd]
 with_reducible apply cV (B:=[9]) (F:=fun _=>.string (VC r)) (args:=fun β=>[.slice (some ⟨eM (β 9),0,none⟩) 3 3])
 case hB=>kernel_rfl
 case hr=>exact fun β=>bj (.of I) (.cons (.of I) .nil) inferInstance I
 case hi=>exact bM
 case hd=>rfl
 case hc=>
  intro β w' dD;have mK:=dD.at 9 List.mem_cons_self (s:=⟨fun β=>.slice (some ⟨eM (β 9),0,none⟩) 3 3,fun β=>[bC (eM (β 9)) (.cells #[.string wR,.string (oy r.lv),.string (oy r.ma)] 9)]⟩) (by kernel_rfl)
  dsimp only [Zb,Za] at mK;exact sN (l:=[wR,oy r.lv,oy r.ma]) (Mem.df mK (by exact .here) I I) (by simp) (sL (by decide) (fo _) (fo _))
 dsimp only [Nat.reduceAdd];refine aH (fun β=>(cF (.of I))) bM I ?_;refine ic fun β=>?_;dsimp only [fK,Za,Zb,List.append_eq,Nat.reduceAdd]
 with_reducible refine dp (by kernel_rfl) ?_
 (refine Jt<|Jq<|Jr<|bK I I ae ?_;refine JL I bT I<|JI I<|Jv I<|Jn<|J0 ?_)
 rename_i b1 tR b5 G0;generalize eM (β 9)=b9;clear β;have hA:(VC r).size<=101:=gY (by simp) (sL (by decide) (fo _) (fo _));unfold Ww;generalize VC r=A at hA ⊢;refine aY (ι:=Nat×ByteArray) (fun y=>y.1<=r.sr.length/\y.2=mZ A ((r.sr.take y.1).map M6)) (fun y=>[(36,.int .i64 (y.1:Nat)),(35,.int .i64 r.sr.length),(34,.slice a1 r.sr.length dZ),(6,.string y.2),(5,.pointer (some ⟨b5,0,none⟩)),(1,.pointer (some ⟨b1,0,none⟩))]) (fun _=>[bC b5 (.cells #[.string ⟨#[114,111,117,116,101,114]⟩,.func (.func 271) #[] #[],.string ⟨#[115,111,117,114,99,101]⟩,.func (.func 273) #[] #[],.string ⟨#[100,101,115,116,105,110,97,116,105,111,110]⟩,.func (.func 275) #[] #[],.string ⟨#[116,105,101]⟩,.func (.func 276) #[] #[],.string ⟨#[112,111,105,110,116]⟩,.func (.func 277) #[] #[]] 265 (0,0)),JP b1 r (.slice a1 r.sr.length dZ) (.slice a2 r.de.length dB) (.slice a3 r.ti.length dQ) (.slice a4 r.po.length e9)]) (fun y=>r.sr.length-y.1) ?_ ?_
 ·apply aK (0,A) ⟨Zi _,I⟩
  case hs1=>exact cj
  case ht=>
   exact .cons (.there .here) (.cons (.there .here) .nil)
 rintro ⟨k,S⟩ ⟨hk,hS⟩;dsimp only at hk hS ⊢;by_cases aL:k<r.sr.length
 ·have cM:=kK (gL aL);have aF:=(kc k _ (fk aL)).2;have hx:=hN.sr _ (Zj aL);have kl:=qd (a:=A) (f:=M6) aL;rw [<- hS] at kl;unfold Sr.cells at aF;generalize r.sr[k]=x at aF hx kl;have hz:(M6 x).size<=101:=gY (by simp) (sL (by decide) hx.1 (fo _));have RH:S.size<=A.size+101*r.sr.length:=by rw [hS];exact qe fun y hy=>gY (by simp) (sL (by decide) (hN.sr y hy).1 (fo _))
  have VU:=hN.len;have hb:S.size+(M6 x).size<=9223372036854775807:=by omega
  (refine Jr<|JA I<|Jn<|Jq<|Jd I fun ar=>Jk<|Jq<|J0<|Jr<|ab (gj cM ar) I ?_;refine ab (iI (eU.base aF I)) I ?_;refine Jz I I fun _ _=>au (.of I) (.of I) .here I I (ie I I) (bF I) an ?_;refine Jn ?_)
  with_reducible refine fc 13 (by kernel_rfl) ?_
  (refine aH (fun β=>(aZ (.of I))) bM I ?_;refine aH (fun β=>(hY (.of I) (.of I) (by omega) (by omega) ba)) bM I ?_;refine aH (fun β=>(ao (.of I) ae)) bM I ?_;refine aH (fun β=>(ag (.of I) (At.lit (.there .here) I))) bM I ?_;refine aH (fun β=>(ao (.of I) ae)) bM I ?_;refine aH (fun β=>(ag (.of I) (At.lit .here I))) bM I ?_;refine aH (fun β=>(ao (.of I) ae)) bM I ?_;refine aH (fun β=>(ag (.of I) (At.lit .here I))) bM I ?_)
  dsimp only [Nat.zero_add,Nat.reduceAdd]
  with_reducible apply cV (B:=[]) (F:=fun _=>.string (oy x.mx)) (args:=fun _=>[.int .i64 x.mx])
  case hB=>rfl
  case hr=>exact fun β=>bj (.of I) (.cons (.of I) .nil) inferInstance I
  case hi=>exact bM
  case hd=>rfl
  case hc=>exact fun β w' dD=>oZ _ (by omega) (by omega) _
  dsimp only [Nat.reduceAdd]
  skip
  refine nN (fun β=>(aB (.cons (.of I) (.cons (.of I) (.cons (.of I) .nil))) I I I I)) (fun _ _ _=>rfl) I ?_;dsimp only [Nat.zero_add,Nat.reduceAdd]
  with_reducible apply cV (B:=[9]) (F:=fun _=>.string (M6 x)) (args:=fun β=>[.slice (some ⟨eM (β 9),0,none⟩) 3 3])
  case hB=>kernel_rfl
  case hr=>exact fun β=>bj (.of I) (.cons (.of I) .nil) inferInstance I
  case hi=>exact bM
  case hd=>rfl
  case hc=>
   intro β w' dD;have mK:=dD.at 9 List.mem_cons_self (s:=⟨fun β=>.slice (some ⟨eM (β 9),0,none⟩) 3 3,fun β=>[bC (eM (β 9)) (.cells #[.string wS,.string x.nm,.string (oy x.mx)] 9)]⟩) (by kernel_rfl)
   dsimp only [Zb,Za] at mK;exact sN (l:=[wS,x.nm,oy x.mx]) (Mem.df mK (by exact .here) I I) (by simp) (sL (by decide) hx.1 (fo _))
  dsimp only [Nat.reduceAdd]
  (refine aH (fun β=>(sE (.of I) (.of I) hb)) bM I ?_;refine aH (fun β=>(cF (.of I))) bM I ?_)
  refine ic fun β=>?_;dsimp only [fK,Za,Zb,List.append_eq,Nat.reduceAdd]
  with_reducible refine dp (by kernel_rfl) ?_
  refine Jj<|Jt<|Jg<|JB I (by omega)<|Jv I<|Jn ?_;apply aJ (k+1,_) (show _/\_ from ⟨by omega,kl.symm⟩) (show r.sr.length-(k+1)<r.sr.length-k by omega)
  case hs1=>exact cj
  case ht=>
   exact .cons bT (.cons bT .nil)
 obtain rfl:k=r.sr.length:=by omega
 rw [List.take_length] at hS;subst hS;have hA:(mZ A (r.sr.map M6)).size<=909:=by
  have:=mY (n:=101) (a:=A) (l:=r.sr.map M6) (by
   intro x hx;obtain ⟨y,hy,rfl⟩:=List.mem_map.1 hx;exact gY (by simp) (sL (by decide) (hN.sr y hy).1 (fo _)))
  rw [Zd] at this;have:=hN.len;omega
 generalize mZ A (r.sr.map M6)=A at hA ⊢;clear aL hk
 (refine Jr<|JA I<|Jn<|Jq<|Jc I fun ar=>Jp<|Jl<|Jo<|Jt<|Jq<|Jr<|bK I I ae ?_;refine JL I (.there .here) I<|JI I<|Jv I<|Jn<|J0 ?_)
 refine aY (ι:=Nat×ByteArray) (fun y=>y.1<=r.de.length/\y.2=mZ A ((r.de.take y.1).map Lv)) (fun y=>[(56,.int .i64 (y.1:Nat)),(55,.int .i64 r.de.length),(54,.slice a2 r.de.length dB),(6,.string y.2),(5,.pointer (some ⟨b5,0,none⟩)),(1,.pointer (some ⟨b1,0,none⟩))]) (fun _=>[bC b5 (.cells #[.string ⟨#[114,111,117,116,101,114]⟩,.func (.func 271) #[] #[],.string ⟨#[115,111,117,114,99,101]⟩,.func (.func 273) #[] #[],.string ⟨#[100,101,115,116,105,110,97,116,105,111,110]⟩,.func (.func 275) #[] #[],.string ⟨#[116,105,101]⟩,.func (.func 276) #[] #[],.string ⟨#[112,111,105,110,116]⟩,.func (.func 277) #[] #[]] 265 (0,0)),JP b1 r (.slice a1 r.sr.length dZ) (.slice a2 r.de.length dB) (.slice a3 r.ti.length dQ) (.slice a4 r.po.length e9)]) (fun y=>r.de.length-y.1) ?_ ?_
 ·apply aK (0,A) ⟨Zi _,I⟩
  case hs1=>exact cj
  case ht=>
   exact .cons .here (.cons .here .nil)
 rintro ⟨k,S⟩ ⟨hk,hS⟩;dsimp only at hk hS ⊢;by_cases aL:k<r.de.length
 ·have cM:=iT (gS aL);have aF:=(jL k _ (fu aL)).2;have hx:=hN.de _ (Zj aL);have kl:=qd (a:=A) (f:=Lv) aL;rw [<- hS] at kl;unfold De.cells at aF;generalize r.de[k]=x at aF hx kl;have hz:(Lv x).size<=101:=gY (by simp) (jj (by decide) hx.1 (fo _) (CV _));have RH:S.size<=A.size+101*r.de.length:=by rw [hS];exact qe fun y hy=>gY (by simp) (jj (by decide) (hN.de y hy).1 (fo _) (CV _))
  have VU:=hN.len;have hb:S.size+(Lv x).size<=9223372036854775807:=by omega
  clear hz RH VU;obtain ⟨xn,xm,xp⟩:=x;dsimp only at aF hx kl hb ⊢;cases xp
  ·(refine Jr<|JA I<|Jn<|Jq<|Jd I fun ar=>Jk<|Jq<|J0<|Jr<|ab (gj cM ar) I ?_;refine ab (iI (eU.base aF I)) I ?_;refine Jz I I fun _ _=>au (.of I) (.of I) .here I I (fx I I I) (bF I) an ?_;refine Ji<|Ja I<|Jn<|Jq<|Jr<|bK I I ae ?_;refine JL I .here I<|Jn<|bR (.of I) ?_;refine Jk ?_)
   with_reducible refine fc 14 (by kernel_rfl) ?_
   (refine aH (fun β=>(aZ (.of I))) bM I ?_;refine aH (fun β=>(hY (.of I) (.of I) (by omega) (by omega) ba)) bM I ?_;refine aH (fun β=>(ao (.of I) ae)) bM I ?_;refine aH (fun β=>(ag (.of I) (At.lit (.there .here) I))) bM I ?_;refine aH (fun β=>(ao (.of I) ae)) bM I ?_;refine aH (fun β=>(ag (.of I) (At.lit .here I))) bM I ?_;refine aH (fun β=>(ao (.of I) ae)) bM I ?_;refine aH (fun β=>(ag (.of I) (At.lit .here I))) bM I ?_)
   dsimp only [Nat.zero_add,Nat.reduceAdd]
   with_reducible apply cV (B:=[]) (F:=fun _=>.string (oy xm)) (args:=fun _=>[.int .i64 xm])
   case hB=>rfl
   case hr=>exact fun β=>bj (.of I) (.cons (.of I) .nil) inferInstance I
   case hi=>exact bM
   case hd=>rfl
   case hc=>exact fun β w' dD=>oZ _ (by omega) (by omega) _
   dsimp only [Nat.reduceAdd];refine aH (fun β=>(aZ (.of I))) bM I ?_;refine nN (fun β=>(aB (.cons (.of I) (.cons (.of I) (.cons (.of I) (.cons (.of I) .nil)))) I I I I)) (fun _ _ _=>rfl) I ?_;dsimp only [Nat.zero_add,Nat.reduceAdd]
   with_reducible apply cV (B:=[10]) (F:=fun _=>.string (Lv ⟨xn,xm,false⟩)) (args:=fun β=>[.slice (some ⟨eM (β 10),0,none⟩) 4 4])
   case hB=>kernel_rfl
   case hr=>exact fun β=>bj (.of I) (.cons (.of I) .nil) inferInstance I
   case hi=>exact bM
   case hd=>rfl
   case hc=>
    intro β w' dD;have mK:=dD.at 10 List.mem_cons_self (s:=⟨fun β=>.slice (some ⟨eM (β 10),0,none⟩) 4 4,fun β=>[bC (eM (β 10)) (.cells #[.string wD,.string xn,.string (oy xm),.string Hi] 9)]⟩) (by kernel_rfl)
    dsimp only [Zb,Za] at mK;exact sN (l:=[wD,xn,oy xm,Hi]) (Mem.df mK (by exact .here) I I) (by simp) (jj (by decide) hx.1 (fo _) (by decide))
   dsimp only [Nat.reduceAdd]
   (refine aH (fun β=>(sE (.of I) (.of I) hb)) bM I ?_;refine aH (fun β=>(cF (.of I))) bM I ?_)
   refine ic fun β=>?_;dsimp only [fK,Za,Zb,List.append_eq,Nat.reduceAdd]
   with_reducible refine dp (by kernel_rfl) ?_
   refine Jj<|Jt<|Jg<|JB I (by omega)<|Jv I<|Jn ?_;apply aJ (k+1,_) (show _/\_ from ⟨by omega,kl.symm⟩) (show r.de.length-(k+1)<r.de.length-k by omega)
   case hs1=>exact cj
   case ht=>
    exact .cons bT (.cons bT .nil)
  ·(refine Jr<|JA I<|Jn<|Jq<|Jd I fun ar=>Jk<|Jq<|J0<|Jr<|ab (gj cM ar) I ?_;refine ab (iI (eU.base aF I)) I ?_;refine Jz I I fun _ _=>au (.of I) (.of I) .here I I (fx I I I) (bF I) an ?_;refine Ji<|Ja I<|Jn<|Jq<|Jr<|bK I I ae ?_;refine JL I .here I<|Jn<|cE (.of I) ?_;refine Jg<|Ja I<|Jn ?_)
   with_reducible refine fc 14 (by kernel_rfl) ?_
   (refine aH (fun β=>(aZ (.of I))) bM I ?_;refine aH (fun β=>(hY (.of I) (.of I) (by omega) (by omega) ba)) bM I ?_;refine aH (fun β=>(ao (.of I) ae)) bM I ?_;refine aH (fun β=>(ag (.of I) (At.lit (.there .here) I))) bM I ?_;refine aH (fun β=>(ao (.of I) ae)) bM I ?_;refine aH (fun β=>(ag (.of I) (At.lit .here I))) bM I ?_;refine aH (fun β=>(ao (.of I) ae)) bM I ?_;refine aH (fun β=>(ag (.of I) (At.lit .here I))) bM I ?_)
   dsimp only [Nat.zero_add,Nat.reduceAdd]
   with_reducible apply cV (B:=[]) (F:=fun _=>.string (oy xm)) (args:=fun _=>[.int .i64 xm])
   case hB=>rfl
   case hr=>exact fun β=>bj (.of I) (.cons (.of I) .nil) inferInstance I
   case hi=>exact bM
   case hd=>rfl
   case hc=>exact fun β w' dD=>oZ _ (by omega) (by omega) _
   dsimp only [Nat.reduceAdd];refine aH (fun β=>(aZ (.of I))) bM I ?_;refine nN (fun β=>(aB (.cons (.of I) (.cons (.of I) (.cons (.of I) (.cons (.of I) .nil)))) I I I I)) (fun _ _ _=>rfl) I ?_;dsimp only [Nat.zero_add,Nat.reduceAdd]
   with_reducible apply cV (B:=[10]) (F:=fun _=>.string (Lv ⟨xn,xm,true⟩)) (args:=fun β=>[.slice (some ⟨eM (β 10),0,none⟩) 4 4])
   case hB=>kernel_rfl
   case hr=>exact fun β=>bj (.of I) (.cons (.of I) .nil) inferInstance I
   case hi=>exact bM
   case hd=>rfl
   case hc=>
    intro β w' dD;have mK:=dD.at 10 List.mem_cons_self (s:=⟨fun β=>.slice (some ⟨eM (β 10),0,none⟩) 4 4,fun β=>[bC (eM (β 10)) (.cells #[.string wD,.string xn,.string (oy xm),.string Hh] 9)]⟩) (by kernel_rfl)
    dsimp only [Zb,Za] at mK;exact sN (l:=[wD,xn,oy xm,Hh]) (Mem.df mK (by exact .here) I I) (by simp) (jj (by decide) hx.1 (fo _) (by decide))
   dsimp only [Nat.reduceAdd]
   (refine aH (fun β=>(sE (.of I) (.of I) hb)) bM I ?_;refine aH (fun β=>(cF (.of I))) bM I ?_)
   refine ic fun β=>?_;dsimp only [fK,Za,Zb,List.append_eq,Nat.reduceAdd]
   with_reducible refine dp (by kernel_rfl) ?_
   refine Jj<|Jt<|Jg<|JB I (by omega)<|Jv I<|Jn ?_;apply aJ (k+1,_) (show _/\_ from ⟨by omega,kl.symm⟩) (show r.de.length-(k+1)<r.de.length-k by omega)
   case hs1=>exact cj
   case ht=>
    exact .cons bT (.cons bT .nil)
 obtain rfl:k=r.de.length:=by omega
 rw [List.take_length] at hS;subst hS;have hA:(mZ A (r.de.map Lv)).size<=1717:=by
  have:=mY (n:=101) (a:=A) (l:=r.de.map Lv) (by
   intro x hx;obtain ⟨y,hy,rfl⟩:=List.mem_map.1 hx;exact gY (by simp) (jj (by decide) (hN.de y hy).1 (fo _) (CV _)))
  rw [Zd] at this;have:=hN.len;omega
 generalize mZ A (r.de.map Lv)=A at hA ⊢;clear aL hk
 (refine Jr<|JA I<|Jn<|Jq<|Jc I fun ar=>Jp<|Jl<|Jo<|Jt<|Jq<|Jr<|bK I I ae ?_;refine JL I (.there .here) I<|JI I<|Jv I<|Jn<|J0 ?_)
 refine aY (ι:=Nat×ByteArray) (fun y=>y.1<=r.ti.length/\y.2=mZ A ((r.ti.take y.1).map M5)) (fun y=>[(79,.int .i64 (y.1:Nat)),(78,.int .i64 r.ti.length),(77,.slice a3 r.ti.length dQ),(6,.string y.2),(5,.pointer (some ⟨b5,0,none⟩)),(1,.pointer (some ⟨b1,0,none⟩))]) (fun _=>[bC b5 (.cells #[.string ⟨#[114,111,117,116,101,114]⟩,.func (.func 271) #[] #[],.string ⟨#[115,111,117,114,99,101]⟩,.func (.func 273) #[] #[],.string ⟨#[100,101,115,116,105,110,97,116,105,111,110]⟩,.func (.func 275) #[] #[],.string ⟨#[116,105,101]⟩,.func (.func 276) #[] #[],.string ⟨#[112,111,105,110,116]⟩,.func (.func 277) #[] #[]] 265 (0,0)),JP b1 r (.slice a1 r.sr.length dZ) (.slice a2 r.de.length dB) (.slice a3 r.ti.length dQ) (.slice a4 r.po.length e9)]) (fun y=>r.ti.length-y.1) ?_ ?_
 ·apply aK (0,A) ⟨Zi _,I⟩
  case hs1=>exact cj
  case ht=>
   exact .cons .here (.cons .here .nil)
 rintro ⟨k,S⟩ ⟨hk,hS⟩;dsimp only at hk hS ⊢;by_cases aL:k<r.ti.length
 ·have cM:=qA (eO aL);have aF:=(nW k _ (dY aL)).2;have hx:=hN.ti _ (Zj aL);have kl:=qd (a:=A) (f:=M5) aL;rw [<- hS] at kl;unfold Ti.cells at aF;generalize r.ti[k]=x at aF hx kl;have hz:(M5 x).size<=101:=gY (by simp) (jj (by decide) hx.1 (fo _) (fo _));have RH:S.size<=A.size+101*r.ti.length:=by rw [hS];exact qe fun y hy=>gY (by simp) (jj (by decide) (hN.ti y hy).1 (fo _) (fo _))
  have VU:=hN.len;have hb:S.size+(M5 x).size<=9223372036854775807:=by omega
  (refine Jr<|JA I<|Jn<|Jq<|Jd I fun ar=>Jk<|Jq<|J0<|Jr<|ab (gj cM ar) I ?_;refine ab (iI (eU.base aF I)) I ?_;refine Jz I I fun _ _=>au (.of I) (.of I) .here I I (fx I I I) (bF I) an ?_;refine Jn ?_)
  with_reducible refine fc 16 (by kernel_rfl) ?_
  (refine aH (fun β=>(aZ (.of I))) bM I ?_;refine aH (fun β=>(hY (.of I) (.of I) (by omega) (by omega) ba)) bM I ?_;refine aH (fun β=>(ao (.of I) ae)) bM I ?_;refine aH (fun β=>(ag (.of I) (At.lit (.there .here) I))) bM I ?_;refine aH (fun β=>(ao (.of I) ae)) bM I ?_;refine aH (fun β=>(ag (.of I) (At.lit .here I))) bM I ?_;refine aH (fun β=>(ao (.of I) ae)) bM I ?_;refine aH (fun β=>(ag (.of I) (At.lit .here I))) bM I ?_)
  dsimp only [Nat.zero_add,Nat.reduceAdd]
  with_reducible apply cV (B:=[]) (F:=fun _=>.string (oy x.fr)) (args:=fun _=>[.int .i64 x.fr])
  case hB=>rfl
  case hr=>exact fun β=>bj (.of I) (.cons (.of I) .nil) inferInstance I
  case hi=>exact bM
  case hd=>rfl
  case hc=>exact fun β w' dD=>oZ _ (by omega) (by omega) _
  dsimp only [Nat.reduceAdd]
  (refine aH (fun β=>(ao (.of I) ae)) bM I ?_;refine aH (fun β=>(ag (.of I) (At.lit .here I))) bM I ?_)
  dsimp only [Nat.zero_add,Nat.reduceAdd]
  with_reducible apply cV (B:=[]) (F:=fun _=>.string (oy x.to)) (args:=fun _=>[.int .i64 x.to])
  case hB=>rfl
  case hr=>exact fun β=>bj (.of I) (.cons (.of I) .nil) inferInstance I
  case hi=>exact bM
  case hd=>rfl
  case hc=>exact fun β w' dD=>oZ _ (by omega) (by omega) _
  dsimp only [Nat.reduceAdd]
  skip
  refine nN (fun β=>(aB (.cons (.of I) (.cons (.of I) (.cons (.of I) (.cons (.of I) .nil)))) I I I I)) (fun _ _ _=>rfl) I ?_;dsimp only [Nat.zero_add,Nat.reduceAdd]
  with_reducible apply cV (B:=[12]) (F:=fun _=>.string (M5 x)) (args:=fun β=>[.slice (some ⟨eM (β 12),0,none⟩) 4 4])
  case hB=>kernel_rfl
  case hr=>exact fun β=>bj (.of I) (.cons (.of I) .nil) inferInstance I
  case hi=>exact bM
  case hd=>rfl
  case hc=>
   intro β w' dD;have mK:=dD.at 12 List.mem_cons_self (s:=⟨fun β=>.slice (some ⟨eM (β 12),0,none⟩) 4 4,fun β=>[bC (eM (β 12)) (.cells #[.string wT,.string x.nm,.string (oy x.fr),.string (oy x.to)] 9)]⟩) (by kernel_rfl)
   dsimp only [Zb,Za] at mK;exact sN (l:=[wT,x.nm,oy x.fr,oy x.to]) (Mem.df mK (by exact .here) I I) (by simp) (jj (by decide) hx.1 (fo _) (fo _))
  dsimp only [Nat.reduceAdd]
  (refine aH (fun β=>(sE (.of I) (.of I) hb)) bM I ?_;refine aH (fun β=>(cF (.of I))) bM I ?_)
  refine ic fun β=>?_;dsimp only [fK,Za,Zb,List.append_eq,Nat.reduceAdd]
  with_reducible refine dp (by kernel_rfl) ?_
  refine Jj<|Jt<|Jg<|JB I (by omega)<|Jv I<|Jn ?_;apply aJ (k+1,_) (show _/\_ from ⟨by omega,kl.symm⟩) (show r.ti.length-(k+1)<r.ti.length-k by omega)
  case hs1=>exact cj
  case ht=>
   exact .cons bT (.cons bT .nil)
 obtain rfl:k=r.ti.length:=by omega
 rw [List.take_length] at hS;subst hS;have hA:(mZ A (r.ti.map M5)).size<=2323:=by
  have:=mY (n:=101) (a:=A) (l:=r.ti.map M5) (by
   intro x hx;obtain ⟨y,hy,rfl⟩:=List.mem_map.1 hx;exact gY (by simp) (jj (by decide) (hN.ti y hy).1 (fo _) (fo _)))
  rw [Zd] at this;have:=hN.len;omega
 generalize mZ A (r.ti.map M5)=A at hA ⊢;clear aL hk
 (refine Jr<|JA I<|Jn<|Jq<|Jc I fun ar=>Jp<|Jl<|Jo<|Jt<|Jq<|Jr<|bK I I ae ?_;refine JL I (.there .here) I<|JI I<|Jv I<|Jn<|J0 ?_)
 refine aY (ι:=Nat×ByteArray) (fun y=>y.1<=r.po.length/\y.2=mZ A ((r.po.take y.1).map Sz)) (fun y=>[(102,.int .i64 (y.1:Nat)),(101,.int .i64 r.po.length),(100,.slice a4 r.po.length e9),(6,.string y.2),(5,.pointer (some ⟨b5,0,none⟩)),(1,.pointer (some ⟨b1,0,none⟩))]) (fun _=>[bC b5 (.cells #[.string ⟨#[114,111,117,116,101,114]⟩,.func (.func 271) #[] #[],.string ⟨#[115,111,117,114,99,101]⟩,.func (.func 273) #[] #[],.string ⟨#[100,101,115,116,105,110,97,116,105,111,110]⟩,.func (.func 275) #[] #[],.string ⟨#[116,105,101]⟩,.func (.func 276) #[] #[],.string ⟨#[112,111,105,110,116]⟩,.func (.func 277) #[] #[]] 265 (0,0)),JP b1 r (.slice a1 r.sr.length dZ) (.slice a2 r.de.length dB) (.slice a3 r.ti.length dQ) (.slice a4 r.po.length e9)]) (fun y=>r.po.length-y.1) ?_ ?_
 ·apply aK (0,A) ⟨Zi _,I⟩
  case hs1=>exact cj
  case ht=>
   exact .cons .here (.cons .here .nil)
 rintro ⟨k,S⟩ ⟨hk,hS⟩;dsimp only at hk hS ⊢;by_cases aL:k<r.po.length
 ·have cM:=CE (kD aL);have aF:=(vZ k _ (iN aL)).2;have hx:=hN.po _ (Zj aL);have kl:=qd (a:=A) (f:=Sz) aL;rw [<- hS] at kl;unfold Po.cells at aF;generalize r.po[k]=x at aF hx kl;have hz:(Sz x).size<=101:=gY (by simp) (jj (by decide) (fo _) hx.1.1 hx.1.2);have RH:S.size<=A.size+101*r.po.length:=by rw [hS];exact qe fun y hy=>gY (by simp) (jj (by decide) (fo _) (hN.po y hy).1.1 (hN.po y hy).1.2)
  have VU:=hN.len;have hb:S.size+(Sz x).size<=9223372036854775807:=by omega
  (refine Jr<|JA I<|Jn<|Jq<|Jd I fun ar=>Jk<|Jq<|J0<|Jr<|ab (gj cM ar) I ?_;refine ab (iI (eU.base aF I)) I ?_;refine Jz I I fun _ _=>au (.of I) (.of I) .here I I (fx I I I) (bF I) an ?_;refine Jn ?_)
  with_reducible refine fc 15 (by kernel_rfl) ?_
  (refine aH (fun β=>(aZ (.of I))) bM I ?_;refine aH (fun β=>(hY (.of I) (.of I) (by omega) (by omega) ba)) bM I ?_;refine aH (fun β=>(ao (.of I) ae)) bM I ?_;refine aH (fun β=>(ag (.of I) (At.lit (.there .here) I))) bM I ?_;refine aH (fun β=>(ao (.of I) ae)) bM I ?_;refine aH (fun β=>(ag (.of I) (At.lit .here I))) bM I ?_)
  dsimp only [Nat.zero_add,Nat.reduceAdd]
  with_reducible apply cV (B:=[]) (F:=fun _=>.string (oy x.lv)) (args:=fun _=>[.int .i64 x.lv])
  case hB=>rfl
  case hr=>exact fun β=>bj (.of I) (.cons (.of I) .nil) inferInstance I
  case hi=>exact bM
  case hd=>rfl
  case hc=>exact fun β w' dD=>oZ _ (by omega) (by omega) _
  dsimp only [Nat.reduceAdd]
  (refine aH (fun β=>(ao (.of I) ae)) bM I ?_;refine aH (fun β=>(ag (.of I) (At.lit .here I))) bM I ?_;refine aH (fun β=>(ao (.of I) ae)) bM I ?_;refine aH (fun β=>(ag (.of I) (At.lit .here I))) bM I ?_)
  refine nN (fun β=>(aB (.cons (.of I) (.cons (.of I) (.cons (.of I) (.cons (.of I) .nil)))) I I I I)) (fun _ _ _=>rfl) I ?_;dsimp only [Nat.zero_add,Nat.reduceAdd]
  with_reducible apply cV (B:=[11]) (F:=fun _=>.string (Sz x)) (args:=fun β=>[.slice (some ⟨eM (β 11),0,none⟩) 4 4])
  case hB=>kernel_rfl
  case hr=>exact fun β=>bj (.of I) (.cons (.of I) .nil) inferInstance I
  case hi=>exact bM
  case hd=>rfl
  case hc=>
   intro β w' dD;have mK:=dD.at 11 List.mem_cons_self (s:=⟨fun β=>.slice (some ⟨eM (β 11),0,none⟩) 4 4,fun β=>[bC (eM (β 11)) (.cells #[.string wP,.string (oy x.lv),.string x.ou,.string x.ip] 9)]⟩) (by kernel_rfl)
   dsimp only [Zb,Za] at mK;exact sN (l:=[wP,oy x.lv,x.ou,x.ip]) (Mem.df mK (by exact .here) I I) (by simp) (jj (by decide) (fo _) hx.1.1 hx.1.2)
  dsimp only [Nat.reduceAdd]
  (refine aH (fun β=>(sE (.of I) (.of I) hb)) bM I ?_;refine aH (fun β=>(cF (.of I))) bM I ?_)
  refine ic fun β=>?_;dsimp only [fK,Za,Zb,List.append_eq,Nat.reduceAdd]
  with_reducible refine dp (by kernel_rfl) ?_
  refine Jj<|Jt<|Jg<|JB I (by omega)<|Jv I<|Jn ?_;apply aJ (k+1,_) (show _/\_ from ⟨by omega,kl.symm⟩) (show r.po.length-(k+1)<r.po.length-k by omega)
  case hs1=>exact cj
  case ht=>
   exact .cons bT (.cons bT .nil)
 obtain rfl:k=r.po.length:=by omega
 rw [List.take_length] at hS;rw [<- hS];refine Jr<|JA I<|Jn<|Jq<|Jc I fun ar=>Jp<|Jl<|Jo<|Jt<|Jr<|Jv I<|Ja I<|Ja I<|Jn<|Je<|pG I (fW I I I) ?_
 rfl
def P7 (r:Ro) (x:Value×Value×Value×Value):List a8:=[row 118 2 x.1 r.sr.length (oH r.sr),row 88 3 x.2.1 r.de.length (l7 r.de),row 122 3 x.2.2.1 r.ti.length (qH r.ti),row 180 3 x.2.2.2 r.po.length (jC r.po)]
def nP (r:Ro):Prop:=r.sr.length<=1000000/\r.de.length<=1000000/\r.ti.length<=1000000/\r.po.length<=1000000
theorem Tz {r:Ro} {s d t p:Value} {w:World} (h:RR w r s d t p) (cL:nP r):bh T_ 21 [RA r s d t p] w [] (fun _:Value×Value×Value×Value=>True) (fun x=>RA r x.1 x.2.1 x.2.2.1 x.2.2.2) (fun x=>uw r x):=by
 obtain ⟨h1,h2,h3,h4⟩:=h.one;have BV:=h.sr;have DG:=h.de;have xx:=h.ti;have JM:=h.po;obtain ⟨a1,dZ,G2,GX,rfl,nS,hG,kK,kc⟩:=BV;obtain ⟨a2,dB,LG,Lr,rfl,jK,eE,iT,jL⟩:=DG;obtain ⟨a3,dQ,Fu,EI,rfl,lo,fD,qA,nW⟩:=xx;obtain ⟨a4,e9,PF,Lq,rfl,tO,km,CE,vZ⟩:=JM;rw [cu] at *;rw [bZ] at *;rw [bO] at *;rw [cT] at *;unfold maxLen at hG eE fD km;obtain ⟨f1,f2,f3,f4⟩:=cL;unfold RA;refine aR func21 I I ?_
 (refine Jr<|Jy I I fun _ _=>Jz I I fun _ _=>Ji<|bK I I ae ?_;refine JL I (.there .here) I<|bK I I ae ?_;refine JL I (.there .here) I<|ab (aT (.cons (.of I) (.cons (.of I) .nil)) an) I ?_;refine Jz I I fun _ _=>au (.of I) (.of I) .here I I (iS I I I I I I) (bF I) an ?_;refine Jn<|Jq<|Jr<|bK I I ae ?_;refine JL I bT I<|JI I<|Jv I<|Jn<|J0 ?_)
 rename_i b1 tR b2 uh b3 tQ;refine aP 186 2 ?_;refine aY (ι:=Nat×Option Addr×Nat) (fun y=>y.1<=r.sr.length) (fun y=>[(20,.int .i64 (y.1:Nat)),(19,.int .i64 r.sr.length),(18,.slice a1 r.sr.length dZ),(3,.pointer (some ⟨b3,0,none⟩)),(2,.pointer (some ⟨b2,0,none⟩)),(1,.pointer (some ⟨b1,0,none⟩))]) (fun y=>[row 186 2 (.slice y.2.1 y.1 y.2.2) y.1 (oH (r.sr.take y.1)),JP b3 r (.slice y.2.1 y.1 y.2.2) (.slice none 0 0) (.slice none 0 0) (.slice none 0 0),bC b2 (.cells #[.int .i64 0,.int .i64 0,.slice none 0 0,.slice none 0 0,.slice none 0 0,.slice none 0 0] 41 (0,0)),JQ b1 r (.slice a1 r.sr.length dZ) (.slice a2 r.de.length dB) (.slice a3 r.ti.length dQ) (.slice a4 r.po.length e9)]) (fun y=>r.sr.length-y.1) ?_ ?_
 ·apply aK (0,none,0) (Zi _)
  case hs1=>exact cj
  case ht=>
   exact .cons .here (.cons .here (.cons .here (.cons .here .nil)))
 rintro ⟨k,g1,rX⟩ hk;dsimp only at hk ⊢;by_cases aL:k<r.sr.length
 ·have cM:=kK (gL aL);have aF:=(kc k _ (fk aL)).2;have a7:=Bc aL;have hlen:(oH (r.sr.take k)).length=k*2:=by rw [Ex,List.length_take];omega
  unfold Sr.cells at aF a7;generalize r.sr[k]=x at aF a7
  (refine Jr<|JA I<|Jn<|Jq<|Jd I fun ar=>Jk<|Jq<|J0<|Jr<|ab (gj cM ar) I ?_;refine ab (iI (eU.base aF I)) I ?_;refine Jz I I fun _ _=>au (.of I) (.of I) .here I I (ie I I) (bF I) an ?_;refine Jn<|Jg<|bK I I ae ?_;refine JL I bT I<|ab (cr .here) I ?_;refine bb (bu (.cons (.of I) .nil) I I bW bW an) I fun _ _=>?_)
  refine bE (.of I) (.of I) bT .here an (by rfl) (ie I I) (by rfl) (by rfl) (by rfl) eV (by rfl) ?_;intro v';refine aW (v:=v') (by exact .here) fun gx cx e=>?_;subst e
  (refine bK I I ae ?_;refine au (.of I) (.of I) db I I (eF I) (bF I) an ?_;refine Jx<|Jj<|Jt<|Jg<|JB I (by omega)<|Jv I<|Jn ?_)
  apply aJ (k+1,gx,cx) (by show k+1<=r.sr.length;omega) (by show r.sr.length-(k+1)<r.sr.length-k;omega)
  case hs1=>exact cj
  case ht=>
   show bn _ [row 186 2 (.slice gx (k+1) cx) (k+1) (oH (r.sr.take (k+1))),JP b3 r (.slice gx (k+1) cx) (.slice none 0 0) (.slice none 0 0) (.slice none 0 0),bC b2 (.cells #[.int .i64 0,.int .i64 0,.slice none 0 0,.slice none 0 0,.slice none 0 0,.slice none 0 0] 41 (0,0)),JQ b1 r (.slice a1 r.sr.length dZ) (.slice a2 r.de.length dB) (.slice a3 r.ti.length dQ) (.slice a4 r.po.length e9)] _;rw [a7];exact .cons (.there .here) (.cons .here (.cons bT (.cons bT .nil)))
 obtain rfl:k=r.sr.length:=by omega
 rw [List.take_length];clear hk aL
 (refine Jr<|JA I<|Jn<|Jq<|Jc I fun ar=>Jp<|Jl<|Jo<|Jt<|Jq<|Jr<|bK I I ae ?_;refine JL I db I<|JI I<|Jv I<|Jn<|J0 ?_)
 refine aP 90 3 ?_;refine aY (ι:=Nat×Option Addr×Nat) (fun y=>y.1<=r.de.length) (fun y=>[(34,.int .i64 (y.1:Nat)),(33,.int .i64 r.de.length),(32,.slice a2 r.de.length dB),(3,.pointer (some ⟨b3,0,none⟩)),(2,.pointer (some ⟨b2,0,none⟩)),(1,.pointer (some ⟨b1,0,none⟩))]) (fun y=>[row 90 3 (.slice y.2.1 y.1 y.2.2) y.1 (l7 (r.de.take y.1)),row 186 2 (.slice g1 r.sr.length rX) r.sr.length (oH r.sr),JP b3 r (.slice g1 r.sr.length rX) (.slice y.2.1 y.1 y.2.2) (.slice none 0 0) (.slice none 0 0),bC b2 (.cells #[.int .i64 0,.int .i64 0,.slice none 0 0,.slice none 0 0,.slice none 0 0,.slice none 0 0] 41 (0,0)),JQ b1 r (.slice a1 r.sr.length dZ) (.slice a2 r.de.length dB) (.slice a3 r.ti.length dQ) (.slice a4 r.po.length e9)]) (fun y=>r.de.length-y.1) ?_ ?_
 ·apply aK (0,none,0) (Zi _)
  case hs1=>exact cj
  case ht=>
   exact .cons .here (.cons .here (.cons .here (.cons .here (.cons .here .nil))))
 rintro ⟨k,g2,xE⟩ hk;dsimp only at hk ⊢;by_cases aL:k<r.de.length
 ·have cM:=iT (gS aL);have aF:=(jL k _ (fu aL)).2;have a7:=Ca aL;have hlen:(l7 (r.de.take k)).length=k*3:=by rw [Fl,List.length_take];omega
  unfold De.cells at aF a7;generalize r.de[k]=x at aF a7
  (refine Jr<|JA I<|Jn<|Jq<|Jd I fun ar=>Jk<|Jq<|J0<|Jr<|ab (gj cM ar) I ?_;refine ab (iI (eU.base aF I)) I ?_;refine Jz I I fun _ _=>au (.of I) (.of I) .here I I (fx I I I) (bF I) an ?_;refine Jn<|Jg<|bK I I ae ?_;refine JL I db I<|ab (cr .here) I ?_;refine bb (bu (.cons (.of I) .nil) I I bW bW an) I fun _ _=>?_)
  refine bE (.of I) (.of I) bT .here an (by rfl) (fx I I I) (by rfl) (by rfl) (by rfl) eV (by rfl) ?_;intro v';refine aW (v:=v') (by exact .here) fun gx cx e=>?_;subst e
  (refine bK I I ae ?_;refine au (.of I) (.of I) fg I I (eF I) (bF I) an ?_;refine Jx<|Jj<|Jt<|Jg<|JB I (by omega)<|Jv I<|Jn ?_)
  apply aJ (k+1,gx,cx) (by show k+1<=r.de.length;omega) (by show r.de.length-(k+1)<r.de.length-k;omega)
  case hs1=>exact cj
  case ht=>
   show bn _ [row 90 3 (.slice gx (k+1) cx) (k+1) (l7 (r.de.take (k+1))),row 186 2 (.slice g1 r.sr.length rX) r.sr.length (oH r.sr),JP b3 r (.slice g1 r.sr.length rX) (.slice gx (k+1) cx) (.slice none 0 0) (.slice none 0 0),bC b2 (.cells #[.int .i64 0,.int .i64 0,.slice none 0 0,.slice none 0 0,.slice none 0 0,.slice none 0 0] 41 (0,0)),JQ b1 r (.slice a1 r.sr.length dZ) (.slice a2 r.de.length dB) (.slice a3 r.ti.length dQ) (.slice a4 r.po.length e9)] _;rw [a7];exact .cons (.there .here) (.cons db (.cons .here (.cons bT (.cons bT .nil))))
 obtain rfl:k=r.de.length:=by omega
 rw [List.take_length];clear hk aL
 (refine Jr<|JA I<|Jn<|Jq<|Jc I fun ar=>Jp<|Jl<|Jo<|Jt<|Jq<|Jr<|bK I I ae ?_;refine JL I fg I<|JI I<|Jv I<|Jn<|J0 ?_)
 refine aP 187 3 ?_;refine aY (ι:=Nat×Option Addr×Nat) (fun y=>y.1<=r.ti.length) (fun y=>[(48,.int .i64 (y.1:Nat)),(47,.int .i64 r.ti.length),(46,.slice a3 r.ti.length dQ),(3,.pointer (some ⟨b3,0,none⟩)),(2,.pointer (some ⟨b2,0,none⟩)),(1,.pointer (some ⟨b1,0,none⟩))]) (fun y=>[row 187 3 (.slice y.2.1 y.1 y.2.2) y.1 (qH (r.ti.take y.1)),row 90 3 (.slice g2 r.de.length xE) r.de.length (l7 r.de),row 186 2 (.slice g1 r.sr.length rX) r.sr.length (oH r.sr),JP b3 r (.slice g1 r.sr.length rX) (.slice g2 r.de.length xE) (.slice y.2.1 y.1 y.2.2) (.slice none 0 0),bC b2 (.cells #[.int .i64 0,.int .i64 0,.slice none 0 0,.slice none 0 0,.slice none 0 0,.slice none 0 0] 41 (0,0)),JQ b1 r (.slice a1 r.sr.length dZ) (.slice a2 r.de.length dB) (.slice a3 r.ti.length dQ) (.slice a4 r.po.length e9)]) (fun y=>r.ti.length-y.1) ?_ ?_
 ·apply aK (0,none,0) (Zi _)
  case hs1=>exact cj
  case ht=>
   exact .cons .here (.cons .here (.cons .here (.cons .here (.cons .here (.cons .here .nil)))))
 rintro ⟨k,g3,Gx⟩ hk;dsimp only at hk ⊢;by_cases aL:k<r.ti.length
 ·have cM:=qA (eO aL);have aF:=(nW k _ (dY aL)).2;have a7:=Ba aL;have hlen:(qH (r.ti.take k)).length=k*3:=by rw [Et,List.length_take];omega
  unfold Ti.cells at aF a7;generalize r.ti[k]=x at aF a7
  (refine Jr<|JA I<|Jn<|Jq<|Jd I fun ar=>Jk<|Jq<|J0<|Jr<|ab (gj cM ar) I ?_;refine ab (iI (eU.base aF I)) I ?_;refine Jz I I fun _ _=>au (.of I) (.of I) .here I I (fx I I I) (bF I) an ?_;refine Jn<|Jg<|bK I I ae ?_;refine JL I fg I<|ab (cr .here) I ?_;refine bb (bu (.cons (.of I) .nil) I I bW bW an) I fun _ _=>?_)
  refine bE (.of I) (.of I) bT .here an (by rfl) (fx I I I) (by rfl) (by rfl) (by rfl) eV (by rfl) ?_;intro v';refine aW (v:=v') (by exact .here) fun gx cx e=>?_;subst e
  (refine bK I I ae ?_;refine au (.of I) (.of I) fy I I (eF I) (bF I) an ?_;refine Jx<|Jj<|Jt<|Jg<|JB I (by omega)<|Jv I<|Jn ?_)
  apply aJ (k+1,gx,cx) (by show k+1<=r.ti.length;omega) (by show r.ti.length-(k+1)<r.ti.length-k;omega)
  case hs1=>exact cj
  case ht=>
   show bn _ [row 187 3 (.slice gx (k+1) cx) (k+1) (qH (r.ti.take (k+1))),row 90 3 (.slice g2 r.de.length xE) r.de.length (l7 r.de),row 186 2 (.slice g1 r.sr.length rX) r.sr.length (oH r.sr),JP b3 r (.slice g1 r.sr.length rX) (.slice g2 r.de.length xE) (.slice gx (k+1) cx) (.slice none 0 0),bC b2 (.cells #[.int .i64 0,.int .i64 0,.slice none 0 0,.slice none 0 0,.slice none 0 0,.slice none 0 0] 41 (0,0)),JQ b1 r (.slice a1 r.sr.length dZ) (.slice a2 r.de.length dB) (.slice a3 r.ti.length dQ) (.slice a4 r.po.length e9)] _;rw [a7];exact .cons (.there .here) (.cons db (.cons db (.cons .here (.cons bT (.cons bT .nil)))))
 obtain rfl:k=r.ti.length:=by omega
 rw [List.take_length];clear hk aL
 (refine Jr<|JA I<|Jn<|Jq<|Jc I fun ar=>Jp<|Jl<|Jo<|Jt<|Jq<|Jr<|bK I I ae ?_;refine JL I fy I<|JI I<|Jv I<|Jn<|J0 ?_)
 refine aP 188 3 ?_;refine aY (ι:=Nat×Option Addr×Nat) (fun y=>y.1<=r.po.length) (fun y=>[(62,.int .i64 (y.1:Nat)),(61,.int .i64 r.po.length),(60,.slice a4 r.po.length e9),(3,.pointer (some ⟨b3,0,none⟩)),(2,.pointer (some ⟨b2,0,none⟩)),(1,.pointer (some ⟨b1,0,none⟩))]) (fun y=>[row 188 3 (.slice y.2.1 y.1 y.2.2) y.1 (jC (r.po.take y.1)),row 187 3 (.slice g3 r.ti.length Gx) r.ti.length (qH r.ti),row 90 3 (.slice g2 r.de.length xE) r.de.length (l7 r.de),row 186 2 (.slice g1 r.sr.length rX) r.sr.length (oH r.sr),JP b3 r (.slice g1 r.sr.length rX) (.slice g2 r.de.length xE) (.slice g3 r.ti.length Gx) (.slice y.2.1 y.1 y.2.2),bC b2 (.cells #[.int .i64 0,.int .i64 0,.slice none 0 0,.slice none 0 0,.slice none 0 0,.slice none 0 0] 41 (0,0)),JQ b1 r (.slice a1 r.sr.length dZ) (.slice a2 r.de.length dB) (.slice a3 r.ti.length dQ) (.slice a4 r.po.length e9)]) (fun y=>r.po.length-y.1) ?_ ?_
 ·apply aK (0,none,0) (Zi _)
  case hs1=>exact cj
  case ht=>
   exact .cons .here (.cons .here (.cons .here (.cons .here (.cons .here (.cons .here (.cons .here .nil))))))
 rintro ⟨k,g4,UT⟩ hk;dsimp only at hk ⊢;by_cases aL:k<r.po.length
 ·have cM:=CE (kD aL);have aF:=(vZ k _ (iN aL)).2;have a7:=Bz aL;have hlen:(jC (r.po.take k)).length=k*3:=by rw [jF,List.length_take];omega
  unfold Po.cells at aF a7;generalize r.po[k]=x at aF a7
  (refine Jr<|JA I<|Jn<|Jq<|Jd I fun ar=>Jk<|Jq<|J0<|Jr<|ab (gj cM ar) I ?_;refine ab (iI (eU.base aF I)) I ?_;refine Jz I I fun _ _=>au (.of I) (.of I) .here I I (fx I I I) (bF I) an ?_;refine Jn<|Jg<|bK I I ae ?_;refine JL I fy I<|ab (cr .here) I ?_;refine bb (bu (.cons (.of I) .nil) I I bW bW an) I fun _ _=>?_)
  refine bE (.of I) (.of I) bT .here an (by rfl) (fx I I I) (by rfl) (by rfl) (by rfl) eV (by rfl) ?_;intro v';refine aW (v:=v') (by exact .here) fun gx cx e=>?_;subst e
  (refine bK I I ae ?_;refine au (.of I) (.of I) re I I (eF I) (bF I) an ?_;refine Jx<|Jj<|Jt<|Jg<|JB I (by omega)<|Jv I<|Jn ?_)
  apply aJ (k+1,gx,cx) (by show k+1<=r.po.length;omega) (by show r.po.length-(k+1)<r.po.length-k;omega)
  case hs1=>exact cj
  case ht=>
   show bn _ [row 188 3 (.slice gx (k+1) cx) (k+1) (jC (r.po.take (k+1))),row 187 3 (.slice g3 r.ti.length Gx) r.ti.length (qH r.ti),row 90 3 (.slice g2 r.de.length xE) r.de.length (l7 r.de),row 186 2 (.slice g1 r.sr.length rX) r.sr.length (oH r.sr),JP b3 r (.slice g1 r.sr.length rX) (.slice g2 r.de.length xE) (.slice g3 r.ti.length Gx) (.slice gx (k+1) cx),bC b2 (.cells #[.int .i64 0,.int .i64 0,.slice none 0 0,.slice none 0 0,.slice none 0 0,.slice none 0 0] 41 (0,0)),JQ b1 r (.slice a1 r.sr.length dZ) (.slice a2 r.de.length dB) (.slice a3 r.ti.length dQ) (.slice a4 r.po.length e9)] _;rw [a7];exact .cons (.there .here) (.cons db (.cons db (.cons db (.cons .here (.cons bT (.cons bT .nil))))))
 obtain rfl:k=r.po.length:=by omega
 rw [List.take_length];clear hk aL
 (refine Jr<|JA I<|Jn<|Jq<|Jc I fun ar=>Jp<|Jl<|Jo<|Jt<|Jr<|ab (cr fg) I ?_;refine au (.of I) (.of I) fy I I (iS I I I I I I) (bF I) an ?_;refine Jn<|Je ?_)
 first | with_reducible apply aN | with_reducible apply aO
 case he=>exact kW I inferInstance I .here an (by rfl)
 case hR=>
  intro w' aq;exact aG (.slice g1 r.sr.length rX,.slice g2 r.de.length xE,.slice g3 r.ti.length Gx,.slice g4 r.po.length UT) trivial (by exact .cons fg (.cons db (.cons bT (.cons (.there .here) .nil)))) aq I
theorem Hz {r:Ro} {s d t p:Value} {w:World} (h:RR w r s d t p) (cL:nP r):bh T_ 57 [RA r s d t p] w [] (fun _:Value×Value×Value×Value=>True) (fun x=>RA r x.1 x.2.1 x.2.2.1 x.2.2.2) (fun x=>P7 r x):=by
 obtain ⟨h1,h2,h3,h4⟩:=h.one;have BV:=h.sr;have DG:=h.de;have xx:=h.ti;have JM:=h.po;obtain ⟨a1,dZ,G2,GX,rfl,nS,hG,kK,kc⟩:=BV;obtain ⟨a2,dB,LG,Lr,rfl,jK,eE,iT,jL⟩:=DG;obtain ⟨a3,dQ,Fu,EI,rfl,lo,fD,qA,nW⟩:=xx;obtain ⟨a4,e9,PF,Lq,rfl,tO,km,CE,vZ⟩:=JM;rw [cu] at *;rw [bZ] at *;rw [bO] at *;rw [cT] at *;unfold maxLen at hG eE fD km;obtain ⟨f1,f2,f3,f4⟩:=cL;unfold RA;refine aR func57 I I ?_
 (refine Jr<|Jy I I fun _ _=>Jz I I fun _ _=>Ji<|bK I I ae ?_;refine JL I (.there .here) I<|bK I I ae ?_;refine JL I (.there .here) I<|ab (aT (.cons (.of I) (.cons (.of I) .nil)) an) I ?_;refine Jz I I fun _ _=>au (.of I) (.of I) .here I I (iS I I I I I I) (bF I) an ?_;refine Jn<|Jq<|Jr<|bK I I ae ?_;refine JL I bT I<|JI I<|Jv I<|Jn<|J0 ?_)
 rename_i b1 tR b2 uh b3 tQ;refine aP 118 2 ?_;refine aY (ι:=Nat×Option Addr×Nat) (fun y=>y.1<=r.sr.length) (fun y=>[(20,.int .i64 (y.1:Nat)),(19,.int .i64 r.sr.length),(18,.slice a1 r.sr.length dZ),(3,.pointer (some ⟨b3,0,none⟩)),(2,.pointer (some ⟨b2,0,none⟩)),(1,.pointer (some ⟨b1,0,none⟩))]) (fun y=>[row 118 2 (.slice y.2.1 y.1 y.2.2) y.1 (oH (r.sr.take y.1)),JQ b3 r (.slice y.2.1 y.1 y.2.2) (.slice none 0 0) (.slice none 0 0) (.slice none 0 0),bC b2 (.cells #[.int .i64 0,.int .i64 0,.slice none 0 0,.slice none 0 0,.slice none 0 0,.slice none 0 0] 27 (0,0)),JP b1 r (.slice a1 r.sr.length dZ) (.slice a2 r.de.length dB) (.slice a3 r.ti.length dQ) (.slice a4 r.po.length e9)]) (fun y=>r.sr.length-y.1) ?_ ?_
 ·apply aK (0,none,0) (Zi _)
  case hs1=>exact cj
  case ht=>
   exact .cons .here (.cons .here (.cons .here (.cons .here .nil)))
 rintro ⟨k,g1,rX⟩ hk;dsimp only at hk ⊢;by_cases aL:k<r.sr.length
 ·have cM:=kK (gL aL);have aF:=(kc k _ (fk aL)).2;have a7:=Bc aL;have hlen:(oH (r.sr.take k)).length=k*2:=by rw [Ex,List.length_take];omega
  unfold Sr.cells at aF a7;generalize r.sr[k]=x at aF a7
  (refine Jr<|JA I<|Jn<|Jq<|Jd I fun ar=>Jk<|Jq<|J0<|Jr<|ab (gj cM ar) I ?_;refine ab (iI (eU.base aF I)) I ?_;refine Jz I I fun _ _=>au (.of I) (.of I) .here I I (ie I I) (bF I) an ?_;refine Jn<|Jg<|bK I I ae ?_;refine JL I bT I<|ab (cr .here) I ?_;refine bb (bu (.cons (.of I) .nil) I I bW bW an) I fun _ _=>?_)
  refine bE (.of I) (.of I) bT .here an (by rfl) (ie I I) (by rfl) (by rfl) (by rfl) eV (by rfl) ?_;intro v';refine aW (v:=v') (by exact .here) fun gx cx e=>?_;subst e
  (refine bK I I ae ?_;refine au (.of I) (.of I) db I I (eF I) (bF I) an ?_;refine Jx<|Jj<|Jt<|Jg<|JB I (by omega)<|Jv I<|Jn ?_)
  apply aJ (k+1,gx,cx) (by show k+1<=r.sr.length;omega) (by show r.sr.length-(k+1)<r.sr.length-k;omega)
  case hs1=>exact cj
  case ht=>
   show bn _ [row 118 2 (.slice gx (k+1) cx) (k+1) (oH (r.sr.take (k+1))),JQ b3 r (.slice gx (k+1) cx) (.slice none 0 0) (.slice none 0 0) (.slice none 0 0),bC b2 (.cells #[.int .i64 0,.int .i64 0,.slice none 0 0,.slice none 0 0,.slice none 0 0,.slice none 0 0] 27 (0,0)),JP b1 r (.slice a1 r.sr.length dZ) (.slice a2 r.de.length dB) (.slice a3 r.ti.length dQ) (.slice a4 r.po.length e9)] _;rw [a7];exact .cons (.there .here) (.cons .here (.cons bT (.cons bT .nil)))
 obtain rfl:k=r.sr.length:=by omega
 rw [List.take_length];clear hk aL
 (refine Jr<|JA I<|Jn<|Jq<|Jc I fun ar=>Jp<|Jl<|Jo<|Jt<|Jq<|Jr<|bK I I ae ?_;refine JL I db I<|JI I<|Jv I<|Jn<|J0 ?_)
 refine aP 88 3 ?_;refine aY (ι:=Nat×Option Addr×Nat) (fun y=>y.1<=r.de.length) (fun y=>[(34,.int .i64 (y.1:Nat)),(33,.int .i64 r.de.length),(32,.slice a2 r.de.length dB),(3,.pointer (some ⟨b3,0,none⟩)),(2,.pointer (some ⟨b2,0,none⟩)),(1,.pointer (some ⟨b1,0,none⟩))]) (fun y=>[row 88 3 (.slice y.2.1 y.1 y.2.2) y.1 (l7 (r.de.take y.1)),row 118 2 (.slice g1 r.sr.length rX) r.sr.length (oH r.sr),JQ b3 r (.slice g1 r.sr.length rX) (.slice y.2.1 y.1 y.2.2) (.slice none 0 0) (.slice none 0 0),bC b2 (.cells #[.int .i64 0,.int .i64 0,.slice none 0 0,.slice none 0 0,.slice none 0 0,.slice none 0 0] 27 (0,0)),JP b1 r (.slice a1 r.sr.length dZ) (.slice a2 r.de.length dB) (.slice a3 r.ti.length dQ) (.slice a4 r.po.length e9)]) (fun y=>r.de.length-y.1) ?_ ?_
 ·apply aK (0,none,0) (Zi _)
  case hs1=>exact cj
  case ht=>
   exact .cons .here (.cons .here (.cons .here (.cons .here (.cons .here .nil))))
 rintro ⟨k,g2,xE⟩ hk;dsimp only at hk ⊢;by_cases aL:k<r.de.length
 ·have cM:=iT (gS aL);have aF:=(jL k _ (fu aL)).2;have a7:=Ca aL;have hlen:(l7 (r.de.take k)).length=k*3:=by rw [Fl,List.length_take];omega
  unfold De.cells at aF a7;generalize r.de[k]=x at aF a7
  (refine Jr<|JA I<|Jn<|Jq<|Jd I fun ar=>Jk<|Jq<|J0<|Jr<|ab (gj cM ar) I ?_;refine ab (iI (eU.base aF I)) I ?_;refine Jz I I fun _ _=>au (.of I) (.of I) .here I I (fx I I I) (bF I) an ?_;refine Jn<|Jg<|bK I I ae ?_;refine JL I db I<|ab (cr .here) I ?_;refine bb (bu (.cons (.of I) .nil) I I bW bW an) I fun _ _=>?_)
  refine bE (.of I) (.of I) bT .here an (by rfl) (fx I I I) (by rfl) (by rfl) (by rfl) eV (by rfl) ?_;intro v';refine aW (v:=v') (by exact .here) fun gx cx e=>?_;subst e
  (refine bK I I ae ?_;refine au (.of I) (.of I) fg I I (eF I) (bF I) an ?_;refine Jx<|Jj<|Jt<|Jg<|JB I (by omega)<|Jv I<|Jn ?_)
  apply aJ (k+1,gx,cx) (by show k+1<=r.de.length;omega) (by show r.de.length-(k+1)<r.de.length-k;omega)
  case hs1=>exact cj
  case ht=>
   show bn _ [row 88 3 (.slice gx (k+1) cx) (k+1) (l7 (r.de.take (k+1))),row 118 2 (.slice g1 r.sr.length rX) r.sr.length (oH r.sr),JQ b3 r (.slice g1 r.sr.length rX) (.slice gx (k+1) cx) (.slice none 0 0) (.slice none 0 0),bC b2 (.cells #[.int .i64 0,.int .i64 0,.slice none 0 0,.slice none 0 0,.slice none 0 0,.slice none 0 0] 27 (0,0)),JP b1 r (.slice a1 r.sr.length dZ) (.slice a2 r.de.length dB) (.slice a3 r.ti.length dQ) (.slice a4 r.po.length e9)] _;rw [a7];exact .cons (.there .here) (.cons db (.cons .here (.cons bT (.cons bT .nil))))
 obtain rfl:k=r.de.length:=by omega
 rw [List.take_length];clear hk aL
 (refine Jr<|JA I<|Jn<|Jq<|Jc I fun ar=>Jp<|Jl<|Jo<|Jt<|Jq<|Jr<|bK I I ae ?_;refine JL I fg I<|JI I<|Jv I<|Jn<|J0 ?_)
 refine aP 122 3 ?_;refine aY (ι:=Nat×Option Addr×Nat) (fun y=>y.1<=r.ti.length) (fun y=>[(48,.int .i64 (y.1:Nat)),(47,.int .i64 r.ti.length),(46,.slice a3 r.ti.length dQ),(3,.pointer (some ⟨b3,0,none⟩)),(2,.pointer (some ⟨b2,0,none⟩)),(1,.pointer (some ⟨b1,0,none⟩))]) (fun y=>[row 122 3 (.slice y.2.1 y.1 y.2.2) y.1 (qH (r.ti.take y.1)),row 88 3 (.slice g2 r.de.length xE) r.de.length (l7 r.de),row 118 2 (.slice g1 r.sr.length rX) r.sr.length (oH r.sr),JQ b3 r (.slice g1 r.sr.length rX) (.slice g2 r.de.length xE) (.slice y.2.1 y.1 y.2.2) (.slice none 0 0),bC b2 (.cells #[.int .i64 0,.int .i64 0,.slice none 0 0,.slice none 0 0,.slice none 0 0,.slice none 0 0] 27 (0,0)),JP b1 r (.slice a1 r.sr.length dZ) (.slice a2 r.de.length dB) (.slice a3 r.ti.length dQ) (.slice a4 r.po.length e9)]) (fun y=>r.ti.length-y.1) ?_ ?_
 ·apply aK (0,none,0) (Zi _)
  case hs1=>exact cj
  case ht=>
   exact .cons .here (.cons .here (.cons .here (.cons .here (.cons .here (.cons .here .nil)))))
 rintro ⟨k,g3,Gx⟩ hk;dsimp only at hk ⊢;by_cases aL:k<r.ti.length
 ·have cM:=qA (eO aL);have aF:=(nW k _ (dY aL)).2;have a7:=Ba aL;have hlen:(qH (r.ti.take k)).length=k*3:=by rw [Et,List.length_take];omega
  unfold Ti.cells at aF a7;generalize r.ti[k]=x at aF a7
  (refine Jr<|JA I<|Jn<|Jq<|Jd I fun ar=>Jk<|Jq<|J0<|Jr<|ab (gj cM ar) I ?_;refine ab (iI (eU.base aF I)) I ?_;refine Jz I I fun _ _=>au (.of I) (.of I) .here I I (fx I I I) (bF I) an ?_;refine Jn<|Jg<|bK I I ae ?_;refine JL I fg I<|ab (cr .here) I ?_;refine bb (bu (.cons (.of I) .nil) I I bW bW an) I fun _ _=>?_)
  refine bE (.of I) (.of I) bT .here an (by rfl) (fx I I I) (by rfl) (by rfl) (by rfl) eV (by rfl) ?_;intro v';refine aW (v:=v') (by exact .here) fun gx cx e=>?_;subst e
  (refine bK I I ae ?_;refine au (.of I) (.of I) fy I I (eF I) (bF I) an ?_;refine Jx<|Jj<|Jt<|Jg<|JB I (by omega)<|Jv I<|Jn ?_)
  apply aJ (k+1,gx,cx) (by show k+1<=r.ti.length;omega) (by show r.ti.length-(k+1)<r.ti.length-k;omega)
  case hs1=>exact cj
  case ht=>
   show bn _ [row 122 3 (.slice gx (k+1) cx) (k+1) (qH (r.ti.take (k+1))),row 88 3 (.slice g2 r.de.length xE) r.de.length (l7 r.de),row 118 2 (.slice g1 r.sr.length rX) r.sr.length (oH r.sr),JQ b3 r (.slice g1 r.sr.length rX) (.slice g2 r.de.length xE) (.slice gx (k+1) cx) (.slice none 0 0),bC b2 (.cells #[.int .i64 0,.int .i64 0,.slice none 0 0,.slice none 0 0,.slice none 0 0,.slice none 0 0] 27 (0,0)),JP b1 r (.slice a1 r.sr.length dZ) (.slice a2 r.de.length dB) (.slice a3 r.ti.length dQ) (.slice a4 r.po.length e9)] _;rw [a7];exact .cons (.there .here) (.cons db (.cons db (.cons .here (.cons bT (.cons bT .nil)))))
 obtain rfl:k=r.ti.length:=by omega
 rw [List.take_length];clear hk aL
 (refine Jr<|JA I<|Jn<|Jq<|Jc I fun ar=>Jp<|Jl<|Jo<|Jt<|Jq<|Jr<|bK I I ae ?_;refine JL I fy I<|JI I<|Jv I<|Jn<|J0 ?_)
 refine aP 180 3 ?_;refine aY (ι:=Nat×Option Addr×Nat) (fun y=>y.1<=r.po.length) (fun y=>[(62,.int .i64 (y.1:Nat)),(61,.int .i64 r.po.length),(60,.slice a4 r.po.length e9),(3,.pointer (some ⟨b3,0,none⟩)),(2,.pointer (some ⟨b2,0,none⟩)),(1,.pointer (some ⟨b1,0,none⟩))]) (fun y=>[row 180 3 (.slice y.2.1 y.1 y.2.2) y.1 (jC (r.po.take y.1)),row 122 3 (.slice g3 r.ti.length Gx) r.ti.length (qH r.ti),row 88 3 (.slice g2 r.de.length xE) r.de.length (l7 r.de),row 118 2 (.slice g1 r.sr.length rX) r.sr.length (oH r.sr),JQ b3 r (.slice g1 r.sr.length rX) (.slice g2 r.de.length xE) (.slice g3 r.ti.length Gx) (.slice y.2.1 y.1 y.2.2),bC b2 (.cells #[.int .i64 0,.int .i64 0,.slice none 0 0,.slice none 0 0,.slice none 0 0,.slice none 0 0] 27 (0,0)),JP b1 r (.slice a1 r.sr.length dZ) (.slice a2 r.de.length dB) (.slice a3 r.ti.length dQ) (.slice a4 r.po.length e9)]) (fun y=>r.po.length-y.1) ?_ ?_
 ·apply aK (0,none,0) (Zi _)
  case hs1=>exact cj
  case ht=>
   exact .cons .here (.cons .here (.cons .here (.cons .here (.cons .here (.cons .here (.cons .here .nil))))))
 rintro ⟨k,g4,UT⟩ hk;dsimp only at hk ⊢;by_cases aL:k<r.po.length
 ·have cM:=CE (kD aL);have aF:=(vZ k _ (iN aL)).2;have a7:=Bz aL;have hlen:(jC (r.po.take k)).length=k*3:=by rw [jF,List.length_take];omega
  unfold Po.cells at aF a7;generalize r.po[k]=x at aF a7
  (refine Jr<|JA I<|Jn<|Jq<|Jd I fun ar=>Jk<|Jq<|J0<|Jr<|ab (gj cM ar) I ?_;refine ab (iI (eU.base aF I)) I ?_;refine Jz I I fun _ _=>au (.of I) (.of I) .here I I (fx I I I) (bF I) an ?_;refine Jn<|Jg<|bK I I ae ?_;refine JL I fy I<|ab (cr .here) I ?_;refine bb (bu (.cons (.of I) .nil) I I bW bW an) I fun _ _=>?_)
  refine bE (.of I) (.of I) bT .here an (by rfl) (fx I I I) (by rfl) (by rfl) (by rfl) eV (by rfl) ?_;intro v';refine aW (v:=v') (by exact .here) fun gx cx e=>?_;subst e
  (refine bK I I ae ?_;refine au (.of I) (.of I) re I I (eF I) (bF I) an ?_;refine Jx<|Jj<|Jt<|Jg<|JB I (by omega)<|Jv I<|Jn ?_)
  apply aJ (k+1,gx,cx) (by show k+1<=r.po.length;omega) (by show r.po.length-(k+1)<r.po.length-k;omega)
  case hs1=>exact cj
  case ht=>
   show bn _ [row 180 3 (.slice gx (k+1) cx) (k+1) (jC (r.po.take (k+1))),row 122 3 (.slice g3 r.ti.length Gx) r.ti.length (qH r.ti),row 88 3 (.slice g2 r.de.length xE) r.de.length (l7 r.de),row 118 2 (.slice g1 r.sr.length rX) r.sr.length (oH r.sr),JQ b3 r (.slice g1 r.sr.length rX) (.slice g2 r.de.length xE) (.slice g3 r.ti.length Gx) (.slice gx (k+1) cx),bC b2 (.cells #[.int .i64 0,.int .i64 0,.slice none 0 0,.slice none 0 0,.slice none 0 0,.slice none 0 0] 27 (0,0)),JP b1 r (.slice a1 r.sr.length dZ) (.slice a2 r.de.length dB) (.slice a3 r.ti.length dQ) (.slice a4 r.po.length e9)] _;rw [a7];exact .cons (.there .here) (.cons db (.cons db (.cons db (.cons .here (.cons bT (.cons bT .nil))))))
 obtain rfl:k=r.po.length:=by omega
 rw [List.take_length];clear hk aL
 (refine Jr<|JA I<|Jn<|Jq<|Jc I fun ar=>Jp<|Jl<|Jo<|Jt<|Jr<|ab (cr fg) I ?_;refine au (.of I) (.of I) fy I I (iS I I I I I I) (bF I) an ?_;refine Jn<|Je ?_)
 first | with_reducible apply aN | with_reducible apply aO
 case he=>exact kW I inferInstance I .here an (by rfl)
 case hR=>
  intro w' aq;exact aG (.slice g1 r.sr.length rX,.slice g2 r.de.length xE,.slice g3 r.ti.length Gx,.slice g4 r.po.length UT) trivial (by exact .cons fg (.cons db (.cons bT (.cons (.there .here) .nil)))) aq I
end Go.Proofs.A1
