/- Parts of the proof: TBp T3p T4p T5p T7p GkCopyS U9p U3 U4. -/
import Derived.Test.YthhidjfahmcekaaGreatDoorQM08
import Derived.Test.YthhidjfahmcekaaGreatDoorQM06
import Derived.Test.YthhidjfahmcekaaGreatDoorQM07
import Derived.Test.YthhidjfahmcekaaGreatDoorQM05
set_option linter.unusedSectionVars false
set_option linter.unusedVariables false
set_option linter.unusedSimpArgs false
namespace Go.Proofs.A1
open Go Go.SL
def dgC (n:Int):UInt8:=UInt8.ofNat (48 + n).toNat
theorem dgC_nat {n:Int} (h:0 ≤ n ∧ n ≤ 9):((dgC n).toNat:Int) = 48 + n:=by
  unfold dgC
  rw [ofNat_toNat (by omega)];omega
theorem dgC_dg {n:Int} (h:0 ≤ n ∧ n ≤ 9):isDg (dgC n) = true:=by
  have:=dgC_nat h
  unfold isDg
  rw [decide_eq_true (by omega),decide_eq_true (by omega)];rfl
theorem dgC_of {c:UInt8} (h:isDg c = true):dgC ((c.toNat:Int) - 48) = c:=by
  unfold isDg at h
  rw [Bool.and_eq_true,decide_eq_true_eq,decide_eq_true_eq] at h
  unfold dgC
  rw [show (48 + ((c.toNat:Int) - 48)).toNat = c.toNat by omega]
  simp
def twoL (n:Int):List UInt8:=[dgC (n / 10),dgC (n % 10)]
def mkC (b:Bool):UInt8:=if b then 59 else 58
def lbW (s:Stm):List UInt8:=[dgC (s.la.h / 10),dgC (s.la.h % 10),58,dgC (s.la.m / 10),dgC (s.la.m % 10),58,dgC (s.la.s / 10),dgC (s.la.s % 10),mkC s.ra.dr,dgC (s.la.f / 10),dgC (s.la.f % 10)]
def prtL (s:Stm):List UInt8:=lbW s++32 :: ([97,116]++32 :: (Lib.decDigits s.ra.fr.toNat++32 :: Lib.decDigits s.us.toNat))
def atD (l:List UInt8) (i:Nat):UInt8:=l.getD i 0
def d2 (l:List UInt8) (i:Nat):Int:=10 * (((atD l i).toNat:Int) - 48) + (((atD l (i + 1)).toNat:Int) - 48)
def d2B (l:List UInt8) (i:Nat):Bool:=isDg (atD l i) && isDg (atD l (i + 1))
def lbB (l:List UInt8):Bool:=decide (l.length = 11) && (d2B l 0 && (d2B l 3 && (d2B l 6 && (d2B l 9 && (decide (atD l 2 = 58) && (decide (atD l 5 = 58) && (decide (atD l 8 = 58) || decide (atD l 8 = 59))))))))
def nmB (l:List UInt8):Bool:=numB l && decide (l.length ≤ 5)
def wd (w:List (List UInt8)) (i:Nat):List UInt8:=w.getD i []
def psB (l:List UInt8):Bool:=decide ((splL 32 l).length = 4) && (decide (wd (splL 32 l) 1 = [97,116]) && (lbB (wd (splL 32 l) 0) && (nmB (wd (splL 32 l) 2) && nmB (wd (splL 32 l) 3))))
def psS (l:List UInt8):Stm:=⟨⟨digV (wd (splL 32 l) 2),decide (atD (wd (splL 32 l) 0) 8 = 59)⟩,⟨d2 (wd (splL 32 l) 0) 0,d2 (wd (splL 32 l) 0) 3,d2 (wd (splL 32 l) 0) 6,d2 (wd (splL 32 l) 0) 9⟩,digV (wd (splL 32 l) 3)⟩
def psE (l:List UInt8):Int:=if 4096 < l.length then 26 else if psB l then stmE (psS l) else 25
def psF (l:List UInt8):Stm:=if psE l = 0 then psS l else Stm.zero
theorem dec_free (m:Nat):(32:UInt8) ∉ Lib.decDigits m:=fun h=>by
  have:=(dec_all m).1
  unfold digB at this
  rw [List.all_eq_true] at this
  exact absurd (this _ h) (by decide)
theorem dg_ne {n:Int} (h:0 ≤ n ∧ n ≤ 9):dgC n ≠ 32:=fun e=>by
  have:=dgC_dg h
  rw [e] at this
  exact absurd this (by decide)
theorem lbW_free {s:Stm} (h:StOk s):(32:UInt8) ∉ lbW s:=by
  have h1:=h.la.h;have h2:=h.la.m;have h3:=h.la.s;have h4:=h.la.f;have h5:=h.la.ra.fr
  have a1:=dg_ne (n:=s.la.h / 10) (by omega);have a2:=dg_ne (n:=s.la.h % 10) (by omega)
  have b1:=dg_ne (n:=s.la.m / 10) (by omega);have b2:=dg_ne (n:=s.la.m % 10) (by omega)
  have c1:=dg_ne (n:=s.la.s / 10) (by omega);have c2:=dg_ne (n:=s.la.s % 10) (by omega)
  have e1:=dg_ne (n:=s.la.f / 10) (by omega);have e2:=dg_ne (n:=s.la.f % 10) (by omega)
  have hm:mkC s.ra.dr ≠ 32:=by unfold mkC;split <;> decide
  unfold lbW
  simp only [List.mem_cons,List.not_mem_nil,or_false,not_or]
  exact ⟨a1.symm,a2.symm,by decide,b1.symm,b2.symm,by decide,c1.symm,c2.symm,hm.symm,e1.symm,e2.symm⟩
theorem splL_prt {s:Stm} (h:StOk s):splL 32 (prtL s) = [lbW s,[97,116],Lib.decDigits s.ra.fr.toNat,Lib.decDigits s.us.toNat]:=by
  unfold prtL
  rw [splL_app (lbW_free h),splL_app (by decide),splL_app (dec_free _),splL_free (dec_free _)]
theorem dec_5 {n:Int} (h:0 ≤ n ∧ n ≤ 65535):nmB (Lib.decDigits n.toNat) = true ∧ digV (Lib.decDigits n.toNat) = n:=by
  have h1:=num_dec (m:=n.toNat) (by omega)
  have h2:=decDigits_len n.toNat 5 (by omega) (by omega)
  have h3:=(dec_all n.toNat).2.1
  unfold nmB
  rw [h1.1,decide_eq_true h2,h3]
  exact ⟨rfl,by omega⟩
theorem d2_dg {n:Int} (h:0 ≤ n ∧ n ≤ 59):10 * (((dgC (n / 10)).toNat:Int) - 48) + (((dgC (n % 10)).toNat:Int) - 48) = n:=by
  rw [dgC_nat (by omega),dgC_nat (by omega)];omega
theorem lbB_lbW {s:Stm} (h:StOk s):lbB (lbW s) = true:=by
  have h1:=h.la.h;have h2:=h.la.m;have h3:=h.la.s;have h4:=h.la.f;have h5:=h.la.ra.fr
  have a1:=dgC_dg (n:=s.la.h / 10) (by omega);have a2:=dgC_dg (n:=s.la.h % 10) (by omega)
  have b1:=dgC_dg (n:=s.la.m / 10) (by omega);have b2:=dgC_dg (n:=s.la.m % 10) (by omega)
  have c1:=dgC_dg (n:=s.la.s / 10) (by omega);have c2:=dgC_dg (n:=s.la.s % 10) (by omega)
  have e1:=dgC_dg (n:=s.la.f / 10) (by omega);have e2:=dgC_dg (n:=s.la.f % 10) (by omega)
  have hm:(decide (mkC s.ra.dr = 58) || decide (mkC s.ra.dr = 59)) = true:=by cases s.ra.dr <;> decide
  unfold lbB d2B
  show (true && ((isDg (dgC (s.la.h / 10)) && isDg (dgC (s.la.h % 10))) && ((isDg (dgC (s.la.m / 10)) && isDg (dgC (s.la.m % 10))) && ((isDg (dgC (s.la.s / 10)) && isDg (dgC (s.la.s % 10))) && ((isDg (dgC (s.la.f / 10)) && isDg (dgC (s.la.f % 10))) && (true && (true && (decide (mkC s.ra.dr = 58) || decide (mkC s.ra.dr = 59))))))))) = true
  rw [a1,a2,b1,b2,c1,c2,e1,e2,hm];rfl
theorem prt_len {s:Stm} (h:StOk s):(prtL s).length ≤ 26:=by
  have h5:=h.la.ra.fr;have h6:=h.us
  have l1:=decDigits_len s.ra.fr.toNat 5 (by omega) (by omega)
  have l2:=decDigits_len s.us.toNat 5 (by omega) (by omega)
  unfold prtL
  have h11:(lbW s).length = 11:=rfl
  simp only [List.length_append,List.length_cons,List.length_nil,h11]
  omega
theorem ps_prt {s:Stm} (h:StOk s):psE (prtL s) = 0 ∧ psF (prtL s) = s:=by
  have h1:=h.la.h;have h2:=h.la.m;have h3:=h.la.s;have h4:=h.la.f;have h5:=h.la.ra.fr;have h6:=h.us
  have n1:=dec_5 (n:=s.ra.fr) (by omega)
  have n2:=dec_5 h6
  have hB:psB (prtL s) = true:=by
    unfold psB
    rw [splL_prt h]
    show (true && (true && (lbB (lbW s) && (nmB (Lib.decDigits s.ra.fr.toNat) && nmB (Lib.decDigits s.us.toNat))))) = true
    rw [lbB_lbW h,n1.1,n2.1];rfl
  have hS:psS (prtL s) = s:=by
    unfold psS
    rw [splL_prt h]
    show Stm.mk ⟨digV (Lib.decDigits s.ra.fr.toNat),decide (mkC s.ra.dr = 59)⟩ ⟨10 * (((dgC (s.la.h / 10)).toNat:Int) - 48) + (((dgC (s.la.h % 10)).toNat:Int) - 48),10 * (((dgC (s.la.m / 10)).toNat:Int) - 48) + (((dgC (s.la.m % 10)).toNat:Int) - 48),10 * (((dgC (s.la.s / 10)).toNat:Int) - 48) + (((dgC (s.la.s % 10)).toNat:Int) - 48),10 * (((dgC (s.la.f / 10)).toNat:Int) - 48) + (((dgC (s.la.f % 10)).toNat:Int) - 48)⟩ (digV (Lib.decDigits s.us.toNat)) = s
    rw [n1.2,n2.2,d2_dg (by omega),d2_dg (by omega),d2_dg (by omega),d2_dg (by omega)]
    have hm:decide (mkC s.ra.dr = 59) = s.ra.dr:=by cases s.ra.dr <;> decide
    rw [hm]
  have hl:=prt_len h
  have hE:psE (prtL s) = 0:=by
    unfold psE
    rw [if_neg (by omega),if_pos hB,hS]
    exact stmE_zero.2 h
  exact ⟨hE,by unfold psF;rw [if_pos hE,hS]⟩
theorem ps_ok {l:List UInt8} (h:psE l = 0):psB l = true ∧ StOk (psS l) ∧ psF l = psS l:=by
  have h0:=h
  unfold psE at h
  split at h
  · exact absurd h (by decide)
  split at h
  · rename_i hB
    exact ⟨hB,stmE_zero.1 h,by unfold psF;rw [if_pos h0]⟩
  · exact absurd h (by decide)
theorem d2_eq {l:List UInt8} {i:Nat} (h:d2B l i = true):0 ≤ d2 l i ∧ d2 l i ≤ 99 ∧ dgC (d2 l i / 10) = atD l i ∧ dgC (d2 l i % 10) = atD l (i + 1):=by
  unfold d2B at h
  rw [Bool.and_eq_true] at h
  have e1:=dgC_of h.1
  have e2:=dgC_of h.2
  obtain ⟨h1,h2⟩:=h
  unfold isDg at h1 h2
  rw [Bool.and_eq_true,decide_eq_true_eq,decide_eq_true_eq] at h1 h2
  unfold d2
  refine ⟨by omega,by omega,?_,?_⟩
  · rw [show (10 * (((atD l i).toNat:Int) - 48) + (((atD l (i + 1)).toNat:Int) - 48)) / 10 = ((atD l i).toNat:Int) - 48 by omega,e1]
  · rw [show (10 * (((atD l i).toNat:Int) - 48) + (((atD l (i + 1)).toNat:Int) - 48)) % 10 = ((atD l (i + 1)).toNat:Int) - 48 by omega,e2]
theorem nm_dec {l:List UInt8} (h:nmB l = true):Lib.decDigits (digV l).toNat = l ∧ 0 ≤ digV l:=by
  unfold nmB at h
  rw [Bool.and_eq_true] at h
  have h1:=itoa_num h.1
  rw [intV_num h.1] at h1
  have hr:=(digV_range (numB_iff.1 h.1).2.1).1
  have e:digV l = ((digV l).toNat:Int):=by omega
  rw [e,itoaB_nat] at h1
  exact ⟨bsL_inj h1,hr⟩
theorem prt_ps {l:List UInt8} (h:psE l = 0):StOk (psF l) ∧ prtL (psF l) = l:=by
  obtain ⟨hB,ho,e⟩:=ps_ok h
  rw [e]
  refine ⟨ho,?_⟩
  unfold psB at hB
  simp only [Bool.and_eq_true,decide_eq_true_eq] at hB
  obtain ⟨h4,hat,hl,hn1,hn2⟩:=hB
  obtain ⟨w0,w1,w2,w3,hw⟩:∃ w0 w1 w2 w3,splL 32 l = [w0,w1,w2,w3]:=by
    match splL 32 l,h4 with
    | [a,b,c,d],_=>exact ⟨a,b,c,d,rfl⟩
  have hj:=join_splL 32 l
  have hS:psS l = ⟨⟨digV w2,decide (atD w0 8 = 59)⟩,⟨d2 w0 0,d2 w0 3,d2 w0 6,d2 w0 9⟩,digV w3⟩:=by unfold psS;rw [hw];rfl
  rw [hw] at hat hl hn1 hn2 hj
  rw [hS]
  clear ho e hS hw h4 h
  change w1 = [97,116] at hat
  change lbB w0 = true at hl
  change nmB w2 = true at hn1
  change nmB w3 = true at hn2
  subst hat
  have m2:=(nm_dec hn1).1
  have m3:=(nm_dec hn2).1
  have hw0:lbW ⟨⟨digV w2,decide (atD w0 8 = 59)⟩,⟨d2 w0 0,d2 w0 3,d2 w0 6,d2 w0 9⟩,digV w3⟩ = w0:=by
    unfold lbB at hl
    simp only [Bool.and_eq_true,decide_eq_true_eq] at hl
    obtain ⟨h11,g0,g3,g6,g9,c2,c5,c8⟩:=hl
    have f0:=d2_eq g0;have f3:=d2_eq g3;have f6:=d2_eq g6;have f9:=d2_eq g9
    unfold lbW
    dsimp only
    rw [f0.2.2.1,f0.2.2.2,f3.2.2.1,f3.2.2.2,f6.2.2.1,f6.2.2.2,f9.2.2.1,f9.2.2.2]
    have hm:mkC (decide (atD w0 8 = 59)) = atD w0 8:=by
      rw [Bool.or_eq_true,decide_eq_true_eq,decide_eq_true_eq] at c8
      rcases c8 with e | e <;> rw [e] <;> decide
    rw [hm]
    match w0,h11 with
    | [x0, x1, x2, x3, x4, x5, x6, x7, x8, x9, x10], _ =>
      change x2 = 58 at c2
      change x5 = 58 at c5
      subst c2 c5
      rfl
  unfold prtL
  rw [hw0]
  dsimp only
  rw [m2,m3,← hj,join_two,join_two,join_two,Lib.join_one]
theorem ps_lf {s:Stm} (h:StOk s):psE (prtL s++[10]) = 25 ∧ psE (32 :: prtL s) = 25:=by
  have hl:=prt_len h
  constructor
  · unfold psE
    rw [if_neg (by rw [List.length_append,List.length_singleton];omega),if_neg]
    have e:splL 32 (prtL s++[10]) = [lbW s,[97,116],Lib.decDigits s.ra.fr.toNat,Lib.decDigits s.us.toNat++[10]]:=by
      have:prtL s++[10] = lbW s++32 :: ([97,116]++32 :: (Lib.decDigits s.ra.fr.toNat++32 :: (Lib.decDigits s.us.toNat++[10]))):=by
        unfold prtL;simp only [List.append_assoc,List.cons_append]
      rw [this,splL_app (lbW_free h),splL_app (by decide),splL_app (dec_free _),splL_free]
      intro hm
      rcases List.mem_append.1 hm with hm | hm
      · exact dec_free _ hm
      · exact absurd hm (by decide)
    unfold psB
    rw [e]
    intro hB
    simp only [Bool.and_eq_true] at hB
    have h5:nmB (Lib.decDigits s.us.toNat++[10]) = true:=hB.2.2.2.2
    unfold nmB at h5
    rw [Bool.and_eq_true] at h5
    have h6:=(numB_iff.1 h5.1).2.1
    rw [digB_app] at h6
    simp only [Bool.and_eq_true] at h6
    exact absurd h6.2 (by decide)
  · unfold psE
    rw [if_neg (by rw [List.length_cons];omega),if_neg]
    have e:splL 32 (32 :: prtL s) = [[],lbW s,[97,116],Lib.decDigits s.ra.fr.toNat,Lib.decDigits s.us.toNat]:=by
      rw [splL,if_pos rfl,splL_prt h]
    unfold psB
    rw [e]
    intro hB
    simp only [Bool.and_eq_true,decide_eq_true_eq] at hB
    exact absurd hB.1 (by simp)
def pairS (r:List UInt8) (b:Bool):Int × List UInt8 × Bool:=if r.length < 2 then (0,r,true) else (if digB (r.take 2) then digV (r.take 2) else 0,r.drop 2,b || !digB (r.take 2))
def oneS (of r:List UInt8) (b:Bool):UInt8 × List UInt8 × Bool:=if r = [] ∨ r.headD 0 ∉ of then (0,r,true) else (r.headD 0,r.tail,b)
theorem pairS_ok {r:List UInt8} {b:Bool} (h:(pairS r b).2.2 = false):b = false ∧ ∃ x y t,r = x :: y :: t ∧ isDg x = true ∧ isDg y = true ∧ pairS r b = (10 * ((x.toNat:Int) - 48) + ((y.toNat:Int) - 48),t,false):=by
  unfold pairS at h ⊢
  split at h
  · exact absurd h (by simp)
  rename_i hl
  match r,hl with
  | [],hl=>exact absurd (by simp) hl
  | [x],hl=>exact absurd (by simp) hl
  | x :: y :: t, hl =>
    simp only [Bool.or_eq_false_iff,Bool.not_eq_false'] at h
    obtain ⟨h1,h2⟩:=h
    have h3:=h2
    change digB [x,y] = true at h3
    unfold digB at h3
    simp only [List.all_cons,List.all_nil,Bool.and_true,Bool.and_eq_true] at h3
    refine ⟨h1,x,y,t,rfl,h3.1,h3.2,?_⟩
    rw [if_neg hl,h1]
    have h4:digB (List.take 2 (x :: y :: t)) = true:=h2
    rw [h4]
    show (10 * (10 * 0 + ((x.toNat:Int) - 48)) + ((y.toNat:Int) - 48),t,false) = _
    congr 1
    omega
theorem oneS_ok {of r:List UInt8} {b:Bool} (h:(oneS of r b).2.2 = false):b = false ∧ ∃ x t,r = x :: t ∧ x ∈ of ∧ oneS of r b = (x,t,false):=by
  unfold oneS at h ⊢
  split at h
  · exact absurd h (by simp)
  rename_i hc
  rw [not_or,Decidable.not_not] at hc
  match r,hc with
  | [],hc=>exact absurd rfl hc.1
  | x :: t, hc =>
    have hb:b = false:=h
    subst hb
    refine ⟨rfl,x,t,rfl,hc.2,?_⟩
    rw [if_neg]
    · rfl
    · rw [not_or,Decidable.not_not];exact hc
theorem pairS_do {x y:UInt8} {t:List UInt8} (hx:isDg x = true) (hy:isDg y = true):pairS (x :: y :: t) false = (10 * ((x.toNat:Int) - 48) + ((y.toNat:Int) - 48),t,false):=by
  have h:(pairS (x :: y :: t) false).2.2 = false:=by
    unfold pairS
    rw [if_neg (by simp)]
    show (false || !digB [x,y]) = false
    unfold digB
    simp [hx,hy]
  obtain ⟨_,x',y',t',e,_,_,h2⟩:=pairS_ok h
  cases e
  exact h2
theorem oneS_do {of:List UInt8} {x:UInt8} {t:List UInt8} (h:x ∈ of):oneS of (x :: t) false = (x,t,false):=by
  unfold oneS
  rw [if_neg]
  · rfl
  · rw [not_or,Decidable.not_not];exact ⟨by simp,h⟩
structure Tk where
  h:Int
  m:Int
  s:Int
  f:Int
  c:UInt8
  rest:List UInt8
  bad:Bool
def tk1 (r:List UInt8):=pairS r false
def tk2 (r:List UInt8):=oneS [58] (tk1 r).2.1 (tk1 r).2.2
def tk3 (r:List UInt8):=pairS (tk2 r).2.1 (tk2 r).2.2
def tk4 (r:List UInt8):=oneS [58] (tk3 r).2.1 (tk3 r).2.2
def tk5 (r:List UInt8):=pairS (tk4 r).2.1 (tk4 r).2.2
def tk6 (r:List UInt8):=oneS [58,59] (tk5 r).2.1 (tk5 r).2.2
def tk7 (r:List UInt8):=pairS (tk6 r).2.1 (tk6 r).2.2
theorem tk_all (r:List UInt8):(lbB r = true ↔ (tk7 r).2.2 = false ∧ (tk7 r).2.1 = []) ∧ (lbB r = true → (tk1 r).1 = d2 r 0 ∧ (tk3 r).1 = d2 r 3 ∧ (tk5 r).1 = d2 r 6 ∧ (tk7 r).1 = d2 r 9 ∧ (tk6 r).1 = atD r 8):=by
  have hfw:lbB r = true → ((tk7 r).2.2 = false ∧ (tk7 r).2.1 = []) ∧ (tk1 r).1 = d2 r 0 ∧ (tk3 r).1 = d2 r 3 ∧ (tk5 r).1 = d2 r 6 ∧ (tk7 r).1 = d2 r 9 ∧ (tk6 r).1 = atD r 8:=fun h=>by
    unfold lbB at h
    simp only [Bool.and_eq_true,decide_eq_true_eq] at h
    obtain ⟨h11,g0,g3,g6,g9,c2,c5,c8⟩:=h
    match r,h11 with
    | [x0, x1, x2, x3, x4, x5, x6, x7, x8, x9, x10], _ =>
      change (isDg x0 && isDg x1) = true at g0
      change (isDg x3 && isDg x4) = true at g3
      change (isDg x6 && isDg x7) = true at g6
      change (isDg x9 && isDg x10) = true at g9
      change x2 = 58 at c2
      change x5 = 58 at c5
      change (decide (x8 = 58) || decide (x8 = 59)) = true at c8
      rw [Bool.and_eq_true] at g0 g3 g6 g9
      rw [Bool.or_eq_true,decide_eq_true_eq,decide_eq_true_eq] at c8
      subst c2 c5
      have e1:tk1 [x0,x1,58,x3,x4,58,x6,x7,x8,x9,x10] = (10 * ((x0.toNat:Int) - 48) + ((x1.toNat:Int) - 48),[58,x3,x4,58,x6,x7,x8,x9,x10],false):=pairS_do g0.1 g0.2
      have e2:tk2 [x0,x1,58,x3,x4,58,x6,x7,x8,x9,x10] = (58,[x3,x4,58,x6,x7,x8,x9,x10],false):=by unfold tk2;rw [e1];exact oneS_do (by simp)
      have e3:tk3 [x0,x1,58,x3,x4,58,x6,x7,x8,x9,x10] = (10 * ((x3.toNat:Int) - 48) + ((x4.toNat:Int) - 48),[58,x6,x7,x8,x9,x10],false):=by unfold tk3;rw [e2];exact pairS_do g3.1 g3.2
      have e4:tk4 [x0,x1,58,x3,x4,58,x6,x7,x8,x9,x10] = (58,[x6,x7,x8,x9,x10],false):=by unfold tk4;rw [e3];exact oneS_do (by simp)
      have e5:tk5 [x0,x1,58,x3,x4,58,x6,x7,x8,x9,x10] = (10 * ((x6.toNat:Int) - 48) + ((x7.toNat:Int) - 48),[x8,x9,x10],false):=by unfold tk5;rw [e4];exact pairS_do g6.1 g6.2
      have e6:tk6 [x0,x1,58,x3,x4,58,x6,x7,x8,x9,x10] = (x8,[x9,x10],false):=by unfold tk6;rw [e5];exact oneS_do (by simpa using c8)
      have e7:tk7 [x0,x1,58,x3,x4,58,x6,x7,x8,x9,x10] = (10 * ((x9.toNat:Int) - 48) + ((x10.toNat:Int) - 48),[],false):=by unfold tk7;rw [e6];exact pairS_do g9.1 g9.2
      rw [e7,e6,e5,e3,e1]
      exact ⟨⟨rfl,rfl⟩,rfl,rfl,rfl,rfl,rfl⟩
  refine ⟨⟨fun h=>(hfw h).1,fun ⟨h,hr⟩=>?_⟩,fun h=>(hfw h).2⟩
  obtain ⟨b7,x9,x10,t7,r7,p9,p10,e7⟩:=pairS_ok (r:=(tk6 r).2.1) (b:=(tk6 r).2.2) h
  obtain ⟨b6,x8,t6,r6,p8,e6⟩:=oneS_ok (of:=[58,59]) (r:=(tk5 r).2.1) (b:=(tk5 r).2.2) b7
  obtain ⟨b5,x6,x7,t5,r5,p6,p7,e5⟩:=pairS_ok (r:=(tk4 r).2.1) (b:=(tk4 r).2.2) b6
  obtain ⟨b4,x5,t4,r4,p5,e4⟩:=oneS_ok (of:=[58]) (r:=(tk3 r).2.1) (b:=(tk3 r).2.2) b5
  obtain ⟨b3,x3,x4,t3,r3,p3,p4,e3⟩:=pairS_ok (r:=(tk2 r).2.1) (b:=(tk2 r).2.2) b4
  obtain ⟨b2,x2,t2,r2,p2,e2⟩:=oneS_ok (of:=[58]) (r:=(tk1 r).2.1) (b:=(tk1 r).2.2) b3
  obtain ⟨-,x0,x1,t1,r1,p0,p1,e1⟩:=pairS_ok (r:=r) (b:=false) b2
  have f1:(tk1 r).2.1 = t1:=congrArg (·.2.1) e1
  have f2:(tk2 r).2.1 = t2:=congrArg (·.2.1) e2
  have f3:(tk3 r).2.1 = t3:=congrArg (·.2.1) e3
  have f4:(tk4 r).2.1 = t4:=congrArg (·.2.1) e4
  have f5:(tk5 r).2.1 = t5:=congrArg (·.2.1) e5
  have f6:(tk6 r).2.1 = t6:=congrArg (·.2.1) e6
  have f7:(tk7 r).2.1 = t7:=congrArg (·.2.1) e7
  rw [f7] at hr
  rw [f1] at r2;rw [f2] at r3;rw [f3] at r4;rw [f4] at r5;rw [f5] at r6;rw [f6] at r7
  subst hr r7 r6 r5 r4 r3 r2
  clear f1 f2 f3 f4 f5 f6 f7 e1 e2 e3 e4 e5 e6 e7 b2 b3 b4 b5 b6 b7 h hfw
  subst r1
  simp only [List.mem_cons,List.not_mem_nil,or_false] at p2 p5 p8
  subst p2 p5
  unfold lbB d2B
  show (true && ((isDg x0 && isDg x1) && ((isDg x3 && isDg x4) && ((isDg x6 && isDg x7) && ((isDg x9 && isDg x10) && (true && (true && (decide (x8 = 58) || decide (x8 = 59))))))))) = true
  rw [p0,p1,p3,p4,p6,p7,p9,p10]
  rcases p8 with e | e <;> subst e <;> decide
end Go.Proofs.A1
namespace Go.Proofs.A1
open Go Go.SL
theorem rdE_sync {w:List Int} (h:wa w 8 ≠ 63 ∨ wa w 9 ≠ 253):rdE w ≠ 0:=by unfold rdE;rw [if_pos h];decide
def win (s:List Int) (i:Nat):List Int:=(s.drop i).take 10
def hitF (s:List Int):Nat → Nat → List (Stm × Nat)
  | 0,_=>[]
  | n + 1,i=>if i + 10 ≤ s.length then (if rdE (win s i) = 0 then (rdF (win s i),i) :: hitF s n (i + 10) else hitF s n (i + 1)) else []
theorem hitF_fuel (s:List Int):∀ n i m,s.length - i ≤ n → s.length - i ≤ m → hitF s n i = hitF s m i
  | 0, i, m, h, _ => by
    cases m with
    | zero=>rfl
    | succ m=>rw [hitF,hitF,if_neg (by omega)]
  | n + 1,i,0,_,h=>by rw [hitF,hitF,if_neg (by omega)]
  | n + 1, i, m + 1, h1, h2 => by
    rw [hitF,hitF]
    split
    · split
      · rw [hitF_fuel s n (i + 10) m (by omega) (by omega)]
      · rw [hitF_fuel s n (i + 1) m (by omega) (by omega)]
    · rfl
def hitL (s:List Int) (i:Nat):List (Stm × Nat):=hitF s (s.length - i) i
theorem hit_hit {s:List Int} {i:Nat} (h:i + 10 ≤ s.length) (h0:rdE (win s i) = 0):hitL s i = (rdF (win s i),i) :: hitL s (i + 10):=by
  unfold hitL
  obtain ⟨n,hn⟩:∃ n,s.length - i = n + 1:=⟨s.length - i - 1,by omega⟩
  rw [hn,hitF,if_pos h,if_pos h0,hitF_fuel s n (i + 10) (s.length - (i + 10)) (by omega) (by omega)]
theorem hit_miss {s:List Int} {i:Nat} (h:i + 10 ≤ s.length) (h0:rdE (win s i) ≠ 0):hitL s i = hitL s (i + 1):=by
  unfold hitL
  obtain ⟨n,hn⟩:∃ n,s.length - i = n + 1:=⟨s.length - i - 1,by omega⟩
  rw [hn,hitF,if_pos h,if_neg h0,hitF_fuel s n (i + 1) (s.length - (i + 1)) (by omega) (by omega)]
theorem hit_end {s:List Int} {i:Nat} (h:s.length < i + 10):hitL s i = []:=by
  unfold hitL
  cases hn:s.length - i with
  | zero=>rfl
  | succ n=>rw [hitF,if_neg (by omega)]
theorem word_len (x:Stm):(wordF x).length = 10:=rfl
end Go.Proofs.A1
namespace Go.Proofs.A1
open Go Go.SL
end Go.Proofs.A1
namespace Go.Proofs.A1
open Go Go.SL
theorem ofInt_toNat (v:BitVec 8):BitVec.ofInt 8 (v.toNat:Int) = v:=by
  apply BitVec.eq_of_toNat_eq
  rw [BitVec.toNat_ofInt]
  have:=v.isLt
  show (((v.toNat:Nat):Int) % ((2 ^ 8:Nat):Int)).toNat = v.toNat
  omega
def bvF (l:List Int) (v:BitVec 8):BitVec 8:=l.foldl (fun v x=>v ^^^ BitVec.ofInt 8 x) v
theorem fold_bv:∀ (l:List Int) (v:BitVec 8),l.foldl xorF (v.toNat:Int) = ((bvF l v).toNat:Nat)
  | [],v=>rfl
  | x :: r, v => by
    rw [List.foldl_cons,show xorF (v.toNat:Int) x = ((v ^^^ BitVec.ofInt 8 x).toNat:Nat) by unfold xorF;rw [ofInt_toNat],fold_bv r]
    rfl
theorem parF_bv (l:List Int):parF l = ((bvF l 0#8).toNat:Nat):=fold_bv l 0#8
theorem bvF_xor:∀ (l:List Int) (v c:BitVec 8),bvF l (v ^^^ c) = bvF l v ^^^ c
  | [],v,c=>rfl
  | x :: r, v, c => by
    show bvF r ((v ^^^ c) ^^^ BitVec.ofInt 8 x) = bvF r (v ^^^ BitVec.ofInt 8 x) ^^^ c
    rw [← bvF_xor r,BitVec.xor_assoc,BitVec.xor_comm c,← BitVec.xor_assoc]
theorem ofInt_xorF (a b:Int):BitVec.ofInt 8 (xorF a b) = BitVec.ofInt 8 a ^^^ BitVec.ofInt 8 b:=by unfold xorF;rw [ofInt_toNat]
theorem bvF_app (a b:List Int) (v:BitVec 8):bvF (a++b) v = bvF b (bvF a v):=by unfold bvF;rw [List.foldl_append]
theorem par_set {l:List Int} {m:Nat} {c:Int} (hm:m < l.length) (hc:BitVec.ofInt 8 c ≠ 0#8):parF (l.set m (xorF (wa l m) c)) ≠ parF l:=by
  have e1:l = l.take m++wa l m :: l.drop (m + 1):=by
    have:wa l m = l[m]:=by unfold wa;rw [List.getD_eq_getElem?_getD,List.getElem?_eq_getElem hm];rfl
    rw [this,← List.drop_eq_getElem_cons hm,List.take_append_drop]
  have e2:l.set m (xorF (wa l m) c) = l.take m++xorF (wa l m) c :: l.drop (m + 1):=by
    rw [List.set_eq_take_append_cons_drop,if_pos hm]
  rw [e2]
  conv=>rhs;rw [e1]
  rw [parF_bv,parF_bv,bvF_app,bvF_app]
  show ((bvF (l.drop (m + 1)) (_ ^^^ BitVec.ofInt 8 (xorF (wa l m) c))).toNat:Int) ≠ ((bvF (l.drop (m + 1)) (_ ^^^ BitVec.ofInt 8 (wa l m))).toNat:Int)
  rw [ofInt_xorF,← BitVec.xor_assoc,bvF_xor]
  intro e
  have e:=BitVec.eq_of_toNat_eq (Int.ofNat.inj e)
  apply hc
  generalize bvF (l.drop (m + 1)) _ = v at e
  have:=congrArg (fun x=>v ^^^ x) e
  simp only [← BitVec.xor_assoc,BitVec.xor_self,BitVec.zero_xor] at this
  exact this
theorem xor_ne {x c:Int} (hx:0 ≤ x ∧ x ≤ 255) (hc:BitVec.ofInt 8 c ≠ 0#8):xorF x c ≠ x:=by
  intro e
  have e:=congrArg (BitVec.ofInt 8) e
  rw [ofInt_xorF] at e
  apply hc
  generalize BitVec.ofInt 8 x = v at e
  have:=congrArg (fun y=>v ^^^ y) e
  simp only [← BitVec.xor_assoc,BitVec.xor_self,BitVec.zero_xor] at this
  exact this
theorem wa_set {l:List Int} {m j:Nat} {x:Int}:wa (l.set m x) j = if m = j ∧ m < l.length then x else wa l j:=by
  unfold wa
  rw [List.getD_eq_getElem?_getD,List.getD_eq_getElem?_getD,List.getElem?_set]
  by_cases h:m = j
  · subst h
    by_cases h2:m < l.length
    · simp [h2]
    · simp [h2]
  · simp [h]
theorem bit_ne:∀ b:Nat,b < 8 → BitVec.ofInt 8 ((2 ^ b:Nat):Int) ≠ 0#8:=by decide +kernel
theorem word_wrong {x:Stm} (h:StOk x) {m b:Nat} (hm:m < 10) (hb:b < 8):rdE ((wordF x).set m (xorF (wa (wordF x) m) ((2 ^ b:Nat):Int))) ≠ 0:=by
  have hc:=bit_ne b hb
  generalize ((2 ^ b:Nat):Int) = c at hc
  by_cases h8:m = 8
  · subst h8
    exact rdE_sync (.inl (by rw [wa_set,if_pos ⟨rfl,by rw [word_len];omega⟩];exact xor_ne (x:=63) (by decide) hc))
  by_cases h9:m = 9
  · subst h9
    exact rdE_sync (.inr (by rw [wa_set,if_pos ⟨rfl,by rw [word_len];omega⟩];exact xor_ne (x:=253) (by decide) hc))
  have hp:parF (((wordF x).set m (xorF (wa (wordF x) m) c)).take 7) ≠ wa ((wordF x).set m (xorF (wa (wordF x) m) c)) 7:=by
    by_cases h7:m = 7
    · subst h7
      rw [wa_set,if_pos ⟨rfl,by rw [word_len];omega⟩,List.take_set_of_le (by omega)]
      exact fun e=>xor_ne (parF_byte (w7 x)) hc e.symm
    · rw [wa_set,if_neg (by omega),List.take_set]
      have hw:wa (wordF x) m = wa (w7 x) m:=by
        unfold wa wordF
        rw [List.getD_eq_getElem?_getD,List.getD_eq_getElem?_getD,List.getElem?_append_left (by show m < 7;omega)]
      rw [hw]
      exact par_set (l:=w7 x) (m:=m) (by show m < 7;omega) hc
  unfold rdE
  split
  · decide
  · decide
end Go.Proofs.A1
namespace Go.Proofs.A1
open Go Go.SL
def trnP (b:Int):Nat → Int
  | 0=>0
  | k + 1=>orF (trnP b k) (IntKind.u8.wrap (andF (b / 2 ^ k) 1 * 2 ^ (7 - k)))
def trnQ (b:Int):Nat → Int
  | 0=>0
  | k + 1=>2 * trnQ b k + b / 2 ^ k % 2
theorem trnN:∀ k:Nat,k < 256 → (trnP (k:Int) 8 = trnQ (k:Int) 8 ∧ 0 ≤ trnQ (k:Int) 8 ∧ trnQ (k:Int) 8 ≤ 255 ∧ trnQ (trnQ (k:Int) 8) 8 = (k:Int)):=by decide +kernel
theorem trn_byte {b:Int} (h:0 ≤ b ∧ b ≤ 255):trnP b 8 = trnQ b 8 ∧ 0 ≤ trnQ b 8 ∧ trnQ b 8 ≤ 255 ∧ trnQ (trnQ b 8) 8 = b:=by
  obtain ⟨k,hk,rfl⟩:=byte_nat h
  exact trnN k hk
def revL (s:List Int):List Int:=(s.map fun b=>trnQ b 8).reverse
def cntQ (b:Int):Nat → Int
  | 0=>0
  | k + 1=>cntQ b k + b / 2 ^ k % 2
def oddB (b:Int):Bool:=decide (cntQ b 8 % 2 = 1)
end Go.Proofs.A1
namespace Go.SL
open Go
section
variable {P:Program} {r:Option Nat} {c:Cx} {D:List Nat} {sl:Slots} {hs hs':List Asn} {ops:Array Oper} {Q:Exit → Act → World → Prop} {rest:List Oper} {d:Nat} {ty:TypeId} {pos:String} {af:Array Edge}
def bytesV (s:ByteArray):List Value:=s.data.toList.map fun b=>Value.int .u8 (b.toNat:Nat)
theorem bytesV_length (s:ByteArray):(bytesV s).length = s.size:=by unfold bytesV;rw [List.length_map];rfl
theorem tr_copyS {t t2 e:TypeId} {x y:Operand} {s:ByteArray} {g o n cap:Nat} {E:TypeId} {cs:List Value} [hu:Und P t (.slice e)] [hT:Ty P e false 1]
    (hx:Is sl x (.slice (some ⟨g,o,none⟩) n cap)) (hy:Is sl y (.string s)) (ht:Take hs (blk g (.cells cs.toArray E (0,0))) hs') (hn:s.size ≤ n) (hfit:o + s.size ≤ cs.length) (hd:Nat.blt d c.nt = true)
    (k:Tr c D ((d,.int .i64 (s.size:Nat)) :: sl) (blk g (.cells (setCells cs o (bytesV s)).toArray E (0,0)) :: hs') (WL P r ops Q rest)) :
    Tr c D sl hs (WL P r ops Q (⟨some d,.call ⟨.builtin .copy,#[x,y],#[t,t2]⟩,ty,pos,af,none⟩ :: rest)):=fun a w hst=>by
  obtain ⟨de,i,hde,hi,_,hsize⟩:=Ty.parts (P:=P) (t:=e) (agg:=false) (n:=1)
  have hm:=hst.mem.take (ht.append _)
  have hg:w.heap[g]? = some (.cells cs.toArray E (0,0)):=hm.blk .here
  obtain ⟨w',h3,h4,h5⟩:=rk_storeCells (P:=P) (o:=o) (bytesV s) 0 cs w hg (fun u hu=>by
    obtain ⟨b,_,rfl⟩:=List.mem_map.1 hu;rfl) (by rw [bytesV_length];omega)
  have hmin:Nat.min s.size n = s.size:=Nat.min_eq_left hn
  have hex:s.extract 0 s.size = s:=by
    apply ByteArray.ext;simp
  have hload:(Builtin.firstCells 1 s.size (.string s)).run P w = .ok (bytesV s).toArray w:=by
    simp only [Builtin.firstCells,hex]
    have:(s.data.map fun b=>Value.int .u8 (b.toNat:Nat)) = (bytesV s).toArray:=by
      apply Array.toList_inj.1
      unfold bytesV
      rw [Array.toList_map]
    rw [← this];rfl
  refine wl_op rfl ⟨fr_about _ _ _ _ _,?_⟩
  rw [Oper.semAt_eq _ _ _ (by simp)]
  have:(execOp a.eval ⟨some d,.call ⟨.builtin .copy,#[x,y],#[t,t2]⟩,ty,pos,af,none⟩).run P w = .ok (.value (.int .i64 (s.size:Nat))) w':=by
    have hlenV:(Builtin.lenOf (.string s)).run P w = .ok s.size w:=rfl
    simp [execOp,resolve,invoke,builtin,hx a hst.slots,hy a hst.slots,Builtin.copy_,rk_underlying hu.eq,hlenV,sizeOf,typeInfo,hi,hsize,hload,h3,goInt,hmin]
  rw [this]
  have hm2:=Mem.store hm h4 h5
  rw [show (o + 0:Nat) = o from rfl] at hm2
  exact k _ _ ((hst.put (by simpa [Nat.blt_eq] using hd) _).heap hm2)
end
end Go.SL
namespace Go.Proofs.A1
open Go Go.SL
abbrev Rt.cells (r:Rt):List Value:=[.int .i64 r.fr,.bool r.dr]
abbrev Lb.cells (l:Lb):List Value:=[.int .i64 l.h,.int .i64 l.m,.int .i64 l.s,.int .i64 l.f]
abbrev Stm.cells (s:Stm):List Value:=[.int .i64 s.ra.fr,.bool s.ra.dr,.int .i64 s.la.h,.int .i64 s.la.m,.int .i64 s.la.s,.int .i64 s.la.f,.int .i64 s.us]
abbrev hitC (x:Stm × Nat):List Value:=[.int .i64 x.1.ra.fr,.bool x.1.ra.dr,.int .i64 x.1.la.h,.int .i64 x.1.la.m,.int .i64 x.1.la.s,.int .i64 x.1.la.f,.int .i64 x.1.us,.int .i64 (x.2:Nat)]
abbrev Cp.cells (x:Cp):List Value:=[.int .i64 x.fr,.int .i64 x.to,.int .i64 x.rw,.int .i64 x.co,.string x.tx]
abbrev prC (x:Nat × Nat):List Value:=[.int .i64 (x.1:Nat),.int .i64 (x.2:Nat)]
abbrev natC (n:Nat):List Value:=[.int .i64 (n:Nat)]
abbrev byC (n:Int):List Value:=[.int .u8 n]
abbrev inC (n:Int):List Value:=[.int .i64 n]
abbrev duC (x:Int × Int):List Value:=[.int .i64 x.1,.int .i64 x.2]
abbrev srC (s:ByteArray):List Value:=[.string s]
def stms (l:List Stm):List (List Value):=l.map Stm.cells
def stmsV (l:List Stm):List Value:=l.flatMap Stm.cells
theorem stms_length (l:List Stm):(stms l).length = l.length:=by simp [stms]
theorem stms_flat (l:List Stm):stmsV l = (stms l).flatten:=by unfold stmsV stms;rw [List.flatMap_def]
theorem stms_sz (l:List Stm):∀ r ∈ stms l,r.length = 7:=fun r hr=>by obtain ⟨x,_,rfl⟩:=List.mem_map.1 hr;rfl
theorem stmsV_len (l:List Stm):(stmsV l).length = l.length * 7:=by rw [stms_flat,flat_len (stms_sz l),stms_length]
theorem stmsV_app (a b:List Stm):stmsV (a++b) = stmsV a++stmsV b:=by unfold stmsV;rw [List.flatMap_append]
def hts (l:List (Stm × Nat)):List (List Value):=l.map hitC
def htsV (l:List (Stm × Nat)):List Value:=l.flatMap hitC
theorem hts_length (l:List (Stm × Nat)):(hts l).length = l.length:=by simp [hts]
theorem hts_get {l:List (Stm × Nat)} {k:Nat} (h:k < l.length):(hts l)[k]? = some ((hitC) l[k]):=by simp [hts,h]
theorem hts_ne {l:List (Stm × Nat)} {k:Nat} (h:k < l.length):hts l ≠ []:=by intro e;have:=congrArg List.length e;rw [hts_length] at this;simp at this;subst this;simp at h
theorem hts_flat (l:List (Stm × Nat)):htsV l = (hts l).flatten:=by unfold htsV hts;rw [List.flatMap_def]
theorem hts_sz (l:List (Stm × Nat)):∀ r ∈ hts l,r.length = 8:=fun r hr=>by obtain ⟨x,_,rfl⟩:=List.mem_map.1 hr;rfl
theorem htsV_len (l:List (Stm × Nat)):(htsV l).length = l.length * 8:=by rw [hts_flat,flat_len (hts_sz l),hts_length]
theorem htsV_app (a b:List (Stm × Nat)):htsV (a++b) = htsV a++htsV b:=by unfold htsV;rw [List.flatMap_append]
theorem htsV_take {l:List (Stm × Nat)} {k:Nat} (h:k < l.length):htsV (l.take (k + 1)) = htsV (l.take k)++(hitC) l[k]:=by rw [List.take_succ_eq_append_getElem h,htsV_app];unfold htsV;simp
theorem hts_rd {c:Cx} {hs hs':List Asn} {w:World} {l:List (Stm × Nat)} {E:TypeId} {v:Value} {n:Nat} (hm:Mem c hs w) (ht:Take hs (row E 8 v n (htsV l)) hs') (hn:l.length = n):Rd w v 8 (hts l):=hm.rdRow ht (hts_flat l) (hts_sz l) (by rw [hts_length,hn])
def cps (l:List Cp):List (List Value):=l.map Cp.cells
def cpsV (l:List Cp):List Value:=l.flatMap Cp.cells
theorem cps_length (l:List Cp):(cps l).length = l.length:=by simp [cps]
theorem cps_get {l:List Cp} {k:Nat} (h:k < l.length):(cps l)[k]? = some ((Cp.cells) l[k]):=by simp [cps,h]
theorem cps_ne {l:List Cp} {k:Nat} (h:k < l.length):cps l ≠ []:=by intro e;have:=congrArg List.length e;rw [cps_length] at this;simp at this;subst this;simp at h
theorem cps_flat (l:List Cp):cpsV l = (cps l).flatten:=by unfold cpsV cps;rw [List.flatMap_def]
theorem cps_sz (l:List Cp):∀ r ∈ cps l,r.length = 5:=fun r hr=>by obtain ⟨x,_,rfl⟩:=List.mem_map.1 hr;rfl
theorem cps_one (l:List Cp):∀ r ∈ cps l,∀ u ∈ r,u.oneCell' = true:=fun r hr=>by obtain ⟨x,_,rfl⟩:=List.mem_map.1 hr;exact okc_cons rfl (okc_cons rfl (okc_cons rfl (okc_cons rfl (okc_cons rfl okc_nil))))
theorem cpsV_len (l:List Cp):(cpsV l).length = l.length * 5:=by rw [cps_flat,flat_len (cps_sz l),cps_length]
theorem cps_rd {c:Cx} {hs hs':List Asn} {w:World} {l:List Cp} {E:TypeId} {v:Value} {n:Nat} (hm:Mem c hs w) (ht:Take hs (row E 5 v n (cpsV l)) hs') (hn:l.length = n):Rd w v 5 (cps l):=hm.rdRow ht (cps_flat l) (cps_sz l) (by rw [cps_length,hn])
def prs (l:List (Nat × Nat)):List (List Value):=l.map prC
def prsV (l:List (Nat × Nat)):List Value:=l.flatMap prC
theorem prs_length (l:List (Nat × Nat)):(prs l).length = l.length:=by simp [prs]
theorem prs_flat (l:List (Nat × Nat)):prsV l = (prs l).flatten:=by unfold prsV prs;rw [List.flatMap_def]
theorem prs_sz (l:List (Nat × Nat)):∀ r ∈ prs l,r.length = 2:=fun r hr=>by obtain ⟨x,_,rfl⟩:=List.mem_map.1 hr;rfl
theorem prsV_len (l:List (Nat × Nat)):(prsV l).length = l.length * 2:=by rw [prs_flat,flat_len (prs_sz l),prs_length]
theorem prsV_app (a b:List (Nat × Nat)):prsV (a++b) = prsV a++prsV b:=by unfold prsV;rw [List.flatMap_append]
theorem prs_rd {c:Cx} {hs hs':List Asn} {w:World} {l:List (Nat × Nat)} {E:TypeId} {v:Value} {n:Nat} (hm:Mem c hs w) (ht:Take hs (row E 2 v n (prsV l)) hs') (hn:l.length = n):Rd w v 2 (prs l):=hm.rdRow ht (prs_flat l) (prs_sz l) (by rw [prs_length,hn])
def nats (l:List Nat):List (List Value):=l.map natC
def natsV (l:List Nat):List Value:=l.flatMap natC
theorem nats_length (l:List Nat):(nats l).length = l.length:=by simp [nats]
theorem nats_flat (l:List Nat):natsV l = (nats l).flatten:=by unfold natsV nats;rw [List.flatMap_def]
theorem nats_sz (l:List Nat):∀ r ∈ nats l,r.length = 1:=fun r hr=>by obtain ⟨x,_,rfl⟩:=List.mem_map.1 hr;rfl
theorem natsV_len (l:List Nat):(natsV l).length = l.length * 1:=by rw [nats_flat,flat_len (nats_sz l),nats_length]
theorem natsV_app (a b:List Nat):natsV (a++b) = natsV a++natsV b:=by unfold natsV;rw [List.flatMap_append]
def byts (l:List Int):List (List Value):=l.map byC
def bytsV (l:List Int):List Value:=l.flatMap byC
theorem byts_length (l:List Int):(byts l).length = l.length:=by simp [byts]
theorem byts_get {l:List Int} {k:Nat} (h:k < l.length):(byts l)[k]? = some ((byC) l[k]):=by simp [byts,h]
theorem byts_ne {l:List Int} {k:Nat} (h:k < l.length):byts l ≠ []:=by intro e;have:=congrArg List.length e;rw [byts_length] at this;simp at this;subst this;simp at h
theorem byts_flat (l:List Int):bytsV l = (byts l).flatten:=by unfold bytsV byts;rw [List.flatMap_def]
theorem byts_sz (l:List Int):∀ r ∈ byts l,r.length = 1:=fun r hr=>by obtain ⟨x,_,rfl⟩:=List.mem_map.1 hr;rfl
theorem bytsV_len (l:List Int):(bytsV l).length = l.length * 1:=by rw [byts_flat,flat_len (byts_sz l),byts_length]
theorem bytsV_app (a b:List Int):bytsV (a++b) = bytsV a++bytsV b:=by unfold bytsV;rw [List.flatMap_append]
def intg (l:List Int):List (List Value):=l.map inC
def intgV (l:List Int):List Value:=l.flatMap inC
theorem intg_length (l:List Int):(intg l).length = l.length:=by simp [intg]
theorem intg_get {l:List Int} {k:Nat} (h:k < l.length):(intg l)[k]? = some ((inC) l[k]):=by simp [intg,h]
theorem intg_ne {l:List Int} {k:Nat} (h:k < l.length):intg l ≠ []:=by intro e;have:=congrArg List.length e;rw [intg_length] at this;simp at this;subst this;simp at h
theorem intg_flat (l:List Int):intgV l = (intg l).flatten:=by unfold intgV intg;rw [List.flatMap_def]
theorem intg_sz (l:List Int):∀ r ∈ intg l,r.length = 1:=fun r hr=>by obtain ⟨x,_,rfl⟩:=List.mem_map.1 hr;rfl
theorem intgV_len (l:List Int):(intgV l).length = l.length * 1:=by rw [intg_flat,flat_len (intg_sz l),intg_length]
theorem intgV_app (a b:List Int):intgV (a++b) = intgV a++intgV b:=by unfold intgV;rw [List.flatMap_append]
theorem intg_rd {c:Cx} {hs hs':List Asn} {w:World} {l:List Int} {E:TypeId} {v:Value} {n:Nat} (hm:Mem c hs w) (ht:Take hs (row E 1 v n (intgV l)) hs') (hn:l.length = n):Rd w v 1 (intg l):=hm.rdRow ht (intg_flat l) (intg_sz l) (by rw [intg_length,hn])
def dus (l:List (Int × Int)):List (List Value):=l.map duC
def dusV (l:List (Int × Int)):List Value:=l.flatMap duC
theorem dus_length (l:List (Int × Int)):(dus l).length = l.length:=by simp [dus]
theorem dus_get {l:List (Int × Int)} {k:Nat} (h:k < l.length):(dus l)[k]? = some ((duC) l[k]):=by simp [dus,h]
theorem dus_ne {l:List (Int × Int)} {k:Nat} (h:k < l.length):dus l ≠ []:=by intro e;have:=congrArg List.length e;rw [dus_length] at this;simp at this;subst this;simp at h
theorem dus_flat (l:List (Int × Int)):dusV l = (dus l).flatten:=by unfold dusV dus;rw [List.flatMap_def]
theorem dus_sz (l:List (Int × Int)):∀ r ∈ dus l,r.length = 2:=fun r hr=>by obtain ⟨x,_,rfl⟩:=List.mem_map.1 hr;rfl
theorem dus_rd {c:Cx} {hs hs':List Asn} {w:World} {l:List (Int × Int)} {E:TypeId} {v:Value} {n:Nat} (hm:Mem c hs w) (ht:Take hs (row E 2 v n (dusV l)) hs') (hn:l.length = n):Rd w v 2 (dus l):=hm.rdRow ht (dus_flat l) (dus_sz l) (by rw [dus_length,hn])
def srs (l:List ByteArray):List (List Value):=l.map srC
def srsV (l:List ByteArray):List Value:=l.flatMap srC
theorem srs_length (l:List ByteArray):(srs l).length = l.length:=by simp [srs]
theorem srs_flat (l:List ByteArray):srsV l = (srs l).flatten:=by unfold srsV srs;rw [List.flatMap_def]
theorem srs_sz (l:List ByteArray):∀ r ∈ srs l,r.length = 1:=fun r hr=>by obtain ⟨x,_,rfl⟩:=List.mem_map.1 hr;rfl
theorem srsV_len (l:List ByteArray):(srsV l).length = l.length * 1:=by rw [srs_flat,flat_len (srs_sz l),srs_length]
theorem srsV_app (a b:List ByteArray):srsV (a++b) = srsV a++srsV b:=by unfold srsV;rw [List.flatMap_append]
theorem srs_rd {c:Cx} {hs hs':List Asn} {w:World} {l:List ByteArray} {E:TypeId} {v:Value} {n:Nat} (hm:Mem c hs w) (ht:Take hs (row E 1 v n (srsV l)) hs') (hn:l.length = n):Rd w v 1 (srs l):=hm.rdRow ht (srs_flat l) (srs_sz l) (by rw [srs_length,hn])
theorem bytsV_eq (l:List Int):bytsV l = l.map (Value.int .u8):=by
  induction l with
  | nil=>rfl
  | cons x l ih=>show [Value.int .u8 x]++bytsV l = _;rw [ih];rfl
end Go.Proofs.A1
namespace Go.Proofs.A1
open Go Go.SL
def idxG {α:Type} (p:α → Bool) (l:List α):Int:=((List.range l.length).find? fun i=>(l[i]?.map p).getD false).elim (-1) (fun i=>(i:Int))
theorem idxG_at {α:Type} {p:α → Bool} {l:List α} {k:Nat} (h:∀ i,i < k → (l[i]?.map p).getD false = false) (hk:k < l.length) (hp:p l[k] = true):idxG p l = k:=by
  unfold idxG
  have:(List.range l.length).find? (fun i=>(l[i]?.map p).getD false) = some k:=by
    rw [List.find?_range_eq_some]
    exact ⟨by simp [hk,hp],by simpa using hk,fun i hi=>by simpa using h i hi⟩
  rw [this];rfl
theorem idxG_none {α:Type} {p:α → Bool} {l:List α} (h:∀ i,i < l.length → (l[i]?.map p).getD false = false):idxG p l = -1:=by
  unfold idxG
  have:(List.range l.length).find? (fun i=>(l[i]?.map p).getD false) = none:=by
    rw [List.find?_eq_none]
    intro i hi
    simp [h i (List.mem_range.1 hi)]
  rw [this];rfl
theorem idxG_any {α:Type} (p:α → Bool) (l:List α):decide (0 ≤ idxG p l) = l.any p:=by
  unfold idxG
  cases h:(List.range l.length).find? fun i=>(l[i]?.map p).getD false with
  | none =>
    have:l.any p = false:=by
      rw [List.any_eq_false]
      intro x hx
      obtain ⟨i,hi,rfl⟩:=List.getElem_of_mem hx
      have:=List.find?_eq_none.1 h i (List.mem_range.2 hi)
      simpa [hi] using this
    rw [this];rfl
  | some i =>
    have h1:=List.mem_range.1 (List.mem_of_find?_eq_some h)
    have h2:=List.find?_some h
    have:l.any p = true:=by
      rw [List.any_eq_true]
      exact ⟨l[i],List.getElem_mem h1,by simpa [h1] using h2⟩
    rw [this];simp
theorem index_c {lv:Value} {l:List Int} (x:Int) {w:World} (h:Rd w lv 1 (ints l)) :
    GivesV Tryz.prog 180 [lv,.int .i64 x] w (.int .i64 (idxG (fun y=>decide (x = y)) l)):=by
  obtain ⟨a,cp,b,o,rfl,hcap,hmax,ha,hc⟩:=h
  rw [ints_length] at *
  unfold maxLen at hmax
  refine givesV_of_tr Tryz.func180 rfl rfl ?_
  (refine s_r ?_;refine a_s rfl rfl ?_;refine n_t ?_;refine tr_seq ?_;refine s_r ?_;refine m_v rfl rfl ?_;refine tr_val (rk_len_slice (.of rfl)) rfl ?_;refine m_v rfl rfl ?_;refine n_t ?_;refine tr_block ?_)
  refine tr_for (fun k:Nat=>k ≤ l.length ∧ ∀ i,i < k → (l[i]?.map fun y=>decide (x = y)).getD false = false) (fun k=>[(8,.int .i64 k),(7,.int .i64 l.length),(0,.slice a l.length cp),(1,.int .i64 x)]) (fun _=>[]) (fun k=>l.length - k) ?_ ?_
  · apply tr_start 0 ⟨Nat.zero_le _,fun i h=>by omega⟩
    case hs1=>exact .cons rfl (.cons rfl (.cons rfl (.cons rfl .nil)))
    case ht=>(try simp only [List.take_zero,List.map_nil,List.nil_append]);exact .nil
  rintro k ⟨hk,hf⟩
  by_cases hlt:k < l.length
  · have ha':=ha (ints_ne hlt)
    have c0:w.cell? ⟨b,o + k * 1,none⟩ = some (.int .i64 l[k]):=(hc k _ (ints_get hlt)).2 0 _ rfl
    have hps:(l[k]?.map fun y=>decide (x = y)).getD false = decide (x = l[k]):=by simp [hlt]
    (refine s_r ?_;refine tr_val (rk_lss (.of rfl) (.of rfl)) rfl ?_;refine n_t ?_;refine tr_seq ?_;refine c_d rfl (fun hcd=>?_) (fun _=>by omega);refine s_t ?_;refine tr_seq ?_;refine tr_block ?_;refine s_r ?_;refine m_v rfl rfl ?_;refine a_s rfl rfl ?_;refine n_r ?_;refine m_v rfl rfl ?_;refine m_v rfl rfl ?_;refine m_v rfl rfl ?_;refine tr_val (rk_indexAddr (.of rfl) (.of rfl) ha' (by omega) hcd norm1_) rfl ?_;refine tr_val (rk_load1 (.of rfl) (At.base c0 rfl)) rfl ?_;refine tr_val (rk_eql (.of rfl) (.of rfl)) rfl ?_;refine n_t ?_;refine c_d rfl (fun hcd=>?_) (fun hcd=>?_);refine s_r ?_;refine m_v rfl rfl ?_;refine a_s rfl rfl ?_;refine n_t ?_;refine tr_ret ?_;refine tr_blk_ret ?_;refine tr_then_ret ?_;refine tr_then_ret ?_;refine tr_blk_ret ?_;refine tr_then_ret ?_;refine tr_retE rfl (ends1 rfl rfl) ?_;rotate_left;refine tr_skip ?_;refine tr_blk_normal ?_;refine tr_then ?_;refine tr_region ?_;refine tr_val (rk_add (.of rfl) (.of rfl) (ini (by omega))) rfl ?_;refine m_v rfl rfl ?_;refine n_t ?_;rotate_right)
    · rw [idxG_at hf hlt (by simpa using hcd)]
    · apply tr_next (k + 1) ⟨by omega,fun i hi=>by
        by_cases e:i = k
        · rw [e,hps];simpa using hcd
        · exact hf i (by omega)⟩ (by omega)
      case hs1=>exact .cons rfl (.cons rfl (.cons rfl (.cons rfl .nil)))
      case ht=>(try simp only [List.take_zero,List.map_nil,List.nil_append]);exact .nil
  · obtain rfl:k = l.length:=by omega
    (refine s_r ?_;refine tr_val (rk_lss (.of rfl) (.of rfl)) rfl ?_;refine n_t ?_;refine tr_seq ?_;refine c_d rfl (fun _=>by omega) (fun hcd=>?_);refine x_t ?_;refine tr_then_exit ?_;refine tr_blk_exit ?_;refine tr_then ?_;refine s_r ?_;refine a_s rfl rfl ?_;refine n_t ?_;refine tr_ret ?_;refine tr_retE rfl (ends1 rfl rfl) ?_)
    rw [idxG_none hf]
theorem contains_c {lv:Value} {l:List Int} (x:Int) {w:World} (h:Rd w lv 1 (ints l)) :
    GivesV Tryz.prog 103 [lv,.int .i64 x] w (.bool (l.contains x)):=by
  have hcl:∀ w',Keeps [] w w' → GivesV Tryz.prog 180 [lv,.int .i64 x] w' (.int .i64 (idxG (fun y=>decide (x = y)) l)):=fun w' hk=>index_c x (h.keeps hk)
  have e:l.contains x = l.any fun y=>decide (x = y):=by
    rw [List.contains_eq_any_beq];rfl
  rw [e,← idxG_any]
  refine givesV_of_tr Tryz.func103 rfl rfl ?_
  (refine s_r ?_;refine a_s rfl rfl ?_;refine n_r ?_;refine m_v rfl rfl ?_;refine m_v rfl rfl ?_;refine tr_callV (rk_call (.of rfl) (.cons (.of rfl) (.cons (.of rfl) .nil)) inferInstance normc_) rfl (fun w' hm'=>(hcl w' (Mem.keeps hm'))) ?_;refine tr_val (rk_geq (.of rfl) (.of rfl)) rfl ?_;refine a_s rfl rfl ?_;refine n_t ?_;refine tr_ret ?_;refine tr_retE rfl (ends1 rfl rfl) ?_)
  rfl
structure GlobR (w:World):Prop where
  n0:w.cell? ⟨0,0,none⟩ = some (.int .i64 24)
  n1:w.cell? ⟨0,1,none⟩ = some (.int .i64 25)
  n2:w.cell? ⟨0,2,none⟩ = some (.int .i64 30)
theorem cell_keeps {w w':World} {a:Addr} {v:Value} (h:w.cell? a = some v) (hs:a.spot = none) (hk:Keeps [] w w'):w'.cell? a = some v:=by
  have hb:=World.block_lt_of_cell? w a h
  obtain ⟨b,o,s⟩:=a
  subst hs
  have:=hk.block b hb (by simp)
  rw [← h]
  simp [World.cell?,this]
theorem GlobR.keeps {w w':World} (h:GlobR w) (hk:Keeps [] w w'):GlobR w':=⟨cell_keeps h.n0 rfl hk,cell_keeps h.n1 rfl hk,cell_keeps h.n2 rfl hk⟩
theorem GlobR.rd {w:World} (h:GlobR w):Rd w (.slice (some ⟨0,0,none⟩) 3 3) 1 (ints [24,25,30]):=by
  refine ⟨_,3,0,0,rfl,by simp [ints],by unfold maxLen;omega,fun _=>rfl,fun i r hr=>?_⟩
  match i,hr with
  | 0,hr=>cases hr;exact ⟨rfl,fun j u hu=>by match j,hu with | 0,hu=>(cases hu;exact h.n0)⟩
  | 1,hr=>cases hr;exact ⟨rfl,fun j u hu=>by match j,hu with | 0,hu=>(cases hu;exact h.n1)⟩
  | 2,hr=>cases hr;exact ⟨rfl,fun j u hu=>by match j,hu with | 0,hu=>(cases hu;exact h.n2)⟩
theorem rate_has (x:Int) (w:World) (hG:GlobR w):GivesV Tryz.prog 103 [.slice (some ⟨0,0,none⟩) 3 3,.int .i64 x] w (.bool ([24,25,30].contains x)):=contains_c x hG.rd
theorem rate_eq (r:Rt):firstF [whenF (!([24,25,30]:List Int).contains r.fr) 13,whenF (r.dr && decide (r.fr ≠ 30)) 24] = rateF r:=by
  unfold rateF
  congr 2
  congr 1
  rw [Bool.eq_iff_iff]
  simp
theorem chkRate_c (r:Rt) (w:World) (hG:GlobR w):GivesV Tryz.prog 25 [.agg r.cells.toArray] w (.int .i64 (rateF r)):=by
  unfold Rt.cells
  refine givesV_of_tr Tryz.func25 rfl rfl ?_
  (refine s_r ?_;refine tr_new (rk_box (.of rfl) rfl) rfl (fun _ _=>?_);refine a_s rfl rfl ?_;refine n_t ?_;refine tr_seq ?_)
  with_reducible refine tr_draw 14 (by kernel_rfl) ?_
  (refine any_val (rk_sliceA (.of rfl)) rfl ?_;refine a_f rfl rfl norm0_ ?_;refine any_val (rk_load1 (.of rfl) (At.lit .here rfl)) rfl ?_;refine any_call (rk_call (.of rfl) (.cons (.of rfl) (.cons (.of rfl) .nil)) inferInstance normc_) rfl (fun w' hm'=>(rate_has _ w' (GlobR.keeps hG (Mem.keeps hm')))) ?_;refine any_val (rk_not (.of rfl)) rfl ?_;refine any_call (rk_call (.of rfl) (.cons (.of rfl) (.cons (.of rfl) .nil)) inferInstance normc_) rfl (fun w' hm'=>(when_c _ 13 w')) ?_;refine a_f rfl rfl norm0_ ?_;refine any_val (rk_load1 (.of rfl) (At.lit .here rfl)) rfl ?_;refine a_m rfl rfl ?_;refine any_vG1 rfl rfl inferInstance (fun hg hgp=>(rk_fieldAddr (.of rfl) norm0_)) rfl ?_;refine any_vG1 rfl rfl inferInstance (fun hg hgp=>(rk_load1 (.ofg hg rfl) (At.lit .here rfl))) rfl ?_;refine any_vG1 rfl rfl inferInstance (fun hg hgp=>(rk_neq (.ofg hg rfl) (.of rfl))) rfl ?_;refine any_val (rk_pick_and (.of rfl) rfl) rfl ?_;refine any_call (rk_call (.of rfl) (.cons (.of rfl) (.cons (.of rfl) .nil)) inferInstance normc_) rfl (fun w' hm'=>(when_c _ 24 w')) ?_)
  with_reducible refine any_end ?_
  (refine tr_new (rk_sliceLit (.cons (.of rfl) (.cons (.of rfl) .nil)) rfl rfl rfl rfl) rfl (fun _ _=>?_);refine tr_callV (rk_call (.of rfl) (.cons (.of rfl) .nil) inferInstance normc_) rfl (fun w' hm'=>(first_pB (Mem.rdBlk hm' .here rfl rfl) (IntL.cons (IntL.cons IntL.nil)))) ?_;refine a_s rfl rfl ?_;refine n_t ?_;refine tr_ret ?_;refine tr_retE rfl (ends1 rfl rfl) ?_)
  rw [← rate_eq]
end Go.Proofs.A1
namespace Go.Proofs.A1
open Go Go.SL
theorem day_c (r:Rt) (hr:RtOk r) (w:World):GivesV Tryz.prog 97 [.agg r.cells.toArray] w (.int .i64 (dayF r)):=by
  have hfr:=hr.fr
  unfold Rt.cells
  refine givesV_of_tr Tryz.func97 rfl rfl ?_
  (refine s_r ?_;refine tr_new (rk_box (.of rfl) rfl) rfl (fun _ _=>?_);refine a_s rfl rfl ?_;refine n_r ?_;refine f_a rfl rfl norm0_ ?_;refine tr_val (rk_load1 (.of rfl) (At.lit .here rfl)) rfl ?_;refine tr_val (rk_mul (.of rfl) (.of rfl) (ini (by omega))) rfl ?_;refine a_s rfl rfl ?_;refine n_t ?_;refine tr_seq ?_;refine s_r ?_;refine f_a rfl rfl norm0_ ?_;refine tr_val (rk_load1 (.of rfl) (At.lit .here rfl)) rfl ?_;refine n_t ?_;refine c_b rfl (fun hcd=>?_) (fun hcd=>?_);refine tr_region ?_;refine m_v rfl rfl ?_;refine tr_val (rk_sub (.of rfl) (.of rfl) (ini (by omega))) rfl ?_;refine a_s rfl rfl ?_;refine n_r ?_;refine m_v rfl rfl ?_;refine a_s rfl rfl ?_;refine n_t ?_;refine tr_ret ?_;refine tr_retE rfl (ends1 rfl rfl) ?_;rotate_left;refine s_t ?_;refine s_r ?_;refine m_v rfl rfl ?_;refine a_s rfl rfl ?_;refine n_t ?_;refine tr_ret ?_;refine tr_retE rfl (ends1 rfl rfl) ?_;rotate_right)
  all_goals (unfold dayF;simp [hcd])
theorem tmod_ne (m:Int):decide (m.tmod 10 ≠ 0) = decide (m % 10 ≠ 0):=by
  rw [decide_eq_decide]
  have h1:=Int.dvd_iff_tmod_eq_zero (a:=10) (b:=m)
  have h2:=Int.dvd_iff_emod_eq_zero (a:=10) (b:=m)
  rw [Ne,Ne,← h1,← h2]
theorem dropped_c (l:Lb) (r:Rt) (w:World):GivesV Tryz.prog 105 [.agg l.cells.toArray,.agg r.cells.toArray] w (.bool (drpB r l)):=by
  unfold Rt.cells Lb.cells
  refine givesV_of_tr Tryz.func105 rfl rfl ?_
  (refine s_r ?_;refine tr_new (rk_box (.of rfl) rfl) rfl (fun _ _=>?_);refine tr_new (rk_box (.of rfl) rfl) rfl (fun _ _=>?_);refine a_s rfl rfl ?_;refine n_r ?_;refine f_a rfl rfl norm0_ ?_;refine tr_val (rk_load1 (.of rfl) (At.lit .here rfl)) rfl ?_;refine m_v rfl rfl ?_;refine tr_vG1 rfl rfl inferInstance (fun hg hgp=>(rk_fieldAddr (.of rfl) norm0_)) rfl ?_;refine tr_vG1 rfl rfl inferInstance (fun hg hgp=>(rk_load1 (.ofg hg rfl) (At.lit (.there .here) rfl))) rfl ?_;refine tr_vG1 rfl rfl inferInstance (fun hg hgp=>(rk_remT (.ofg hg rfl) (.of rfl) (by omega))) rfl ?_;refine tr_vG1 rfl rfl inferInstance (fun hg hgp=>(rk_neq (.ofg hg rfl) (.of rfl))) rfl ?_;refine tr_val (rk_pick_and (.of rfl) rfl) rfl ?_;refine m_v rfl rfl ?_;refine tr_vG1 rfl rfl inferInstance (fun hg hgp=>(rk_fieldAddr (.of rfl) norm0_)) rfl ?_;refine tr_vG1 rfl rfl inferInstance (fun hg hgp=>(rk_load1 (.ofg hg rfl) (At.lit (.there .here) rfl))) rfl ?_;refine tr_vG1 rfl rfl inferInstance (fun hg hgp=>(rk_eql (.ofg hg rfl) (.of rfl))) rfl ?_;refine tr_val (rk_pick_and (.of rfl) rfl) rfl ?_;refine m_v rfl rfl ?_;refine tr_vG1 rfl rfl inferInstance (fun hg hgp=>(rk_fieldAddr (.of rfl) norm0_)) rfl ?_;refine tr_vG1 rfl rfl inferInstance (fun hg hgp=>(rk_load1 (.ofg hg rfl) (At.lit (.there .here) rfl))) rfl ?_;refine tr_vG1 rfl rfl inferInstance (fun hg hgp=>(rk_lss (.ofg hg rfl) (.of rfl))) rfl ?_;refine tr_val (rk_pick_and (.of rfl) rfl) rfl ?_;refine a_s rfl rfl ?_;refine n_t ?_;refine tr_ret ?_;refine tr_retE rfl (ends1 rfl rfl) ?_)
  unfold drpB
  rw [← tmod_ne]
  cases r.dr <;> simp [Bool.and_assoc]
theorem lblE_wrap (r:Rt) (l:Lb):firstF [rateF r,withinF l.h 0 23,withinF l.m 0 59,withinF l.s 0 59,withinF l.f 0 (IntKind.i64.wrap (r.fr - 1)),whenF (drpB r l) 7] = lblE r l:=by
  unfold lblE
  by_cases h:rateF r = 0
  · have:=(rateF_zero.1 h).fr
    have e:IntKind.i64.wrap (r.fr - 1) = r.fr - 1:=by unfold IntKind.wrap;simp [IntKind.signed,IntKind.bits];omega
    rw [e]
  · simp [firstF,h]
theorem chkLabel_c (r:Rt) (l:Lb) (w:World) (hG:GlobR w):GivesV Tryz.prog 26 [.agg r.cells.toArray,.agg l.cells.toArray] w (.int .i64 (lblE r l)):=by
  refine givesV_of_tr Tryz.func26 rfl rfl ?_
  unfold Rt.cells Lb.cells
  (refine s_r ?_;refine tr_new (rk_box (.of rfl) rfl) rfl (fun _ _=>?_);refine tr_new (rk_box (.of rfl) rfl) rfl (fun _ _=>?_);refine a_s rfl rfl ?_;refine n_t ?_;refine tr_seq ?_)
  with_reducible refine tr_draw 21 (by kernel_rfl) ?_
  (refine any_val (rk_loadB (.of rfl) (.there .here) norm_ (by rfl)) rfl ?_;refine any_call (rk_call (.of rfl) (.cons (.of rfl) .nil) inferInstance normc_) rfl (fun w' hm'=>(chkRate_c r w' (GlobR.keeps hG (Mem.keeps hm')))) ?_;refine a_f rfl rfl norm0_ ?_;refine any_val (rk_load1 (.of rfl) (At.lit .here rfl)) rfl ?_;refine any_call (rk_call (.of rfl) (.cons (.of rfl) (.cons (.of rfl) (.cons (.of rfl) .nil))) inferInstance normc_) rfl (fun w' hm'=>(within_c _ 0 23 w')) ?_;refine a_f rfl rfl norm0_ ?_;refine any_val (rk_load1 (.of rfl) (At.lit .here rfl)) rfl ?_;refine any_call (rk_call (.of rfl) (.cons (.of rfl) (.cons (.of rfl) (.cons (.of rfl) .nil))) inferInstance normc_) rfl (fun w' hm'=>(within_c _ 0 59 w')) ?_;refine a_f rfl rfl norm0_ ?_;refine any_val (rk_load1 (.of rfl) (At.lit .here rfl)) rfl ?_;refine any_call (rk_call (.of rfl) (.cons (.of rfl) (.cons (.of rfl) (.cons (.of rfl) .nil))) inferInstance normc_) rfl (fun w' hm'=>(within_c _ 0 59 w')) ?_;refine a_f rfl rfl norm0_ ?_;refine any_val (rk_load1 (.of rfl) (At.lit .here rfl)) rfl ?_;refine a_f rfl rfl norm0_ ?_;refine any_val (rk_load1 (.of rfl) (At.lit (.there .here) rfl)) rfl ?_)
  refine any_val (rk_subw (.of rfl) (.of rfl)) rfl ?_
  (refine any_call (rk_call (.of rfl) (.cons (.of rfl) (.cons (.of rfl) (.cons (.of rfl) .nil))) inferInstance normc_) rfl (fun w' hm'=>(within_c _ 0 _ w')) ?_;refine any_val (rk_loadB (.of rfl) .here norm_ (by rfl)) rfl ?_;refine any_val (rk_loadB (.of rfl) (.there .here) norm_ (by rfl)) rfl ?_;refine any_call (rk_call (.of rfl) (.cons (.of rfl) (.cons (.of rfl) .nil)) inferInstance normc_) rfl (fun w' hm'=>(dropped_c l r w')) ?_;refine any_call (rk_call (.of rfl) (.cons (.of rfl) (.cons (.of rfl) .nil)) inferInstance normc_) rfl (fun w' hm'=>(when_c _ 7 w')) ?_)
  with_reducible refine any_end ?_
  (refine tr_new (rk_sliceLit (.cons (.of rfl) (.cons (.of rfl) (.cons (.of rfl) (.cons (.of rfl) (.cons (.of rfl) (.cons (.of rfl) .nil)))))) rfl rfl rfl rfl) rfl (fun _ _=>?_);refine tr_callV (rk_call (.of rfl) (.cons (.of rfl) .nil) inferInstance normc_) rfl (fun w' hm'=>(first_pB (Mem.rdBlk hm' .here rfl rfl) (IntL.cons (IntL.cons (IntL.cons (IntL.cons (IntL.cons (IntL.cons IntL.nil)))))))) ?_;refine a_s rfl rfl ?_;refine n_t ?_;refine tr_ret ?_;refine tr_retE rfl (ends1 rfl rfl) ?_)
  rw [← lblE_wrap]
theorem frame_c (r:Rt) (l:Lb) (h:LbOk r l) (w:World):GivesV Tryz.prog 98 [.agg l.cells.toArray,.agg r.cells.toArray] w (.int .i64 (frmF r l)):=by
  have hfr:=h.ra.fr
  have h1:=h.h;have h2:=h.m;have h3:=h.s;have h4:=h.f
  have hm:-1 ≤ (60 * (60 * l.h + l.m) + l.s) * r.fr ∧ (60 * (60 * l.h + l.m) + l.s) * r.fr ≤ 10000000:=by
    rcases hfr with e | e | e <;> rw [e] <;> omega
  unfold Rt.cells Lb.cells
  refine givesV_of_tr Tryz.func98 rfl rfl ?_
  (refine s_r ?_;refine tr_new (rk_box (.of rfl) rfl) rfl (fun _ _=>?_);refine tr_new (rk_box (.of rfl) rfl) rfl (fun _ _=>?_);refine a_s rfl rfl ?_;refine n_r ?_;refine f_a rfl rfl norm0_ ?_;refine tr_val (rk_load1 (.of rfl) (At.lit (.there .here) rfl)) rfl ?_;refine tr_val (rk_mul (.of rfl) (.of rfl) (ini (by omega))) rfl ?_;refine f_a rfl rfl norm0_ ?_;refine tr_val (rk_load1 (.of rfl) (At.lit (.there .here) rfl)) rfl ?_;refine tr_val (rk_add (.of rfl) (.of rfl) (ini (by omega))) rfl ?_;refine a_s rfl rfl ?_;refine n_r ?_;refine m_v rfl rfl ?_;refine tr_val (rk_mul (.of rfl) (.of rfl) (ini (by omega))) rfl ?_;refine f_a rfl rfl norm0_ ?_;refine tr_val (rk_load1 (.of rfl) (At.lit (.there .here) rfl)) rfl ?_;refine tr_val (rk_add (.of rfl) (.of rfl) (ini (by omega))) rfl ?_;refine f_a rfl rfl norm0_ ?_;refine tr_val (rk_load1 (.of rfl) (At.lit .here rfl)) rfl ?_;refine tr_val (rk_mul (.of rfl) (.of rfl) (ini (by omega))) rfl ?_;refine f_a rfl rfl norm0_ ?_;refine tr_val (rk_load1 (.of rfl) (At.lit (.there .here) rfl)) rfl ?_;refine tr_val (rk_add (.of rfl) (.of rfl) (ini (by omega))) rfl ?_;refine a_s rfl rfl ?_;refine n_t ?_;refine tr_seq ?_;refine s_r ?_;refine f_a rfl rfl norm0_ ?_;refine tr_val (rk_load1 (.of rfl) (At.lit .here rfl)) rfl ?_;refine n_t ?_;refine c_b rfl (fun hcd=>?_) (fun hcd=>?_);refine tr_region ?_;refine m_v rfl rfl ?_;refine m_v rfl rfl ?_;refine m_v rfl rfl ?_;refine tr_val (rk_quo (.of rfl) (.of rfl) (by omega) (by omega) (by omega)) rfl ?_;refine tr_val (rk_sub (.of rfl) (.of rfl) (ini (by omega))) rfl ?_;refine tr_val (rk_mul (.of rfl) (.of rfl) (ini (by omega))) rfl ?_;refine tr_val (rk_sub (.of rfl) (.of rfl) (ini (by omega))) rfl ?_;refine a_s rfl rfl ?_;refine n_r ?_;refine m_v rfl rfl ?_;refine a_s rfl rfl ?_;refine n_t ?_;refine tr_ret ?_;refine tr_retE rfl (ends1 rfl rfl) ?_;rotate_left;refine s_t ?_;refine s_r ?_;refine m_v rfl rfl ?_;refine a_s rfl rfl ?_;refine n_t ?_;refine tr_ret ?_;refine tr_retE rfl (ends1 rfl rfl) ?_;rotate_right)
  all_goals (unfold frmF;simp [hcd])
end Go.Proofs.A1
