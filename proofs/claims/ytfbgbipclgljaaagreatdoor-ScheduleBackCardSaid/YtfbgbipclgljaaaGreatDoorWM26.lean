/- Parts of the proof: S73. -/
import Derived.Test.YtfbgbipclgljaaaGreatDoorWM20
import Derived.Test.YtfbgbipclgljaaaGreatDoorWM21
import Derived.Test.YtfbgbipclgljaaaGreatDoorWM25
import Derived.Test.YtfbgbipclgljaaaGreatDoorWM06
set_option linter.unusedSectionVars false
set_option linter.unusedVariables false
set_option linter.unusedSimpArgs false
namespace Go.Proofs.A1
open Go Go.SL
def validB (es:List En):Bool:=shortB es && decide ((es.length:Int) ≤ 8) && decide (chkF es = 0)
theorem validB_iff {es:List En} (h:validB es = true):shortB es = true ∧ es.length ≤ 8 ∧ chkF es = 0:=by
  unfold validB at h
  rw [Bool.and_eq_true,Bool.and_eq_true,decide_eq_true_eq,decide_eq_true_eq] at h
  exact ⟨h.1.1,by omega,h.2⟩
theorem valid_c {sv:Value} {es:List En} {w:World} (h1:Rd w sv 6 (ensL es)):GivesV Tryz.prog 59 [.agg #[sv]] w (.bool (validB es)):=by
  have h1':=h1
  obtain ⟨a,cap,b,o,rfl,hcap,hmax,ha,hc⟩:=h1
  rw [ensL_length] at *
  unfold maxLen at hmax
  refine givesV_of_tr Tryz.func59 rfl rfl ?_
  (refine s_r ?_;refine tr_new (rk_box (.of rfl) rfl) rfl (fun _ _=>?_);refine a_s rfl rfl ?_;refine n_r ?_;refine tr_val (rk_loadB (.of rfl) .here norm_ (by rfl)) rfl ?_;refine tr_callV (rk_call (.of rfl) (.cons (.of rfl) .nil) inferInstance normc_) rfl (fun w' hm'=>(short_c (Rd.keeps h1' (Mem.keeps hm')))) ?_;refine m_v rfl rfl ?_;refine tr_vG1 rfl rfl inferInstance (fun hg hgp=>(rk_fieldAddr (.of rfl) norm0_)) rfl ?_;refine tr_vG1 rfl rfl inferInstance (fun hg hgp=>(rk_load1 (.ofg hg rfl) (At.lit .here rfl))) rfl ?_;refine tr_vG1 rfl rfl inferInstance (fun hg hgp=>(rk_len_slice (.ofg hg rfl))) rfl ?_;refine tr_vG1 rfl rfl inferInstance (fun hg hgp=>(rk_leq (.ofg hg rfl) (.of rfl))) rfl ?_;refine tr_val (rk_pick_and (.of rfl) rfl) rfl ?_;refine m_v rfl rfl ?_;refine tr_vG1 rfl rfl inferInstance (fun hg hgp=>(rk_loadB (.of rfl) .here norm_ (by rfl))) rfl ?_;refine tr_callVG1 rfl rfl (fun hg=>(rk_call (.of rfl) (.cons (.ofg hg rfl) .nil) inferInstance normc_)) rfl (fun hg w' hm'=>(chkQ_c (Rd.keeps h1' (Mem.keeps hm')))) ?_;refine tr_vG1 rfl rfl inferInstance (fun hg hgp=>(rk_eql (.ofg hg rfl) (.of rfl))) rfl ?_;refine tr_val (rk_pick_and (.of rfl) rfl) rfl ?_;refine a_s rfl rfl ?_;refine n_t ?_;refine tr_ret ?_;refine tr_retE rfl (ends1 rfl rfl) ?_)
  rfl
def ndF (L:List (Int × Int × Int)):Nat → Int × Int
  | 0=>(0,1)
  | j + 1=>((ndF L j).1 * (L.getD j (0,1,1)).2.2 + (L.getD j (0,1,1)).2.1 * (ndF L j).2,(ndF L j).2 * (L.getD j (0,1,1)).2.2)
theorem Sound.parts {es:List En} (h:Sound es) (f:Int):(shF es f).length ≤ 2 ∧ (∀ x ∈ shF es f,1 ≤ x.2.1 ∧ x.2.1 ≤ x.2.2 ∧ x.2.2 ≤ 251) ∧ (∀ j,j ≤ (shF es f).length → 0 ≤ (ndF (shF es f) j).1 ∧ (ndF (shF es f) j).1 ≤ 1000000 ∧ 0 ≤ (ndF (shF es f) j).2 ∧ (ndF (shF es f) j).2 ≤ 1000000) ∧ (0 < (shF es f).length → (ndF (shF es f) (shF es f).length).1 = (ndF (shF es f) (shF es f).length).2):=by
  rcases h.air f with e | ⟨i,hi,hb,e⟩ | ⟨i,p,q,hi,e,hp,hq,p1,p2,p3,q1,q2,q3,hs⟩
  · rw [e]
    refine ⟨by simp,by simp,fun j hj=>?_,by simp⟩
    obtain rfl:j = 0:=by simpa using hj
    simp [ndF]
  · rw [e]
    refine ⟨by simp,by simp,fun j hj=>?_,fun _=>by simp [ndF]⟩
    have:j = 0 ∨ j = 1:=by simp at hj;omega
    rcases this with rfl | rfl <;> simp [ndF]
  · clear hp hq
    rw [e]
    have m1:=mul_bd (a:=p.1) (b:=q.2) (A:=251) (B:=251) (by omega) (by omega) (by omega) (by omega)
    have m2:=mul_bd (a:=q.1) (b:=p.2) (A:=251) (B:=251) (by omega) (by omega) (by omega) (by omega)
    have m3:=mul_bd (a:=p.2) (b:=q.2) (A:=251) (B:=251) (by omega) (by omega) (by omega) (by omega)
    have e1:ndF [((i:Int),p),(((i + 1:Nat):Int),q)] 1 = (p.1,p.2):=by simp [ndF]
    have e2:ndF [((i:Int),p),(((i + 1:Nat):Int),q)] 2 = (p.1 * q.2 + q.1 * p.2,p.2 * q.2):=by
      rw [ndF,e1];rfl
    refine ⟨by simp,?_,fun j hj=>?_,fun _=>?_⟩
    · intro x hx
      simp only [List.mem_cons,List.not_mem_nil,or_false] at hx
      rcases hx with rfl | rfl
      · exact ⟨p1,p2,p3⟩
      · exact ⟨q1,q2,q3⟩
    · have:j = 0 ∨ j = 1 ∨ j = 2:=by simp at hj;omega
      rcases this with rfl | rfl | rfl
      · simp [ndF]
      · rw [e1];dsimp only;omega
      · rw [e2];dsimp only;omega
    · show (ndF _ 2).1 = (ndF _ 2).2
      rw [e2];exact hs
end Go.Proofs.A1
