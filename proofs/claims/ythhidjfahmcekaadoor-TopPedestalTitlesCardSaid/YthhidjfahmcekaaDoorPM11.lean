/- Parts of the proof: DUOpen DU30 DU36 DU39 DU37 DU3A DU3H DU3I UMp. -/
import Derived.Test.YthhidjfahmcekaaDoorPM10
import Derived.Test.YthhidjfahmcekaaDoorTie
import Derived.Test.YthhidjfahmcekaaDoorCards
import Derived.Lib.SmallJoins
import Derived.Lib.LaidTab
import Derived.Deep.Slices
import Derived.Deep.Fields
import Derived.ChangeSame
import Derived.ChangeBook
import Derived.ChangeStays
import Derived.WalkKit
import Derived.ProofKit
import Derived.OpenShut
import Derived.Below
import Derived.LaidMore
import Derived.Lay
import Derived.SevenTiedAt
import Derived.Stop.Joined
import Derived.ChangeMaps5
import Derived.Test.YthhidjfahmcekaaDoorPM07
import Derived.Test.YthhidjfahmcekaaDoorPM05
import Derived.Test.YthhidjfahmcekaaDoorPM01
set_option linter.unusedSectionVars false
set_option linter.unusedVariables false
set_option linter.unusedSimpArgs false
namespace Go.Proofs.A1
open Go Go.SL Go.ChangeShapes Go.WideShapes Go.Deep Go.Joins
section
variable {H:Type} {enc:TypeId × Value → H} {w:World}
theorem laidOut:laidOutB Tryd.prog = true:=by kernel_rfl
theorem ownK:ownKnob Tryd.prog.godebug = none:=by kernel_rfl
theorem staysT {T:TypeId} (hrec:Tryd.prog.readableRec T = true) (hrow:T < Tryd.prog.types.size) {W W':World} {sp':Nat → Bool} {n:Nat} {cs:List Value} {x:DataW H × List MemPlace} (h:DataW.trod enc Tryd.prog W 0 (fun _=>true) true n T cs = some x)
    (hsame:∀ p ∈ x.2,W.sameAt W' p) (hs:∀ p ∈ x.2,sp' p.block = true):DataW.trod enc Tryd.prog W' 0 sp' true n T cs = some x:=
  DataW.trod_stays (kids_book laidOut hrec) (book_sized hrec) (fun h=>by cases h) ⟨hrow,book_self T⟩ h hsame hs
theorem list2 {α:Type}:∀ {l:List α},l.length = 2 → ∃ a0 a1,l = [a0,a1]
  | [a0,a1],_=>⟨a0,a1,rfl⟩
theorem list5 {α:Type}:∀ {l:List α},l.length = 5 → ∃ a0 a1 a2 a3 a4,l = [a0,a1,a2,a3,a4]
  | [a0,a1,a2,a3,a4],_=>⟨a0,a1,a2,a3,a4,rfl⟩
theorem c25:Tryd.prog.cellsOf 25 = 5:=by kernel_rfl
theorem c3:Tryd.prog.cellsOf 3 = 1:=by kernel_rfl
theorem c9:Tryd.prog.cellsOf 9 = 1:=by kernel_rfl
theorem c23:Tryd.prog.cellsOf 23 = 2:=by kernel_rfl
theorem cells25 {n:Nat} {cs:List Value} {x:DataW H × List MemPlace} (h:DataW.trod enc Tryd.prog w 0 (fun _=>true) true n 25 cs = some x):∃ (a0:Int) (a1:Int) (a2:Int) (a3:Int) (a4:ByteArray),cs = [.int .i64 a0,.int .i64 a1,.int .i64 a2,.int .i64 a3,.string a4]:=by
  obtain ⟨ys,n0,_,_,hlen,hyl,hf⟩:=DataW.trod_struct Tryd.underlying25 h
  rw [c25] at hlen
  have hyl0:ys.length = 4:=hyl
  obtain ⟨k0,k1,k2,k3,k4,rfl⟩:=list5 hlen
  have f0_0:DataW.trod enc Tryd.prog w 0 (fun _=>true) true n0 23 (List.take (Tryd.prog.cellsOf 23) (List.drop 0 [k0,k1,k2,k3,k4])) = ys[0]?:=hf 0 _ rfl
  rw [c23,List.getElem?_eq_getElem (by omega)] at f0_0
  obtain ⟨zs1,m1,_,_,_,hzl1,hg1⟩:=DataW.trod_struct Tryd.underlying23 f0_0
  have hzl1_:zs1.length = 2:=hzl1
  have f1_1:DataW.trod enc Tryd.prog w 0 (fun _=>true) true m1 3 (List.take (Tryd.prog.cellsOf 3) (List.drop 0 (List.take 2 (List.drop 0 [k0,k1,k2,k3,k4])))) = zs1[0]?:=hg1 0 _ rfl
  rw [c3,List.getElem?_eq_getElem (by omega)] at f1_1
  obtain ⟨b0,eb0,_,_⟩:=DataW.trod_int Tryd.underlying3 f1_1
  simp at eb0
  have f1_2:DataW.trod enc Tryd.prog w 0 (fun _=>true) true m1 3 (List.take (Tryd.prog.cellsOf 3) (List.drop 1 (List.take 2 (List.drop 0 [k0,k1,k2,k3,k4])))) = zs1[1]?:=hg1 1 _ rfl
  rw [c3,List.getElem?_eq_getElem (by omega)] at f1_2
  obtain ⟨b1,eb1,_,_⟩:=DataW.trod_int Tryd.underlying3 f1_2
  simp at eb1
  have f0_3:DataW.trod enc Tryd.prog w 0 (fun _=>true) true n0 3 (List.take (Tryd.prog.cellsOf 3) (List.drop 2 [k0,k1,k2,k3,k4])) = ys[1]?:=hf 1 _ rfl
  rw [c3,List.getElem?_eq_getElem (by omega)] at f0_3
  obtain ⟨b2,eb2,_,_⟩:=DataW.trod_int Tryd.underlying3 f0_3
  simp at eb2
  have f0_4:DataW.trod enc Tryd.prog w 0 (fun _=>true) true n0 3 (List.take (Tryd.prog.cellsOf 3) (List.drop 3 [k0,k1,k2,k3,k4])) = ys[2]?:=hf 2 _ rfl
  rw [c3,List.getElem?_eq_getElem (by omega)] at f0_4
  obtain ⟨b3,eb3,_,_⟩:=DataW.trod_int Tryd.underlying3 f0_4
  simp at eb3
  have f0_5:DataW.trod enc Tryd.prog w 0 (fun _=>true) true n0 9 (List.take (Tryd.prog.cellsOf 9) (List.drop 4 [k0,k1,k2,k3,k4])) = ys[3]?:=hf 3 _ rfl
  rw [c9,List.getElem?_eq_getElem (by omega)] at f0_5
  obtain ⟨b4,eb4,_,_⟩:=DataW.trod_string Tryd.underlying9 f0_5
  simp at eb4
  subst eb0 eb1 eb2 eb3 eb4
  exact ⟨b0,b1,b2,b3,b4,rfl⟩
theorem wf_u8 {n:Int} (h:(Lit.int .u8 n).wf = true):0 ≤ n ∧ n ≤ 255:=by
  simpa [Lit.wf,IntKind.min,IntKind.max,IntKind.signed,IntKind.bits] using h
theorem c5:Tryd.prog.cellsOf 5 = 1:=by kernel_rfl
theorem c26:Tryd.prog.cellsOf 26 = 2:=by kernel_rfl
theorem cells26 {n:Nat} {cs:List Value} {x:DataW H × List MemPlace} (h:DataW.trod enc Tryd.prog w 0 (fun _=>true) true n 26 cs = some x):∃ a0 a1:Int,cs = [.int .u8 a0,.int .u8 a1] ∧ (0 ≤ a0 ∧ a0 ≤ 255) ∧ (0 ≤ a1 ∧ a1 ≤ 255):=by
  obtain ⟨ys,n0,_,_,hlen,hyl,hf⟩:=DataW.trod_array Tryd.underlying26 h
  rw [c26] at hlen
  obtain ⟨k0,k1,rfl⟩:=list2 hlen
  have key:∀ i,i < 2 → DataW.trod enc Tryd.prog w 0 (fun _=>true) true n0 5 (List.take 1 (List.drop i [k0,k1])) = ys[i]?:=fun i hi=>by
    have:=hf i hi
    rwa [c5,Nat.mul_one] at this
  have f0:=key 0 (by omega)
  rw [List.getElem?_eq_getElem (by omega)] at f0
  obtain ⟨b0,e0,_,w0⟩:=DataW.trod_int Tryd.underlying5 f0
  simp at e0
  have f1:=key 1 (by omega)
  rw [List.getElem?_eq_getElem (by omega)] at f1
  obtain ⟨b1,e1,_,w1⟩:=DataW.trod_int Tryd.underlying5 f1
  simp at e1
  subst e0 e1
  exact ⟨b0,b1,rfl,wf_u8 w0,wf_u8 w1⟩
theorem okWide_arrayT {P:Program} {w:World} {r:Reach} {base:Nat} {t:TypeId} {v:Value} {n:Nat} {e:TypeId} (ht:P.underlying t = some (.array n e)) (h:Value.okWide P w r base t v):∃ cs,v = .agg cs ∧ cs.size = P.cellsOf t:=by
  simp only [Value.okWide,ht] at h
  obtain ⟨cs,h1,h2,_⟩:=h
  exact ⟨cs,h1,h2⟩
end
theorem globs_of {W:World} {H:Type} {enc:TypeId × Value → H} {f3:Nat} {cs3:Array Value} {p3:List MemPlace} {s3:Nat → Bool} (hv3:W.var? Tryd.prog "genlock/code.rates" = some cs3) (hd3:DataW.trod enc Tryd.prog W 0 s3 false f3 172 cs3.toList = some (.agg [.lit (.int .i64 24),.lit (.int .i64 25),.lit (.int .i64 30)],p3)):GlobR W:=by
  have hg3:Tryd.prog.globalNamed "genlock/code.rates" = some 0:=by kernel_rfl
  obtain ⟨xs,m,_,ex,_,hl,hel⟩:=DataW.trod_array Tryd.underlying172 hd3
  have e3:(xs.map (·.1)) = [.lit (.int .i64 24),.lit (.int .i64 25),.lit (.int .i64 30)]:=(DataW.agg.inj (Prod.mk.inj ex).1).symm
  have key:∀ (i:Nat) (z:Int),i < 3 → (xs.map (·.1))[i]? = some (.lit (.int .i64 z)) → W.cell? ⟨0,i,none⟩ = some (.int .i64 z):=fun i z hi h1=>by
    have hE:=hel i hi
    rw [c3,Nat.mul_one,List.getElem?_eq_getElem (by omega)] at hE
    obtain ⟨y,e1,e2,_⟩:=DataW.trod_int Tryd.underlying3 hE
    rw [List.getElem?_map,List.getElem?_eq_getElem (by omega:i < xs.length),e2] at h1
    simp only [Option.map_some,Option.some.injEq,DataW.lit.injEq,Lit.int.injEq,true_and] at h1
    subst h1
    rw [World.var?_cell hg3 hv3 i]
    have:cs3.toList[i]? = some (.int .i64 y):=by
      have h0:((cs3.toList.drop i).take 1)[0]? = some (.int .i64 y):=by rw [e1];rfl
      simpa using h0
    simpa using this
  exact ⟨key 0 24 (by omega) (by rw [e3];rfl),key 1 25 (by omega) (by rw [e3];rfl),key 2 30 (by omega) (by rw [e3];rfl)⟩
theorem of_laid {W:World} (h:laidMetH Tryd.prog YthhidjfahmcekaaDoor.Rows.topPedestalTitlesRow.laid W):GlobR W:=by
  rw [MakeChecks.laidMetH_plain _ _ _ (by kernel_rfl)] at h
  obtain ⟨ps,⟨g3,t3,cs3,f3,p3,q3,hg3,ht3,hv3,hd3,_,_⟩,_,_⟩:=h
  obtain rfl:=Option.some.inj ((show Tryd.prog.globalNamed "genlock/code.rates" = some 0 by kernel_rfl).symm.trans hg3)
  obtain rfl:=Option.some.inj ((show (Tryd.prog.globals[0]?).map (·.type) = some 172 by kernel_rfl).symm.trans ht3)
  exact globs_of hv3 hd3
end Go.Proofs.A1
namespace Go.Proofs.YthhidjfahmcekaaDoor
open Go Go.SL Go.Proofs.A1 Go.ChangeShapes Go.WideShapes Go.ChangeAt Go.RowKit Go.Joins
section
variable {H:Type} {enc:TypeId × Value → H} {P:Program}
theorem post_of_below {f:Func} {s:ChangeSpec} {apart fresh handsOn again:Bool} {W W':World} {args:Array Value} {v:Value} {ds gs:List (DataW H)} {before pa pv:List MemPlace}
    (hW:DataW.Whole enc P f.params.toList s.vars apart W args.toList ds gs before)
    (hres:∀ (b:Nat) (sp:Nat → Bool) (hd:Bool),DataW.TrodAll enc P W' b sp hd f.resultTypes.toList (v.resultList f.resultTypes.size) (s.fn H (ds++gs)).results [])
    (hargs:∀ sp:Nat → Bool,(∀ p ∈ before,sp p.block = true) → DataW.TrodAll enc P W' 0 sp true f.params.toList args.toList (s.fn H (ds++gs)).args pa)
    (hvars:∀ sp:Nat → Bool,(∀ p ∈ before,sp p.block = true) → DataW.TrodVars enc P W' sp s.vars (s.fn H (ds++gs)).vars pv)
    (hps:before = pa++pv) (hb:Below W.heap.size W W')
    (hok:∀ (j:Nat) (t:TypeId) (r:Value),f.resultTypes[j]? = some t → (v.resultList f.resultTypes.size)[j]? = some r → Value.okWide P W' .any 0 t r) :
    s.post enc P f apart fresh handsOn again W args v W':=by
  have hlt:∀ p ∈ before,p.block < W.heap.size:=fun p hp=>hW.lt p hp
  have hold:∀ p ∈ before,(fun b=>decide (b < W.heap.size)) p.block = true:=fun p hp=>by simpa using hlt p hp
  refine ⟨ds,gs,before,[],pa,pv,hW,hres _ _ _,hargs _ hold,hvars _ hold,World.keptBut_mono (fun p hp=>⟨hp,?_⟩) (hb.frame (· ∈ before)),fun _=>?_⟩
  · rw [hps,List.mem_append] at hp
    exact Or.inr hp
  · obtain ⟨_,_,_,_,_,hz,hn⟩:=hW
    refine ⟨hok,_,_,([]++pa)++pv,⟨[]++pa,pv,trodAll_append (hargs _ (fun _ _=>rfl)) (hres _ _ _),hvars _ (fun _ _=>rfl),rfl,?_,?_⟩,?_⟩
    · intro b off hp
      have hin:MemPlace.cell b off ∈ before:=by rw [hps];simpa using hp
      rw [hb.frozen (hlt _ hin)]
      exact hz b off hin
    · intro ha
      have:=hn ha
      rw [hps] at this
      simpa using this
    · intro p hp _
      rw [hps]
      simpa using hp
end
end Go.Proofs.YthhidjfahmcekaaDoor
namespace Go.Proofs.A1
open Go Go.SL
end Go.Proofs.A1
namespace Go.Proofs.A1
open Go Go.SL
end Go.Proofs.A1
namespace Go.Proofs.A1
open Go Go.SL
section
variable {P:Program} {c:Cx} {sl:Slots} {hs:List Asn} {dst:Option Tmp} {ty:TypeId} {pos:String} {af:Array Edge} {g:Option (Nat × Bool)}
theorem rk_rem8 {t u:TypeId} {x y:Operand} {a b:Int} (hx:Is sl x (.int .u8 a)) (hy:Is sl y (.int .u8 b)) (h0:0 ≤ a) (hb:b ≠ 0) :
    RunV P c sl hs ⟨dst,.binOp .rem t x y u,ty,pos,af,g⟩ (.int .u8 (a % b)):=
  rk_bin hx hy fun w=>by
    simp [eqGuard_int,binOp,Op.intDiv,hb,Int.tmod_eq_emod_of_nonneg h0]
end
end Go.Proofs.A1
namespace Go.Proofs.A1
open Go Go.SL
end Go.Proofs.A1
namespace Go.Proofs.A1
open Go Go.SL
end Go.Proofs.A1
namespace Go.Proofs.A1
open Go Go.SL
def shoB (l:List Cp):Bool:=l.all (fun x=>decide (x.tx.size ≤ 40)) && (decide (l.length ≤ 8) || decide (l.length = 33))
theorem shortQ_c {lv:Value} {l:List Cp} {w:World} (h:Rd w lv 5 (cps l)):GivesV Tryd.prog 5 [lv] w (.bool (shoB l)):=by
  obtain ⟨a,cp,b,o,rfl,hcap,hmax,ha,hc⟩:=h
  rw [cps_length] at *
  unfold maxLen at hmax
  refine givesV_of_tr Tryd.func5 rfl rfl ?_
  (refine s_r ?_;refine a_s rfl rfl ?_;refine n_t ?_;refine tr_seq ?_;refine s_r ?_;refine a_s rfl rfl ?_;refine n_t ?_;refine tr_block ?_)
  refine tr_for (fun k:Nat=>k ≤ l.length ∧ ∀ i (hi:i < l.length),i < k → l[i].tx.size ≤ 40) (fun k=>[(3,.int .i64 k),(0,.slice a l.length cp)]) (fun _=>[]) (fun k=>l.length - k) ?_ ?_
  · apply tr_start 0 ⟨Nat.zero_le _,fun i _ hi=>absurd hi (by omega)⟩
    case hs1=>exact .cons rfl (.cons rfl .nil)
    case ht=>(try simp only [List.take_zero,List.map_nil,List.nil_append]);exact .nil
  rintro k ⟨hk,hf⟩
  by_cases hlt:k < l.length
  · have ha':=ha (cps_ne hlt)
    have hcell:=(hc k _ (cps_get hlt)).2
    have hx4:w.cell? ⟨b,o + k * 5 + 4,none⟩ = some (.string l[k].tx):=hcell 4 _ rfl
    (refine tr_seq ?_;refine s_r ?_;refine m_v rfl rfl ?_;refine m_v rfl rfl ?_;refine tr_val (rk_len_slice (.of rfl)) rfl ?_;refine tr_val (rk_lss (.of rfl) (.of rfl)) rfl ?_;refine n_t ?_;refine c_d rfl (fun hcd=>?_) (fun _=>by omega);refine s_t ?_;refine tr_seq ?_;refine tr_block ?_;refine s_r ?_;refine m_v rfl rfl ?_;refine m_v rfl rfl ?_;refine tr_val (rk_indexAddr (.of rfl) (.of rfl) ha' (by omega) hcd norm1_) rfl ?_;refine f_a rfl rfl norm0_ ?_;refine tr_val (rk_load1 (.of rfl) (At.base hx4 rfl)) rfl ?_;refine tr_val (rk_len_string (.of rfl)) rfl ?_;refine tr_val (rk_gtr (.of rfl) (.of rfl)) rfl ?_;refine n_t ?_;refine c_d rfl (fun hcd=>?_) (fun hcd=>?_);refine s_r ?_;refine a_s rfl rfl ?_;refine n_t ?_;refine tr_ret ?_;refine tr_blk_ret ?_;refine tr_then_ret ?_;refine tr_then_ret ?_;refine tr_blk_ret ?_;refine tr_then_ret ?_;refine tr_retE rfl (ends1 rfl rfl) ?_;rotate_left;refine tr_skip ?_;refine tr_blk_normal ?_;refine tr_then ?_;refine tr_region ?_;refine m_v rfl rfl ?_;refine tr_val (rk_add (.of rfl) (.of rfl) (ini (by omega))) rfl ?_;refine a_s rfl rfl ?_;refine n_t ?_;rotate_right)
    · have:shoB l = false:=by
        unfold shoB
        have:l.all (fun x=>decide (x.tx.size ≤ 40)) = false:=by
          rw [List.all_eq_false]
          exact ⟨l[k],List.getElem_mem hlt,by simp;omega⟩
        rw [this];rfl
      rw [this]
    · apply tr_next (k + 1) ⟨show k + 1 ≤ l.length from hlt,fun i hi hik=>by
        by_cases e:i = k
        · subst e;omega
        · exact hf i hi (by omega)⟩ (show l.length - (k + 1) < l.length - k by omega)
      case hs1=>exact .cons rfl (.cons rfl .nil)
      case ht=>(try simp only [List.take_zero,List.map_nil,List.nil_append]);exact .nil
  · obtain rfl:k = l.length:=by omega
    have hall:l.all (fun x=>decide (x.tx.size ≤ 40)) = true:=by
      rw [List.all_eq_true]
      intro x hx
      obtain ⟨i,hi,rfl⟩:=List.getElem_of_mem hx
      exact decide_eq_true (hf i hi hi)
    unfold shoB
    rw [hall,Bool.true_and]
    (refine tr_seq ?_;refine s_r ?_;refine m_v rfl rfl ?_;refine m_v rfl rfl ?_;refine tr_val (rk_len_slice (.of rfl)) rfl ?_;refine tr_val (rk_lss (.of rfl) (.of rfl)) rfl ?_;refine n_t ?_;refine c_d rfl (fun _=>by omega) (fun hcd=>?_);refine x_t ?_;refine tr_then_exit ?_;refine tr_blk_exit ?_;refine tr_then ?_;refine s_r ?_;refine m_v rfl rfl ?_;refine tr_val (rk_len_slice (.of rfl)) rfl ?_;refine tr_val (rk_leq (.of rfl) (.of rfl)) rfl ?_;refine m_v rfl rfl ?_;refine v_g rfl rfl rfl rfl ?_;refine tr_vG1 rfl rfl inferInstance (fun hg hgp=>(rk_len_slice (.ofg hg rfl))) rfl ?_;refine tr_vG1 rfl rfl inferInstance (fun hg hgp=>(rk_eql (.ofg hg rfl) (.of rfl))) rfl ?_;refine tr_val (rk_pick_or (.of rfl) rfl) rfl ?_;refine a_s rfl rfl ?_;refine n_t ?_;refine tr_ret ?_;refine tr_retE rfl (ends1 rfl rfl) ?_)
    congr 2
    · rw [decide_eq_decide];omega
    · rw [decide_eq_decide];omega
theorem conflictQ_c (x y:Cp) (hx:CpOk x) (hy:CpOk y) (w:World):GivesV Tryd.prog 27 [.agg x.cells.toArray,.agg y.cells.toArray] w (.bool (cflQ x y)):=by
  have h1:=hx.co;have h2:=hx.fit;have h3:=hy.co;have h4:=hy.fit
  have h5:=hx.ne;have h6:=hy.ne
  unfold Cp.cells
  refine givesV_of_tr Tryd.func27 rfl rfl ?_
  (refine s_r ?_;refine tr_new (rk_box (.of rfl) rfl) rfl (fun _ _=>?_);refine tr_new (rk_box (.of rfl) rfl) rfl (fun _ _=>?_);refine a_s rfl rfl ?_;refine n_r ?_;refine f_a rfl rfl norm0_ ?_;refine tr_val (rk_load1 (.of rfl) (At.lit (.there .here) rfl)) rfl ?_;refine f_a rfl rfl norm0_ ?_;refine tr_val (rk_load1 (.of rfl) (At.lit .here rfl)) rfl ?_;refine tr_val (rk_eql (.of rfl) (.of rfl)) rfl ?_;refine m_v rfl rfl ?_;refine tr_vG1 rfl rfl inferInstance (fun hg hgp=>(rk_fieldAddr (.of rfl) norm0_)) rfl ?_;refine tr_vG1 rfl rfl inferInstance (fun hg hgp=>(rk_fieldAddr (.ofg hg rfl) norm0_)) rfl ?_;refine tr_vG1 rfl rfl inferInstance (fun hg hgp=>(rk_load1 (.ofg hg rfl) (At.lit (.there .here) rfl))) rfl ?_;refine tr_vG1 rfl rfl inferInstance (fun hg hgp=>(rk_fieldAddr (.of rfl) norm0_)) rfl ?_;refine tr_vG1 rfl rfl inferInstance (fun hg hgp=>(rk_fieldAddr (.ofg hg rfl) norm0_)) rfl ?_;refine tr_vG1 rfl rfl inferInstance (fun hg hgp=>(rk_load1 (.ofg hg rfl) (At.lit .here rfl))) rfl ?_;refine tr_vG1 rfl rfl inferInstance (fun hg hgp=>(rk_lss (.ofg hg rfl) (.ofg hg rfl))) rfl ?_;refine tr_val (rk_pick_and (.of rfl) rfl) rfl ?_;refine m_v rfl rfl ?_;refine tr_vG1 rfl rfl inferInstance (fun hg hgp=>(rk_fieldAddr (.of rfl) norm0_)) rfl ?_;refine tr_vG1 rfl rfl inferInstance (fun hg hgp=>(rk_fieldAddr (.ofg hg rfl) norm0_)) rfl ?_;refine tr_vG1 rfl rfl inferInstance (fun hg hgp=>(rk_load1 (.ofg hg rfl) (At.lit .here rfl))) rfl ?_;refine tr_vG1 rfl rfl inferInstance (fun hg hgp=>(rk_fieldAddr (.of rfl) norm0_)) rfl ?_;refine tr_vG1 rfl rfl inferInstance (fun hg hgp=>(rk_fieldAddr (.ofg hg rfl) norm0_)) rfl ?_;refine tr_vG1 rfl rfl inferInstance (fun hg hgp=>(rk_load1 (.ofg hg rfl) (At.lit (.there .here) rfl))) rfl ?_;refine tr_vG1 rfl rfl inferInstance (fun hg hgp=>(rk_lss (.ofg hg rfl) (.ofg hg rfl))) rfl ?_;refine tr_val (rk_pick_and (.of rfl) rfl) rfl ?_;refine m_v rfl rfl ?_;refine tr_vG1 rfl rfl inferInstance (fun hg hgp=>(rk_fieldAddr (.of rfl) norm0_)) rfl ?_;refine tr_vG1 rfl rfl inferInstance (fun hg hgp=>(rk_load1 (.ofg hg rfl) (At.lit (.there .here) rfl))) rfl ?_;refine tr_vG1 rfl rfl inferInstance (fun hg hgp=>(rk_fieldAddr (.of rfl) norm0_)) rfl ?_;refine tr_vG1 rfl rfl inferInstance (fun hg hgp=>(rk_load1 (.ofg hg rfl) (At.lit .here rfl))) rfl ?_;refine tr_vG1 rfl rfl inferInstance (fun hg hgp=>(rk_fieldAddr (.of rfl) norm0_)) rfl ?_;refine tr_vG1 rfl rfl inferInstance (fun hg hgp=>(rk_load1 (.ofg hg rfl) (At.lit .here rfl))) rfl ?_;refine tr_vG1 rfl rfl inferInstance (fun hg hgp=>(rk_len_string (.ofg hg rfl))) rfl ?_;refine tr_vG1 rfl rfl inferInstance (fun hg hgp=>(rk_add (.ofg hg rfl) (.ofg hg rfl) (ini (by omega)))) rfl ?_;refine tr_vG1 rfl rfl inferInstance (fun hg hgp=>(rk_lss (.ofg hg rfl) (.ofg hg rfl))) rfl ?_;refine tr_val (rk_pick_and (.of rfl) rfl) rfl ?_;refine m_v rfl rfl ?_;refine tr_vG1 rfl rfl inferInstance (fun hg hgp=>(rk_fieldAddr (.of rfl) norm0_)) rfl ?_;refine tr_vG1 rfl rfl inferInstance (fun hg hgp=>(rk_load1 (.ofg hg rfl) (At.lit .here rfl))) rfl ?_;refine tr_vG1 rfl rfl inferInstance (fun hg hgp=>(rk_fieldAddr (.of rfl) norm0_)) rfl ?_;refine tr_vG1 rfl rfl inferInstance (fun hg hgp=>(rk_load1 (.ofg hg rfl) (At.lit (.there .here) rfl))) rfl ?_;refine tr_vG1 rfl rfl inferInstance (fun hg hgp=>(rk_fieldAddr (.of rfl) norm0_)) rfl ?_;refine tr_vG1 rfl rfl inferInstance (fun hg hgp=>(rk_load1 (.ofg hg rfl) (At.lit (.there .here) rfl))) rfl ?_;refine tr_vG1 rfl rfl inferInstance (fun hg hgp=>(rk_len_string (.ofg hg rfl))) rfl ?_;refine tr_vG1 rfl rfl inferInstance (fun hg hgp=>(rk_add (.ofg hg rfl) (.ofg hg rfl) (ini (by omega)))) rfl ?_;refine tr_vG1 rfl rfl inferInstance (fun hg hgp=>(rk_lss (.ofg hg rfl) (.ofg hg rfl))) rfl ?_;refine tr_val (rk_pick_and (.of rfl) rfl) rfl ?_;refine a_s rfl rfl ?_;refine n_t ?_;refine tr_ret ?_;refine tr_retE rfl (ends1 rfl rfl) ?_)
  unfold cflQ
  simp [Bool.and_assoc]
end Go.Proofs.A1
namespace Go.Proofs.A1
open Go Go.SL
def spBad (x:Cp):Prop:=(x.fr < 0 ∨ x.to ≤ x.fr) ∨ 10000000 < x.to
theorem spB_t {x:Cp} (h:spBad x):(decide (x.fr < 0) || (decide (x.to ≤ x.fr) || decide (10000000 < x.to))) = true:=by
  unfold spBad at h;simp only [Bool.or_eq_true,decide_eq_true_eq];omega
theorem spB_f {x:Cp} (h:¬ spBad x):(decide (x.fr < 0) || (decide (x.to ≤ x.fr) || decide (10000000 < x.to))) = false:=by
  unfold spBad at h;simp only [Bool.or_eq_false_iff,decide_eq_false_iff_not];omega
theorem cpE_1 {x:Cp} (h:spBad x):cpE x = 14:=by
  unfold cpE;rw [spB_t h];simp [whenF,firstF]
theorem cpE_2 {x:Cp} (h:¬ spBad x) (h2:firstF [withinF x.rw 0 7,withinF x.co 0 31] ≠ 0):cpE x = firstF [withinF x.rw 0 7,withinF x.co 0 31]:=by
  unfold cpE;rw [spB_f h]
  by_cases a:withinF x.rw 0 7 = 0 <;> by_cases b:withinF x.co 0 31 = 0 <;> simp_all [whenF,firstF]
theorem rc_z {x:Cp} (h2:firstF [withinF x.rw 0 7,withinF x.co 0 31] = 0):withinF x.rw 0 7 = 0 ∧ withinF x.co 0 31 = 0:=by
  rw [firstF_zero] at h2
  exact ⟨h2 _ (by simp),h2 _ (by simp)⟩
theorem cpE_3 {x:Cp} (h:¬ spBad x) (h2:firstF [withinF x.rw 0 7,withinF x.co 0 31] = 0):cpE x = firstF [whenF (decide (x.tx.size = 0)) 12,whenF (decide (32 < x.co + (x.tx.size:Int))) 26,whenF (badTx x.tx) 1]:=by
  obtain ⟨a,b⟩:=rc_z h2
  unfold cpE;rw [spB_f h,a,b];simp [whenF,firstF]
theorem cpE_4 {x:Cp} (h:¬ spBad x) (h2:firstF [withinF x.rw 0 7,withinF x.co 0 31] = 0) (h3:x.tx.size = 0):cpE x = 12:=by
  rw [cpE_3 h h2,decide_eq_true h3];simp [whenF,firstF]
theorem cpE_5 {x:Cp} (h:¬ spBad x) (h2:firstF [withinF x.rw 0 7,withinF x.co 0 31] = 0) (h3:x.tx.size ≠ 0) (h4:32 < x.co + (x.tx.size:Int)):cpE x = 26:=by
  rw [cpE_3 h h2,decide_eq_false h3,decide_eq_true h4];simp [whenF,firstF]
theorem cpE_6 {x:Cp} (h:¬ spBad x) (h2:firstF [withinF x.rw 0 7,withinF x.co 0 31] = 0) (h3:x.tx.size ≠ 0) (h4:¬ 32 < x.co + (x.tx.size:Int)):cpE x = if badTx x.tx = true then 1 else 0:=by
  rw [cpE_3 h h2,decide_eq_false h3,decide_eq_false h4];cases badTx x.tx <;> simp [whenF,firstF]
theorem badTx_at {s:ByteArray} {k:Nat} (hk:k < s.size) (h:bt s k < 32 ∨ 126 < bt s k):badTx s = true:=by
  cases hb:badTx s with
  | true=>rfl
  | false=>have:=badTx_no.1 hb k hk;omega
theorem cpAt_e {l:List Cp} {k:Nat} (hk:k < l.length) (h:cpE l[k] ≠ 0):cpAt l k = cpE l[k]:=by
  unfold cpAt
  rw [nthC_get hk]
  simp [firstF,h]
theorem cpAt_c {l:List Cp} {k:Nat} (hk:k < l.length) (hf:∀ i,i < k → cpAt l i = 0) (h:cpE l[k] = 0):cpAt l k = if ∃ j,∃ hj:j < k,cflQ l[k] (l[j]'(Nat.lt_trans hj hk)) = true then 24 else 0:=by
  have hok:=cpE_zero.1 h
  have hj:∀ j (hj:j < k),CpOk (l[j]'(Nat.lt_trans hj hk)):=fun j hj=>by
    have:=cpAt_ok (hf j hj)
    rwa [nthC_get (by omega)] at this
  unfold cpAt
  rw [nthC_get hk,h]
  by_cases he:∃ j,∃ hj:j < k,cflQ l[k] (l[j]'(Nat.lt_trans hj hk)) = true
  · rw [if_pos he]
    have:(l.take k).any (cfl l[k]) = true:=by
      obtain ⟨j,hjk,hc⟩:=he
      rw [List.any_eq_true]
      exact ⟨l[j],List.mem_take_iff_getElem.2 ⟨j,by omega,rfl⟩,by rw [cfl_iff hok (hj j hjk)];exact hc⟩
    rw [this];simp [firstF,whenF]
  · rw [if_neg he]
    have:(l.take k).any (cfl l[k]) = false:=by
      rw [List.any_eq_false]
      intro x hx
      obtain ⟨j,hjk,rfl⟩:=List.mem_take_iff_getElem.1 hx
      have hjk':j < k:=by omega
      rw [cfl_iff hok (hj j hjk')]
      exact fun hc=>he ⟨j,hjk',hc⟩
    rw [this];simp [firstF,whenF]
set_option maxHeartbeats 2000000 in
theorem capsQ_c {lv:Value} {l:List Cp} {w:World} (h:Rd w lv 5 (cps l)):GivesV Tryd.prog 6 [lv] w (.int .i64 (capE l)):=by
  obtain ⟨a,cp,b,o,rfl,hcap,hmax,ha,hc⟩:=h
  rw [cps_length] at *
  unfold maxLen at hmax
  refine givesV_of_tr Tryd.func6 rfl rfl ?_
  (refine s_r ?_;refine a_s rfl rfl ?_;refine n_t ?_;refine tr_seq ?_;refine s_r ?_;refine m_v rfl rfl ?_;refine tr_val (rk_len_slice (.of rfl)) rfl ?_;refine tr_val (rk_gtr (.of rfl) (.of rfl)) rfl ?_;refine n_t ?_;refine c_d rfl (fun hcd=>?_) (fun hcd=>?_);refine s_r ?_;refine a_s rfl rfl ?_;refine n_t ?_;refine r_t ?_;refine tr_retE rfl (ends1 rfl rfl) ?_;rotate_left;refine s_t ?_;refine tr_seq ?_;refine s_r ?_;refine a_s rfl rfl ?_;refine n_t ?_;refine tr_block ?_;rotate_right)
  · rw [capE,if_pos (by omega)]
  have hE:capE l = errE (cpAt l) l.length:=by rw [capE,if_neg (by omega)]
  rw [hE]
  clear hcd
  refine tr_for (fun k:Nat=>k ≤ l.length ∧ ∀ i,i < k → cpAt l i = 0) (fun k=>[(3,.int .i64 k),(0,.slice a l.length cp)]) (fun _=>[]) (fun k=>l.length - k) ?_ ?_
  · apply tr_start 0 ⟨Nat.zero_le _,fun i h=>by omega⟩
    case hs1=>exact .cons rfl (.cons rfl .nil)
    case ht=>(try simp only [List.take_zero,List.map_nil,List.nil_append]);exact .nil
  rintro k ⟨hk,hf⟩
  by_cases hlt:k < l.length
  · have ha':=ha (cps_ne hlt)
    have hcell:=(hc k _ (cps_get hlt)).2
    have hR:∀ c,c ≠ 0 → cpE l[k] = c → errE (cpAt l) l.length = c:=fun c h0 he=>by
      have:=cpAt_e hlt (by rw [he];exact h0)
      rw [errE_bad (fun i hi=>hf i hi) hlt (by rw [this,he];exact h0),this,he]
    have hR2:=cpAt_c hlt hf
    have hR3:∀ j (hj:j < k),cpE l[k] = 0 → cflQ l[k] (l[j]'(Nat.lt_trans hj hlt)) = true → errE (cpAt l) l.length = 24:=fun j hj h0 hq=>by
      have:=hR2 h0
      rw [if_pos ⟨j,hj,hq⟩] at this
      rw [errE_bad (fun i hi=>hf i hi) hlt (by rw [this];decide),this]
    have hR4:cpE l[k] = 0 → (∀ j (hj:j < k),cflQ l[k] (l[j]'(Nat.lt_trans hj hlt)) = false) → cpAt l k = 0:=fun h0 hq=>by
      have:=hR2 h0
      rwa [if_neg (fun ⟨j,hj,hx⟩=>by rw [hq j hj] at hx;cases hx)] at this
    have hokj:∀ j (hj:j < k),CpOk (l[j]'(Nat.lt_trans hj hlt)):=fun j hj=>by
      have:=cpAt_ok (hf j hj)
      rwa [nthC_get (by omega)] at this
    clear hR2
    generalize hx:l[k] = x at hcell hR hR3 hR4
    have hcl:∀ (y:Cp),CpOk x → CpOk y → ∀ w,GivesV Tryd.prog 27 [.agg x.cells.toArray,.agg y.cells.toArray] w (.bool (cflQ x y)):=fun y h1 h2 w=>conflictQ_c x y h1 h2 w
    dsimp only [Cp.cells] at hcell hcl
    (refine tr_seq ?_;refine s_r ?_;refine m_v rfl rfl ?_;refine m_v rfl rfl ?_;refine tr_val (rk_len_slice (.of rfl)) rfl ?_;refine tr_val (rk_lss (.of rfl) (.of rfl)) rfl ?_;refine n_t ?_;refine c_d rfl (fun hcd=>?_) (fun _=>by omega);refine s_t ?_;refine tr_seq ?_;refine tr_block ?_;refine s_r ?_;refine m_v rfl rfl ?_;refine m_v rfl rfl ?_;refine tr_val (rk_indexAddr (.of rfl) (.of rfl) ha' (by omega) hcd norm1_) rfl ?_;refine tr_val (rk_loadN (.of rfl) (Ats.base hcell rfl) rfl) rfl ?_;refine tr_new (rk_alloc rfl) rfl (fun _ _=>?_);refine tr_store (.of rfl) (.of rfl) .here rfl rfl (okc_cons rfl (okc_cons rfl (okc_cons rfl (okc_cons rfl (okc_cons rfl okc_nil))))) (lenb rfl) norm_ ?_;refine n_t ?_;refine tr_seq ?_;refine s_r ?_;refine f_a rfl rfl norm0_ ?_;refine f_a rfl rfl norm0_ ?_;refine tr_val (rk_load1 (.of rfl) (At.lit .here rfl)) rfl ?_;refine tr_val (rk_lss (.of rfl) (.of rfl)) rfl ?_;refine m_v rfl rfl ?_;refine tr_vG1 rfl rfl inferInstance (fun hg hgp=>(rk_fieldAddr (.of rfl) norm0_)) rfl ?_;refine tr_vG1 rfl rfl inferInstance (fun hg hgp=>(rk_fieldAddr (.ofg hg rfl) norm0_)) rfl ?_;refine tr_vG1 rfl rfl inferInstance (fun hg hgp=>(rk_load1 (.ofg hg rfl) (At.lit .here rfl))) rfl ?_;refine tr_vG1 rfl rfl inferInstance (fun hg hgp=>(rk_fieldAddr (.of rfl) norm0_)) rfl ?_;refine tr_vG1 rfl rfl inferInstance (fun hg hgp=>(rk_fieldAddr (.ofg hg rfl) norm0_)) rfl ?_;refine tr_vG1 rfl rfl inferInstance (fun hg hgp=>(rk_load1 (.ofg hg rfl) (At.lit .here rfl))) rfl ?_;refine tr_vG1 rfl rfl inferInstance (fun hg hgp=>(rk_geq (.ofg hg rfl) (.ofg hg rfl))) rfl ?_;refine tr_val (rk_pick_or (.of rfl) rfl) rfl ?_;refine m_v rfl rfl ?_;refine tr_vG1 rfl rfl inferInstance (fun hg hgp=>(rk_fieldAddr (.of rfl) norm0_)) rfl ?_;refine tr_vG1 rfl rfl inferInstance (fun hg hgp=>(rk_fieldAddr (.ofg hg rfl) norm0_)) rfl ?_;refine tr_vG1 rfl rfl inferInstance (fun hg hgp=>(rk_load1 (.ofg hg rfl) (At.lit .here rfl))) rfl ?_;refine tr_vG1 rfl rfl inferInstance (fun hg hgp=>(rk_gtr (.ofg hg rfl) (.of rfl))) rfl ?_;refine tr_val (rk_pick_or (.of rfl) rfl) rfl ?_;refine n_t ?_;refine c_b rfl (fun hcd=>?_) (fun hcd=>?_);refine s_r ?_;refine a_s rfl rfl ?_;refine n_t ?_;refine r_t ?_;refine tr_blk_ret ?_;refine tr_then_ret ?_;refine tr_then_ret ?_;refine tr_blk_ret ?_;refine tr_then_ret ?_;refine tr_retE rfl (ends1 rfl rfl) ?_;rotate_left;refine s_t ?_;refine tr_seq ?_;refine tr_seq ?_;rotate_right)
    · rw [hR 14 (by decide) (cpE_1 hcd)]
    have hsp:¬ spBad x:=by unfold spBad;omega
    rename_i bx _
    with_reducible refine tr_draw 6 (by kernel_rfl) ?_
    (refine a_f rfl rfl norm0_ ?_;refine any_val (rk_load1 (.of rfl) (At.lit .here rfl)) rfl ?_;refine any_call (rk_call (.of rfl) (.cons (.of rfl) (.cons (.of rfl) (.cons (.of rfl) .nil))) inferInstance normc_) rfl (fun w' hm'=>(range_q _ 0 7 w')) ?_;refine a_f rfl rfl norm0_ ?_;refine any_val (rk_load1 (.of rfl) (At.lit .here rfl)) rfl ?_;refine any_call (rk_call (.of rfl) (.cons (.of rfl) (.cons (.of rfl) (.cons (.of rfl) .nil))) inferInstance normc_) rfl (fun w' hm'=>(range_q _ 0 31 w')) ?_)
    with_reducible refine any_end ?_
    (refine tr_new (rk_sliceLit (.cons (.of rfl) (.cons (.of rfl) .nil)) rfl rfl rfl rfl) rfl (fun _ _=>?_);refine tr_callV (rk_call (.of rfl) (.cons (.of rfl) .nil) inferInstance normc_) rfl (fun w' hm'=>(first_qB (Mem.rdBlk hm' .here rfl rfl) (IntL.cons (IntL.cons IntL.nil)))) ?_;refine a_s rfl rfl ?_;refine n_r ?_;refine m_v rfl rfl ?_;refine tr_val (rk_neq (.of rfl) (.of rfl)) rfl ?_;refine n_t ?_;refine c_d rfl (fun hcd=>?_) (fun hcd=>?_);refine s_r ?_;refine m_v rfl rfl ?_;refine a_s rfl rfl ?_;refine n_t ?_;refine r_t ?_;refine tr_blk_ret ?_;refine tr_then_ret ?_;refine tr_then_ret ?_;refine tr_blk_ret ?_;refine tr_then_ret ?_;refine tr_retE rfl (ends1 rfl rfl) ?_;rotate_left;refine s_t ?_;refine tr_seq ?_;refine s_r ?_;refine f_a rfl rfl norm0_ ?_;refine tr_val (rk_load1 (.of rfl) (At.lit (.there .here) rfl)) rfl ?_;refine tr_val (rk_eqls (.of rfl) (.of rfl)) rfl ?_;refine n_t ?_;refine c_d rfl (fun hcd=>?_) (fun hcd=>?_);refine s_r ?_;refine a_s rfl rfl ?_;refine n_t ?_;refine r_t ?_;refine tr_blk_ret ?_;refine tr_then_ret ?_;refine tr_then_ret ?_;refine tr_blk_ret ?_;refine tr_then_ret ?_;refine tr_retE rfl (ends1 rfl rfl) ?_;rotate_left;refine s_t ?_;refine tr_seq ?_;refine s_r ?_;refine f_a rfl rfl norm0_ ?_;refine tr_val (rk_load1 (.of rfl) (At.lit (.there .here) rfl)) rfl ?_;refine tr_val (rk_len_string (.of rfl)) rfl ?_;refine f_a rfl rfl norm0_ ?_;refine tr_val (rk_load1 (.of rfl) (At.lit (.there .here) rfl)) rfl ?_;rotate_right;rotate_right)
    · rw [hR _ hcd (cpE_2 hsp hcd)]
    · have h2:firstF [withinF x.rw 0 7,withinF x.co 0 31] = 0:=Decidable.not_not.1 (by assumption)
      rw [hR 12 (by decide) (cpE_4 hsp h2 (ne_empty.2 hcd))]
    have h2:firstF [withinF x.rw 0 7,withinF x.co 0 31] = 0:=Decidable.not_not.1 (by assumption)
    have hne:x.tx.size ≠ 0:=fun h=>hcd (ne_empty.1 h)
    have hco:=withinF_zero.1 (rc_z h2).2
    clear hcd
    (refine tr_val (rk_sub (.of rfl) (.of rfl) (ini (by omega))) rfl ?_;refine tr_val (rk_gtr (.of rfl) (.of rfl)) rfl ?_;refine n_t ?_;refine c_d rfl (fun hcd=>?_) (fun hcd=>?_);refine s_r ?_;refine a_s rfl rfl ?_;refine n_t ?_;refine r_t ?_;refine tr_blk_ret ?_;refine tr_then_ret ?_;refine tr_then_ret ?_;refine tr_blk_ret ?_;refine tr_then_ret ?_;refine tr_retE rfl (ends1 rfl rfl) ?_;rotate_left;refine s_t ?_;refine tr_seq ?_;refine s_r ?_;refine a_s rfl rfl ?_;refine n_t ?_;refine tr_block ?_;rotate_right)
    · rw [hR 26 (by decide) (cpE_5 hsp h2 hne (by omega))]
    have hln:¬ 32 < x.co + (x.tx.size:Int):=by omega
    have h6:=cpE_6 hsp h2 hne hln
    clear hcd
    refine tr_for (fun j:Nat=>j ≤ x.tx.size ∧ ∀ i,i < j → ¬ (bt x.tx i < 32 ∨ 126 < bt x.tx i)) (fun j=>[(6,.int .i64 j),(4,.pointer (some ⟨bx,0,none⟩)),(3,.int .i64 k),(0,.slice a l.length cp)]) (fun _=>[blk bx (.cells #[.int .i64 x.fr,.int .i64 x.to,.int .i64 x.rw,.int .i64 x.co,.string x.tx] 25 (0,0))]) (fun j=>x.tx.size - j) ?_ ?_
    · apply tr_start 0 ⟨Nat.zero_le _,fun i h=>by omega⟩
      case hs1=>exact .cons rfl (.cons rfl (.cons rfl (.cons rfl .nil)))
      case ht=>(try simp only [List.take_zero,List.map_nil,List.nil_append]);exact .cons (.there .here) .nil
    rintro j ⟨hj,hfj⟩
    by_cases hlj:j < x.tx.size
    · have hbt:(((x.tx.data.toList[((j:Nat):Int).toNat]?.getD 0).toNat:Nat):Int) = bt x.tx j:=rfl
      (refine tr_seq ?_;refine s_r ?_;refine m_v rfl rfl ?_;refine f_a rfl rfl norm0_ ?_;refine tr_val (rk_load1 (.of rfl) (At.lit .here rfl)) rfl ?_;refine tr_val (rk_len_string (.of rfl)) rfl ?_;refine tr_val (rk_lss (.of rfl) (.of rfl)) rfl ?_;refine n_t ?_;refine c_d rfl (fun hcd=>?_) (fun _=>by omega);refine s_t ?_;refine tr_seq ?_;refine tr_block ?_;refine s_r ?_;refine f_a rfl rfl norm0_ ?_;refine tr_val (rk_load1 (.of rfl) (At.lit .here rfl)) rfl ?_;refine m_v rfl rfl ?_;refine tr_val (rk_indexS (.of rfl) (.of rfl) (by omega) hcd) rfl ?_;refine tr_val (rk_lss (.of rfl) (.of rfl)) rfl ?_;refine m_v rfl rfl ?_;refine tr_vG1 rfl rfl inferInstance (fun hg hgp=>(rk_fieldAddr (.of rfl) norm0_)) rfl ?_;refine tr_vG1 rfl rfl inferInstance (fun hg hgp=>(rk_load1 (.ofg hg rfl) (At.lit .here rfl))) rfl ?_;refine v_g rfl rfl rfl rfl ?_;refine tr_vG1 rfl rfl inferInstance (fun hg hgp=>(rk_indexS (.ofg hg rfl) (.ofg hg rfl) (by omega) hcd)) rfl ?_;refine tr_vG1 rfl rfl inferInstance (fun hg hgp=>(rk_gtr (.ofg hg rfl) (.of rfl))) rfl ?_;refine tr_val (rk_pick_or (.of rfl) rfl) rfl ?_;refine n_t ?_;refine c_b rfl (fun hcd=>?_) (fun hcd=>?_);refine s_r ?_;refine a_s rfl rfl ?_;refine n_t ?_;refine tr_ret ?_;refine tr_blk_ret ?_;refine tr_then_ret ?_;refine tr_then_ret ?_;refine tr_blk_ret ?_;refine tr_then_ret ?_;refine tr_blk_ret ?_;refine tr_then_ret ?_;refine tr_then_ret ?_;refine tr_blk_ret ?_;refine tr_then_ret ?_;refine tr_retE rfl (ends1 rfl rfl) ?_;rotate_left;refine tr_skip ?_;refine tr_blk_normal ?_;refine tr_then ?_;refine tr_region ?_;refine m_v rfl rfl ?_;refine tr_val (rk_add (.of rfl) (.of rfl) (ini (by omega))) rfl ?_;refine a_s rfl rfl ?_;refine n_t ?_;rotate_right)
      · rw [hbt] at hcd
        rw [hR 1 (by decide) (by rw [h6,if_pos (badTx_at hlj hcd)])]
      · rw [hbt] at hcd
        apply tr_next (j + 1) ⟨show j + 1 ≤ x.tx.size from hlj,fun i hi=>by
          by_cases e:i = j
          · rw [e];omega
          · exact hfj i (by omega)⟩ (show x.tx.size - (j + 1) < x.tx.size - j by omega)
        case hs1=>exact .cons rfl (.cons rfl (.cons rfl (.cons rfl .nil)))
        case ht=>(try simp only [List.take_zero,List.map_nil,List.nil_append]);exact .cons .here .nil
    · obtain rfl:j = x.tx.size:=by omega
      have hnb:badTx x.tx = false:=badTx_no.2 fun i hi=>by have:=hfj i hi;omega
      rw [hnb,if_neg (by decide)] at h6
      have hxok:=cpE_zero.1 h6
      (refine tr_seq ?_;refine s_r ?_;refine m_v rfl rfl ?_;refine f_a rfl rfl norm0_ ?_;refine tr_val (rk_load1 (.of rfl) (At.lit .here rfl)) rfl ?_;refine tr_val (rk_len_string (.of rfl)) rfl ?_;refine tr_val (rk_lss (.of rfl) (.of rfl)) rfl ?_;refine n_t ?_;refine c_d rfl (fun _=>by omega) (fun hcd=>?_);refine x_t ?_;refine tr_then_exit ?_;refine tr_blk_exit ?_;refine tr_then ?_;refine s_r ?_;refine a_s rfl rfl ?_;refine n_t ?_;refine tr_block ?_)
      refine tr_for (fun j:Nat=>j ≤ k ∧ ∀ i (hi:i < k),i < j → cflQ x (l[i]'(Nat.lt_trans hi hlt)) = false) (fun j=>[(7,.int .i64 j),(4,.pointer (some ⟨bx,0,none⟩)),(3,.int .i64 k),(0,.slice a l.length cp)]) (fun _=>[blk bx (.cells #[.int .i64 x.fr,.int .i64 x.to,.int .i64 x.rw,.int .i64 x.co,.string x.tx] 25 (0,0))]) (fun j=>k - j) ?_ ?_
      · apply tr_start 0 ⟨Nat.zero_le _,fun i _ h=>by omega⟩
        case hs1=>exact .cons rfl (.cons rfl (.cons rfl (.cons rfl .nil)))
        case ht=>(try simp only [List.take_zero,List.map_nil,List.nil_append]);exact .cons .here .nil
      rintro j ⟨hj2,hfj2⟩
      by_cases hjk:j < k
      · have hjl:j < l.length:=by omega
        have hcellj:=(hc j _ (cps_get hjl)).2
        have hcf:=hcl l[j] hxok (hokj j hjk)
        have hR3j:=hR3 j hjk h6
        generalize hq:cflQ x l[j] = q at hcf hR3j
        generalize hy:l[j] = y at hcellj hcf
        dsimp only [Cp.cells] at hcellj hcf
        (refine tr_seq ?_;refine s_r ?_;refine m_v rfl rfl ?_;refine m_v rfl rfl ?_;refine tr_val (rk_lss (.of rfl) (.of rfl)) rfl ?_;refine n_t ?_;refine c_d rfl (fun hcd=>?_) (fun _=>by omega);refine s_t ?_;refine tr_seq ?_;refine tr_block ?_;refine tr_seq ?_)
        with_reducible refine tr_draw 6 (by kernel_rfl) ?_
        (refine any_val (rk_loadB (.of rfl) .here norm_ (by rfl)) rfl ?_;refine a_m rfl rfl ?_;refine a_m rfl rfl ?_;refine any_val (rk_indexAddr (.of rfl) (.of rfl) ha' (by omega) (by omega) norm1_) rfl ?_;refine any_val (rk_loadN (.of rfl) (Ats.base hcellj rfl) rfl) rfl ?_;refine any_call (rk_call (.of rfl) (.cons (.of rfl) (.cons (.of rfl) .nil)) inferInstance normc_) rfl (fun w' hm'=>(hcf w')) ?_)
        with_reducible refine any_end ?_
        (refine n_t ?_;refine c_b rfl (fun hcd=>?_) (fun hcd=>?_);refine s_r ?_;refine a_s rfl rfl ?_;refine n_t ?_;refine tr_ret ?_;refine tr_blk_ret ?_;refine tr_then_ret ?_;refine tr_then_ret ?_;refine tr_blk_ret ?_;refine tr_blk_ret ?_;refine tr_then_ret ?_;refine tr_then_ret ?_;refine tr_blk_ret ?_;refine tr_then_ret ?_;refine tr_retE rfl (ends1 rfl rfl) ?_;rotate_left;refine tr_skip ?_;refine tr_blk_normal ?_;refine tr_then ?_;refine tr_region ?_;refine m_v rfl rfl ?_;refine tr_val (rk_add (.of rfl) (.of rfl) (ini (by omega))) rfl ?_;refine a_s rfl rfl ?_;refine n_t ?_;rotate_right)
        · rw [hR3j hcd]
        · apply tr_next (j + 1) ⟨show j + 1 ≤ k from hjk,fun i hi hij=>by
            by_cases e:i = j
            · subst e;rw [hq];first | exact hcd | assumption | (rename_i hz;simpa using hz)
            · exact hfj2 i hi (by omega)⟩ (show k - (j + 1) < k - j by omega)
          case hs1=>exact .cons rfl (.cons rfl (.cons rfl (.cons rfl .nil)))
          case ht=>(try simp only [List.take_zero,List.map_nil,List.nil_append]);exact .cons .here .nil
      · obtain rfl:j = k:=by omega
        have hz:=hR4 h6 (fun i hi=>hfj2 i hi hi)
        (refine tr_seq ?_;refine s_r ?_;refine m_v rfl rfl ?_;refine m_v rfl rfl ?_;refine tr_val (rk_lss (.of rfl) (.of rfl)) rfl ?_;refine n_t ?_;refine c_d rfl (fun _=>by omega) (fun hcd=>?_);refine x_t ?_;refine tr_then_exit ?_;refine tr_blk_exit ?_;refine tr_blk_normal ?_;refine tr_then ?_;refine tr_region ?_;refine m_v rfl rfl ?_;refine tr_val (rk_add (.of rfl) (.of rfl) (ini (by omega))) rfl ?_;refine a_s rfl rfl ?_;refine n_t ?_)
        apply tr_next (j + 1) ⟨show j + 1 ≤ l.length from hlt,fun i hi=>by
          by_cases e:i = j
          · rw [e];exact hz
          · exact hf i (by omega)⟩ (show l.length - (j + 1) < l.length - j by omega)
        case hs1=>exact .cons rfl (.cons rfl .nil)
        case ht=>(try simp only [List.take_zero,List.map_nil,List.nil_append]);exact .nil
  · obtain rfl:k = l.length:=by omega
    (refine tr_seq ?_;refine s_r ?_;refine m_v rfl rfl ?_;refine m_v rfl rfl ?_;refine tr_val (rk_len_slice (.of rfl)) rfl ?_;refine tr_val (rk_lss (.of rfl) (.of rfl)) rfl ?_;refine n_t ?_;refine c_d rfl (fun _=>by omega) (fun hcd=>?_);refine x_t ?_;refine tr_then_exit ?_;refine tr_blk_exit ?_;refine tr_then ?_;refine s_r ?_;refine a_s rfl rfl ?_;refine n_t ?_;refine tr_ret ?_;refine tr_retE rfl (ends1 rfl rfl) ?_)
    rw [errE_ok.2 hf]
end Go.Proofs.A1
namespace Go.Proofs.A1
open Go Go.SL
def chnk (D:List Int) (j:Nat):List Int:=(D.drop (10 * j)).take 10++List.replicate (10 - (D.length - 10 * j)) 0
theorem chnk_len (D:List Int) (j:Nat):(chnk D j).length = 10:=by
  unfold chnk;rw [List.length_append,List.length_take,List.length_drop,List.length_replicate];omega
theorem chnk_get {D:List Int} {j i:Nat} (hi:i < 10) (h:10 * j + i < D.length):(chnk D j)[i]'(by rw [chnk_len];exact hi) = D[10 * j + i]:=by
  unfold chnk
  rw [List.getElem_append_left (by rw [List.length_take,List.length_drop];omega),List.getElem_take,List.getElem_drop]
theorem chnk_set {D:List Int} {w:Nat} {v:Int} (h:w < D.length) (j:Nat):chnk (D.set w v) j = if w / 10 = j then (chnk D j).set (w % 10) v else chnk D j:=by
  unfold chnk
  rw [List.length_set]
  split
  · rename_i e
    subst e
    rw [List.set_append_left _ _ (by rw [List.length_take,List.length_drop];omega),List.drop_set,if_neg (by omega),List.take_set,show w - 10 * (w / 10) = w % 10 by omega]
  · rename_i e
    congr 1
    by_cases hlt:w < 10 * j
    · rw [List.drop_set,if_pos hlt]
    · rw [List.drop_set,if_neg hlt,List.take_set]
      exact List.set_eq_of_length_le (by rw [List.length_take,List.length_drop];omega)
def chnkL (D:List Int):Nat → List Int
  | 0=>[]
  | n + 1=>chnkL D n++chnk D n
theorem chnkL_eq (D:List Int):∀ n,chnkL D n = D.take (10 * n)++List.replicate (10 * n - D.length) 0
  | 0=>by rw [Nat.mul_zero,List.take_zero,Nat.zero_sub];rfl
  | n + 1 => by
    rw [chnkL,chnkL_eq D n]
    unfold chnk
    by_cases h:D.length ≤ 10 * n
    · rw [List.take_of_length_le h,List.drop_of_length_le h,List.take_of_length_le (by omega:D.length ≤ 10 * (n + 1)),List.take_nil,List.nil_append,List.append_assoc,List.replicate_append_replicate]
      congr 2
      omega
    · rw [show 10 * n - D.length = 0 by omega,List.replicate_zero,List.append_nil,show 10 * (n + 1) = 10 * n + 10 by omega,List.take_add,List.append_assoc]
      congr 3
      omega
theorem chnkL_take {D:List Int} {n:Nat} (h:D.length ≤ 10 * n):(chnkL D n).take D.length = D:=by
  rw [chnkL_eq,List.take_of_length_le h,List.take_append_of_le_length (Nat.le_refl _),List.take_of_length_le (Nat.le_refl _)]
theorem chnkL_len (D:List Int):∀ n,(chnkL D n).length = 10 * n
  | 0=>rfl
  | n + 1=>by rw [chnkL,List.length_append,chnkL_len D n,chnk_len];omega
theorem chnk_byte {D:List Int} (h:∀ x ∈ D,0 ≤ x ∧ x ≤ 255) (j:Nat):∀ x ∈ chnk D j,0 ≤ x ∧ x ≤ 255:=by
  intro x hx
  unfold chnk at hx
  rcases List.mem_append.1 hx with hx | hx
  · exact h x (List.mem_of_mem_drop (List.mem_of_mem_take hx))
  · rw [(List.mem_replicate.1 hx).2];omega
end Go.Proofs.A1
