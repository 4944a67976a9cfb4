/- Parts of the proof: UOpen U30 U25 U26 U27. -/
import Derived.Test.YthhidjfahmcekaaGreatDoorSM16
import Derived.Test.YthhidjfahmcekaaGreatDoorTie
import Derived.Test.YthhidjfahmcekaaGreatDoorCards
import Derived.Lib.SmallJoins
import Derived.Lib.LaidTab
import Derived.Deep.Slices
import Derived.Deep.Fields
import Derived.ChangeSame
import Derived.ChangeBook
import Derived.ChangeStays
import Derived.WalkKit
import Derived.ProofKit
import Derived.OpenShut
import Derived.Below
import Derived.LaidMore
import Derived.Lay
import Derived.SevenTiedAt
import Derived.Stop.Joined
import Derived.ChangeMaps5
import Derived.Test.YthhidjfahmcekaaGreatDoorSM09
import Derived.Test.YthhidjfahmcekaaGreatDoorSM06
set_option linter.unusedSectionVars false
set_option linter.unusedVariables false
set_option linter.unusedSimpArgs false
namespace Go.Proofs.A1
open Go Go.SL Go.ChangeShapes Go.WideShapes Go.Deep Go.Joins
section
variable {H:Type} {enc:TypeId × Value → H} {w:World}
theorem laidOut:laidOutB Tryz.prog = true:=by kernel_rfl
theorem ownK:ownKnob Tryz.prog.godebug = none:=by kernel_rfl
theorem add_none {b o n:Nat}:Addr.add ⟨b,o,none⟩ n = ⟨b,o + n,none⟩:=addr_add b o n
theorem staysT {T:TypeId} (hrec:Tryz.prog.readableRec T = true) (hrow:T < Tryz.prog.types.size) {W W':World} {sp':Nat → Bool} {n:Nat} {cs:List Value} {x:DataW H × List MemPlace} (h:DataW.trod enc Tryz.prog W 0 (fun _=>true) true n T cs = some x)
    (hsame:∀ p ∈ x.2,W.sameAt W' p) (hs:∀ p ∈ x.2,sp' p.block = true):DataW.trod enc Tryz.prog W' 0 sp' true n T cs = some x:=
  DataW.trod_stays (kids_book laidOut hrec) (book_sized hrec) (fun h=>by cases h) ⟨hrow,book_self T⟩ h hsame hs
theorem open_rows {α:Type} [Inhabited α] {T E:TypeId} {sz:Nat} {cells:α → List Value} (hu:Tryz.prog.underlying T = some (.slice E)) (hsz:Tryz.prog.cellsOf E = sz) (h0:0 < sz) (hlen:∀ a,(cells a).length = sz)
    (hE:∀ (n:Nat) (cs:List Value) (x:DataW H × List MemPlace),DataW.trod enc Tryz.prog w 0 (fun _=>true) true n E cs = some x → ∃ e:α,cs = cells e)
    {n:Nat} {v:Value} {y:DataW H × List MemPlace} (h:DataW.trod enc Tryz.prog w 0 (fun _=>true) true n T [v] = some y):∃ l:List α,Rd w v sz (l.map cells):=by
  rcases open_slice hu h with ⟨e,_⟩ | ⟨a,len,cap,m,n',D,Pl,hcs,_,hl,hm,hmm,_,hi⟩
  · simp only [List.cons.injEq,and_true] at e
    subst e
    exact ⟨[],Rd.nil w sz⟩
  · simp only [List.cons.injEq,and_true] at hcs
    subst hcs
    rw [hsz] at hi
    have hmc:m = cap:=by simpa using hmm
    have hE:∀ i,i < len → ∃ e:α,∀ j,j < sz → w.cell? (a.add (i * sz + j)) = (cells e)[j]?:=fun i hil=>by
      obtain ⟨cs',hc,ht⟩:=hi i (by omega)
      obtain ⟨_,hcl,hat⟩:=World.cells?_some hc
      obtain ⟨e,rfl⟩:=hE _ _ _ ht
      exact ⟨e,fun j hj=>by rw [← Go.Deep.add_add];exact hat j hj⟩
    let S:Nat → α:=fun i=>if hil:i < len then (hE i hil).choose else default
    have hS:∀ i j,i < len → j < sz → w.cell? (a.add (i * sz + j)) = (cells (S i))[j]?:=fun i j hil hj=>by
      have:=(hE i hil).choose_spec j hj
      simpa only [S,dif_pos hil] using this
    have hlenE:(((List.range len).map S).map cells).length = len:=by simp
    refine ⟨(List.range len).map S,?_⟩
    by_cases hz:len = 0
    · subst hz
      exact ⟨some a,cap,0,0,by rw [hlenE],by rw [hlenE];omega,hm,fun hne=>absurd (List.length_eq_zero_iff.1 hlenE) hne,fun i r hr=>by
        have:=(List.getElem?_eq_some_iff.1 hr).1
        rw [hlenE] at this;omega⟩
    · obtain ⟨b,off,spot⟩:=a
      have hspot:spot = none:=by
        have h1:=hS 0 0 (by omega) h0
        rw [List.getElem?_eq_getElem (by rw [hlen];exact h0)] at h1
        simpa [Addr.add] using World.cell?_spot h1
      subst hspot
      refine ⟨some ⟨b,off,none⟩,cap,b,off,by rw [hlenE],by rw [hlenE];exact hl,hm,fun _=>rfl,fun i r hr=>?_⟩
      have hil:i < len:=by
        have:=(List.getElem?_eq_some_iff.1 hr).1
        rwa [hlenE] at this
      have hr':r = cells (S i):=by
        simp [hil] at hr;exact hr.symm
      subst hr'
      refine ⟨hlen _,fun j u hu=>?_⟩
      have hj:j < sz:=by
        have:=(List.getElem?_eq_some_iff.1 hu).1
        rwa [hlen] at this
      have:=hS i j hil hj
      rw [add_none,hu] at this
      rw [Nat.add_assoc];exact this
theorem list5 {α:Type}:∀ {l:List α},l.length = 5 → ∃ a0 a1 a2 a3 a4,l = [a0,a1,a2,a3,a4]
  | [a0,a1,a2,a3,a4],_=>⟨a0,a1,a2,a3,a4,rfl⟩
theorem c3:Tryz.prog.cellsOf 3 = 1:=by kernel_rfl
theorem c117:Tryz.prog.cellsOf 117 = 5:=by kernel_rfl
theorem c9:Tryz.prog.cellsOf 9 = 1:=by kernel_rfl
theorem c115:Tryz.prog.cellsOf 115 = 2:=by kernel_rfl
theorem cells117 {n:Nat} {cs:List Value} {x:DataW H × List MemPlace} (h:DataW.trod enc Tryz.prog w 0 (fun _=>true) true n 117 cs = some x):∃ (a0:Int) (a1:Int) (a2:Int) (a3:Int) (a4:ByteArray),cs = [.int .i64 a0,.int .i64 a1,.int .i64 a2,.int .i64 a3,.string a4]:=by
  obtain ⟨ys,n0,_,_,hlen,hyl,hf⟩:=DataW.trod_struct Tryz.underlying117 h
  rw [c117] at hlen
  have hyl0:ys.length = 4:=hyl
  obtain ⟨k0,k1,k2,k3,k4,rfl⟩:=list5 hlen
  have f0_0:DataW.trod enc Tryz.prog w 0 (fun _=>true) true n0 115 (List.take (Tryz.prog.cellsOf 115) (List.drop 0 [k0,k1,k2,k3,k4])) = ys[0]?:=hf 0 _ rfl
  rw [c115,List.getElem?_eq_getElem (by omega)] at f0_0
  obtain ⟨zs1,m1,_,_,_,hzl1,hg1⟩:=DataW.trod_struct Tryz.underlying115 f0_0
  have hzl1_:zs1.length = 2:=hzl1
  have f1_1:DataW.trod enc Tryz.prog w 0 (fun _=>true) true m1 3 (List.take (Tryz.prog.cellsOf 3) (List.drop 0 (List.take 2 (List.drop 0 [k0,k1,k2,k3,k4])))) = zs1[0]?:=hg1 0 _ rfl
  rw [c3,List.getElem?_eq_getElem (by omega)] at f1_1
  obtain ⟨b0,eb0,_,_⟩:=DataW.trod_int Tryz.underlying3 f1_1
  simp at eb0
  have f1_2:DataW.trod enc Tryz.prog w 0 (fun _=>true) true m1 3 (List.take (Tryz.prog.cellsOf 3) (List.drop 1 (List.take 2 (List.drop 0 [k0,k1,k2,k3,k4])))) = zs1[1]?:=hg1 1 _ rfl
  rw [c3,List.getElem?_eq_getElem (by omega)] at f1_2
  obtain ⟨b1,eb1,_,_⟩:=DataW.trod_int Tryz.underlying3 f1_2
  simp at eb1
  have f0_3:DataW.trod enc Tryz.prog w 0 (fun _=>true) true n0 3 (List.take (Tryz.prog.cellsOf 3) (List.drop 2 [k0,k1,k2,k3,k4])) = ys[1]?:=hf 1 _ rfl
  rw [c3,List.getElem?_eq_getElem (by omega)] at f0_3
  obtain ⟨b2,eb2,_,_⟩:=DataW.trod_int Tryz.underlying3 f0_3
  simp at eb2
  have f0_4:DataW.trod enc Tryz.prog w 0 (fun _=>true) true n0 3 (List.take (Tryz.prog.cellsOf 3) (List.drop 3 [k0,k1,k2,k3,k4])) = ys[2]?:=hf 2 _ rfl
  rw [c3,List.getElem?_eq_getElem (by omega)] at f0_4
  obtain ⟨b3,eb3,_,_⟩:=DataW.trod_int Tryz.underlying3 f0_4
  simp at eb3
  have f0_5:DataW.trod enc Tryz.prog w 0 (fun _=>true) true n0 9 (List.take (Tryz.prog.cellsOf 9) (List.drop 4 [k0,k1,k2,k3,k4])) = ys[3]?:=hf 3 _ rfl
  rw [c9,List.getElem?_eq_getElem (by omega)] at f0_5
  obtain ⟨b4,eb4,_,_⟩:=DataW.trod_string Tryz.underlying9 f0_5
  simp at eb4
  subst eb0 eb1 eb2 eb3 eb4
  exact ⟨b0,b1,b2,b3,b4,rfl⟩
theorem wf_u16 {n:Int} (h:(Lit.int .u16 n).wf = true):0 ≤ n ∧ n ≤ 65535:=by
  simpa [Lit.wf,IntKind.min,IntKind.max,IntKind.signed,IntKind.bits] using h
theorem c5:Tryz.prog.cellsOf 5 = 1:=by kernel_rfl
theorem open_cps {n:Nat} {v:Value} {x:DataW H × List MemPlace} (h:DataW.trod enc Tryz.prog w 0 (fun _=>true) true n 97 [v] = some x):∃ l,Rd w v 5 (cps l):=by
  haveI:Inhabited Cp:=⟨⟨0,0,0,0,⟨#[]⟩⟩⟩
  exact open_rows (cells:=Cp.cells) Tryz.underlying97 c117 (by decide) (fun _=>rfl) (fun _ _ _ h=>by obtain ⟨a,b,c,d,e,rfl⟩:=cells117 h;exact ⟨⟨a,b,c,d,e⟩,rfl⟩) h
end
theorem globs_of {W:World} {H:Type} {enc:TypeId × Value → H} {f3 f2:Nat} {cs3 cs2:Array Value} {p3 p2:List MemPlace} {s3 s2:Nat → Bool} (hv3:W.var? Tryz.prog "genlock/code.rates" = some cs3) (hd3:DataW.trod enc Tryz.prog W 0 s3 false f3 189 cs3.toList = some (.agg [.lit (.int .i64 24),.lit (.int .i64 25),.lit (.int .i64 30)],p3)) (hv2:W.var? Tryz.prog "internal/strconv.uint64pow10" = some cs2) (hd2:DataW.trod enc Tryz.prog W 0 s2 false f2 384 cs2.toList = some (Lib.tabData .u64 Lib.pow10Tab,p2)):GlobR W ∧ Tab10 W:=by
  have hg3:Tryz.prog.globalNamed "genlock/code.rates" = some 0:=by kernel_rfl
  refine ⟨?_,?_⟩
  · obtain ⟨xs,m,_,ex,_,hl,hel⟩:=DataW.trod_array Tryz.underlying189 hd3
    have e3:(xs.map (·.1)) = [.lit (.int .i64 24),.lit (.int .i64 25),.lit (.int .i64 30)]:=(DataW.agg.inj (Prod.mk.inj ex).1).symm
    have key:∀ (i:Nat) (z:Int),i < 3 → (xs.map (·.1))[i]? = some (.lit (.int .i64 z)) → W.cell? ⟨0,i,none⟩ = some (.int .i64 z):=fun i z hi h1=>by
      have hE:=hel i hi
      rw [c3,Nat.mul_one,List.getElem?_eq_getElem (by omega)] at hE
      obtain ⟨y,e1,e2,_⟩:=DataW.trod_int Tryz.underlying3 hE
      rw [List.getElem?_map,List.getElem?_eq_getElem (by omega:i < xs.length),e2] at h1
      simp only [Option.map_some,Option.some.injEq,DataW.lit.injEq,Lit.int.injEq,true_and] at h1
      subst h1
      rw [World.var?_cell hg3 hv3 i]
      have:cs3.toList[i]? = some (.int .i64 y):=by
        have h0:((cs3.toList.drop i).take 1)[0]? = some (.int .i64 y):=by rw [e1];rfl
        simpa using h0
      simpa using this
    exact ⟨key 0 24 (by omega) (by rw [e3];rfl),key 1 25 (by omega) (by rw [e3];rfl),key 2 30 (by omega) (by rw [e3];rfl)⟩
  · unfold Tab10 Lib.TabIs
    rw [hv2,← Lib.cells_of_tab Tryz.underlying384 (by kernel_rfl) (by kernel_rfl) (by kernel_rfl) hd2]
theorem of_laid {W:World} (h:laidMetH Tryz.prog YthhidjfahmcekaaGreatDoor.Rows.codeLabelsRow.laid W):GlobR W ∧ Tab10 W:=by
  rw [MakeChecks.laidMetH_plain _ _ _ (by kernel_rfl)] at h
  obtain ⟨ps,⟨g0,t0,cs0,f0,p0,q0,hg0,ht0,hv0,hd0,⟨g1,t1,cs1,f1,p1,q1,hg1,ht1,hv1,hd1,⟨g2,t2,cs2,f2,p2,q2,hg2,ht2,hv2,hd2,⟨g3,t3,cs3,f3,p3,q3,hg3,ht3,hv3,hd3,_,_⟩,_⟩,_⟩,_⟩,_,_⟩:=h
  obtain rfl:=Option.some.inj ((show Tryz.prog.globalNamed "internal/strconv.uint64pow10" = some 3 by kernel_rfl).symm.trans hg2)
  obtain rfl:=Option.some.inj ((show (Tryz.prog.globals[3]?).map (·.type) = some 384 by kernel_rfl).symm.trans ht2)
  obtain rfl:=Option.some.inj ((show Tryz.prog.globalNamed "genlock/code.rates" = some 0 by kernel_rfl).symm.trans hg3)
  obtain rfl:=Option.some.inj ((show (Tryz.prog.globals[0]?).map (·.type) = some 189 by kernel_rfl).symm.trans ht3)
  exact globs_of hv3 hd3 hv2 hd2
end Go.Proofs.A1
namespace Go.Proofs.YthhidjfahmcekaaGreatDoor
open Go Go.SL Go.Proofs.A1 Go.ChangeShapes Go.WideShapes Go.ChangeAt Go.RowKit Go.Joins
section
variable {H:Type} {enc:TypeId × Value → H} {P:Program}
theorem post_of_below {f:Func} {s:ChangeSpec} {apart fresh handsOn again:Bool} {W W':World} {args:Array Value} {v:Value} {ds gs:List (DataW H)} {before pa pv:List MemPlace}
    (hW:DataW.Whole enc P f.params.toList s.vars apart W args.toList ds gs before)
    (hres:∀ (b:Nat) (sp:Nat → Bool) (hd:Bool),DataW.TrodAll enc P W' b sp hd f.resultTypes.toList (v.resultList f.resultTypes.size) (s.fn H (ds++gs)).results [])
    (hargs:∀ sp:Nat → Bool,(∀ p ∈ before,sp p.block = true) → DataW.TrodAll enc P W' 0 sp true f.params.toList args.toList (s.fn H (ds++gs)).args pa)
    (hvars:∀ sp:Nat → Bool,(∀ p ∈ before,sp p.block = true) → DataW.TrodVars enc P W' sp s.vars (s.fn H (ds++gs)).vars pv)
    (hps:before = pa++pv) (hb:Below W.heap.size W W')
    (hok:∀ (j:Nat) (t:TypeId) (r:Value),f.resultTypes[j]? = some t → (v.resultList f.resultTypes.size)[j]? = some r → Value.okWide P W' .any 0 t r) :
    s.post enc P f apart fresh handsOn again W args v W':=by
  have hlt:∀ p ∈ before,p.block < W.heap.size:=fun p hp=>hW.lt p hp
  have hold:∀ p ∈ before,(fun b=>decide (b < W.heap.size)) p.block = true:=fun p hp=>by simpa using hlt p hp
  refine ⟨ds,gs,before,[],pa,pv,hW,hres _ _ _,hargs _ hold,hvars _ hold,World.keptBut_mono (fun p hp=>⟨hp,?_⟩) (hb.frame (· ∈ before)),fun _=>?_⟩
  · rw [hps,List.mem_append] at hp
    exact Or.inr hp
  · obtain ⟨_,_,_,_,_,hz,hn⟩:=hW
    refine ⟨hok,_,_,([]++pa)++pv,⟨[]++pa,pv,trodAll_append (hargs _ (fun _ _=>rfl)) (hres _ _ _),hvars _ (fun _ _=>rfl),rfl,?_,?_⟩,?_⟩
    · intro b off hp
      have hin:MemPlace.cell b off ∈ before:=by rw [hps];simpa using hp
      rw [hb.frozen (hlt _ hin)]
      exact hz b off hin
    · intro ha
      have:=hn ha
      rw [hps] at this
      simpa using this
    · intro p hp _
      rw [hps]
      simpa using hp
end
end Go.Proofs.YthhidjfahmcekaaGreatDoor
namespace Go.Proofs.A1
open Go Go.SL
end Go.Proofs.A1
namespace Go.Proofs.A1
open Go Go.SL
theorem sameI_t {v1 v2:Value} {l m:List Int} {w:World} (h1:Rd w v1 1 (intg l)) (h2:Rd w v2 1 (intg m)) :
    GivesV Tryz.prog 58 [v1,v2] w (.bool (decide (l = m))):=by
  obtain ⟨a1,cp1,b1,o1,rfl,hcap1,hmax1,ha1,hc1⟩:=h1
  obtain ⟨a2,cp2,b2,o2,rfl,hcap2,hmax2,ha2,hc2⟩:=h2
  rw [intg_length] at *
  rw [intg_length] at *
  unfold maxLen at hmax1 hmax2
  refine givesV_of_tr Tryz.func58 rfl rfl ?_
  (refine s_r ?_;refine a_s rfl rfl ?_;refine n_t ?_;refine tr_seq ?_;refine s_r ?_;refine m_v rfl rfl ?_;refine tr_val (rk_len_slice (.of rfl)) rfl ?_;refine m_v rfl rfl ?_;refine tr_val (rk_len_slice (.of rfl)) rfl ?_;refine tr_val (rk_neq (.of rfl) (.of rfl)) rfl ?_;refine n_t ?_;refine c_d rfl (fun hcd=>?_) (fun hcd=>?_);refine s_r ?_;refine a_s rfl rfl ?_;refine n_t ?_;refine r_t ?_;refine tr_retE rfl (ends1 rfl rfl) ?_;rotate_left;refine s_t ?_;refine tr_seq ?_;refine s_r ?_;refine a_s rfl rfl ?_;refine n_t ?_;refine tr_block ?_;rotate_right)
  · rw [decide_eq_false fun e=>hcd (by rw [e])]
  have hlm:l.length = m.length:=by omega
  refine tr_for (ι:=Nat) (fun k=>k ≤ l.length ∧ (l = m ↔ l.drop k = m.drop k)) (fun k=>[(5,.int .i64 (k:Int)),(0,.slice a1 l.length cp1),(1,.slice a2 m.length cp2)]) (fun _=>[]) (fun k=>l.length - k) ?_ ?_
  · apply tr_start (0:Nat) ⟨Nat.zero_le _,Iff.rfl⟩
    case hs1=>exact .cons rfl (.cons rfl (.cons rfl .nil))
    case ht=>(try simp only [List.take_zero,List.map_nil,List.nil_append]);exact .nil
  rintro k ⟨hk,hf⟩
  by_cases hlt:k < l.length
  · have hlt2:k < m.length:=by omega
    have ha1':=ha1 (intg_ne hlt)
    have ha2':=ha2 (intg_ne hlt2)
    have hcell1:=(hc1 k _ (intg_get hlt)).2
    have hcell2:=(hc2 k _ (intg_get hlt2)).2
    have hd:=drop_eq_of (l:=l) (m:=m) hlt hlt2
    have hdn:l[k] ≠ m[k] → l.drop k ≠ m.drop k:=fun hne e=>hne (by
      rw [List.drop_eq_getElem_cons hlt,List.drop_eq_getElem_cons hlt2] at e
      exact (List.cons.inj e).1)
    generalize l[k] = x at hcell1 hd hdn
    generalize m[k] = y at hcell2 hd hdn
    have c1:w.cell? ⟨b1,o1 + k * 1,none⟩ = some (.int .i64 x):=hcell1 0 _ rfl
    have c2:w.cell? ⟨b2,o2 + k * 1,none⟩ = some (.int .i64 y):=hcell2 0 _ rfl
    (refine tr_seq ?_;refine s_r ?_;refine m_v rfl rfl ?_;refine m_v rfl rfl ?_;refine tr_val (rk_len_slice (.of rfl)) rfl ?_;refine tr_val (rk_lss (.of rfl) (.of rfl)) rfl ?_;refine n_t ?_;refine c_d rfl (fun hcd=>?_) (fun _=>by omega);refine s_t ?_;refine tr_seq ?_;refine tr_block ?_;refine tr_seq ?_)
    with_reducible refine tr_draw 9 (by kernel_rfl) ?_
    (refine a_m rfl rfl ?_;refine a_m rfl rfl ?_;refine any_val (rk_indexAddr (.of rfl) (.of rfl) ha1' (by omega) hcd norm1_) rfl ?_;refine any_val (rk_load1 (.of rfl) (At.base c1 rfl)) rfl ?_;refine a_m rfl rfl ?_;refine a_m rfl rfl ?_;refine any_val (rk_indexAddr (.of rfl) (.of rfl) ha2' (by omega) (by omega) norm1_) rfl ?_;refine any_val (rk_load1 (.of rfl) (At.base c2 rfl)) rfl ?_;refine any_val (rk_neq (.of rfl) (.of rfl)) rfl ?_)
    with_reducible refine any_end ?_
    (refine n_t ?_;refine c_d rfl (fun hcd=>?_) (fun hcd=>?_);refine s_r ?_;refine a_s rfl rfl ?_;refine n_t ?_;refine tr_ret ?_;refine tr_blk_ret ?_;refine tr_then_ret ?_;refine tr_then_ret ?_;refine tr_blk_ret ?_;refine tr_then_ret ?_;refine tr_retE rfl (ends1 rfl rfl) ?_;rotate_left;refine tr_skip ?_;refine tr_blk_normal ?_;refine tr_then ?_;refine tr_region ?_;refine m_v rfl rfl ?_;refine tr_val (rk_add (.of rfl) (.of rfl) (ini (by omega))) rfl ?_;refine a_s rfl rfl ?_;refine n_t ?_;rotate_right)
    · have hne:x ≠ y:=hcd
      rw [decide_eq_false fun e=>hdn hne (hf.1 e)]
    · have he:x = y:=Decidable.not_not.1 hcd
      clear hcd
      apply tr_next (k + 1) ⟨(show k + 1 ≤ l.length from hlt),hf.trans (hd he)⟩ (show l.length - (k + 1) < l.length - k by omega)
      case hs1=>exact .cons rfl (.cons rfl (.cons rfl .nil))
      case ht=>(try simp only [List.take_zero,List.map_nil,List.nil_append]);exact .nil
  · obtain rfl:k = l.length:=by omega
    have:l = m:=hf.2 (by rw [List.drop_length,hlm,List.drop_length])
    (refine tr_seq ?_;refine s_r ?_;refine m_v rfl rfl ?_;refine m_v rfl rfl ?_;refine tr_val (rk_len_slice (.of rfl)) rfl ?_;refine tr_val (rk_lss (.of rfl) (.of rfl)) rfl ?_;refine n_t ?_;refine c_d rfl (fun _=>by omega) (fun hcd=>?_);refine x_t ?_;refine tr_then_exit ?_;refine tr_blk_exit ?_;refine tr_then ?_;refine s_r ?_;refine a_s rfl rfl ?_;refine n_t ?_;refine tr_ret ?_;refine tr_retE rfl (ends1 rfl rfl) ?_)
    rw [decide_eq_true this]
theorem sameP_t {v1 v2:Value} {l m:List (Int × Int)} {w:World} (h1:Rd w v1 2 (dus l)) (h2:Rd w v2 2 (dus m)) :
    GivesV Tryz.prog 50 [v1,v2] w (.bool (decide (l = m))):=by
  obtain ⟨a1,cp1,b1,o1,rfl,hcap1,hmax1,ha1,hc1⟩:=h1
  obtain ⟨a2,cp2,b2,o2,rfl,hcap2,hmax2,ha2,hc2⟩:=h2
  rw [dus_length] at *
  rw [dus_length] at *
  unfold maxLen at hmax1 hmax2
  refine givesV_of_tr Tryz.func50 rfl rfl ?_
  (refine s_r ?_;refine a_s rfl rfl ?_;refine n_t ?_;refine tr_seq ?_;refine s_r ?_;refine m_v rfl rfl ?_;refine tr_val (rk_len_slice (.of rfl)) rfl ?_;refine m_v rfl rfl ?_;refine tr_val (rk_len_slice (.of rfl)) rfl ?_;refine tr_val (rk_neq (.of rfl) (.of rfl)) rfl ?_;refine n_t ?_;refine c_d rfl (fun hcd=>?_) (fun hcd=>?_);refine s_r ?_;refine a_s rfl rfl ?_;refine n_t ?_;refine r_t ?_;refine tr_retE rfl (ends1 rfl rfl) ?_;rotate_left;refine s_t ?_;refine tr_seq ?_;refine s_r ?_;refine a_s rfl rfl ?_;refine n_t ?_;refine tr_block ?_;rotate_right)
  · rw [decide_eq_false fun e=>hcd (by rw [e])]
  have hlm:l.length = m.length:=by omega
  refine tr_for (ι:=Nat) (fun k=>k ≤ l.length ∧ (l = m ↔ l.drop k = m.drop k)) (fun k=>[(5,.int .i64 (k:Int)),(0,.slice a1 l.length cp1),(1,.slice a2 m.length cp2)]) (fun _=>[]) (fun k=>l.length - k) ?_ ?_
  · apply tr_start (0:Nat) ⟨Nat.zero_le _,Iff.rfl⟩
    case hs1=>exact .cons rfl (.cons rfl (.cons rfl .nil))
    case ht=>(try simp only [List.take_zero,List.map_nil,List.nil_append]);exact .nil
  rintro k ⟨hk,hf⟩
  by_cases hlt:k < l.length
  · have hlt2:k < m.length:=by omega
    have ha1':=ha1 (dus_ne hlt)
    have ha2':=ha2 (dus_ne hlt2)
    have hcell1:=(hc1 k _ (dus_get hlt)).2
    have hcell2:=(hc2 k _ (dus_get hlt2)).2
    have hd:=drop_eq_of (l:=l) (m:=m) hlt hlt2
    have hdn:l[k] ≠ m[k] → l.drop k ≠ m.drop k:=fun hne e=>hne (by
      rw [List.drop_eq_getElem_cons hlt,List.drop_eq_getElem_cons hlt2] at e
      exact (List.cons.inj e).1)
    generalize l[k] = x at hcell1 hd hdn
    generalize m[k] = y at hcell2 hd hdn
    obtain ⟨x0,x1⟩:=x
    obtain ⟨y0,y1⟩:=y
    dsimp only [duC] at hcell1 hcell2
    (refine tr_seq ?_;refine s_r ?_;refine m_v rfl rfl ?_;refine m_v rfl rfl ?_;refine tr_val (rk_len_slice (.of rfl)) rfl ?_;refine tr_val (rk_lss (.of rfl) (.of rfl)) rfl ?_;refine n_t ?_;refine c_d rfl (fun hcd=>?_) (fun _=>by omega);refine s_t ?_;refine tr_seq ?_;refine tr_block ?_;refine tr_seq ?_)
    with_reducible refine tr_draw 9 (by kernel_rfl) ?_
    (refine a_m rfl rfl ?_;refine a_m rfl rfl ?_;refine any_val (rk_indexAddr (.of rfl) (.of rfl) ha1' (by omega) hcd norm1_) rfl ?_;refine any_val (rk_loadN (.of rfl) (Ats.base hcell1 rfl) rfl) rfl ?_;refine a_m rfl rfl ?_;refine a_m rfl rfl ?_;refine any_val (rk_indexAddr (.of rfl) (.of rfl) ha2' (by omega) (by omega) norm1_) rfl ?_;refine any_val (rk_loadN (.of rfl) (Ats.base hcell2 rfl) rfl) rfl ?_;refine any_val (rk_neqA (.of rfl) (.of rfl) (okL_int (okL_int okL_nil)) rfl) rfl ?_)
    with_reducible refine any_end ?_
    (refine n_t ?_;refine c_b rfl (fun hcd=>?_) (fun hcd=>?_);refine s_r ?_;refine a_s rfl rfl ?_;refine n_t ?_;refine tr_ret ?_;refine tr_blk_ret ?_;refine tr_then_ret ?_;refine tr_then_ret ?_;refine tr_blk_ret ?_;refine tr_then_ret ?_;refine tr_retE rfl (ends1 rfl rfl) ?_;rotate_left;refine tr_skip ?_;refine tr_blk_normal ?_;refine tr_then ?_;refine tr_region ?_;refine m_v rfl rfl ?_;refine tr_val (rk_add (.of rfl) (.of rfl) (ini (by omega))) rfl ?_;refine a_s rfl rfl ?_;refine n_t ?_;rotate_right)
    · have hne:((x0,x1):Int × Int) ≠ (y0,y1):=by
        rintro e
        cases e
        simp at hcd
      rw [decide_eq_false fun e=>hdn hne (hf.1 e)]
    · have he:((x0,x1):Int × Int) = (y0,y1):=by
        simp at hcd
        rw [hcd.1,hcd.2]
      clear hcd
      apply tr_next (k + 1) ⟨(show k + 1 ≤ l.length from hlt),hf.trans (hd he)⟩ (show l.length - (k + 1) < l.length - k by omega)
      case hs1=>exact .cons rfl (.cons rfl (.cons rfl .nil))
      case ht=>(try simp only [List.take_zero,List.map_nil,List.nil_append]);exact .nil
  · obtain rfl:k = l.length:=by omega
    have:l = m:=hf.2 (by rw [List.drop_length,hlm,List.drop_length])
    (refine tr_seq ?_;refine s_r ?_;refine m_v rfl rfl ?_;refine m_v rfl rfl ?_;refine tr_val (rk_len_slice (.of rfl)) rfl ?_;refine tr_val (rk_lss (.of rfl) (.of rfl)) rfl ?_;refine n_t ?_;refine c_d rfl (fun _=>by omega) (fun hcd=>?_);refine x_t ?_;refine tr_then_exit ?_;refine tr_blk_exit ?_;refine tr_then ?_;refine s_r ?_;refine a_s rfl rfl ?_;refine n_t ?_;refine tr_ret ?_;refine tr_retE rfl (ends1 rfl rfl) ?_)
    rw [decide_eq_true this]
def dropR:Rt:=⟨30,true⟩
def stmA:Stm:=⟨⟨30,true⟩,⟨1,2,3,4⟩,258⟩
def capA0:Cp:=⟨5,10,1,3,⟨#[65,66]⟩⟩
def capA1:Cp:=⟨10,12,1,4,⟨#[67]⟩⟩
def capA2:Cp:=⟨9,12,1,4,⟨#[67]⟩⟩
def capsA:List Cp:=[capA0,capA1]
theorem drop_v (w:World):GivesV Tryz.prog 106 [] w (.agg dropR.cells.toArray):=by
  refine givesV_of_tr Tryz.func106 rfl rfl ?_
  (refine s_r ?_;refine tr_new (rk_alloc rfl) rfl (fun _ _=>?_);refine n_r ?_;refine tr_val (rk_buildL (.cons (.of rfl) (.cons (.of rfl) .nil)) norm_) rfl ?_;refine tr_store (.of rfl) (.of rfl) .here rfl rfl (okc_cons rfl (okc_cons rfl okc_nil)) (lenb rfl) norm_ ?_;refine n_t ?_;refine tr_ret ?_;refine tr_retE rfl (ends1cB rfl inferInstance rfl .here norm_ (by rfl)) ?_)
  rfl
theorem stamp_v (w:World):GivesV Tryz.prog 107 [] w (.agg stmA.cells.toArray):=by
  refine givesV_of_tr Tryz.func107 rfl rfl ?_
  (refine s_r ?_;refine tr_new (rk_alloc rfl) rfl (fun _ _=>?_);refine n_r ?_;refine tr_callV (rk_call (.of rfl) .nil inferInstance normc_) rfl (fun w' hm'=>(drop_v w')) ?_;refine tr_val (rk_buildL (.cons (.of rfl) (.cons (.of rfl) (.cons (.of rfl) (.cons (.of rfl) .nil)))) norm_) rfl ?_;refine tr_val (rk_buildL (.cons (.of rfl) (.cons (.of rfl) (.cons (.of rfl) .nil))) norm_) rfl ?_;refine tr_store (.of rfl) (.of rfl) .here rfl rfl (okc_cons rfl (okc_cons rfl (okc_cons rfl (okc_cons rfl (okc_cons rfl (okc_cons rfl (okc_cons rfl okc_nil))))))) (lenb rfl) norm_ ?_;refine n_t ?_;refine tr_ret ?_;refine tr_retE rfl (ends1cB rfl inferInstance rfl .here norm_ (by rfl)) ?_)
  rfl
theorem word_v (w:World):GivesV Tryz.prog 108 [] w (.agg (wcells [4,3,2,1,158,1,2,153,63,253]).toArray):=by
  refine givesV_of_tr Tryz.func108 rfl rfl ?_
  (refine s_r ?_;refine tr_new (rk_alloc rfl) rfl (fun _ _=>?_);refine n_r ?_;refine tr_val (rk_buildL (.cons (.of rfl) (.cons (.of rfl) (.cons (.of rfl) (.cons (.of rfl) (.cons (.of rfl) (.cons (.of rfl) (.cons (.of rfl) (.cons (.of rfl) (.cons (.of rfl) (.cons (.of rfl) .nil)))))))))) norm_) rfl ?_;refine tr_store (.of rfl) (.of rfl) .here rfl rfl (okc_cons rfl (okc_cons rfl (okc_cons rfl (okc_cons rfl (okc_cons rfl (okc_cons rfl (okc_cons rfl (okc_cons rfl (okc_cons rfl (okc_cons rfl okc_nil)))))))))) (lenb rfl) norm_ ?_;refine n_t ?_;refine tr_ret ?_;refine tr_retE rfl (ends1cB rfl inferInstance rfl .here norm_ (by rfl)) ?_)
  rfl
theorem caps_v (w:World):Gives Tryz.prog 109 [] w [] (fun _:Nat=>True) (fun b=>.slice (some ⟨b,0,none⟩) 2 2) (fun b=>[blk b (.cells (cpsV capsA).toArray 195 (0,0))]):=by
  refine gives_of_tr Tryz.func109 rfl rfl ?_
  (refine s_r ?_;refine a_s rfl rfl ?_;refine n_r ?_;refine tr_val (rk_buildL (.cons (.of rfl) (.cons (.of rfl) .nil)) norm_) rfl ?_;refine tr_val (rk_buildL (.cons (.of rfl) (.cons (.of rfl) (.cons (.of rfl) (.cons (.of rfl) .nil)))) norm_) rfl ?_;refine tr_val (rk_buildL (.cons (.of rfl) (.cons (.of rfl) .nil)) norm_) rfl ?_;refine tr_val (rk_buildL (.cons (.of rfl) (.cons (.of rfl) (.cons (.of rfl) (.cons (.of rfl) .nil)))) norm_) rfl ?_;refine tr_new (rk_sliceLitN (.cons (.of rfl) (.cons (.of rfl) .nil)) rfl rfl normp_ normp_ norm_) rfl (fun _ _=>?_);refine a_s rfl rfl ?_;refine n_t ?_;refine tr_ret ?_)
  rename_i b hb
  first | with_reducible apply tr_retM | with_reducible apply tr_endM
  case he=>exact ends1 rfl rfl
  case hR=>
    intro w' hm'
    exact gives_end b trivial (show Takes _ [blk b (.cells #[.int .i64 5,.int .i64 10,.int .i64 1,.int .i64 3,.string ⟨#[65,66]⟩,.int .i64 10,.int .i64 12,.int .i64 1,.int .i64 4,.string ⟨#[67]⟩] 195 (0,0))] _ by exact .cons .here .nil) hm' rfl
end Go.Proofs.A1
namespace Go.Proofs.A1
open Go Go.SL
theorem ev_day:rateF dropR = 0 ∧ dayF dropR = 2589408:=by decide +kernel
theorem ev_f1:lblE dropR ⟨0,0,59,29⟩ = 0 ∧ frmF dropR ⟨0,0,59,29⟩ = 1799:=by decide +kernel
theorem ev_l1:lofE dropR 1800 = 0:=by decide +kernel
theorem ev_l2:lofF dropR 1800 = ⟨0,1,0,2⟩:=by apply lb_ext <;> decide +kernel
theorem ev_f2:lblE dropR ⟨0,10,0,0⟩ = 0 ∧ frmF dropR ⟨0,10,0,0⟩ = 17982:=by decide +kernel
theorem ev_f3:lblE dropR ⟨0,1,0,0⟩ = 7:=by decide +kernel
theorem ev_a1:addE ⟨25,false⟩ ⟨23,59,59,24⟩ 1 = 0:=by decide +kernel
theorem ev_a2:addX ⟨25,false⟩ ⟨23,59,59,24⟩ 1 = ⟨0,0,0,0⟩:=by apply lb_ext <;> decide +kernel
theorem ev_a3:addE dropR ⟨0,0,0,0⟩ (-1) = 0:=by decide +kernel
theorem ev_a4:addX dropR ⟨0,0,0,0⟩ (-1) = ⟨23,59,59,29⟩:=by apply lb_ext <;> decide +kernel
theorem ev_w1:stmE stmA = 0 ∧ wrtF stmA = [4,3,2,1,158,1,2,153,63,253]:=by decide +kernel
def strA:List Int:=[7,3,2,1,158,1,2,153,63,253,4,3,2,1,158,1,2,153,63,253]
theorem ev_s0:hrdE strA.length = 0:=by decide +kernel
theorem ev_s1:(fndL strA).length = 1 ∧ hnV (fndL strA) = [.int .i64 10] ∧ hsV (fndL strA) = stmA.cells:=⟨by decide +kernel,by kernel_rfl,by kernel_rfl⟩
theorem ev_r0:hrdE [(1:Int),2].length = 0 ∧ revX [1,2] = [64,128]:=by decide +kernel
theorem ev_p0:pulE [2,3] 4 = 0 ∧ pulX [2,3] 4 = [(0,0),(1,1),(1,2),(2,3),(3,3)]:=by decide +kernel
theorem ev_u1:undE [2,3] [(0,0),(1,1),(1,2),(2,3),(3,3)] = 0 ∧ undF [2,3] [(0,0),(1,1),(1,2),(2,3),(3,3)] = 4:=by decide +kernel
theorem ev_u2:undE [1] [(0,1)] = 0 ∧ undF [1] [(0,1)] = 2:=by decide +kernel
theorem ev_c0:capE capsA = 0:=by decide +kernel
theorem ev_c1:chX capsA = [5,10,12]:=by decide +kernel
theorem ev_c2:capE [capA0,capA2] = 24:=by decide +kernel
theorem ev_h0:shnE capsA 9 = 0:=by decide +kernel
theorem ev_h1:(strB (rowB capsA 9 1)).size = 32 ∧ (strB (rowB capsA 9 1)).extract 0 6 = ⟨#[32,32,32,65,66,32]⟩:=by decide +kernel
theorem ev_t0:sntE ⟨#[65,66]⟩ = 0 ∧ sntL ⟨#[65,66]⟩ = [193,194]:=by decide +kernel
theorem ev_t1:hrdE [(65:Int)].length = 0 ∧ hrdX [65] = ⟨#[63]⟩ ∧ hrdL [65] = [0]:=by decide +kernel
theorem ev_z:prtX stmA = ⟨#[48,49,58,48,50,58,48,51,59,48,52,32,97,116,32,51,48,32,50,53,56]⟩:=by
  unfold prtX
  rw [if_pos ev_w1.1]
  have h:prtL stmA = [48,49,58,48,50,58,48,51,59,48,52,32,97,116,32,51,48,32,50,53,56]:=by
    unfold prtL
    have h1:Lib.decDigits stmA.ra.fr.toNat = [51,48]:=by show Lib.decDigits 30 = _;simp [Lib.decDigits]
    have h2:Lib.decDigits stmA.us.toNat = [50,53,56]:=by show Lib.decDigits 258 = _;simp [Lib.decDigits]
    rw [h1,h2]
    decide +kernel
  rw [h]
  rfl
end Go.Proofs.A1
namespace Go.Proofs.A1
open Go Go.SL
theorem drop_l (w:World):GivesV Tryz.prog 106 [] w (.agg #[.int .i64 30,.bool true]):=drop_v w
theorem stamp_l (w:World):GivesV Tryz.prog 107 [] w (.agg #[.int .i64 30,.bool true,.int .i64 1,.int .i64 2,.int .i64 3,.int .i64 4,.int .i64 258]):=stamp_v w
theorem aw_day (w:World) (hG:GlobR w):GivesV Tryz.prog 17 [.agg #[.int .i64 30,.bool true]] w (.tuple #[.int .i64 2589408,.int .i64 0]):=by
  have h:=dayX_c dropR w hG
  rw [if_pos ev_day.1,ev_day.1,ev_day.2] at h
  exact h
theorem aw_fr1 (w:World) (hG:GlobR w):GivesV Tryz.prog 19 [.agg #[.int .i64 30,.bool true],.agg #[.int .i64 0,.int .i64 0,.int .i64 59,.int .i64 29]] w (.tuple #[.int .i64 1799,.int .i64 0]):=by
  have h:=frameX_c dropR ⟨0,0,59,29⟩ w hG
  rw [if_pos ev_f1.1,ev_f1.1,ev_f1.2] at h
  exact h
theorem aw_lof (w:World) (hG:GlobR w):GivesV Tryz.prog 28 [.agg #[.int .i64 30,.bool true],.int .i64 1800] w (.tuple #[.agg #[.int .i64 0,.int .i64 1,.int .i64 0,.int .i64 2],.int .i64 0]):=by
  have h:=labelOf_c dropR 1800 w hG
  rw [ev_l1,ev_l2] at h
  exact h
theorem aw_fr2 (w:World) (hG:GlobR w):GivesV Tryz.prog 19 [.agg #[.int .i64 30,.bool true],.agg #[.int .i64 0,.int .i64 10,.int .i64 0,.int .i64 0]] w (.tuple #[.int .i64 17982,.int .i64 0]):=by
  have h:=frameX_c dropR ⟨0,10,0,0⟩ w hG
  rw [if_pos ev_f2.1,ev_f2.1,ev_f2.2] at h
  exact h
theorem aw_fr3 (w:World) (hG:GlobR w):GivesV Tryz.prog 19 [.agg #[.int .i64 30,.bool true],.agg #[.int .i64 0,.int .i64 1,.int .i64 0,.int .i64 0]] w (.tuple #[.int .i64 0,.int .i64 7]):=by
  have h:=frameX_c dropR ⟨0,1,0,0⟩ w hG
  rw [if_neg (by rw [ev_f3];decide),ev_f3] at h
  exact h
theorem aw_ad1 (w:World) (hG:GlobR w):GivesV Tryz.prog 29 [.agg #[.int .i64 25,.bool false],.agg #[.int .i64 23,.int .i64 59,.int .i64 59,.int .i64 24],.int .i64 1] w (.tuple #[.agg #[.int .i64 0,.int .i64 0,.int .i64 0,.int .i64 0],.int .i64 0]):=by
  have h:=addedX_c ⟨25,false⟩ ⟨23,59,59,24⟩ 1 w hG
  rw [ev_a1,ev_a2] at h
  exact h
theorem aw_ad2 (w:World) (hG:GlobR w):GivesV Tryz.prog 29 [.agg #[.int .i64 30,.bool true],.agg #[.int .i64 0,.int .i64 0,.int .i64 0,.int .i64 0],.int .i64 (-1)] w (.tuple #[.agg #[.int .i64 23,.int .i64 59,.int .i64 59,.int .i64 29],.int .i64 0]):=by
  have h:=addedX_c dropR ⟨0,0,0,0⟩ (-1) w hG
  rw [ev_a3,ev_a4] at h
  exact h
theorem aw_wr (w:World) (hG:GlobR w):GivesV Tryz.prog 34 [.agg #[.int .i64 30,.bool true,.int .i64 1,.int .i64 2,.int .i64 3,.int .i64 4,.int .i64 258]] w (.tuple #[.agg #[.int .u8 4,.int .u8 3,.int .u8 2,.int .u8 1,.int .u8 158,.int .u8 1,.int .u8 2,.int .u8 153,.int .u8 63,.int .u8 253],.int .i64 0]):=by
  have h:=written_c stmA w hG
  rw [ev_w1.1,ev_w1.2] at h
  exact h
theorem word_l (w:World):GivesV Tryz.prog 108 [] w (.agg #[.int .u8 4,.int .u8 3,.int .u8 2,.int .u8 1,.int .u8 158,.int .u8 1,.int .u8 2,.int .u8 153,.int .u8 63,.int .u8 253]):=word_v w
theorem aw_prt (w:World) (hG:GlobR w) (hT:Tab10 w):GivesV Tryz.prog 81 [.agg #[.int .i64 30,.bool true,.int .i64 1,.int .i64 2,.int .i64 3,.int .i64 4,.int .i64 258]] w (.tuple #[.string ⟨#[48,49,58,48,50,58,48,51,59,48,52,32,97,116,32,51,48,32,50,53,56]⟩,.int .i64 0]):=by
  have h:=print_c stmA w hG hT
  rw [ev_z,ev_w1.1] at h
  exact h
theorem aw_fnd {sv:Value} {w:World} (h:Rd w sv 1 (byts strA)) (hG:GlobR w) :
    Gives Tryz.prog 72 [sv] w [] (fun _:Value × Value=>True) (fun v=>.tuple #[v.1,v.2,.int .i64 0]) (fun v=>[row 55 7 v.1 1 stmA.cells,row 3 1 v.2 1 [.int .i64 10]]):=by
  have h2:=found_c h (by decide) hG
  rw [ev_s0,ev_s1.1,ev_s1.2.1,ev_s1.2.2] at h2
  exact h2
theorem aw_rev {sv:Value} {w:World} (h:Rd w sv 1 (byts [1,2])) :
    Gives Tryz.prog 71 [sv] w [] (fun _:Value=>True) (fun v=>.tuple #[v,.int .i64 0]) (fun v=>[row 5 1 v 2 [.int .u8 64,.int .u8 128]]):=by
  have h2:=reversed_c h (by decide)
  rw [ev_r0.1,ev_r0.2] at h2
  exact h2
theorem aw_pul {sv:Value} {w:World} (h:Rd w sv 1 (intg [2,3])) :
    Gives Tryz.prog 42 [sv,.int .i64 4] w [] (fun _:Value=>True) (fun v=>.tuple #[v,.int .i64 0]) (fun v=>[row 95 2 v 5 (dusV [(0,0),(1,1),(1,2),(2,3),(3,3)])]):=by
  have h2:=pulledX_c (n:=4) h
  rw [ev_p0.1,ev_p0.2] at h2
  exact h2
theorem aw_un1 {sv lv:Value} {w:World} (h:Rd w sv 1 (intg [2,3])) (hl:Rd w lv 2 (dus [(0,0),(1,1),(1,2),(2,3),(3,3)])) :
    GivesV Tryz.prog 44 [sv,lv] w (.tuple #[.int .i64 4,.int .i64 0]):=by
  have h2:=undone_c h hl
  rw [ev_u1.1,ev_u1.2] at h2
  exact h2
theorem aw_un2 {sv lv:Value} {w:World} (h:Rd w sv 1 (intg [1])) (hl:Rd w lv 2 (dus [(0,1)])) :
    GivesV Tryz.prog 44 [sv,lv] w (.tuple #[.int .i64 2,.int .i64 0]):=by
  have h2:=undone_c h hl
  rw [ev_u2.1,ev_u2.2] at h2
  exact h2
theorem capsA_tx:∀ x ∈ capsA,x.tx.size ≤ 1000000000:=by
  intro x hx
  simp only [capsA,List.mem_cons,List.not_mem_nil,or_false] at hx
  rcases hx with rfl | rfl <;> decide
theorem aw_chg {lv:Value} {w:World} (h:Rd w lv 5 (cps capsA)) :
    Gives Tryz.prog 62 [lv] w [] (fun _:Value=>True) (fun v=>.tuple #[v,.int .i64 0]) (fun v=>[row 3 1 v 3 (intgV [5,10,12])]):=by
  have h2:=changes_c h capsA_tx
  rw [ev_c0,ev_c1] at h2
  exact h2
def shA (i:Nat):ByteArray:=strB (rowB capsA 9 (i:Nat))
theorem aw_shn {lv:Value} {w:World} (h:Rd w lv 5 (cps capsA)) :
    GivesV Tryz.prog 60 [lv,.int .i64 9] w (.tuple #[.agg #[.string (shA 0),.string (shA 1),.string (shA 2),.string (shA 3),.string (shA 4),.string (shA 5),.string (shA 6),.string (shA 7)],.int .i64 0]):=by
  have h2:=shownX_c (n:=9) h capsA_tx
  unfold shnX at h2
  rw [if_pos ev_h0,ev_h0] at h2
  exact h2
theorem aw_chk {lv:Value} {w:World} (h:Rd w lv 5 (cps [capA0,capA2])):GivesV Tryz.prog 68 [lv] w (.int .i64 24):=by
  have h2:=chkCaps_c h (by
    intro x hx
    simp only [List.mem_cons,List.not_mem_nil,or_false] at hx
    rcases hx with rfl | rfl <;> decide)
  rw [ev_c2] at h2
  exact h2
theorem aw_snt (w:World) :
    Gives Tryz.prog 51 [.string ⟨#[65,66]⟩] w [] (fun _:Value=>True) (fun v=>.tuple #[v,.int .i64 0]) (fun v=>[row 5 1 v 2 [.int .u8 193,.int .u8 194]]):=by
  have h2:=sent_c ⟨#[65,66]⟩ w
  rw [ev_t0.1,ev_t0.2] at h2
  exact h2
theorem aw_hrd {sv:Value} {w:World} (h:Rd w sv 1 (byts [65])) :
    Gives Tryz.prog 52 [sv] w [] (fun _:Value=>True) (fun v=>.tuple #[.string ⟨#[63]⟩,v,.int .i64 0]) (fun v=>[row 3 1 v 1 [.int .i64 0]]):=by
  have h2:=heard_c h (by decide)
  rw [ev_t1.1,ev_t1.2.1,ev_t1.2.2] at h2
  exact h2
end Go.Proofs.A1
