/- Parts of the proof: S24 S25 S26 S27 S28 S29p S30 S31. -/
import Derived.Test.YtfbgbipclgljaaaGreatDoorWM11
import Derived.Test.YtfbgbipclgljaaaGreatDoorWM06
set_option linter.unusedSectionVars false
set_option linter.unusedVariables false
set_option linter.unusedSimpArgs false
namespace Go.Proofs.A1
open Go Go.SL
theorem tr_rowLitE {c:Cx} {D:List Nat} {sl:Slots} {hs hs':List Asn} {X:Act → World → Prop} {E:TypeId} {g:Nat} {xs ys:List Value} (n sz:Nat) (ht:Take hs (blk g (.cells xs.toArray E (0,0))) hs') (he:xs = ys) (hl:ys.length = n * sz) (hn:Nat.ble n 1000 = true)
    (k:Tr c D sl (row E sz (.slice (some ⟨g,0,none⟩) n n) n ys :: hs') X):Tr c D sl hs X:=by
  subst he
  exact tr_rowLit n sz ht hl hn k
theorem entryL_c (e:En) (w:World):GivesV Tryz.prog 98 [.string e.nm,.string e.mt,.string e.kd,.int .i64 e.tm,.int .i64 e.ln,.int .i64 e.ov] w (.agg e.cells.toArray):=by
  unfold En.cells
  refine givesV_of_tr Tryz.func98 rfl rfl ?_
  (refine s_r ?_;refine tr_new (rk_alloc rfl) rfl (fun _ _=>?_);refine n_r ?_;refine m_v rfl rfl ?_;refine m_v rfl rfl ?_;refine m_v rfl rfl ?_;refine m_v rfl rfl ?_;refine tr_val (rk_buildL (.cons (.of rfl) (.cons (.of rfl) .nil)) norm_) rfl ?_;refine m_v rfl rfl ?_;refine m_v rfl rfl ?_;refine tr_val (rk_buildL (.cons (.of rfl) (.cons (.of rfl) (.cons (.of rfl) (.cons (.of rfl) (.cons (.of rfl) .nil))))) norm_) rfl ?_;refine tr_store (.of rfl) (.of rfl) .here rfl rfl (okc_cons rfl (okc_cons rfl (okc_cons rfl (okc_cons rfl (okc_cons rfl (okc_cons rfl okc_nil)))))) (lenb rfl) norm_ ?_;refine n_t ?_;refine tr_ret ?_;refine tr_retE rfl (ends1cB rfl inferInstance rfl .here norm_ (by rfl)) ?_)
  rfl
def sh0:En:=⟨⟨#[110,101,119,115]⟩,⟨#[110,49]⟩,sFix,100,50,5⟩
def sh1:En:=⟨⟨#[102,105,108,109]⟩,⟨#[102,49]⟩,sFol,0,200,0⟩
def sh2:En:=⟨⟨#[108,97,116,101]⟩,⟨#[108,49]⟩,sFix,400,20,0⟩
def sh3:En:=⟨⟨#[104,97,110,100]⟩,⟨#[104,49]⟩,sMan,410,30,0⟩
def shL:List En:=[sh0,sh1,sh2,sh3]
theorem sh0_c (w:World):GivesV Tryz.prog 98 [.string ⟨#[110,101,119,115]⟩,.string ⟨#[110,49]⟩,.string ⟨#[102,105,120,101,100]⟩,.int .i64 100,.int .i64 50,.int .i64 5] w (.agg sh0.cells.toArray):=entryL_c sh0 w
theorem sh1_c (w:World):GivesV Tryz.prog 98 [.string ⟨#[102,105,108,109]⟩,.string ⟨#[102,49]⟩,.string ⟨#[102,111,108,108,111,119,105,110,103]⟩,.int .i64 0,.int .i64 200,.int .i64 0] w (.agg sh1.cells.toArray):=entryL_c sh1 w
theorem sh2_c (w:World):GivesV Tryz.prog 98 [.string ⟨#[108,97,116,101]⟩,.string ⟨#[108,49]⟩,.string ⟨#[102,105,120,101,100]⟩,.int .i64 400,.int .i64 20,.int .i64 0] w (.agg sh2.cells.toArray):=entryL_c sh2 w
theorem sh3_c (w:World):GivesV Tryz.prog 98 [.string ⟨#[104,97,110,100]⟩,.string ⟨#[104,49]⟩,.string ⟨#[109,97,110,117,97,108]⟩,.int .i64 410,.int .i64 30,.int .i64 0] w (.agg sh3.cells.toArray):=entryL_c sh3 w
theorem shown_c (w:World) :
    Gives Tryz.prog 95 [] w [] (fun _:Value=>True) (fun v=>.agg #[v]) (fun v=>[row 138 6 v shL.length (enR shL shL.length)]):=by
  refine gives_of_tr Tryz.func95 rfl rfl ?_
  (refine s_r ?_;refine tr_new (rk_alloc rfl) rfl (fun _ _=>?_);refine n_r ?_;refine tr_callV (rk_call (.of rfl) (.cons (.of rfl) (.cons (.of rfl) (.cons (.of rfl) (.cons (.of rfl) (.cons (.of rfl) (.cons (.of rfl) .nil)))))) inferInstance normc_) rfl (fun w' hm'=>(sh0_c w')) ?_;refine tr_callV (rk_call (.of rfl) (.cons (.of rfl) (.cons (.of rfl) (.cons (.of rfl) (.cons (.of rfl) (.cons (.of rfl) (.cons (.of rfl) .nil)))))) inferInstance normc_) rfl (fun w' hm'=>(sh1_c w')) ?_;refine tr_callV (rk_call (.of rfl) (.cons (.of rfl) (.cons (.of rfl) (.cons (.of rfl) (.cons (.of rfl) (.cons (.of rfl) (.cons (.of rfl) .nil)))))) inferInstance normc_) rfl (fun w' hm'=>(sh2_c w')) ?_;refine tr_callV (rk_call (.of rfl) (.cons (.of rfl) (.cons (.of rfl) (.cons (.of rfl) (.cons (.of rfl) (.cons (.of rfl) (.cons (.of rfl) .nil)))))) inferInstance normc_) rfl (fun w' hm'=>(sh3_c w')) ?_;refine tr_new (rk_sliceLitN (.cons (.of rfl) (.cons (.of rfl) (.cons (.of rfl) (.cons (.of rfl) .nil)))) rfl rfl normp_ normp_ norm_) rfl (fun _ _=>?_);refine tr_val (rk_buildL (.cons (.of rfl) .nil) norm_) rfl ?_;refine tr_store (.of rfl) (.of rfl) (.there .here) rfl rfl (okc_cons rfl okc_nil) (lenb rfl) norm_ ?_;refine n_t ?_;refine tr_ret ?_)
  rename_i b1 hb1 bq hbq
  refine tr_rowLitE (g:=bq) (E:=138) (ys:=enR shL 4) 4 6 (by exact Take.there .here) (by kernel_rfl) rfl rfl ?_
  first | with_reducible apply tr_retM | with_reducible apply tr_endM
  case he=>exact ends1cB rfl inferInstance rfl (.there .here) norm_ (by rfl)
  case hR=>
    intro w' hm'
    exact gives_end (.slice (some ⟨bq,0,none⟩) 4 4) trivial (show Takes _ [row 138 6 (.slice (some ⟨bq,0,none⟩) 4 4) 4 (enR shL 4)] _ by exact .cons .here .nil) hm' rfl
end Go.Proofs.A1
namespace Go.Proofs.A1
open Go Go.SL
structure Sp where
  nm:ByteArray
  cp:Int
  ln:Int
  vl:Int
def Sp.cells (s:Sp):List Value:=[.string s.nm,.int .i64 s.cp,.int .i64 s.ln,.int .i64 s.vl]
def spsL (l:List Sp):List (List Value):=l.map Sp.cells
def spR (l:List Sp):List Value:=(spsL l).flatten
def ofL:List Sp:=[⟨⟨#[97]⟩,0,20,30⟩,⟨⟨#[98]⟩,0,25,40⟩,⟨⟨#[99]⟩,1,30,36⟩,⟨⟨#[100]⟩,1,10,5⟩]
theorem offered_c (w:World) :
    Gives Tryz.prog 99 [] w [] (fun _:Value × Value=>True) (fun v=>.agg #[.int .i64 55,v.1,v.2,.slice none 0 0]) (fun v=>[row 218 4 v.1 4 (spR ofL),row 3 1 v.2 2 [.int .i64 2,.int .i64 2]]):=by
  refine gives_of_tr Tryz.func99 rfl rfl ?_
  (refine s_r ?_;refine tr_new (rk_alloc rfl) rfl (fun _ _=>?_);refine n_r ?_;refine tr_val (rk_buildL (.cons (.of rfl) (.cons (.of rfl) (.cons (.of rfl) .nil))) norm_) rfl ?_;refine tr_val (rk_buildL (.cons (.of rfl) (.cons (.of rfl) (.cons (.of rfl) .nil))) norm_) rfl ?_;refine tr_val (rk_buildL (.cons (.of rfl) (.cons (.of rfl) (.cons (.of rfl) (.cons (.of rfl) .nil)))) norm_) rfl ?_;refine tr_val (rk_buildL (.cons (.of rfl) (.cons (.of rfl) (.cons (.of rfl) (.cons (.of rfl) .nil)))) norm_) rfl ?_;refine tr_new (rk_sliceLitN (.cons (.of rfl) (.cons (.of rfl) (.cons (.of rfl) (.cons (.of rfl) .nil)))) rfl rfl normp_ normp_ norm_) rfl (fun _ _=>?_);refine tr_new (rk_sliceLit (.cons (.of rfl) (.cons (.of rfl) .nil)) rfl rfl rfl rfl) rfl (fun _ _=>?_);refine tr_val (rk_buildL (.cons (.of rfl) (.cons (.of rfl) (.cons (.of rfl) .nil))) norm_) rfl ?_;refine tr_store (.of rfl) (.of rfl) (.there (.there .here)) rfl rfl (okc_cons rfl (okc_cons rfl (okc_cons rfl (okc_cons rfl okc_nil)))) (lenb rfl) norm_ ?_;refine n_t ?_;refine tr_ret ?_)
  rename_i b1 hb1 bq hbq br hbr
  refine tr_rowLitE (g:=bq) (E:=218) (ys:=spR ofL) 4 4 (by exact Take.there (.there .here)) (by kernel_rfl) rfl rfl ?_
  refine tr_rowLitE (g:=br) (E:=3) (ys:=[.int .i64 2,.int .i64 2]) 2 1 (by exact Take.there (.there .here)) (by kernel_rfl) rfl rfl ?_
  first | with_reducible apply tr_retM | with_reducible apply tr_endM
  case he=>exact ends1cB rfl inferInstance rfl (.there (.there .here)) norm_ (by rfl)
  case hR=>
    intro w' hm'
    exact gives_end (.slice (some ⟨bq,0,none⟩) 4 4,.slice (some ⟨br,0,none⟩) 2 2) trivial (show Takes _ [row 218 4 (.slice (some ⟨bq,0,none⟩) 4 4) 4 (spR ofL),row 3 1 (.slice (some ⟨br,0,none⟩) 2 2) 2 [.int .i64 2,.int .i64 2]] _ by exact .cons (.there .here) (.cons .here .nil)) hm' rfl
end Go.Proofs.A1
namespace Go.Proofs.A1
open Go Go.SL
def ccF (es:List En) (now at' below:Int):Int:=firstF [chkF es,withinF now 0 10000000,whenF (decide (at' < 0) || decide (at' ≥ below)) 10]
theorem checkChange_c {sv:Value} {es:List En} {now at' below:Int} {w:World} (h1:Rd w sv 6 (ensL es)) (hG:Glob w) :
    GivesV Tryz.prog 149 [.agg #[sv],.int .i64 now,.int .i64 at',.int .i64 below] w (.int .i64 (ccF es now at' below)):=by
  have hone:=Rd.one h1
  refine givesV_of_tr Tryz.func149 rfl rfl ?_
  (refine s_r ?_;refine tr_new (rk_box (.of rfl) rfl) rfl (fun _ _=>?_);refine a_s rfl rfl ?_;refine n_r ?_;refine tr_val (rk_loadB (.of rfl) .here norm_ (by rfl)) rfl ?_;refine tr_callV (rk_call (.of rfl) (.cons (.of rfl) .nil) inferInstance normc_) rfl (fun w' hm'=>(chk_c (Rd.keeps h1 (Mem.keeps hm')) (Glob.keeps hG (Mem.keeps hm')))) ?_;refine m_v rfl rfl ?_;refine tr_callV (rk_call (.of rfl) (.cons (.of rfl) .nil) inferInstance normc_) rfl (fun w' hm'=>(frame_c now w')) ?_;refine m_v rfl rfl ?_;refine tr_val (rk_lss (.of rfl) (.of rfl)) rfl ?_;refine m_v rfl rfl ?_;refine v_g rfl rfl rfl rfl ?_;refine v_g rfl rfl rfl rfl ?_;refine tr_vG1 rfl rfl inferInstance (fun hg hgp=>(rk_geq (.ofg hg rfl) (.ofg hg rfl))) rfl ?_;refine tr_val (rk_pick_or (.of rfl) rfl) rfl ?_;refine tr_callV (rk_call (.of rfl) (.cons (.of rfl) (.cons (.of rfl) .nil)) inferInstance normc_) rfl (fun w' hm'=>(when_c _ 10 w')) ?_;refine tr_new (rk_sliceLit (.cons (.of rfl) (.cons (.of rfl) (.cons (.of rfl) .nil))) rfl rfl rfl rfl) rfl (fun _ _=>?_);refine tr_callV (rk_call (.of rfl) (.cons (.of rfl) .nil) inferInstance normc_) rfl (fun w' hm'=>(first_pB (Mem.rdBlk hm' .here rfl rfl) (IntL.cons (IntL.cons (IntL.cons IntL.nil))))) ?_;refine a_s rfl rfl ?_;refine n_t ?_;refine tr_ret ?_;refine tr_retE rfl (ends1 rfl rfl) ?_)
  rfl
theorem begun_c {sv:Value} {es:List En} {i:Nat} {now:Int} {w:World} (h1:Rd w sv 6 (ensL es)) (hs:Sound es) (hi:i < es.length) (hG:Glob w) :
    GivesV Tryz.prog 150 [.agg #[sv],.int .i64 i,.int .i64 now] w (.bool (decide (fr es i ≤ now))):=by
  have hone:=Rd.one h1
  refine givesV_of_tr Tryz.func150 rfl rfl ?_
  (refine s_r ?_;refine tr_new (rk_box (.of rfl) rfl) rfl (fun _ _=>?_);refine a_s rfl rfl ?_;refine n_r ?_;refine tr_val (rk_loadB (.of rfl) .here norm_ (by rfl)) rfl ?_)
  with_reducible apply tr_call
  case hr=>exact rk_call (.of rfl) (.cons (.of rfl) .nil) inferInstance normc_
  case hd=>rfl
  case ht=>exact Takes.nil
  case hc=>
    intro w1 fp hm1 _ hs1
    obtain rfl:fp = []:=hs1
    exact spans_c (h1.keeps hm1.keeps) hs.all.ok hs.all.few (hG.keeps hm1.keeps)
  intro v _
  dsimp only [id_eq,List.cons_append,List.nil_append]
  have hmx:=hs.all.few
  refine tr_rowOpen (by exact .here) (by omega) fun g cap' cur e hcap' hmx' hsz' hl'=>?_
  subst e
  have p0:(plR es es.length++cur)[i * 8 + 6]? = some (.int .i64 (fr es i)):=plR_at cur hi (by decide)
  (refine m_v rfl rfl ?_;refine tr_val (rk_indexAddr (.of rfl) (.of rfl) rfl (by omega) (by omega) norm1_) rfl ?_;refine f_a rfl rfl norm0_ ?_;refine f_a rfl rfl norm0_ ?_;refine tr_val (rk_load1 (.of rfl) (At.blkL .here p0)) rfl ?_;refine m_v rfl rfl ?_;refine tr_val (rk_leq (.of rfl) (.of rfl)) rfl ?_;refine a_s rfl rfl ?_;refine n_t ?_;refine tr_ret ?_;refine tr_retE rfl (ends1 rfl rfl) ?_)
  rfl
theorem glt {i n:Nat} (h:(decide ((i:Int) < (n:Int)) == true) = true):i < n:=by simpa using h
def lateE (es:List En) (now:Int) (i:Nat):Int:=if chkF es ≠ 0 then chkF es else if i < es.length ∧ fr es i ≤ now then 23 else 0
theorem late_c {sv:Value} {es:List En} {i:Nat} {now:Int} {w:World} (h1:Rd w sv 6 (ensL es)) (hi:i ≤ 1000) (hG:Glob w) :
    GivesV Tryz.prog 151 [.agg #[sv],.int .i64 now,.int .i64 i] w (.tuple #[.agg #[if lateE es now i = 0 then sv else .slice none 0 0],.int .i64 (lateE es now i)]):=by
  have h1':=h1
  obtain ⟨a,cap,b,o,rfl,hcap,hmax,ha,hc⟩:=h1'
  rw [ensL_length] at *
  unfold maxLen at hmax
  refine givesV_of_tr Tryz.func151 rfl rfl ?_
  (refine s_r ?_;refine tr_new (rk_box (.of rfl) rfl) rfl (fun _ _=>?_);refine tr_new (rk_alloc rfl) rfl (fun _ _=>?_);refine a_s rfl rfl ?_;refine n_t ?_;refine tr_seq ?_;refine s_r ?_;refine tr_val (rk_loadB (.of rfl) (.there .here) norm_ (by rfl)) rfl ?_;refine tr_callV (rk_call (.of rfl) (.cons (.of rfl) .nil) inferInstance normc_) rfl (fun w' hm'=>(chk_c (Rd.keeps h1 (Mem.keeps hm')) (Glob.keeps hG (Mem.keeps hm')))) ?_;refine a_s rfl rfl ?_;refine n_r ?_;refine m_v rfl rfl ?_;refine tr_val (rk_neq (.of rfl) (.of rfl)) rfl ?_;refine n_t ?_;refine c_d rfl (fun hcd=>?_) (fun hcd=>?_);refine s_r ?_;refine tr_val (rk_buildL .nil norm_) rfl ?_;refine m_v rfl rfl ?_;refine tr_store (.of rfl) (.of rfl) .here rfl rfl (okc_cons rfl okc_nil) (lenb rfl) norm_ ?_;refine a_s rfl rfl ?_;refine n_t ?_;refine r_t ?_;refine tr_retE rfl (endsCT rfl inferInstance rfl .here norm_ (by rfl) (by rfl)) ?_;rotate_left;refine s_t ?_;refine tr_seq ?_;refine s_r ?_;refine m_v rfl rfl ?_;refine f_a rfl rfl norm0_ ?_;refine tr_val (rk_load1 (.of rfl) (At.lit (.there .here) rfl)) rfl ?_;refine tr_val (rk_len_slice (.of rfl)) rfl ?_;refine tr_val (rk_lss (.of rfl) (.of rfl)) rfl ?_;refine m_v rfl rfl ?_;refine tr_vG1 rfl rfl inferInstance (fun hg hgp=>(rk_loadB (.of rfl) (.there .here) norm_ (by rfl))) rfl ?_;refine v_g rfl rfl rfl rfl ?_;refine v_g rfl rfl rfl rfl ?_;rotate_right)
  · have hl:lateE es now i = chkF es:=by rw [lateE,if_pos hcd]
    rw [hl,if_neg hcd]
  have hz:chkF es = 0:=Decidable.not_not.1 hcd
  have hs:=Sound.of hz
  (refine tr_callVG1 rfl rfl (fun hg=>(rk_call (.of rfl) (.cons (.ofg hg rfl) (.cons (.ofg hg rfl) (.cons (.ofg hg rfl) .nil))) inferInstance normc_)) rfl (fun hg w' hm'=>(begun_c (Rd.keeps h1 (Mem.keeps hm')) hs (glt hg) (Glob.keeps hG (Mem.keeps hm')))) ?_;refine tr_val (rk_pick_and (.of rfl) rfl) rfl ?_;refine n_t ?_;refine c_b rfl (fun hcd=>?_) (fun hcd=>?_);refine s_r ?_;refine tr_val (rk_buildL .nil norm_) rfl ?_;refine tr_store (.of rfl) (.of rfl) .here rfl rfl (okc_cons rfl okc_nil) (lenb rfl) norm_ ?_;refine a_s rfl rfl ?_;refine n_t ?_;refine r_t ?_;refine tr_retE rfl (endsCT rfl inferInstance rfl .here norm_ (by rfl) (by rfl)) ?_;rotate_left;refine s_t ?_;refine s_r ?_;refine tr_val (rk_loadB (.of rfl) (.there .here) norm_ (by rfl)) rfl ?_;refine tr_store (.of rfl) (.of rfl) .here rfl rfl (okc_cons rfl okc_nil) (lenb rfl) norm_ ?_;refine a_s rfl rfl ?_;refine n_t ?_;refine tr_ret ?_;refine tr_retE rfl (endsCT rfl inferInstance rfl .here norm_ (by rfl) (by rfl)) ?_;rotate_right)
  · have hc:i < es.length ∧ fr es i ≤ now:=⟨by omega,hcd.2⟩
    have hl:lateE es now i = 23:=by rw [lateE,if_neg (by rw [hz];decide),if_pos hc]
    rw [hl,if_neg (by decide)]
  · have hc:¬ (i < es.length ∧ fr es i ≤ now):=by omega
    have hl:lateE es now i = 0:=by rw [lateE,if_neg (by rw [hz];decide),if_neg hc]
    rw [hl,if_pos rfl]
end Go.Proofs.A1
namespace Go.Proofs.A1
open Go Go.SL
def Sp.zero:Sp:=⟨⟨#[]⟩,0,0,0⟩
def nthS (l:List Sp) (k:Nat):Sp:=l.getD k Sp.zero
theorem nthS_eq {l:List Sp} {k:Nat} (h:k < l.length):nthS l k = l[k]:=by simp [nthS,List.getD_eq_getElem?_getD,h]
theorem spsL_length (l:List Sp):(spsL l).length = l.length:=by simp [spsL]
theorem spsL_get {l:List Sp} {k:Nat} (h:k < l.length):(spsL l)[k]? = some (nthS l k).cells:=by simp [spsL,h,nthS_eq h]
def natsL (l:List Nat):List (List Value):=l.map fun (i:Nat)=>[Value.int .i64 (i:Int)]
def nthN (l:List Nat) (k:Nat):Nat:=l.getD k 0
theorem natsL_length (l:List Nat):(natsL l).length = l.length:=by simp [natsL]
theorem natsL_get {l:List Nat} {k:Nat} (h:k < l.length):(natsL l)[k]? = some [.int .i64 (nthN l k:Int)]:=by simp [natsL,h,nthN]
theorem nthN_mem {l:List Nat} {k:Nat} (h:k < l.length):nthN l k ∈ l:=by simp [nthN,h]
theorem nthS_mem {l:List Sp} {k:Nat} (h:k < l.length):nthS l k ∈ l:=by rw [nthS_eq h];exact List.getElem_mem h
theorem spsL_ne {l:List Sp} {k:Nat} (h:k < l.length):spsL l ≠ []:=by intro e;have:=spsL_length l;rw [e] at this;simp at this;omega
theorem natsL_ne {l:List Nat} {k:Nat} (h:k < l.length):natsL l ≠ []:=by intro e;have:=natsL_length l;rw [e] at this;simp at this;omega
def tV (l:List Sp) (o:List Nat):Nat → Int
  | 0=>0
  | k + 1=>tV l o k + (nthS l (nthN o k)).vl
def tL (l:List Sp) (o:List Nat):Nat → Int
  | 0=>0
  | k + 1=>tL l o k + (nthS l (nthN o k)).ln
structure SpOk (x:Sp):Prop where
  ln:1 ≤ x.ln ∧ x.ln ≤ 1000000
  vl:0 ≤ x.vl ∧ x.vl ≤ 1000000
theorem tV_le {l:List Sp} {o:List Nat} (hb:∀ x ∈ l,SpOk x) (ho:∀ i ∈ o,i < l.length):∀ k,k ≤ o.length → 0 ≤ tV l o k ∧ tV l o k ≤ 1000000 * k
  | 0,_=>by simp [tV]
  | k + 1, h => by
    have h1:=tV_le hb ho k (by omega)
    have h2:=(hb _ (nthS_mem (ho _ (nthN_mem (show k < o.length by omega))))).vl
    rw [tV]
    omega
theorem tL_le {l:List Sp} {o:List Nat} (hb:∀ x ∈ l,SpOk x) (ho:∀ i ∈ o,i < l.length):∀ k,k ≤ o.length → 0 ≤ tL l o k ∧ tL l o k ≤ 1000000 * k
  | 0,_=>by simp [tL]
  | k + 1, h => by
    have h1:=tL_le hb ho k (by omega)
    have h2:=(hb _ (nthS_mem (ho _ (nthN_mem (show k < o.length by omega))))).ln
    rw [tL]
    omega
theorem told9_c {n:Int} {sv cm ex ov:Value} {l:List Sp} {o:List Nat} {w:World} (h1:Rd w sv 4 (spsL l)) (h2:Rd w ov 1 (natsL o)) (hone:cm.oneCell' = true) (hone':ex.oneCell' = true) (hb:∀ x ∈ l,SpOk x) (ho:∀ i ∈ o,i < l.length) (hfew:o.length ≤ 1000) :
    GivesV Tryz.prog 141 [.agg #[.int .i64 n,sv,cm,ex],ov] w (.agg #[.int .i64 (tV l o o.length),.int .i64 (tL l o o.length)]):=by
  obtain ⟨a,cap,b,of,rfl,hcap,hmax,ha,hc⟩:=h1
  obtain ⟨a2,cap2,b2,of2,rfl,hcap2,hmax2,ha2,hc2⟩:=h2
  rw [spsL_length] at *
  rw [natsL_length] at *
  unfold maxLen at hmax hmax2
  refine givesV_of_tr Tryz.func141 rfl rfl ?_
  (refine s_r ?_;refine tr_new (rk_box (.of rfl) rfl) rfl (fun _ _=>?_);refine tr_new (rk_alloc rfl) rfl (fun _ _=>?_);refine n_r ?_;refine tr_new (rk_alloc rfl) rfl (fun _ _=>?_);refine n_t ?_;refine tr_seq ?_;refine s_r ?_;refine m_v rfl rfl ?_;refine tr_val (rk_len_slice (.of rfl)) rfl ?_;refine m_v rfl rfl ?_;refine n_t ?_;refine tr_block ?_)
  rename_i bb hbb br hbr bo hbo
  refine tr_for (ι:=Nat) (fun x=>x ≤ o.length) (fun x=>[(10,.int .i64 x),(9,.int .i64 o.length),(8,.slice a2 o.length cap2),(2,.pointer (some ⟨bb,0,none⟩)),(5,.pointer (some ⟨bo,0,none⟩)),(4,.pointer (some ⟨br,0,none⟩))])
    (fun x=>[blk bo (.cells #[.int .i64 (tV l o x),.int .i64 (tL l o x)] 121 (0,0)),blk br (.cells #[.int .i64 0,.int .i64 0] 121 (0,0)),blk bb (.cells #[.int .i64 n,.slice a l.length cap,cm,ex] 91 (0,0))]) (fun x=>o.length - x) ?_ ?_
  · apply tr_start (0:Nat) (show (fun x=>x ≤ o.length) 0 from Nat.zero_le _)
    case hs1=>exact .cons rfl (.cons rfl (.cons rfl (.cons rfl (.cons rfl (.cons rfl .nil)))))
    case ht=>
      show Takes _ [blk bo (.cells #[.int .i64 0,.int .i64 0] 121 (0,0)),blk br (.cells #[.int .i64 0,.int .i64 0] 121 (0,0)),blk bb (.cells #[.int .i64 n,.slice a l.length cap,cm,ex] 91 (0,0))] _
      exact .cons .here (.cons .here (.cons .here .nil))
  rintro k hk
  by_cases hlt:k < o.length
  · have ha2':=ha2 (natsL_ne hlt)
    have hcell2:=(hc2 k _ (natsL_get hlt)).2
    have c0:w.cell? ⟨b2,of2 + k * 1,none⟩ = some (.int .i64 (nthN o k)):=hcell2 0 _ rfl
    have hi:=ho _ (nthN_mem hlt)
    have ha':=ha (spsL_ne hi)
    have hcell:=(hc (nthN o k) _ (spsL_get hi)).2
    have hv:=(hb _ (nthS_mem hi)).vl
    have hl:=(hb _ (nthS_mem hi)).ln
    have htv:=tV_le hb ho k hk
    have htl:=tL_le hb ho k hk
    unfold Sp.cells at hcell
    have c3:w.cell? ⟨b,of + nthN o k * 4 + 3,none⟩ = some (.int .i64 (nthS l (nthN o k)).vl):=hcell 3 _ rfl
    have c2:w.cell? ⟨b,of + nthN o k * 4 + 2,none⟩ = some (.int .i64 (nthS l (nthN o k)).ln):=hcell 2 _ rfl
    have hsv:tV l o (k + 1) = tV l o k + (nthS l (nthN o k)).vl:=rfl
    have hsl:tL l o (k + 1) = tL l o k + (nthS l (nthN o k)).ln:=rfl
    (refine s_r ?_;refine tr_val (rk_lss (.of rfl) (.of rfl)) rfl ?_;refine n_t ?_;refine tr_seq ?_;refine c_d rfl (fun hcd=>?_) (fun _=>by omega);refine s_t ?_;refine tr_seq ?_;refine tr_block ?_;refine s_r ?_;refine tr_val (rk_indexAddr (.of rfl) (.of rfl) ha2' (by omega) hcd norm1_) rfl ?_;refine tr_val (rk_load1 (.of rfl) (At.base c0 rfl)) rfl ?_;refine a_s rfl rfl ?_;refine n_t ?_;refine tr_seq ?_)
    with_reducible refine tr_draw 9 (by kernel_rfl) ?_
    (refine any_val (rk_indexAddrA (.of rfl) (.of rfl) (by omega) (by omega) norm1_) rfl ?_;refine any_val (rk_load1 (.of rfl) (At.lit .here rfl)) rfl ?_;refine a_f rfl rfl norm0_ ?_;refine any_val (rk_load1 (.of rfl) (At.lit (.there (.there .here)) rfl)) rfl ?_;refine a_m rfl rfl ?_;refine any_val (rk_indexAddr (.of rfl) (.of rfl) ha' (by omega) (by omega) norm1_) rfl ?_;refine a_f rfl rfl norm0_ ?_;refine any_val (rk_load1 (.of rfl) (At.base c3 rfl)) rfl ?_;refine any_val (rk_add (.of rfl) (.of rfl) (ini (by omega))) rfl ?_)
    with_reducible refine any_end ?_
    (refine tr_val (rk_indexAddrA (.of rfl) (.of rfl) (by omega) (by omega) norm1_) rfl ?_;refine tr_store (.of rfl) (.of rfl) .here rfl rfl (okc_cons rfl okc_nil) (lenb rfl) norm_ ?_;refine n_t ?_)
    with_reducible refine tr_draw 9 (by kernel_rfl) ?_
    (refine any_val (rk_indexAddrA (.of rfl) (.of rfl) (by omega) (by omega) norm1_) rfl ?_;refine any_val (rk_load1 (.of rfl) (At.lit .here rfl)) rfl ?_;refine a_f rfl rfl norm0_ ?_;refine any_val (rk_load1 (.of rfl) (At.lit (.there (.there .here)) rfl)) rfl ?_;refine a_m rfl rfl ?_;refine any_val (rk_indexAddr (.of rfl) (.of rfl) ha' (by omega) (by omega) norm1_) rfl ?_;refine a_f rfl rfl norm0_ ?_;refine any_val (rk_load1 (.of rfl) (At.base c2 rfl)) rfl ?_;refine any_val (rk_add (.of rfl) (.of rfl) (ini (by omega))) rfl ?_)
    with_reducible refine any_end ?_
    (refine tr_val (rk_indexAddrA (.of rfl) (.of rfl) (by omega) (by omega) norm1_) rfl ?_;refine tr_store (.of rfl) (.of rfl) .here rfl rfl (okc_cons rfl okc_nil) (lenb rfl) norm_ ?_;refine tr_nil ?_;refine tr_blk_normal ?_;refine tr_then ?_;refine tr_region ?_;refine tr_val (rk_add (.of rfl) (.of rfl) (ini (by omega))) rfl ?_;refine m_v rfl rfl ?_;refine n_t ?_)
    apply tr_next (k + 1) (show k + 1 ≤ o.length by omega) (show o.length - (k + 1) < o.length - k by omega)
    case hs1=>exact .cons rfl (.cons rfl (.cons rfl (.cons rfl (.cons rfl (.cons rfl .nil)))))
    case ht=>
      show Takes _ [blk bo (.cells #[.int .i64 (tV l o k + (nthS l (nthN o k)).vl),.int .i64 (tL l o k + (nthS l (nthN o k)).ln)] 121 (0,0)),blk br (.cells #[.int .i64 0,.int .i64 0] 121 (0,0)),blk bb (.cells #[.int .i64 n,.slice a l.length cap,cm,ex] 91 (0,0))] _
      exact .cons .here (.cons .here (.cons .here .nil))
  · obtain rfl:k = o.length:=by omega
    (refine s_r ?_;refine tr_val (rk_lss (.of rfl) (.of rfl)) rfl ?_;refine n_t ?_;refine tr_seq ?_;refine c_d rfl (fun _=>by omega) (fun hcd=>?_);refine x_t ?_;refine tr_then_exit ?_;refine tr_blk_exit ?_;refine tr_then ?_;refine s_r ?_;refine tr_val (rk_loadB (.of rfl) .here norm_ (by rfl)) rfl ?_;refine tr_store (.of rfl) (.of rfl) (.there .here) rfl rfl (okc_cons rfl (okc_cons rfl okc_nil)) (lenb rfl) norm_ ?_;refine n_t ?_;refine tr_ret ?_;refine tr_retE rfl (ends1cB rfl inferInstance rfl .here norm_ (by rfl)) ?_)
    rfl
end Go.Proofs.A1
namespace Go.Proofs.A1
open Go Go.SL
theorem camp_c (n:Int) {bl c cp:Nat} {a:Option Addr} {w:World} (h:w.cell? ⟨bl,2,none⟩ = some (.slice a c cp)) (hc:c ≤ 1000000) :
    GivesV Tryz.prog 144 [.int .i64 n,.pointer (some ⟨bl,0,none⟩)] w (.int .i64 (whenF (decide (n < 0) || decide (n ≥ (c:Int))) 10)):=by
  refine givesV_of_tr Tryz.func144 rfl rfl ?_
  (refine s_r ?_;refine a_s rfl rfl ?_;refine n_r ?_;refine m_v rfl rfl ?_;refine tr_val (rk_lss (.of rfl) (.of rfl)) rfl ?_;refine m_v rfl rfl ?_;refine v_g rfl rfl rfl rfl ?_;refine tr_vG1 rfl rfl inferInstance (fun hg hgp=>(rk_fieldAddr (.of rfl) norm0_)) rfl ?_;refine tr_vG1 rfl rfl inferInstance (fun hg hgp=>(rk_load1 (.ofg hg rfl) (At.base h rfl))) rfl ?_;refine tr_vG1 rfl rfl inferInstance (fun hg hgp=>(rk_len_slice (.ofg hg rfl))) rfl ?_;refine tr_vG1 rfl rfl inferInstance (fun hg hgp=>(rk_geq (.ofg hg rfl) (.ofg hg rfl))) rfl ?_;refine tr_val (rk_pick_or (.of rfl) rfl) rfl ?_;refine tr_callV (rk_call (.of rfl) (.cons (.of rfl) (.cons (.of rfl) .nil)) inferInstance normc_) rfl (fun w' hm'=>(when_c _ 10 w')) ?_;refine a_s rfl rfl ?_;refine n_t ?_;refine tr_ret ?_;refine tr_retE rfl (ends1 rfl rfl) ?_)
  rfl
theorem few_c (n:Int) (w:World):GivesV Tryz.prog 146 [.int .i64 n] w (.int .i64 (withinF n 0 8)):=by
  refine givesV_of_tr Tryz.func146 rfl rfl ?_
  (refine s_r ?_;refine a_s rfl rfl ?_;refine n_r ?_;refine m_v rfl rfl ?_;refine tr_callV (rk_call (.of rfl) (.cons (.of rfl) (.cons (.of rfl) (.cons (.of rfl) .nil))) inferInstance normc_) rfl (fun w' hm'=>(within_c n 0 8 w')) ?_;refine a_s rfl rfl ?_;refine n_t ?_;refine tr_ret ?_;refine tr_retE rfl (ends1 rfl rfl) ?_)
  rfl
end Go.Proofs.A1
namespace Go.Proofs.A1
open Go Go.SL
structure Br where
  n:Int
  sp:List Sp
  cm:List Int
  ex:List (Int × Int)
def campF (m:Nat) (n:Int):Int:=whenF (decide (n < 0) || decide (n ≥ (m:Int))) 10
theorem campF_zero {m:Nat} {n:Int}:campF m n = 0 ↔ 0 ≤ n ∧ n < m:=by
  unfold campF
  rw [whenF_zero (by decide)]
  simp
def knwS (l:List Sp) (k:Nat) (s:ByteArray):Bool:=(List.range k).any fun i=>decide ((nthS l i).nm = s)
theorem knwS_succ (l:List Sp) (k:Nat) (s:ByteArray):knwS l (k + 1) s = (knwS l k s || decide ((nthS l k).nm = s)):=by
  simp [knwS,List.range_succ]
def br0 (b:Br):Int:=firstF [withinF b.n 0 100000,whenF (decide ((8:Int) < b.sp.length)) 5,whenF (decide ((8:Int) < b.cm.length)) 5,whenF (decide ((16:Int) < b.ex.length)) 5]
def spE (b:Br) (k:Nat):Int:=firstF [nmF (nthS b.sp k).nm,whenF (knwS b.sp k (nthS b.sp k).nm) 9,campF b.cm.length (nthS b.sp k).cp,withinF (nthS b.sp k).ln 1 100000,withinF (nthS b.sp k).vl 0 1000000]
def prE (m:Nat) (p:Int × Int):Int:=firstF [campF m p.1,campF m p.2,whenF (decide (p.1 = p.2)) 24]
def fewF (n:Int):Int:=withinF n 0 8
def brE (b:Br):Int:=firstF [br0 b,errE (spE b) b.sp.length,firstF (b.cm.map fewF),firstF (b.ex.map (prE b.cm.length))]
structure BrOk (b:Br):Prop where
  n:0 ≤ b.n ∧ b.n ≤ 100000
  few:b.sp.length ≤ 8
  cmp:b.cm.length ≤ 8
  exl:b.ex.length ≤ 16
  nm:∀ x ∈ b.sp,nameF x.nm = true
  dst:∀ k,k < b.sp.length → knwS b.sp k (nthS b.sp k).nm = false
  cp:∀ x ∈ b.sp,0 ≤ x.cp ∧ x.cp < b.cm.length
  ln:∀ x ∈ b.sp,1 ≤ x.ln ∧ x.ln ≤ 100000
  vl:∀ x ∈ b.sp,0 ≤ x.vl ∧ x.vl ≤ 1000000
  cm:∀ c ∈ b.cm,0 ≤ c ∧ c ≤ 8
  ex:∀ p ∈ b.ex,(0 ≤ p.1 ∧ p.1 < b.cm.length) ∧ (0 ≤ p.2 ∧ p.2 < b.cm.length) ∧ p.1 ≠ p.2
theorem BrOk.of {b:Br} (h:brE b = 0):BrOk b:=by
  unfold brE at h
  rw [firstF_zero] at h
  simp only [List.mem_cons,List.not_mem_nil,or_false,forall_eq_or_imp,forall_eq] at h
  obtain ⟨h0,h1,h2,h3⟩:=h
  unfold br0 at h0
  rw [firstF_zero] at h0
  simp only [List.mem_cons,List.not_mem_nil,or_false,forall_eq_or_imp,forall_eq,withinF_zero] at h0
  rw [whenF_zero (by decide),whenF_zero (by decide),whenF_zero (by decide)] at h0
  simp only [decide_eq_false_iff_not] at h0
  rw [errE_ok] at h1
  have hs:∀ k,k < b.sp.length → nameF (nthS b.sp k).nm = true ∧ knwS b.sp k (nthS b.sp k).nm = false ∧ (0 ≤ (nthS b.sp k).cp ∧ (nthS b.sp k).cp < b.cm.length) ∧ (1 ≤ (nthS b.sp k).ln ∧ (nthS b.sp k).ln ≤ 100000) ∧ (0 ≤ (nthS b.sp k).vl ∧ (nthS b.sp k).vl ≤ 1000000):=by
    intro k hk
    have:=h1 k hk
    unfold spE at this
    rw [firstF_zero] at this
    simp only [List.mem_cons,List.not_mem_nil,or_false,forall_eq_or_imp,forall_eq,withinF_zero,nmF,campF_zero] at this
    rw [whenF_zero (by decide),whenF_zero (by decide)] at this
    simpa using this
  have hm:∀ x ∈ b.sp,∃ k,k < b.sp.length ∧ nthS b.sp k = x:=by
    intro x hx
    obtain ⟨k,hk,rfl⟩:=List.getElem_of_mem hx
    exact ⟨k,hk,nthS_eq hk⟩
  refine ⟨h0.1,by omega,by omega,by omega,?_,fun k hk=>(hs k hk).2.1,?_,?_,?_,?_,?_⟩
  · intro x hx;obtain ⟨k,hk,rfl⟩:=hm x hx;exact (hs k hk).1
  · intro x hx;obtain ⟨k,hk,rfl⟩:=hm x hx;exact (hs k hk).2.2.1
  · intro x hx;obtain ⟨k,hk,rfl⟩:=hm x hx;exact (hs k hk).2.2.2.1
  · intro x hx;obtain ⟨k,hk,rfl⟩:=hm x hx;exact (hs k hk).2.2.2.2
  · intro c hc
    have:=firstF_zero.1 h2 _ (List.mem_map.2 ⟨c,hc,rfl⟩)
    exact withinF_zero.1 this
  · intro p hp
    have:=firstF_zero.1 h3 _ (List.mem_map.2 ⟨p,hp,rfl⟩)
    unfold prE at this
    rw [firstF_zero] at this
    simp only [List.mem_cons,List.not_mem_nil,or_false,forall_eq_or_imp,forall_eq,campF_zero] at this
    rw [whenF_zero (by decide)] at this
    simpa using this
theorem BrOk.spOk {b:Br} (h:BrOk b):∀ x ∈ b.sp,SpOk x:=fun x hx=>⟨by have:=h.ln x hx;omega,by have:=h.vl x hx;omega⟩
def cpO (b:Br) (o:List Nat) (k:Nat):Int:=(nthS b.sp (nthN o k)).cp
def lastO (b:Br) (o:List Nat):Nat → Int
  | 0=>-1
  | k + 1=>cpO b o k
def cntO (b:Br) (o:List Nat) (c:Int):Nat → Int
  | 0=>0
  | k + 1=>cntO b o c k + if cpO b o k = c then 1 else 0
def cmO (b:Br) (c:Int):Int:=b.cm.getD c.toNat 0
def badO (b:Br) (o:List Nat) (k:Nat):Bool:=decide (cpO b o k = lastO b o k) || decide (cmO b (cpO b o k) < cntO b o (cpO b o k) (k + 1))
def exclB (b:Br) (c d:Int):Bool:=b.ex.any fun p=>(decide (p.1 = c) && decide (p.2 = d)) || (decide (p.1 = d) && decide (p.2 = c))
def exclO (b:Br) (o:List Nat):Bool:=(List.range o.length).any fun i=>(List.range o.length).any fun j=>exclB b (cpO b o i) (cpO b o j)
def fitE (b:Br) (o:List Nat):Int:=if (List.range o.length).any (badO b o) then 21 else if exclO b o then 21 else whenF (decide (b.n < tL b.sp o o.length)) 26
theorem cntO_in (b:Br) (o:List Nat) (c:Int):∀ k,0 ≤ cntO b o c k ∧ cntO b o c k ≤ k
  | 0=>by simp [cntO]
  | k + 1 => by
    have:=cntO_in b o c k
    rw [cntO]
    split <;> omega
def ordE (b:Br) (o:List Int) (k:Nat):Int:=firstF [whenF (decide (o.getD k 0 < 0) || decide (o.getD k 0 ≥ (b.sp.length:Int))) 10,whenF ((o.take k).contains (o.getD k 0)) 9]
def orderE (b:Br) (o:List Int):Int:=if 8 < o.length then 5 else if errE (ordE b o) o.length ≠ 0 then errE (ordE b o) o.length else fitE b (o.map Int.toNat)
def fillsF (b:Br):Nat → List Nat → List (List Nat)
  | 0,o=>if fitE b o ≠ 0 then [] else [o]
  | f + 1,o=>if fitE b o ≠ 0 then [] else o :: (List.range b.sp.length).flatMap fun i=>if o.contains i then [] else fillsF b f (o++[i])
def subF (b:Br) (f:Nat) (o:List Nat) (n:Nat):List (List Nat):=(List.range n).flatMap fun i=>if o.contains i then [] else fillsF b f (o++[i])
theorem subF_succ (b:Br) (f:Nat) (o:List Nat) (n:Nat):subF b f o (n + 1) = subF b f o n++if o.contains n then [] else fillsF b f (o++[n]):=by
  simp [subF,List.range_succ]
theorem fillsF_bad {b:Br} {f:Nat} {o:List Nat} (h:fitE b o ≠ 0):fillsF b f o = []:=by
  cases f <;> rw [fillsF,if_pos h]
structure Dif (n:Nat) (o:List Nat):Prop where
  nd:o.Nodup
  lt:∀ i ∈ o,i < n
theorem Dif.nil (n:Nat):Dif n []:=⟨List.nodup_nil,by simp⟩
theorem Dif.snoc {n i:Nat} {o:List Nat} (h:Dif n o) (hi:i < n) (hn:o.contains i = false):Dif n (o++[i]):=by
  have hn':i ∉ o:=by simpa using hn
  refine ⟨List.nodup_append.2 ⟨h.nd,by simp,?_⟩,?_⟩
  · intro a ha b hb e
    simp only [List.mem_singleton] at hb
    subst hb e
    exact hn' ha
  · intro j hj
    rcases List.mem_append.1 hj with hj | hj
    · exact h.lt j hj
    · simp only [List.mem_singleton] at hj;omega
theorem Dif.len:∀ {n:Nat} {o:List Nat},Dif n o → o.length ≤ n
  | 0, o, h => by
    cases o with
    | nil=>simp
    | cons x r=>have:=h.lt x (by simp);omega
  | n + 1, o, h => by
    have h2:Dif n (o.filter (fun i=>decide (i ≠ n))):=by
      refine ⟨h.nd.filter _,fun i hi=>?_⟩
      rw [List.mem_filter] at hi
      have:=h.lt i hi.1
      have h3:=hi.2
      simp only [ne_eq,decide_eq_true_eq] at h3
      omega
    have h3:=Dif.len h2
    have h4:o.length ≤ (o.filter (fun i=>decide (i ≠ n))).length + 1:=by
      have hc:o.countP (fun i=>decide (i ≠ n)) + o.countP (fun i=>!decide (i ≠ n)) = o.length:=by
        have:=List.length_eq_countP_add_countP (fun i=>decide (i ≠ n)) (l:=o)
        rw [this]
        congr 1
        apply List.countP_congr
        intro x _;simp
      have h5:o.countP (fun i=>!decide (i ≠ n)) ≤ 1:=by
        have:=List.nodup_iff_count.1 h.nd n
        rw [List.count] at this
        refine Nat.le_trans (Nat.le_of_eq ?_) this
        apply List.countP_congr
        intro x _
        simp
      rw [← List.countP_eq_length_filter]
      omega
    omega
def betterB (b:Br) (x y:List Nat):Bool:=decide (tV b.sp y y.length < tV b.sp x x.length) || (decide (tV b.sp x x.length = tV b.sp y y.length) && decide (tL b.sp y y.length < tL b.sp x x.length))
def bestF (b:Br) (l:List (List Nat)):List Nat:=l.foldl (fun y x=>if betterB b x y then x else y) []
def fillF (b:Br):List Nat:=bestF b (fillsF b b.sp.length [])
end Go.Proofs.A1
namespace Go.Proofs.A1
open Go Go.SL
theorem mapInt {lv fv:Value} {rows:List (List Value)} {f:FuncId} {first cap:List Value} [Bod Tryz.prog f] {img:List Int} {w:World} (h:Rd w lv 1 rows) (hfv:fv = .func (.func f) first.toArray cap.toArray) (hl:img.length = rows.length) (hn:rows.length ≤ 1000000) (h1c:∀ r ∈ rows,∀ u ∈ r,u.oneCell' = true)
    (hcall:∀ (i:Nat) (r:List Value) (e:Int),rows[i]? = some r → img[i]? = some e → ∀ w',Keeps [] w w' → GivesV Tryz.prog f (first++r++cap) w' (.int .i64 e)) :
    Gives Tryz.prog 145 [lv,fv] w [] (fun _:Value=>True) id (fun v=>[row 28 1 v rows.length (img.map (.int .i64))]):=by
  subst hfv
  obtain ⟨a,cp,b,o,rfl,hcap,hmax,ha,hc⟩:=h
  unfold maxLen at hmax
  refine gives_of_tr Tryz.func145 rfl rfl ?_
  (refine s_r ?_;refine a_s rfl rfl ?_;refine n_r ?_;refine a_s rfl rfl ?_;refine n_t ?_;refine tr_seq ?_;refine s_r ?_;refine m_v rfl rfl ?_;refine tr_val (rk_len_slice (.of rfl)) rfl ?_;refine m_v rfl rfl ?_;refine n_t ?_;refine tr_block ?_)
  refine tr_rowNil 28 1 ?_
  refine tr_for (ι:=Nat × Value) (fun x=>x.1 ≤ rows.length) (fun x=>[(10,.int .i64 x.1),(9,.int .i64 rows.length),(8,.slice a rows.length cp),(5,x.2),(1,.func (.func f) first.toArray cap.toArray)]) (fun x=>[row 28 1 x.2 x.1 ((img.take x.1).map (.int .i64))]) (fun x=>rows.length - x.1) ?_ ?_
  · apply tr_start (0,.slice none 0 0) (Nat.zero_le _)
    case hs1=>exact .cons rfl (.cons rfl (.cons rfl (.cons rfl (.cons rfl .nil))))
    case ht=>(try simp only [List.take_zero,List.map_nil,List.nil_append]);exact .cons .here .nil
  rintro ⟨k,v⟩ hk
  dsimp only at hk ⊢
  by_cases hlt:k < rows.length
  · have ha':=ha (by intro e;rw [e] at hlt;simp at hlt)
    have hget:rows[k]? = some rows[k]:=List.getElem?_eq_getElem hlt
    have hcell:=(hc k _ hget).2
    have hlen:=(hc k _ hget).1
    have himg:img[k]? = some (img[k]'(by omega)):=List.getElem?_eq_getElem (by omega)
    have hone:=h1c _ (List.getElem_mem hlt)
    have hcl:=hcall k _ _ hget himg
    obtain ⟨x0,hx⟩:∃ x0,rows[k] = [x0]:=by
      match hr:rows[k],hlen with
      | [x0],_=>exact ⟨x0,rfl⟩
    rw [hx] at hcell hone hcl
    have o0_:=hone x0 (by simp)
    have c0:w.cell? ⟨b,o + k * 1,none⟩ = some x0:=hcell 0 _ rfl
    (refine s_r ?_;refine tr_val (rk_lss (.of rfl) (.of rfl)) rfl ?_;refine n_t ?_;refine tr_seq ?_;refine c_d rfl (fun hcd=>?_) (fun _=>by omega);refine s_t ?_;refine tr_seq ?_;refine tr_block ?_;refine s_r ?_;refine tr_val (rk_indexAddr (.of rfl) (.of rfl) ha' (by omega) hcd norm1_) rfl ?_;refine tr_val (rk_load1 (.of rfl) (At.base c0 rfl)) rfl ?_;refine a_s rfl rfl ?_;refine n_t ?_;refine tr_region ?_;refine m_v rfl rfl ?_;refine m_v rfl rfl ?_;refine m_v rfl rfl ?_)
    refine tr_callV (rk_call (.of rfl) (.cons (.of rfl) .nil) inferInstance normc_) rfl (fun w' hm'=>(hcl w' (Mem.keeps hm'))) ?_
    refine tr_new (rk_sliceLit (.cons (.of rfl) .nil) rfl rfl rfl rfl) rfl (fun _ _=>?_)
    refine tr_appendB (.of rfl) (.of rfl) (.there .here) .here norm_ (by rfl) (okc_cons rfl okc_nil) (by rfl) (by rfl) (by rfl) lenx_ (by rfl) ?_
    intro v'
    (refine a_s rfl rfl ?_;refine tr_nil ?_;refine tr_blk_normal ?_;refine tr_then ?_;refine tr_region ?_;refine tr_val (rk_add (.of rfl) (.of rfl) (ini (by omega))) rfl ?_;refine m_v rfl rfl ?_;refine n_t ?_)
    have ht1:(img.take (k + 1)).map (Value.int .i64) = (img.take k).map (Value.int .i64)++[Value.int .i64 (img[k]'(by omega))]:=by
      rw [List.take_add_one,himg,List.map_append];rfl
    apply tr_next (k + 1,v') (by show k + 1 ≤ rows.length;omega) (by show rows.length - (k + 1) < rows.length - k;omega)
    case hs1=>exact .cons rfl (.cons rfl (.cons rfl (.cons rfl (.cons rfl .nil))))
    case ht=>
      show Takes _ [row 28 1 v' (k + 1) ((img.take (k + 1)).map (Value.int .i64))] _
      rw [ht1]
      exact .cons .here .nil
  · have:k = rows.length:=by omega
    subst this
    rw [List.take_of_length_le (by omega)]
    (refine s_r ?_;refine tr_val (rk_lss (.of rfl) (.of rfl)) rfl ?_;refine n_t ?_;refine tr_seq ?_;refine c_d rfl (fun _=>by omega) (fun hcd=>?_);refine x_t ?_;refine tr_then_exit ?_;refine tr_blk_exit ?_;refine tr_then ?_;refine s_r ?_;refine m_v rfl rfl ?_;refine a_s rfl rfl ?_;refine n_t ?_;refine tr_ret ?_)
    first | with_reducible apply tr_retM | with_reducible apply tr_endM
    case he=>exact ends1 rfl rfl
    case hR=>
      intro w' hm'
      exact gives_end v trivial (by exact .cons .here .nil) hm' rfl
theorem mapPr {lv fv:Value} {rows:List (List Value)} {f:FuncId} {first cap:List Value} [Bod Tryz.prog f] {img:List Int} {w:World} (h:Rd w lv 2 rows) (hfv:fv = .func (.func f) first.toArray cap.toArray) (hl:img.length = rows.length) (hn:rows.length ≤ 1000000) (h1c:∀ r ∈ rows,∀ u ∈ r,u.oneCell' = true)
    (hcall:∀ (i:Nat) (r:List Value) (e:Int),rows[i]? = some r → img[i]? = some e → ∀ w',Keeps [] w w' → GivesV Tryz.prog f (first++[.agg r.toArray]++cap) w' (.int .i64 e)) :
    Gives Tryz.prog 147 [lv,fv] w [] (fun _:Value=>True) id (fun v=>[row 28 1 v rows.length (img.map (.int .i64))]):=by
  subst hfv
  obtain ⟨a,cp,b,o,rfl,hcap,hmax,ha,hc⟩:=h
  unfold maxLen at hmax
  refine gives_of_tr Tryz.func147 rfl rfl ?_
  (refine s_r ?_;refine a_s rfl rfl ?_;refine n_r ?_;refine a_s rfl rfl ?_;refine n_t ?_;refine tr_seq ?_;refine s_r ?_;refine m_v rfl rfl ?_;refine tr_val (rk_len_slice (.of rfl)) rfl ?_;refine m_v rfl rfl ?_;refine n_t ?_;refine tr_block ?_)
  refine tr_rowNil 28 1 ?_
  refine tr_for (ι:=Nat × Value) (fun x=>x.1 ≤ rows.length) (fun x=>[(10,.int .i64 x.1),(9,.int .i64 rows.length),(8,.slice a rows.length cp),(5,x.2),(1,.func (.func f) first.toArray cap.toArray)]) (fun x=>[row 28 1 x.2 x.1 ((img.take x.1).map (.int .i64))]) (fun x=>rows.length - x.1) ?_ ?_
  · apply tr_start (0,.slice none 0 0) (Nat.zero_le _)
    case hs1=>exact .cons rfl (.cons rfl (.cons rfl (.cons rfl (.cons rfl .nil))))
    case ht=>(try simp only [List.take_zero,List.map_nil,List.nil_append]);exact .cons .here .nil
  rintro ⟨k,v⟩ hk
  dsimp only at hk ⊢
  by_cases hlt:k < rows.length
  · have ha':=ha (by intro e;rw [e] at hlt;simp at hlt)
    have hget:rows[k]? = some rows[k]:=List.getElem?_eq_getElem hlt
    have hcell:=(hc k _ hget).2
    have hlen:=(hc k _ hget).1
    have himg:img[k]? = some (img[k]'(by omega)):=List.getElem?_eq_getElem (by omega)
    have hone:=h1c _ (List.getElem_mem hlt)
    have hcl:=hcall k _ _ hget himg
    obtain ⟨x0,x1,hx⟩:∃ x0 x1,rows[k] = [x0,x1]:=by
      match hr:rows[k],hlen with
      | [x0,x1],_=>exact ⟨x0,x1,rfl⟩
    rw [hx] at hcell hone hcl
    have o0_:=hone x0 (by simp)
    have o1_:=hone x1 (by simp)
    (refine s_r ?_;refine tr_val (rk_lss (.of rfl) (.of rfl)) rfl ?_;refine n_t ?_;refine tr_seq ?_;refine c_d rfl (fun hcd=>?_) (fun _=>by omega);refine s_t ?_;refine tr_seq ?_;refine tr_block ?_;refine s_r ?_;refine tr_val (rk_indexAddr (.of rfl) (.of rfl) ha' (by omega) hcd norm1_) rfl ?_;refine tr_val (rk_loadN (.of rfl) (Ats.base hcell rfl) rfl) rfl ?_;refine tr_new (rk_alloc rfl) rfl (fun _ _=>?_);refine tr_store (.of rfl) (.of rfl) .here rfl rfl (okc_cons o0_ (okc_cons o1_ okc_nil)) (lenb rfl) norm_ ?_;refine n_t ?_;refine tr_region ?_;refine m_v rfl rfl ?_;refine m_v rfl rfl ?_;refine tr_val (rk_loadB (.of rfl) .here norm_ (by rfl)) rfl ?_)
    refine tr_callV (rk_call (.of rfl) (.cons (.of rfl) .nil) inferInstance normc_) rfl (fun w' hm'=>(hcl w' (Mem.keeps hm'))) ?_
    refine tr_new (rk_sliceLit (.cons (.of rfl) .nil) rfl rfl rfl rfl) rfl (fun _ _=>?_)
    refine tr_appendB (.of rfl) (.of rfl) (.there (.there .here)) .here norm_ (by rfl) (okc_cons rfl okc_nil) (by rfl) (by rfl) (by rfl) lenx_ (by rfl) ?_
    intro v'
    (refine a_s rfl rfl ?_;refine tr_nil ?_;refine tr_blk_normal ?_;refine tr_then ?_;refine tr_region ?_;refine tr_val (rk_add (.of rfl) (.of rfl) (ini (by omega))) rfl ?_;refine m_v rfl rfl ?_;refine n_t ?_)
    have ht1:(img.take (k + 1)).map (Value.int .i64) = (img.take k).map (Value.int .i64)++[Value.int .i64 (img[k]'(by omega))]:=by
      rw [List.take_add_one,himg,List.map_append];rfl
    apply tr_next (k + 1,v') (by show k + 1 ≤ rows.length;omega) (by show rows.length - (k + 1) < rows.length - k;omega)
    case hs1=>exact .cons rfl (.cons rfl (.cons rfl (.cons rfl (.cons rfl .nil))))
    case ht=>
      show Takes _ [row 28 1 v' (k + 1) ((img.take (k + 1)).map (Value.int .i64))] _
      rw [ht1]
      exact .cons .here .nil
  · have:k = rows.length:=by omega
    subst this
    rw [List.take_of_length_le (by omega)]
    (refine s_r ?_;refine tr_val (rk_lss (.of rfl) (.of rfl)) rfl ?_;refine n_t ?_;refine tr_seq ?_;refine c_d rfl (fun _=>by omega) (fun hcd=>?_);refine x_t ?_;refine tr_then_exit ?_;refine tr_blk_exit ?_;refine tr_then ?_;refine s_r ?_;refine m_v rfl rfl ?_;refine a_s rfl rfl ?_;refine n_t ?_;refine tr_ret ?_)
    first | with_reducible apply tr_retM | with_reducible apply tr_endM
    case he=>exact ends1 rfl rfl
    case hR=>
      intro w' hm'
      exact gives_end v trivial (by exact .cons .here .nil) hm' rfl
def prV (p:Int × Int):List Value:=[.int .i64 p.1,.int .i64 p.2]
def prsL (l:List (Int × Int)):List (List Value):=l.map prV
theorem prsL_length (l:List (Int × Int)):(prsL l).length = l.length:=by simp [prsL]
theorem prsL_one (l:List (Int × Int)):∀ r ∈ prsL l,∀ u ∈ r,u.oneCell' = true:=by
  intro r hr
  obtain ⟨x,_,rfl⟩:=List.mem_map.1 hr
  unfold prV
  exact okc_cons rfl (okc_cons rfl okc_nil)
theorem ints_one (l:List Int):∀ r ∈ ints l,∀ u ∈ r,u.oneCell' = true:=by
  intro r hr
  obtain ⟨x,_,rfl⟩:=List.mem_map.1 hr
  exact okc_cons rfl okc_nil
theorem pr_eq (a b:Int):(decide (a = b) && (decide (b = a) && true)) = decide (a = b):=by
  by_cases h:a = b
  · subst h;simp
  · simp [h]
theorem prC_c (p:Int × Int) {bl bc c cp:Nat} {a:Option Addr} {w:World} (h1:w.cell? ⟨bc,0,none⟩ = some (.func (.func 144) #[] #[.pointer (some ⟨bl,0,none⟩)])) (h2:w.cell? ⟨bl,2,none⟩ = some (.slice a c cp)) (hc:c ≤ 1000000) :
    GivesV Tryz.prog 148 [.agg (prV p).toArray,.pointer (some ⟨bc,0,none⟩)] w (.int .i64 (prE c p)):=by
  unfold prV
  refine givesV_of_tr Tryz.func148 rfl rfl ?_
  (refine s_r ?_;refine tr_new (rk_box (.of rfl) rfl) rfl (fun _ _=>?_);refine a_s rfl rfl ?_;refine n_t ?_;refine tr_seq ?_)
  with_reducible refine tr_draw 16 (by kernel_rfl) ?_
  (refine any_val (rk_load1 (.of rfl) (At.base h1 rfl)) rfl ?_;refine any_val (rk_indexAddrA (.of rfl) (.of rfl) (by omega) (by omega) norm1_) rfl ?_;refine any_val (rk_load1 (.of rfl) (At.lit .here rfl)) rfl ?_;refine any_call (rk_call (.of rfl) (.cons (.of rfl) .nil) inferInstance normc_) rfl (fun w' hm'=>(camp_c _ (cell_keeps h2 rfl (Mem.keeps hm')) hc)) ?_;refine any_val (rk_load1 (.of rfl) (At.base h1 rfl)) rfl ?_;refine any_val (rk_indexAddrA (.of rfl) (.of rfl) (by omega) (by omega) norm1_) rfl ?_;refine any_val (rk_load1 (.of rfl) (At.lit .here rfl)) rfl ?_;refine any_call (rk_call (.of rfl) (.cons (.of rfl) .nil) inferInstance normc_) rfl (fun w' hm'=>(camp_c _ (cell_keeps h2 rfl (Mem.keeps hm')) hc)) ?_;refine any_val (rk_loadB (.of rfl) .here norm_ (by rfl)) rfl ?_;refine any_val (rk_indexAddrA (.of rfl) (.of rfl) (by omega) (by omega) norm1_) rfl ?_;refine any_val (rk_load1 (.of rfl) (At.lit .here rfl)) rfl ?_;refine any_val (rk_indexAddrA (.of rfl) (.of rfl) (by omega) (by omega) norm1_) rfl ?_;refine any_val (rk_load1 (.of rfl) (At.lit .here rfl)) rfl ?_;refine any_val (rk_buildL (.cons (.of rfl) (.cons (.of rfl) .nil)) norm_) rfl ?_;refine any_val (rk_eqlA (.of rfl) (.of rfl) (okL_int (okL_int okL_nil)) rfl) rfl ?_;refine any_call (rk_call (.of rfl) (.cons (.of rfl) (.cons (.of rfl) .nil)) inferInstance normc_) rfl (fun w' hm'=>(when_c _ 24 w')) ?_)
  with_reducible refine any_end ?_
  (refine tr_new (rk_sliceLit (.cons (.of rfl) (.cons (.of rfl) (.cons (.of rfl) .nil))) rfl rfl rfl rfl) rfl (fun _ _=>?_);refine tr_callV (rk_call (.of rfl) (.cons (.of rfl) .nil) inferInstance normc_) rfl (fun w' hm'=>(first_pB (Mem.rdBlk hm' .here rfl rfl) (IntL.cons (IntL.cons (IntL.cons IntL.nil))))) ?_;refine a_s rfl rfl ?_;refine n_t ?_;refine tr_ret ?_;refine tr_retE rfl (ends1 rfl rfl) ?_)
  rw [prE,pr_eq]
  rfl
end Go.Proofs.A1
namespace Go.Proofs.A1
open Go Go.SL
theorem firstF4 (a b c d:Int) (ha:a = 0) (hb:b = 0) (hc:c = 0):firstF [a,b,c,d] = d:=by
  subst ha hb hc
  by_cases h:d = 0
  · subst h;rfl
  · simp [firstF,h]
set_option maxHeartbeats 1000000 in
theorem brk_c {b:Br} {sv cv xv:Value} {w:World} (h1:Rd w sv 4 (spsL b.sp)) (h2:Rd w cv 1 (ints b.cm)) (h3:Rd w xv 2 (prsL b.ex)) :
    GivesV Tryz.prog 67 [.agg #[.int .i64 b.n,sv,cv,xv]] w (.int .i64 (brE b)):=by
  have h2':=h2
  have h3':=h3
  obtain ⟨a,cap,bb,o,rfl,hcap,hmax,ha,hc⟩:=h1
  obtain ⟨a2,cap2,bb2,o2,rfl,hcap2,hmax2,ha2,hc2⟩:=h2
  obtain ⟨a3,cap3,bb3,o3,rfl,hcap3,hmax3,ha3,hc3⟩:=h3
  rw [spsL_length] at *
  rw [ints_length] at *
  rw [prsL_length] at *
  unfold maxLen at hmax hmax2 hmax3
  refine givesV_of_tr Tryz.func67 rfl rfl ?_
  (refine s_r ?_;refine tr_new (rk_box (.of rfl) rfl) rfl (fun _ _=>?_);refine a_s rfl rfl ?_;refine n_t ?_;refine tr_seq ?_;refine tr_seq ?_)
  with_reducible refine tr_draw 18 (by kernel_rfl) ?_
  (refine a_f rfl rfl norm0_ ?_;refine any_val (rk_load1 (.of rfl) (At.lit .here rfl)) rfl ?_;refine any_call (rk_call (.of rfl) (.cons (.of rfl) (.cons (.of rfl) (.cons (.of rfl) .nil))) inferInstance normc_) rfl (fun w' hm'=>(within_c _ 0 100000 w')) ?_;refine a_f rfl rfl norm0_ ?_;refine any_val (rk_load1 (.of rfl) (At.lit .here rfl)) rfl ?_;refine any_val (rk_len_slice (.of rfl)) rfl ?_;refine any_val (rk_gtr (.of rfl) (.of rfl)) rfl ?_;refine any_call (rk_call (.of rfl) (.cons (.of rfl) (.cons (.of rfl) .nil)) inferInstance normc_) rfl (fun w' hm'=>(when_c _ 5 w')) ?_;refine a_f rfl rfl norm0_ ?_;refine any_val (rk_load1 (.of rfl) (At.lit .here rfl)) rfl ?_;refine any_val (rk_len_slice (.of rfl)) rfl ?_;refine any_val (rk_gtr (.of rfl) (.of rfl)) rfl ?_;refine any_call (rk_call (.of rfl) (.cons (.of rfl) (.cons (.of rfl) .nil)) inferInstance normc_) rfl (fun w' hm'=>(when_c _ 5 w')) ?_;refine a_f rfl rfl norm0_ ?_;refine any_val (rk_load1 (.of rfl) (At.lit .here rfl)) rfl ?_;refine any_val (rk_len_slice (.of rfl)) rfl ?_;refine any_val (rk_gtr (.of rfl) (.of rfl)) rfl ?_;refine any_call (rk_call (.of rfl) (.cons (.of rfl) (.cons (.of rfl) .nil)) inferInstance normc_) rfl (fun w' hm'=>(when_c _ 5 w')) ?_)
  with_reducible refine any_end ?_
  (refine tr_new (rk_sliceLit (.cons (.of rfl) (.cons (.of rfl) (.cons (.of rfl) (.cons (.of rfl) .nil)))) rfl rfl rfl rfl) rfl (fun _ _=>?_);refine tr_callV (rk_call (.of rfl) (.cons (.of rfl) .nil) inferInstance normc_) rfl (fun w' hm'=>(first_pB (Mem.rdBlk hm' .here rfl rfl) (IntL.cons (IntL.cons (IntL.cons (IntL.cons IntL.nil)))))) ?_;refine a_s rfl rfl ?_;refine n_r ?_;refine m_v rfl rfl ?_;refine tr_val (rk_neq (.of rfl) (.of rfl)) rfl ?_;refine n_t ?_;refine c_d rfl (fun hcd=>?_) (fun hcd=>?_);refine s_r ?_;refine m_v rfl rfl ?_;refine a_s rfl rfl ?_;refine n_t ?_;refine r_t ?_;refine tr_retE rfl (ends1 rfl rfl) ?_;rotate_left;refine s_t ?_;refine s_r ?_;refine tr_val (rk_makeFunc' .nil (.cons (.of rfl) .nil)) rfl ?_;refine tr_new (rk_alloc rfl) rfl (fun _ _=>?_);refine tr_store (.of rfl) (.of rfl) .here rfl rfl (okc_cons rfl okc_nil) (lenb rfl) norm_ ?_;refine n_r ?_;rotate_right)
  · have hne:br0 b ≠ 0:=hcd
    have hE:brE b = br0 b:=by simp [brE,firstF,hne]
    rw [hE];rfl
  have hz0:br0 b = 0:=Decidable.not_not.1 hcd
  have hz1:=hz0
  unfold br0 at hz1
  rw [firstF_zero] at hz1
  simp only [List.mem_cons,List.not_mem_nil,or_false,forall_eq_or_imp,forall_eq] at hz1
  rw [whenF_zero (by decide),whenF_zero (by decide),whenF_zero (by decide)] at hz1
  simp only [decide_eq_false_iff_not] at hz1
  have hl8:b.sp.length ≤ 8:=by omega
  have hm8:b.cm.length ≤ 8:=by omega
  have hx16:b.ex.length ≤ 16:=by omega
  rename_i b1 hb1 bq hbq b4 hb4
  refine tr_makeMapS rfl ?_
  intro bm hbm
  (refine a_s rfl rfl ?_;refine n_t ?_;refine tr_seq ?_;refine s_r ?_;refine f_a rfl rfl norm0_ ?_;refine tr_val (rk_load1 (.of rfl) (At.lit (.there (.there (.there .here))) rfl)) rfl ?_;refine tr_val (rk_len_slice (.of rfl)) rfl ?_;refine m_v rfl rfl ?_;refine n_t ?_;refine tr_block ?_)
  refine tr_for (ι:=Nat × List (ByteArray × Value)) (fun x=>x.1 ≤ b.sp.length ∧ (∀ i,i < x.1 → spE b i = 0) ∧ ∀ s,(alook s x.2).getD (.bool false) = .bool (knwS b.sp x.1 s))
    (fun x=>[(38,.int .i64 x.1),(37,.int .i64 b.sp.length),(36,.slice a b.sp.length cap),(5,.map (some bm)),(1,.pointer (some ⟨b1,0,none⟩)),(4,.pointer (some ⟨b4,0,none⟩))])
    (fun x=>[mp (fun s:ByteArray=>Value.string s) bm x.2,blk b1 (.cells #[.int .i64 b.n,.slice a b.sp.length cap,.slice a2 b.cm.length cap2,.slice a3 b.ex.length cap3] 91 (0,0)),blk b4 (.cells #[.func (.func 144) #[] #[.pointer (some ⟨b1,0,none⟩)]] 197 (0,0))]) (fun x=>b.sp.length - x.1) ?_ ?_
  · apply tr_start (0,[]) ⟨Nat.zero_le _,fun i h=>by omega,fun s=>rfl⟩
    case hs1=>exact .cons rfl (.cons rfl (.cons rfl (.cons rfl (.cons rfl (.cons rfl .nil)))))
    case ht=>(try simp only [List.take_zero,List.map_nil,List.nil_append]);exact .cons .here (.cons (.there (.there .here)) (.cons .here .nil))
  rintro ⟨k,l⟩ ⟨hk,hf,hm⟩
  dsimp only at hk hf hm ⊢
  by_cases hlt:k < b.sp.length
  · have ha':=ha (spsL_ne hlt)
    have hcell:=(hc k _ (spsL_get hlt)).2
    have hmk:=hm (nthS b.sp k).nm
    unfold Sp.cells at hcell
    (refine s_r ?_;refine tr_val (rk_lss (.of rfl) (.of rfl)) rfl ?_;refine n_t ?_;refine tr_seq ?_;refine c_d rfl (fun hcd=>?_) (fun _=>by omega);refine s_t ?_;refine tr_seq ?_;refine tr_block ?_;refine s_r ?_;refine tr_val (rk_indexAddr (.of rfl) (.of rfl) ha' (by omega) hcd norm1_) rfl ?_;refine tr_val (rk_loadN (.of rfl) (Ats.base hcell rfl) rfl) rfl ?_;refine tr_new (rk_alloc rfl) rfl (fun _ _=>?_);refine tr_store (.of rfl) (.of rfl) .here rfl rfl (okc_cons rfl (okc_cons rfl (okc_cons rfl (okc_cons rfl okc_nil)))) (lenb rfl) norm_ ?_;refine n_t ?_;refine tr_seq ?_;refine tr_seq ?_)
    with_reducible refine tr_draw 18 (by kernel_rfl) ?_
    (refine a_f rfl rfl norm0_ ?_;refine any_val (rk_load1 (.of rfl) (At.lit .here rfl)) rfl ?_;refine any_call (rk_call (.of rfl) (.cons (.of rfl) .nil) inferInstance normc_) rfl (fun w' hm'=>(nm_p _ w')) ?_;refine a_m rfl rfl ?_;refine a_f rfl rfl norm0_ ?_;refine any_val (rk_load1 (.of rfl) (At.lit .here rfl)) rfl ?_;refine any_val (rk_lookup keyS (.of rfl) (.of rfl) (Looks.mp (.there .here))) rfl ?_)
    rw [hmk]
    (refine any_call (rk_call (.of rfl) (.cons (.of rfl) (.cons (.of rfl) .nil)) inferInstance normc_) rfl (fun w' hm'=>(when_c _ 9 w')) ?_;refine any_val (rk_load1 (.of rfl) (At.lit (.there (.there (.there .here))) rfl)) rfl ?_;refine a_f rfl rfl norm0_ ?_;refine any_val (rk_load1 (.of rfl) (At.lit .here rfl)) rfl ?_;refine any_call (rk_call (.of rfl) (.cons (.of rfl) .nil) inferInstance normc_) rfl (fun w' hm'=>(camp_c _ (At.lit (.there (.there .here)) rfl w' hm') (by omega))) ?_;refine a_f rfl rfl norm0_ ?_;refine any_val (rk_load1 (.of rfl) (At.lit .here rfl)) rfl ?_;refine any_call (rk_call (.of rfl) (.cons (.of rfl) (.cons (.of rfl) (.cons (.of rfl) .nil))) inferInstance normc_) rfl (fun w' hm'=>(within_c _ 1 100000 w')) ?_;refine a_f rfl rfl norm0_ ?_;refine any_val (rk_load1 (.of rfl) (At.lit .here rfl)) rfl ?_;refine any_call (rk_call (.of rfl) (.cons (.of rfl) (.cons (.of rfl) (.cons (.of rfl) .nil))) inferInstance normc_) rfl (fun w' hm'=>(within_c _ 0 1000000 w')) ?_)
    with_reducible refine any_end ?_
    (refine tr_new (rk_sliceLit (.cons (.of rfl) (.cons (.of rfl) (.cons (.of rfl) (.cons (.of rfl) (.cons (.of rfl) .nil))))) rfl rfl rfl rfl) rfl (fun _ _=>?_);refine tr_callV (rk_call (.of rfl) (.cons (.of rfl) .nil) inferInstance normc_) rfl (fun w' hm'=>(first_pB (Mem.rdBlk hm' .here rfl rfl) (IntL.cons (IntL.cons (IntL.cons (IntL.cons (IntL.cons IntL.nil))))))) ?_;refine a_s rfl rfl ?_;refine n_r ?_;refine m_v rfl rfl ?_;refine tr_val (rk_neq (.of rfl) (.of rfl)) rfl ?_;refine n_t ?_;refine c_d rfl (fun hcd=>?_) (fun hcd=>?_);refine s_r ?_;refine m_v rfl rfl ?_;refine a_s rfl rfl ?_;refine n_t ?_;refine r_t ?_;refine tr_blk_ret ?_;refine tr_then_ret ?_;refine tr_then_ret ?_;refine tr_blk_ret ?_;refine tr_then_ret ?_;refine tr_retE rfl (ends1 rfl rfl) ?_;rotate_left;refine s_t ?_;refine tr_region ?_;refine m_v rfl rfl ?_;refine f_a rfl rfl norm0_ ?_;refine tr_val (rk_load1 (.of rfl) (At.lit (.there .here) rfl)) rfl ?_;rotate_right)
    · have hne:spE b k ≠ 0:=hcd
      have hb:errE (spE b) b.sp.length = spE b k:=errE_bad hf hlt hne
      have hE:brE b = spE b k:=by rw [brE,hz0,hb];simp [firstF,hne]
      rw [hE];rfl
    · have hz:spE b k = 0:=Decidable.not_not.1 hcd
      refine tr_mapUpdate keyS (.of rfl) (.of rfl) (.of rfl) (.there (.there .here)) ?_
      (refine tr_nil ?_;refine tr_blk_normal ?_;refine tr_then ?_;refine tr_region ?_;refine tr_val (rk_add (.of rfl) (.of rfl) (ini (by omega))) rfl ?_;refine m_v rfl rfl ?_;refine n_t ?_)
      have hm2:∀ s,(alook s (aset (nthS b.sp k).nm (.bool true) l)).getD (.bool false) = .bool (knwS b.sp (k + 1) s):=by
        intro s
        rw [alook_aset,knwS_succ]
        by_cases e:s = (nthS b.sp k).nm
        · simp [e]
        · have e':¬ (nthS b.sp k).nm = s:=fun h=>e h.symm
          rw [if_neg e,hm];simp [e']
      apply tr_next (k + 1,aset (nthS b.sp k).nm (.bool true) l) ⟨by show k + 1 ≤ b.sp.length;omega,fun i hi=>by
        by_cases e:i = k
        · rw [e];exact hz
        · exact hf i (by omega),hm2⟩ (by show b.sp.length - (k + 1) < b.sp.length - k;omega)
      case hs1=>exact .cons rfl (.cons rfl (.cons rfl (.cons rfl (.cons rfl (.cons rfl .nil)))))
      case ht=>exact .cons .here (.cons (.there (.there .here)) (.cons (.there (.there .here)) .nil))
  · obtain rfl:k = b.sp.length:=by omega
    have hz2:errE (spE b) b.sp.length = 0:=errE_ok.2 hf
    (refine s_r ?_;refine tr_val (rk_lss (.of rfl) (.of rfl)) rfl ?_;refine n_t ?_;refine tr_seq ?_;refine c_d rfl (fun _=>by omega) (fun hcd=>?_);refine x_t ?_;refine tr_then_exit ?_;refine tr_blk_exit ?_;refine tr_then ?_;refine tr_seq ?_;refine s_r ?_;refine f_a rfl rfl norm0_ ?_;refine tr_val (rk_load1 (.of rfl) (At.lit (.there .here) rfl)) rfl ?_)
    with_reducible apply tr_call
    case hr=>exact rk_call (.of rfl) (.cons (.of rfl) (.cons (.of rfl) .nil)) inferInstance normc_
    case hd=>rfl
    case ht=>exact Takes.nil
    case hc=>
      intro w1 fp hm1 _ hs1
      obtain rfl:fp = []:=hs1
      refine mapInt (f:=146) (first:=[]) (cap:=[]) (img:=b.cm.map fewF) (h2'.keeps hm1.keeps) rfl (by rw [lenV,ints_length]) (by rw [ints_length];omega) (ints_one _) ?_
      intro i r e hr he w' hk'
      simp only [ints,List.getElem?_map,Option.map_eq_some_iff] at hr he
      obtain ⟨x,hx,rfl⟩:=hr
      obtain ⟨y,hy,rfl⟩:=he
      rw [hx] at hy;cases hy
      exact few_c x w'
    intro v _
    dsimp only [id_eq,List.cons_append,List.nil_append]
    with_reducible apply tr_callV
    case hr=>exact rk_call (.of rfl) (.cons (.of rfl) .nil) inferInstance normc_
    case hd=>rfl
    case hc=>
      intro w' hm'
      exact first_pB (Mem.rdRow1 hm' (by exact .here) (by rw [lenV,lenV,ints_length])) (IntL.map _)
    (refine a_s rfl rfl ?_;refine n_r ?_;refine m_v rfl rfl ?_;refine tr_val (rk_neq (.of rfl) (.of rfl)) rfl ?_;refine n_t ?_;refine c_d rfl (fun hcd=>?_) (fun hcd=>?_);refine s_r ?_;refine m_v rfl rfl ?_;refine a_s rfl rfl ?_;refine n_t ?_;refine r_t ?_;refine tr_retE rfl (ends1 rfl rfl) ?_;rotate_left;refine s_t ?_;refine s_r ?_;refine f_a rfl rfl norm0_ ?_;refine tr_val (rk_load1 (.of rfl) (At.lit (.there (.there .here)) rfl)) rfl ?_;refine tr_val (rk_makeFunc' .nil (.cons (.of rfl) .nil)) rfl ?_;rotate_right)
    · have hne:firstF (b.cm.map fewF) ≠ 0:=hcd
      have hE:brE b = firstF (b.cm.map fewF):=by
        rw [brE,hz0,hz2];generalize firstF (b.cm.map fewF) = q at hne;simp [firstF,hne]
      rw [hE]
    have hz3:firstF (b.cm.map fewF) = 0:=Decidable.not_not.1 hcd
    have hE:brE b = firstF (b.ex.map (prE b.cm.length)):=by rw [brE];exact firstF4 _ _ _ _ hz0 hz2 hz3
    rw [hE]
    with_reducible apply tr_call
    case hr=>exact rk_call (.of rfl) (.cons (.of rfl) (.cons (.of rfl) .nil)) inferInstance normc_
    case hd=>rfl
    case ht=>exact Takes.nil
    case hc=>
      intro w1 fp hm1 _ hs1
      obtain rfl:fp = []:=hs1
      refine mapPr (f:=148) (first:=[]) (cap:=[.pointer (some ⟨b4,0,none⟩)]) (img:=b.ex.map (prE b.cm.length)) (h3'.keeps hm1.keeps) rfl (by rw [lenV,prsL_length]) (by rw [prsL_length];omega) (prsL_one _) ?_
      intro i r e hr he w' hk'
      have hm':=hm1.keepsOn hk'
      simp only [prsL,List.getElem?_map,Option.map_eq_some_iff] at hr he
      obtain ⟨x,hx,rfl⟩:=hr
      obtain ⟨y,hy,rfl⟩:=he
      rw [hx] at hy;cases hy
      exact prC_c x ((At.lit (by exact Take.there (.there (.there .here))) (by exact rfl) _ hm')) ((At.lit (by exact Take.there (.there .here)) (by exact rfl) _ hm')) (by omega)
    intro v2 _
    dsimp only [id_eq,List.cons_append,List.nil_append]
    with_reducible apply tr_callV
    case hr=>exact rk_call (.of rfl) (.cons (.of rfl) .nil) inferInstance normc_
    case hd=>rfl
    case hc=>
      intro w' hm'
      exact first_pB (Mem.rdRow1 hm' (by exact .here) (by rw [lenV,lenV,prsL_length])) (IntL.map _)
    (refine a_s rfl rfl ?_;refine n_t ?_;refine tr_ret ?_;refine tr_retE rfl (ends1 rfl rfl) ?_)
    rfl
end Go.Proofs.A1
