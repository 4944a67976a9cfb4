/- Parts of the proof: NH NI PP P6l PU. -/
import Derived.Test.YteonnodafmegaaaGreatDoorUM14
import Derived.Test.YteonnodafmegaaaGreatDoorUM04
import Derived.Test.YteonnodafmegaaaGreatDoorUM03
import Derived.Test.YteonnodafmegaaaGreatDoorUM11
import Derived.Test.YteonnodafmegaaaGreatDoorUM06
set_option linter.unusedSectionVars false
set_option linter.unusedVariables false
set_option linter.unusedSimpArgs false
namespace Go.Proofs.A1
open Go Go.SL
open Tryz
open Tryz renaming prog->T_
section
variable {P:Program} {r:Option Nat} {c:Cx} {D:List Nat} {sl:aH} {hs hs':List bd} {ops:Array Oper} {Q:Exit->Act->World->Prop} {d:Nat} {ty:TypeId} {pos:String} {af:Array Edge} {rest:List Oper}
theorem BU {t t2 e:TypeId} {agg:Bool} {size:Nat} {x y:Operand} {V:Value} {g o n cap:Nat} {E:TypeId} {cs:List Value} {news:List (List Value)} [hu:ij P t (.slice e)] [hT:Ty P e agg size]
  (hx:Is sl x (.slice (some ⟨g,o,none⟩) n cap)) (hy:Is sl y V) (ht:Take hs (bo g (.cells cs.toArray E (0,0))) hs') (hsrc:∀ w,Mem c hs w->Rd w V size news) (h1:∀ r∈news,∀ u∈r,u.oneCell'=true) (hfit:o+n*size<=cs.length) (hd:Nat.blt d c.nt=true)
  (k:Tr c D ((d,.q (Nat.min news.length n:Nat))::sl) (bo g (.cells (setCells cs o (news.take n).flatten).toArray E (0,0))::hs') (WL P r ops Q rest)) :
  Tr c D sl hs (WL P r ops Q (⟨some d,.call ⟨.builtin .copy,#[x,y],#[t,t2]⟩,ty,pos,af,none⟩::rest)):=fun a w bh=>by
 have hR:=hsrc w bh.qD;obtain ⟨de,i,lR,hi,_,hG⟩:=Ty.parts (P:=P) (t:=e) (agg:=agg) (n:=size);have hlen:(news.take n).flatten.length=Nat.min news.length n*size:=by
  rw [fC (fun r hr=>hR.sz r (ZaG hr)),Zs]
  show min n news.length*size=min news.length n*size;rw [Nat.min_comm]
 have hle:Nat.min news.length n<=n:=ZbF _ _;have hm:=bh.mem.take (ht.append _);have hg:w.heap[g]? = some (.cells cs.toArray E (0,0)):=hm.bo .here;obtain ⟨w',h3,h4,h5⟩:=gR (P:=P) (o:=o) (news.take n).flatten 0 cs w hg (fun u hu=>by
  obtain ⟨r,hr,Sp⟩:=ZbE.1 hu;exact h1 r (ZaG hr) u Sp) (by
  rw [hlen];have:Nat.min news.length n*size<=n*size:=Z4 _ hle;omega)
 have Le:(Builtin.firstCells size (Nat.min news.length n) V).run P w=.ok (news.take n).flatten.toArray w:=by
  obtain ⟨aa,dB,b,o,hV,ki,bY,ha,hc⟩:=hR;subst hV;by_cases hne:news=[]
  ·subst hne;cases aa <;> simp [Builtin.firstCells,loadCells,loadCellsFrom]
  ·have:=ha hne;subst this;simp only [Builtin.firstCells];refine ns hlen fun j u hu=>?_;refine lz (sz:=size) (xs:=news.take n) (fun i r hr=>?_) j u hu;rw [ZK] at hr;split at hr
   ·exact hc i r hr
   ·cases hr
 have Lf:(Builtin.lenOf V).run P w=.ok news.length w:=by
  obtain ⟨aa,dB,b,o,hV,_⟩:=hR;subst hV
  rfl
 refine lY I ⟨dQ _ _ _ _ _,?_⟩;rw [Oper.semAt_eq _ _ _ (by simp)];have:(execOp a.eval ⟨some d,.call ⟨.builtin .copy,#[x,y],#[t,t2]⟩,ty,pos,af,none⟩).run P w=.ok (.value (.q (Nat.min news.length n:Nat))) w':=by
  simp [execOp,resolve,invoke,builtin,hx a bh.cZ,hy a bh.cZ,Builtin.copy_,aV hu.eq,Lf,sizeOf,typeInfo,hi,hG,Le,h3,goInt]
 rw [this];have k6:=Mem.store hm h4 h5;rw [Zau] at k6;exact k _ _ ((bh.put (by simpa [Z9] using hd) _).heap k6)
end
def G7 (n k:Nat) (x:ByteArray):List Value:=List.replicate k (.string x)++List.replicate (n-k) (.string ⟨#[]⟩)
variable {n:Nat} {x:ByteArray}
theorem z6 {n k:Nat} (h:k<=n):(G7 n k x).length=n:=by
 unfold G7;rw [Zg,Z3,Z3];omega
theorem Cf {n k m:Nat} (h:k+m<=n):setCells (G7 n k x) k (List.replicate m (.string x))=G7 n (k+m) x:=by
 apply Zan;intro i;rw [gE _ _ _ _ (by rw [z6 (by omega),Z3];exact h),Z3];unfold G7;simp only [List.getElem?_append,Z3,ZbA]
 repeat' split
 all_goals (first | rfl | omega)
theorem I8 (n:Nat) (x:ByteArray):(List.replicate n (Value.string ⟨#[]⟩).cells.toList).flatten=G7 n 0 x:=by
 show (List.replicate n [Value.string ⟨#[]⟩]).flatten=[]++List.replicate (n-0) _;rw [Nat.sub_zero,Za]
 induction n with
 | zero=>rfl
 | succ n ih=>rw [List.replicate_succ,Zam,ih];rfl
theorem Nw (m:Nat) (x:ByteArray):(fX (List.replicate m x)).flatten=List.replicate m (.string x):=by
 induction m with
 | zero=>rfl
 | succ m ih =>
  show Value.string x::(fX (List.replicate m x)).flatten=_;rw [ih];rfl
theorem UX (x y:Nat) (hx:x<18446744073709551616) (hy:y<18446744073709551616) (w:World):aj T_ 269 [.int .u64 (x:Nat),.int .u64 (y:Nat)] w (.tuple #[.int .u64 ((x*y / 18446744073709551616:Nat):Int),.int .u64 ((x*y % 18446744073709551616:Nat):Int)]):=
 Calls.mono (bits_Mul x y hx hy w) fun e w' ⟨he,hw⟩=>⟨he,by rw [hw];exact .refl _ _⟩
theorem Sc (hn:n<=3) (w:World):aj T_ 269 [.int .u64 1,.int .u64 (n:Nat)] w (.tuple #[.int .u64 0,.int .u64 (n:Nat)]):=by
 have:=UX 1 n (by decide) (by omega) w;rw [Nat.one_mul,show n / 18446744073709551616=0 by omega,show n % 18446744073709551616=n by omega] at this;exact this
theorem UC {w:World} {b n k:Nat} {E:TypeId} (hk:k<=n) (hn:n<=3) (h:w.heap[b]? = some (.cells (G7 n k x).toArray E (0,0))):Rd w (.w b k n) 1 (fX (List.replicate k x)):=by
 have e:(fX (List.replicate k x)).length=k:=by rw [bX,Z3]
 refine ⟨some ⟨b,0,none⟩,n,b,0,by rw [e],by rw [e];exact hk,by unfold maxLen;omega,fun _=>rfl,fun i r hr=>?_⟩;have hi:i<k:=by have:=(Zm.1 hr).1;rwa [e] at this
 rw [jf (by rw [Z3];exact hi)] at hr;cases hr;refine ⟨I,fun j u hu=>?_⟩;cases j with
 | succ j=>cases hu
 | zero =>
  rw [cell_of_block h];rw [List.getElem?_toArray,ZH,Zap,Zau];unfold G7;rw [ZD (by rw [Z3];exact hi),ZbA,if_pos hi];rw [<- hu];simp
set_option maxHeartbeats 1000000 in
theorem JR {v:Value} (h1:1<=n) (h3:n<=3) {w:World} (h:Rd w v 1 (fX [x])) :
  bb T_ 185 [v,.q (n:Nat)] w [] (fun _:Value=>True) id (fun z=>[row 9 1 z n (aJ (List.replicate n x))]):=by
 have h0:=h;obtain ⟨a,cp,b,o,rfl,dp,bY,ha,hc⟩:=h;unfold maxLen at bY;refine aT func185 I I ?_
 (refine Jr<|Ja I<|Jn<|Jq<|Jr<|Jv I<|JA I<|Jn<|Jc I fun ar=>Jk<|Jr<|Jv I<|JI I<|ab (Ac (.of I)) I<|Jv I<|ab (Ac (.of I)) I ?_)
 rw [show IntKind.u64.wrap ((fX [x]).length:Int)=1 from I,show IntKind.u64.wrap (n:Int)=(n:Nat) by rw [IntKind.wrap_u64];omega]
 (refine ai ba I (fun w' aA=>(Sc h3 w'))<|Jv I<|JJ I I<|JJ I I<|Ja I<|Ja I<|Jn<|Jq<|Jr<|Jv I<|JE I<|Jv I<|iT I I I I<|aF I I (fun hg bT=>(ln (.cD hg I) (.of I))) I<|ab (bC (.of I) I) I<|Jn<|Jc I fun ar=>Jk<|Jr<|Jv I<|ab (Ac (.of I)) I ?_)
 rw [show IntKind.i64.wrap (n:Int)=(n:Nat) from Io (by omega) (by omega)]
 skip
 refine bu (FN (l:=n) (cp:=n) (z:=.string ⟨#[]⟩) (.of I) (.of I) (Zz _) (by show 16*n<=281474976710656;omega) I I (by omega)) I fun WQ ahY=>?_;have e0:=I8 n x;rw [e0];refine Ja I<|Ji<|Jv I<|Jv I ?_;refine BU (cs:=G7 n 0 x) (news:=fX [x]) (.of I) (.of I) (by exact .here) (fun w' aA=>h0.keeps aA.keeps) (fun r hr u hu=>?_) (by rw [z6 (Zi n)];omega) I ?_
 ·rw [ZE.1 hr] at hu;rw [ZE.1 hu];rfl
 rw [show ((fX [x]).take n).flatten=List.replicate 1 (Value.string x) by rw [Zae h1];rfl,Cf (show 0+1<=n from h1),ZH,show Nat.min (fX [x]).length n=1 from Zbd h1];refine Ja I<|Jn<|Jq<|J0 ?_;refine a7 (ι:=Nat) (fun k=>1<=k/\k<=n) (fun k=>[(8,.q (k:Nat)),(7,.w WQ n n),(4,.z)]) (fun k=>[bo WQ (.cells (G7 n k x).toArray 9 (0,0))]) (fun k=>n-k) ?_ ?_
 ·apply aI 1 (show 1<=1/\1<=n from ⟨Zz _,h1⟩)
  case hs1=>exact cu
  case ht=>exact ng
 intro k hk
 try dsimp only at hk ⊢
 have xJ:=hk.1;have eM:=hk.2;by_cases aN:k<n
 ·refine Jq<|Jr<|Jv I<|Jv I<|JI I<|JA I<|Jn<|Jd I fun ar=>Jk<|J0 ?_
  with_reducible refine FB 10 I ?_
  (refine dd 0 I iU iU iU (fun w ρ=>rfl) (fun w=>(aX (.of I))) I<|dd 1 I iU iU iU (fun w ρ=>rfl) (fun w=>(aX (.of I))) I<|dd 2 I iU iU iU (fun w ρ=>rfl) (fun w=>(aX (.of I))) I<|dd 3 I iU iU iU (fun w ρ=>rfl) (fun w=>(np (.of I) (.of I) (by omega) (by omega))) I<|dd 4 I iU iU iU (fun w ρ=>rfl) (fun w=>(aX (.of I))) I<|dd 5 I iU iU iU (fun w ρ=>rfl) (fun w=>(aX (.of I))) I<|dd 6 I iU iU iU (fun w ρ=>rfl) (fun w=>(gF (.of I) (.of I) (by omega) (by omega))) I ?_)
  rw [sB 1 aN (Zz n),sC WQ k n 1,Zap];refine ct (rs:=[7]) (by kernel_rfl) (by simp) (Zw.2 ⟨?_,fun _ h=>absurd h Zp⟩);refine cF I ?_;refine BU (cs:=G7 n k x) (news:=fX (List.replicate k x)) (.of I) (.of I) (by exact .here) (fun w' aA=>UC eM h3 (aA.bo .here)) (fun r hr u hu=>?_) (by rw [z6 eM];omega) I ?_
  ·unfold fX at hr;rw [Zo] at hr;obtain ⟨q,_,rfl⟩:=hr;rw [ZE.1 hu];rfl
  rw [show ((fX (List.replicate k x)).take (n-k)).flatten=List.replicate (Nat.min k (n-k)) (Value.string x) by unfold fX;rw [<- ZaH,List.take_replicate,Nat.min_comm];exact Nw _ x,Cf (show k+Nat.min k (n-k)<=n from ZX (Nat.add_le_add_left (ZbF k (n-k)) k) (by omega)),show Nat.min (fX (List.replicate k x)).length (n-k)=Nat.min k (n-k) by rw [bX,Z3]];have aG:1<=Nat.min k (n-k):=Nat.le_min.2 ⟨xJ,by omega⟩;have k6:Nat.min k (n-k)<=n-k:=ZbF _ _;generalize Nat.min k (n-k)=m at aG k6;refine Jn ?_;refine dd 8 I iU iU iU (fun w ρ=>rfl) (fun w=>(Em (.of I) (.of I) (TX (by omega)))) I ?_;refine ct (rs:=[9]) (by kernel_rfl) (by simp) (Zw.2 ⟨?_,fun _ h=>absurd h Zp⟩);refine cF I ?_;refine Ja I<|Jn ?_
  with_reducible refine cM (by kernel_rfl) ?_
  refine Jj<|Jt ?_;apply aL (k+m) (show 1<=k+m/\k+m<=n from ⟨by omega,by omega⟩) (show n-(k+m)<n-k by omega)
  case hs1=>exact cu
  case ht=>exact ng
 obtain rfl:k=n:=by omega
 refine Jq<|Jr<|Jv I<|Jv I<|JI I<|JA I<|Jn<|Jc I fun ar=>Jp<|Jl<|Jo<|Jt<|Jr<|Jv I<|Ja I<|Jn<|Je ?_;have e9:G7 k k x=aJ (List.replicate k x):=by
  unfold G7 aJ;rw [Nat.sub_self,List.replicate_zero,ZS,List.map_replicate]
 refine ch (g:=WQ) (E:=9) (ys:=aJ (List.replicate k x)) k 1 (by exact .here) e9 (by unfold aJ;rw [Zd,Z3,Zap]) (by rw [Nat.ble_eq];omega) ?_
 with_reducible first|apply aR|apply aS
 case he=>exact dH I I
 case hR=>
  intro w' aA;exact aD (.w WQ k k) trivial (by exact .h1 .nil) aA I
end Go.Proofs.A1
namespace Go.Proofs.A1
open Go Go.SL
open Tryz
open Tryz renaming prog->T_
def wH (r:Ro) (o:ByteArray):Ro:=if aW [ew r,mB r o]≠0 then Ro.nil else (fx r [ib r o]).1
def xP (r:Ro) (o:ByteArray):Int:=if aW [ew r,mB r o]≠0 then aW [ew r,mB r o] else (fx r [ib r o]).2.2
set_option maxHeartbeats 1000000 in
theorem H8 {r:Ro} {s d t p:Value} (o:ByteArray) {w:World} (h:RR w r s d t p) (cO:kE r) :
  bb T_ 79 [.agg #[.q r.lv,.q r.ma,s,d,t,p],.string o] w [] (fun _:Value×Value×Value×Value=>True) (fun x=>.tuple #[RA (wH r o) x.1 x.2.1 x.2.2.1 x.2.2.2,.q (xP r o)]) (fun x=>oA (wH r o) x):=by
 obtain ⟨h1,h2,h3,h4⟩:=h.one;have dD:∀ w',aK [] w w'->aj T_ 34 [.agg #[.int .i64 r.lv,.int .i64 r.ma,s,d,t,p]] w' (.int .i64 (ew r)):=fun w' hk=>dR (h.keeps hk) cO
 have lR:∀ w',aK [] w w'->aj T_ 112 [.agg #[.q r.lv,.q r.ma,s,d,t,p],.string o] w' (.q (mB r o)):=fun w' hk=>dY o (h.keeps hk)
 unfold RA;refine aT func79 I I ?_;refine Jr<|Jy I I fun _ _=>Jz I I fun _ _=>Ja I<|Jn<|Jq<|Jq ?_;rename_i b2 tM b4 uQ
 with_reducible refine cW 6 (by kernel_rfl) ?_
 (refine ao (cK (.there .here)) I<|a8 bz I (fun w' aA=>(dD w' (Mem.keeps aA)))<|ao (cK (.there .here)) I<|ao lX I<|a8 ba I (fun w' aA=>(lR w' (Mem.keeps aA)))<|eC (aC (.o I (.o I .nil)) I I I I) I I ?_)
 with_reducible refine dw I fun bq nf=>?_
 (refine ai bz I (fun w' aA=>(dG (Mem.dh aA .here I I) (cm.cons (cm.cons cm.nil))))<|Ja I<|Ji<|Jv I<|JD I<|Jn<|gB I (fun ar=>?_) fun ar=>?_;refine Jr<|ab (aU .nil ak) I<|Jv I<|an (.of I) (.of I) (.there .here) I I (gr I I I I I I) (bG I) ak<|Ja I<|Jn<|Ju ?_;rotate_left;refine Jk<|Jq ?_;rotate_right)
 ·have e1:wH r o=Ro.nil:=if_pos ar;have e2:xP r o=aW [ew r,mB r o]:=if_pos ar;rw [e1,e2];refine aP 186 2<|aP 90 3<|aP 187 3<|aP 188 3 ?_
  with_reducible first|apply aR|apply aS
  case he=>exact lC I inferInstance I df ak (by rfl) (by rfl)
  case hR=>
   intro w' aA;exact aD (.z,.z,.z,.z) trivial (by exact .cons cA (.cons bF (.cons (.there .here) (.h1 .nil)))) aA I
 have e0:aW [ew r,mB r o]=0:=Zq.1 ar;have e1:wH r o=(fx r [ib r o]).1:=if_neg ar;have e2:xP r o=(fx r [ib r o]).2.2:=if_neg ar;have BC:ew r=0:=bS.1 e0 _ Zr;have Qu:o∈bU r:=by
  have:=(bI (by decide)).1 (bS.1 e0 (mB r o) (by simp));rwa [decide_eq_false_iff_not,cg,Classical.not_not] at this
 have ee:=rO BC;have wb:=ee.lim;have hf:=kF ee ee.val;rw [e1,e2];have htk:=GB (r:=r) (by omega) Qu;obtain ⟨n,hn⟩:∃ n:Nat,r.lv=(n:Nat):=⟨r.lv.toNat,by omega⟩;have iz:ib r o=⟨o,List.replicate n dash⟩:=by unfold ib;rw [hn,ZF]
 have ON:∀ (w':World) (kv y:Value),aK [] w w'->Rd w' kv 2 [[.string o,y]]->Rd w' y 1 (fX (List.replicate n dash))->bb T_ 165 [.agg #[.q r.lv,.q r.ma,s,d,t,p],kv] w' [] (fun _:Value×Value×Value×Value=>True) (fun x=>.tuple #[RA (fx r [ib r o]).1 x.1 x.2.1 x.2.2.1 x.2.2.2,.q (fx r [ib r o]).2.1,.q (fx r [ib r o]).2.2]) (fun x=>oA (fx r [ib r o]).1 x):=fun w' kv y hk a b=>by
  have:=zL (l:=[⟨ib r o,y⟩]) (h.keeps hk) ee (by omega) (show Rd w' kv 2 (gL [⟨ib r o,y⟩]) by rw [iz];exact a) (fun x hx=>by rw [ZE.1 hx];show Rd w' y 1 (fX (ib r o).so);rw [iz];exact b) htk
  exact this
 generalize fx r [ib r o]=R at ON ⊢;obtain ⟨R,at_,e_⟩:=R;dsimp only at ON ⊢
 with_reducible refine pD 14 [11,12] (by kernel_rfl) (Zw.2 ⟨pL I (by kernel_rfl) (by kernel_rfl),Zw.2 ⟨pL I (by kernel_rfl) (by kernel_rfl),fun _ h=>absurd h Zp⟩⟩) ?_
 (refine aq (fun β=>(bV (.of I) bF ak (by rfl))) dj I<|aq (fun β=>(aX (.of I))) dj I ?_)
 refine jN (fun β=>(aC (.o I .nil) I I I I)) (fun _ _ _=>rfl) I ?_
 (refine aq (fun β=>(az (.of I) ae)) dj I<|aq (fun β=>(ag (.of I) (At.lit bF I))) dj I ?_)
 dsimp only [Nat.zero_add,Nat.reduceAdd]
 with_reducible apply dW (ι:=Option Addr×Nat) (Φ:=fun _=>True) (val:=fun x=>.slice x.1 n x.2) (own:=fun x=>[row 9 1 (.slice x.1 n x.2) n (aJ (List.replicate n dash))]) (g:=tP) (B:=[2]) (args:=fun β=>[.slice (some ⟨fk (β 2),0,none⟩) 1 1,.q r.lv])
 case hg=>exact Te
 case hB=>rfl
 case hr=>exact fun β=>aZ (.of I) (.o I (.o I .nil)) inferInstance I
 case hd=>rfl
 case hc=>
  intro β w' hb;rw [hn];exact (JR (x:=dash) (by omega) (by omega) (Mem.dh (cs:=[.string dash]) (hb.at 2 (by simp) I) .here I I)).slice
 dsimp only [id_eq,Nat.reduceAdd]
 with_reducible apply aq
 case hr=>(intro β;exact aU (.o I (.o I .nil)) ak)
 case hi=>exact fun β β' h=>by simp only [h 5 (by kernel_rfl)]
 case hd=>rfl
 dsimp only [Nat.reduceAdd]
 with_reducible apply jN
 case hr=>(intro β;exact bB (.o I .nil) I I bR bR ak)
 case hi=>exact fun β β' h=>by simp only [h 5 (by decide) (by kernel_rfl)]
 case hd=>rfl
 dsimp only [Nat.reduceAdd]
 with_reducible apply dW (ι:=Value×Value×Value×Value) (Φ:=fun _=>True) (val:=fun x=>.tuple #[.agg #[.q R.lv,.q R.ma,x.1,x.2.1,x.2.2.1,x.2.2.2],.q at_,.q e_]) (own:=fun x=>[J1 R x.1,J2 R x.2.1,J3 R x.2.2.1,J4 R x.2.2.2]) (g:=g4) (B:=[5,7]) (args:=fun β=>[.agg #[.q r.lv,.q r.ma,s,d,t,p],.slice (some ⟨fk (β 7),0,none⟩) 1 1])
 case hg=>exact oV
 case hB=>rfl
 case hr=>exact fun β=>aZ (.of I) (.o I (.o I .nil)) inferInstance I
 case hd=>rfl
 case hc=>
  intro β w' hb;exact ON w' _ (.slice (tP (β 5)).1 n (tP (β 5)).2) hb.mem.keeps (XW (hb.at 7 (by simp) I) .here) (dz (E:=9) (hb.at 5 (by simp) I) .here (Z3 ..))
 dsimp only [Nat.reduceAdd]
 with_reducible apply aq
 case hr=>(intro β;exact aX (.of I))
 case hi=>exact fun β β' h=>by simp only [h 8 (by kernel_rfl)]
 case hd=>rfl
 dsimp only [Nat.reduceAdd]
 with_reducible apply aq
 case hr=>(intro β;exact di (.of I) I)
 case hi=>exact fun β β' h=>by simp only [h 8 (by kernel_rfl)]
 case hd=>rfl
 dsimp only [Nat.reduceAdd]
 (refine aq (fun β=>(di (.of I) I)) dj I<|aq (fun β=>(di (.of I) I)) dj I ?_)
 refine jN (fun β=>(rE I)) (fun _ _ _=>rfl) I ?_;refine fo fun β=>?_;dsimp only [eB,Za,Zb,List.append_eq,Nat.reduceAdd];generalize fk (β 13)=QT;generalize g4 (β 8)=y;obtain ⟨s1,d1,t1,p1⟩:=y;dsimp only;refine cn (r:=R) (s:=s1) (d:=d1) (t:=t1) (p:=p1) (by unfold oA PB;exact .cons cA (.cons cA (.cons cA (.cons cA .nil)))) fun m1 m2 m3 m4=>?_;refine ct (rs:=[14]) (by kernel_rfl) (by simp) (Zw.2 ⟨?_,fun _ h=>absurd h Zp⟩);refine cF I ?_
 (refine an (.of I) (.of I) uZ I I (gr I I m1 m2 m3 m4) (bG I) ak<|Jn ?_)
 refine ct (rs:=[15]) (by kernel_rfl) (by simp) (Zw.2 ⟨?_,fun _ h=>absurd h Zp⟩);refine cF I ?_;refine Ja I<|Jn ?_;refine ct (rs:=[16]) (by kernel_rfl) (by simp) (Zw.2 ⟨?_,fun _ h=>absurd h Zp⟩);refine cF I ?_;refine Ja I<|Jn ?_
 with_reducible refine cM (by kernel_rfl) ?_
 (refine Jt<|Jr<|ab (cK .here) I<|Jv I<|an (.of I) (.of I) iS I I (gr I I m1 m2 m3 m4) (bG I) ak<|Ja I<|Jn<|Je ?_)
 with_reducible first|apply aR|apply aS
 case he=>exact lC I inferInstance I .here ak (by rfl) (by rfl)
 case hR=>
  intro w' aA;exact aD (s1,d1,t1,p1) trivial (by exact .cons bF (.cons bF (.cons bF (.cons bF .nil)))) aA I
end Go.Proofs.A1
namespace Go.Proofs.A1
open Go Go.SL
open Tryz
open Tryz renaming prog->T_
variable {E:Int} {L:List Tk} {l:List eN} {o:ByteArray} {u:Bool} {w:World}
theorem RS {r Q:Ro} {q:Bool} {s d t p:Value} (e1:nN r o q=Q) (e2:nO r o=E) (h:RR w r s d t p) (hf:kE r):bb T_ 78 [.agg #[.q r.lv,.q r.ma,s,d,t,p],.string o,.bool q] w [] (fun _:Value×Value×Value×Value=>True) (fun x=>.tuple #[.agg #[.q Q.lv,.q Q.ma,x.1,x.2.1,x.2.2.1,x.2.2.2],.q E]) (fun x=>oA Q x):=by
 subst e1 e2;exact tX o q h hf
theorem QP {r Q:Ro} {s d t p:Value} (e1:wH r o=Q) (e2:xP r o=E) (h:RR w r s d t p) (hf:kE r):bb T_ 79 [.agg #[.q r.lv,.q r.ma,s,d,t,p],.string o] w [] (fun _:Value×Value×Value×Value=>True) (fun x=>.tuple #[.agg #[.q Q.lv,.q Q.ma,x.1,x.2.1,x.2.2.1,x.2.2.2],.q E]) (fun x=>oA Q x):=by
 subst e1 e2;exact H8 o h hf
theorem P5 {r Q:Ro} {a b:ByteArray} {s d t p:Value} (e1:NT r a b=Q) (e2:MK r a b=E) (h:RR w r s d t p) (hf:kE r):bb T_ 80 [.agg #[.q r.lv,.q r.ma,s,d,t,p],.string a,.string b] w [] (fun _:Value×Value×Value×Value=>True) (fun x=>.tuple #[.agg #[.q Q.lv,.q Q.ma,x.1,x.2.1,x.2.2.1,x.2.2.2],.q E]) (fun x=>oA Q x):=by
 subst e1 e2;exact H5 a b h hf
theorem oX {r:Ro} (h:ew r=0):kE r:=by
 have:=(rO h).len;unfold kE;omega
theorem dE {r:Ro} (h:ew r=0):mE r:=by
 have:=(rO h).len;have:=kF (rO h) (rO h).val;unfold mE;omega
theorem Bn.iD {r:Ro} {l:List Tk} (h:Bn r l) (d:ByteArray) (q:Bool):Bn (r.iD d q) l:=⟨fun t ht=>by rw [lo];exact h.de t ht,h.nd,h.lv,h.so,h.y6⟩
theorem Kc {r:Ro} (dD:ew r=0) {t:Tk} {l:List Tk} (hx:qy r (t::l)=0):∃ R,nN r t.de true=R/\nO r t.de=0/\ew R=0/\t.de∈bU R/\bH R t.de=bH r t.de/\fT R (t::l)=(Ro.nil,0,31)/\wH R t.de=Ro.nil/\xP R t.de=31:=by
 obtain ⟨hne,hT⟩:=j7.1 hx;have hd:=hT.de t Zr;have e0:nO r t.de=0:=by unfold nO;rw [dD,iR,te,pe hd]
 have hk:=Ma dD t.de true;have xu:t.de∈bU (r.iD t.de true):=by rw [lo];exact hd
 have h0:aW [ew (r.iD t.de true),mB (r.iD t.de true) t.de]=0:=by rw [hk,iR,te,pe xu]
 have hs:∀ L,fx (r.iD t.de true) (⟨t.de,L⟩::[])=(Ro.nil,0,31):=fun L=>vQ (t:=⟨t.de,L⟩) (FQ hd)
 refine ⟨r.iD t.de true,?_,e0,hk,xu,Hj _ _ _ _,?_,?_,?_⟩
 ·unfold nN;rw [if_neg (not_not_intro e0)]
 ·unfold fT;rw [if_neg (not_not_intro hk),if_neg (not_not_intro (j7.2 ⟨hne,hT.iD _ _⟩))];exact vQ (FQ hd)
 ·unfold wH;rw [if_neg (not_not_intro h0)];unfold ib;rw [hs]
 ·unfold xP;rw [if_neg (not_not_intro h0)];unfold ib;rw [hs]
theorem yx {r:Ro} {t:Tk} {po:List Po}:∀ k,(∀ i,i<k->t.at i=dash)->nn r t k po=some po
 | 0,_=>rfl
 | k + 1, h => by
  rw [nn,yx k fun i hi=>h i (Nat.lt_succ_of_lt hi)]
  show (if nG r t k then _ else _)=_
  rw [if_neg];unfold nG;rw [h k (Nat.lt_succ_self k)];simp
theorem Pz {r:Ro} (dD:ew r=0) {d:ByteArray} (hd:d∈bU r):∃ C E,wH r d=C/\xP r d=E/\(E=31\/E=0/\ew C=0/\C.lv=r.lv/\bU C=bU r/\bH C d=List.replicate r.lv.toNat ⟨#[]⟩):=by
 have h0:aW [ew r,mB r d]=0:=by rw [dD,iR,te,pe hd]
 have e1:wH r d=(fx r [ib r d]).1:=if_neg (not_not_intro h0);have e2:xP r d=(fx r [ib r d]).2.2:=if_neg (not_not_intro h0);refine ⟨_,_,e1,e2,?_⟩;rcases Cb (r:=r) (l:=[ib r d]) with h | ⟨h,_⟩ | ⟨_,_,_,_,h⟩
 ·obtain ⟨q,a1,a2,_⟩:=pI h;obtain ⟨b1,b2⟩:=L8 dD hd a1;rw [a2];exact .inr ⟨I,wJ dD b1,I,I,b2⟩
 ·exact .inl h
 ·have:iu r [ib r d] (pb r [ib r d]) 1=some (pb r [ib r d]):=by
   show (nn r (ib r d) (ib r d).so.length (pb r [ib r d]))=_;refine yx _ fun i hi=>?_;have we:i<r.lv.toNat:=by unfold ib at hi;rwa [Z3] at hi
   unfold ib Tk.at
   rw [Zk,ZbA,if_pos we];rfl
  rw [show [ib r d].length=1 from I,this] at h;cases h
theorem Ng {r:Ro} (dD:ew r=0) {L:List Tk} (hx:qy r L=0) {X:Ro} {IX E:Int} (hX:fT r L=(X,IX,E)) (hE:E=0) :
  ew X=0/\X.lv=r.lv/\bU X=bU r/\zw r L=L.map (jr r)/\qy r (L.map (jr r))=0 /\
  ∃ B J F,fT X (L.map (jr r))=(B,J,F)/\(F=18\/F=0/\ew B=0/\B.lv=r.lv/\bU B=bU r/\∀ y∈bU r,bH B y=bH r y):=by
 obtain ⟨hne,hT⟩:=j7.1 hx;have hS:fx r L=(X,IX,E):=by
  unfold fT at hX;rwa [if_neg (not_not_intro dD),if_neg (not_not_intro hx)] at hX
 obtain ⟨q,a1,a2,a3⟩:=pI (r:=r) (l:=L) (by rw [hS];exact hE);obtain ⟨hv,_,_⟩:=mL dD hT a1;have Qo:=wJ dD hv;rw [hS] at a2;have hXq:X=r.wp q:=by injection a2
 subst hXq;have HB:L.map (jr r)≠[]:=fun e=>hne (List.map_eq_nil_iff.1 e)
 have hU:=Fx dD hT;have hxU:qy (r.wp q) (L.map (jr r))=0:=j7.2 ⟨HB,hU.wp q⟩;have hu:zw r L=L.map (jr r):=by unfold zw;rw [hX];exact if_neg (not_not_intro hE)
 obtain ⟨B,J,F,hB⟩:∃ B J F,fx (r.wp q) (L.map (jr r))=(B,J,F):=⟨_,_,_,rfl⟩;refine ⟨Qo,I,I,hu,j7.2 ⟨HB,hU⟩,B,J,F,?_,?_⟩
 ·unfold fT;rw [if_neg (not_not_intro Qo),if_neg (not_not_intro hxU)];exact hB
 ·by_cases c:F=0
  ·obtain ⟨q',b1,b2,_⟩:=pI (r:=r.wp q) (l:=L.map (jr r)) (by rw [hB];exact c);obtain ⟨mF,_,_⟩:=mL Qo (hU.wp q) b1;rw [hB] at b2;have hBq:B=r.wp q':=by injection b2
   subst hBq;exact .inr ⟨c,wJ Qo mF,I,I,fun y hy=>Iw dD hT a1 b1 hy⟩
  ·obtain ⟨i,hi,_,b2⟩:=NM HB hB c;rcases b2 with ⟨_,b2⟩ | ⟨b2,_⟩
   ·rw [Zd] at hi;rw [Z0] at b2;have:=Ou a3 (Zj hi);rw [show Al (r.wp q) (jr r L[i])=Al r L[i] from I,this] at b2;cases b2
   ·exact .inl b2
theorem P4 {r:Ro} (dD:ew r=0) {a b:ByteArray} (ha:a∈bW r) (hb:b ∉ bW r) (hn:fA b=true):MK r a b=0/\NT r a b=r.kp a b:=by
 have e:He r a b=0:=by
  unfold He;rw [dZ.2 ha,(by rw [ZaL];exact fun c=>hb (dZ.1 c):fv (bW r) b=false)]
  unfold X8;rw [hn];rfl
 have e2:MK r a b=0:=by unfold MK;rw [if_neg (not_not_intro dD)];exact e
 exact ⟨e2,if_neg (not_not_intro e2)⟩
theorem N0 {r:Ro} (dD:ew r=0) {d m:ByteArray} (hd:d∈bU r) (hm:m ∉ bW r) (hn:fA m=true) :
  ∃ N,NT r d m=N/\MK r d m=0/\ew N=0/\N.lv=r.lv/\m∈bU N/\bH N m=bH r d/\NT N m d=r/\MK N m d=0:=by
 have hdA:d∈bW r:=gW (.inr (.inl hd));obtain ⟨e1,e2⟩:=P4 dD hdA hm hn;have hk:=GC (a:=d) dD hm hn;have hmD:m∈bU (r.kp d m):=by rw [uF];exact Zo.2 ⟨d,hd,if_pos I⟩
 have hdN:d ∉ bW (r.kp d m):=by
  rw [vB];intro c;obtain ⟨x,hx,e⟩:=Zo.1 c;unfold gX at e;split at e
  ·exact hm (e ▸ hdA)
  ·rename_i c;exact c e
 have jv:fA d=true:=(prt (mC dD).2.1).nm d hdA;obtain ⟨e3,e4⟩:=P4 hk (gW (.inr (.inl hmD))) hdN jv;exact ⟨r.kp d m,e2,e1,hk,I,hmD,JV dD hm hn hd,e4.trans (JY dD hm),e3⟩
theorem wh {r:Ro} {L:List ByteArray} {n:Nat} {s d t p:Value} {y:ByteArray} (e:bH r y=L) (en:r.lv.toNat=n) (h:RR w r s d t p) (dD:ew r=0) (hy:y∈bU r):bb T_ 20 [.agg #[.q r.lv,.q r.ma,s,d,t,p],.string y] w [] (fun _:Value=>True) (fun x=>.tuple #[x,.q 0]) (fun x=>[row 9 1 x n (aJ L)]):=by
 subst e en;exact Ln h (oX dD) dD hy
theorem Up {r q:Ro} {m:List Tk} {i E:Int} {s d t p v:Value} (e:fT r (cq l)=(q,i,E)) (e2:zw r (cq l)=m) (h:RR w r s d t p) (hf:kE r) (hv:Rd w v 2 (gL l)) (hM:qY w l):bb T_ 47 [.agg #[.q r.lv,.q r.ma,s,d,t,p],v] w [] (fun x:Value×List eN=>cq x.2=m) (fun x=>.tuple #[x.1,.q E]) (fun x=>[row 78 2 x.1 x.2.length (gL x.2).flatten,DX x.2]):=by
 have:=Dx h hf hv hM;rwa [e2,e] at this
theorem I3 {r q:Ro} {i E:Int} {s d t p v:Value} (e:fT r L=(q,i,E)) (e2:cq l=L) (h:RR w r s d t p) (hf:kE r) (hv:Rd w v 2 (gL l)) (hM:qY w l):bb T_ 45 [.agg #[.q r.lv,.q r.ma,s,d,t,p],v] w [] (fun _:Value×Value×Value×Value=>True) (fun y=>.tuple #[.agg #[.q q.lv,.q q.ma,y.1,y.2.1,y.2.2.1,y.2.2.2],.q i,.q E]) (fun y=>oA q y):=by
 subst e2;exact Mr e h hf hv hM
theorem Lw {lv:Value} {l:List ByteArray} (h:Rd w lv 1 (fX l)) (e:fv l o=u):aj T_ 59 [lv,.string o] w (.bool u):=e ▸ Lv o h
theorem tkf (e:cq l=L) (hl:L.length<=8) (hs:∀ t∈L,t.so.length<=1000):l.length<=1000/\∀ x∈l,x.tk.so.length<=1000:=by
 subst e;rw [zG] at hl;exact ⟨by omega,fun x hx=>hs _ (ZU hx)⟩
theorem UA {v:Value} (e:sE (cq l)=u) (hv:Rd w v 2 (gL l)) (hM:qY w l):aj T_ 44 [v] w (.bool u):=e ▸ rr hv hM
theorem Rs {r:Ro} {s d t p s' d' t' p':Value} (h:RR w r s d t p) (h':RR w r s' d' t' p'):aj T_ 84 [.agg #[.q r.lv,.q r.ma,s,d,t,p],.agg #[.q r.lv,.q r.ma,s',d',t',p']] w (.bool true):=by
 have:=MB h h';rwa [decide_eq_true I] at this
theorem abn {r:Ro} {s d t p v:Value} {u:Int} (e:qy r (cq l)=u) (h:RR w r s d t p) (hv:Rd w v 2 (gL l)) (hM:qY w l):aj T_ 49 [.agg #[.q r.lv,.q r.ma,s,d,t,p],v] w (.q u):=e ▸ se h hv hM
def Tq (x:Value×List eN):Value:=.agg #[x.1,.agg (x.2.map LO).toArray]
theorem LM {x y:Value×List eN} (h:Tq x=Tq y):x=y:=by
 obtain ⟨a,b⟩:=x;obtain ⟨a',b'⟩:=y;injection h with h
 have h:=congrArg Array.toList h;simp only [List.cons.injEq,and_true] at h;obtain ⟨h1,h2⟩:=h;injection h2 with h2
 rw [Dc (congrArg Array.toList h2),h1]
noncomputable def Pe (l:List eN):Value->{x:Value×List eN // cq x.2=cq l}:=gOf (fun x=>Tq x.1) ⟨(.bool false,l),I⟩
theorem LF (l:List eN) (x:{x:Value×List eN // cq x.2=cq l}):∃ v,Pe l v=x:=Th (fun _ _ h=>Subtype.ext (LM h)) _ x
theorem FJ {r:Ro} (dD:ew r=0) {s:ByteArray} (h:s∈bW r):s.size<=40:=by
 have:=(prt (mC dD).2.1).nm s h;unfold fA at this;simp only [Zl,decide_eq_true_eq] at this;omega
theorem NF {r:Ro} (dD:ew r=0) {L:List Tk} (h:Bn r L):sE L=true:=by
 have wb:=(rO dD).lim;have h8:=h.y6;unfold sE;rw [Zl,Z6,decide_eq_true_iff];refine ⟨fun t ht=>?_,by omega⟩;have h1:=FJ dD (gW (.inr (.inl (h.de t ht))));have h2:=h.lv t ht;rw [Zl,Zl,decide_eq_true_iff,decide_eq_true_iff];refine ⟨⟨h1,by omega⟩,?_⟩;unfold sD;rw [Z6];intro s hs;rw [decide_eq_true_iff];rcases h.so t ht s hs with rfl | rfl | h
 ·decide
 ·decide
 ·exact FJ dD (gW (.inl h))
set_option maxRecDepth 20000 in
set_option maxHeartbeats 4000000 in
theorem DW {r:Ro} {s d t p kv:Value} (h:RR w r s d t p) (hw:Rd w kv 2 (gL l)) (hM:qY w l):aj T_ 12 [RA r s d t p,kv] w (.bool true):=by
 obtain ⟨h1,h2,h3,h4⟩:=h.one;have Bv:=hw;obtain ⟨a,cp,b,o,rfl,dp,bY,ha,hc⟩:=Bv;have hs:=h.de;obtain ⟨da,oe,db,do',rfl,acf,VY,hda,xr⟩:=hs;rw [dy] at *;rw [cB] at *;have jj:∀ {w'},aK [] w w'->aj T_ 55 [.agg #[.int .i64 r.lv,.int .i64 r.ma,s,.slice da r.de.length oe,t,p]] w' (.bool (tZ r&&decide (ew r=0))):=fun hk=>Nc (h.keeps hk)
 have K5:∀ {w'},aK [] w w'->aj T_ 44 [.slice a l.length cp] w' (.bool (sE (cq l))):=fun hk=>rr (Rd.keeps hw hk) (hM.keeps hk)
 have E0:∀ {w'},aK [] w w'->aj T_ 49 [.agg #[.q r.lv,.q r.ma,s,.slice da r.de.length oe,t,p],.slice a l.length cp] w' (.q (qy r (cq l))):=fun hk=>se (h.keeps hk) (Rd.keeps hw hk) (hM.keeps hk)
 unfold RA;cases U8:(tZ r&&decide (ew r=0)) with
 | false =>
  rw [U8] at jj;refine ah func12 I I ?_
  (refine Jr<|Jy I I fun _ _=>Ja I<|Jn<|Jq<|Jr<|ai lK I (fun w' aA=>(nM w'))<|JH I<|Jv I<|aF I I (fun hg bT=>(bV (.of I) .here ak (by rfl))) I<|eh I I (fun hg=>(aZ (.of I) (.cons (.cD hg I) .nil) inferInstance eQ)) I (fun hg w' aA=>(jj (Mem.keeps aA)))<|aF I I (fun hg bT=>(dX (.cD bT I))) I<|ab (bC (.of I) I) I<|Jv I<|iT I I I I<|dx I I I I<|aF I I (fun hg bT=>(dX (.cD hg I))) I<|ab (bC (.of I) I) I<|Jv I<|aF I I (fun hg bT=>(bV (.of I) .here ak (by rfl))) I<|iT I I I I<|dx I I I I<|dx I I I I<|ab (bC (.of I) I) I<|Jn<|cL (.of I)<|Jr<|ai lK I (fun w' aA=>(nM w'))<|Ja I<|Jn<|Ju<|JT ?_)
  rfl
 | true=>
 cases Yr:sE (cq l) with
 | false =>
  rw [U8] at jj;rw [Yr] at K5;refine ah func12 I I ?_
  (refine Jr<|Jy I I fun _ _=>Ja I<|Jn<|Jq<|Jr<|ai lK I (fun w' aA=>(nM w'))<|JH I<|Jv I<|aF I I (fun hg bT=>(bV (.of I) .here ak (by rfl))) I<|eh I I (fun hg=>(aZ (.of I) (.cons (.cD hg I) .nil) inferInstance eQ)) I (fun hg w' aA=>(jj (Mem.keeps aA)))<|aF I I (fun hg bT=>(dX (.cD bT I))) I<|ab (bC (.of I) I) I<|Jv I<|iT I I I I<|eh I I (fun hg=>(aZ (.of I) (.cons (.cD hg I) .nil) inferInstance eQ)) I (fun hg w' aA=>(K5 (Mem.keeps aA)))<|aF I I (fun hg bT=>(dX (.cD hg I))) I<|ab (bC (.of I) I) I<|Jv I<|aF I I (fun hg bT=>(bV (.of I) .here ak (by rfl))) I<|iT I I I I<|dx I I I I<|dx I I I I<|ab (bC (.of I) I) I<|Jn<|cL (.of I)<|Jr<|ai lK I (fun w' aA=>(nM w'))<|Ja I<|Jn<|Ju<|JT ?_)
  rfl
 | true=>
 rw [U8] at jj;rw [Yr] at K5;rw [Zl,decide_eq_true_iff] at U8;obtain ⟨Yy,dD⟩:=U8;obtain ⟨VH,hs4⟩:=NG Yr;have hF:=oX dD;have Pb:=dE dD;clear Yy;by_cases hx:qy r (cq l)=0
 rotate_left
 ·refine ah func12 I I ?_
  (refine Jr<|Jy I I fun _ _=>Ja I<|Jn<|Jq<|Jr<|ai lK I (fun w' aA=>(nM w'))<|JH I<|Jv I<|aF I I (fun hg bT=>(bV (.of I) .here ak (by rfl))) I<|eh I I (fun hg=>(aZ (.of I) (.cons (.cD hg I) .nil) inferInstance eQ)) I (fun hg w' aA=>(jj (Mem.keeps aA)))<|aF I I (fun hg bT=>(dX (.cD bT I))) I<|ab (bC (.of I) I) I<|Jv I<|iT I I I I<|eh I I (fun hg=>(aZ (.of I) (.cons (.cD hg I) .nil) inferInstance eQ)) I (fun hg w' aA=>(K5 (Mem.keeps aA)))<|aF I I (fun hg bT=>(dX (.cD hg I))) I<|ab (bC (.of I) I) I<|Jv I<|aF I I (fun hg bT=>(bV (.of I) .here ak (by rfl))) I<|iT I I I I<|eh I I (fun hg=>(aZ (.of I) (.cons (.cD hg I) (.cons (.cD hg I) .nil)) inferInstance eQ)) I (fun hg w' aA=>(E0 (Mem.keeps aA)))<|aF I I (fun hg bT=>(gU (.cD hg I) (.of I))) I<|ab (bC (.of I) I) I<|Jn<|Jd I fun ar=>Jr<|ai lK I (fun w' aA=>(nM w'))<|Ja I<|Jn<|Ju<|JT ?_)
  rfl
 rw [hx] at E0;obtain ⟨hne,hT⟩:=j7.1 hx;have ee:=rO dD;have wb:=ee.lim;have Xv:((r.lv.toNat:Nat):Int)=r.lv:=by omega
 have EP:∀ x∈l,x.tk.so.length<=1000:=fun x hx=>ZX (hs4 x hx) (by decide)
 unfold maxLen at bY VY;have pT:0<l.length:=by
  have:=Zby.2 hne;rwa [zG] at this
 have Y4:0<(cq l).length:=Zby.2 hne;have cP:=ha (jV pT);have c0:w.cell? ⟨b,o+0*2,none⟩=some (.string (cq l)[0].de):=by rw [Ri];exact (hc 0 _ (zI l pT)).2 0 _ I
 obtain ⟨R1,p1,p2,xJ,Ua,SU,hs1,kc,jS⟩:∃ R,nN r (cq l)[0].de true=R/\nO r (cq l)[0].de=0/\ew R=0/\(cq l)[0].de∈bU R/\bH R (cq l)[0].de=bH r (cq l)[0].de/\fT R (cq l)=(Ro.nil,0,31)/\wH R (cq l)[0].de=Ro.nil/\xP R (cq l)[0].de=31:=by
  have key:∀ (L:List Tk) (h0:0<L.length),qy r L=0->∃ R,nN r L[0].de true=R/\nO r L[0].de=0/\ew R=0/\L[0].de∈bU R/\bH R L[0].de=bH r L[0].de/\fT R L=(Ro.nil,0,31)/\wH R L[0].de=Ro.nil/\xP R L[0].de=31
   | [],h0,_=>absurd h0 (Nat.lt_irrefl _)
   | t::L,_,h=>Kc dD h
  exact key _ Y4 hx
 have hd:(cq l)[0].de∈bU r:=hT.de _ (Zj _);generalize (cq l)[0].de=dn at c0 p1 p2 Ua SU kc jS hd;obtain ⟨B0,HM⟩:∃ B,bH r dn=B:=⟨_,rfl⟩;rw [HM] at SU;obtain ⟨Z,hZ⟩:∃ Z,Ro.nil=Z:=⟨_,rfl⟩;rw [hZ] at hs1 kc;have uf:R1.lv.toNat=r.lv.toNat:=by
  have e:R1.lv=r.lv:=by rw [<- p1];unfold nN;rw [if_neg (not_not_intro p2)];rfl
  rw [e]
 obtain ⟨C,Ec,XG,hC2,hC⟩:=Pz dD hd;obtain ⟨X,Ix,Ex,hX⟩:∃ X IX E,fT r (cq l)=(X,IX,E):=⟨_,_,_,rfl⟩;refine ah func12 I I ?_
 (refine Jr<|Jy I I fun _ _=>Ja I<|Jn<|Jq<|Jr<|ai lK I (fun w' aA=>(nM w'))<|JH I<|Jv I<|aF I I (fun hg bT=>(bV (.of I) .here ak (by rfl))) I<|eh I I (fun hg=>(aZ (.of I) (.cons (.cD hg I) .nil) inferInstance eQ)) I (fun hg w' aA=>(jj (Mem.keeps aA)))<|aF I I (fun hg bT=>(dX (.cD bT I))) I<|ab (bC (.of I) I) I<|Jv I<|iT I I I I<|eh I I (fun hg=>(aZ (.of I) (.cons (.cD hg I) .nil) inferInstance eQ)) I (fun hg w' aA=>(K5 (Mem.keeps aA)))<|aF I I (fun hg bT=>(dX (.cD hg I))) I<|ab (bC (.of I) I) I<|Jv I<|aF I I (fun hg bT=>(bV (.of I) .here ak (by rfl))) I<|iT I I I I<|eh I I (fun hg=>(aZ (.of I) (.cons (.cD hg I) (.cons (.cD hg I) .nil)) inferInstance eQ)) I (fun hg w' aA=>(E0 (Mem.keeps aA)))<|aF I I (fun hg bT=>(gU (.cD hg I) (.of I))) I<|ab (bC (.of I) I) I<|Jn<|bE (.of I)<|Jk<|Jr<|Jv I<|ab (au (.of I) (.of I) cP (by omega) (by omega) bn) I<|bP I I ae<|ab (ag (.of I) (At.base c0 I)) I<|Ja I<|Ji<|ab (cK .here) I ?_)
 rename_i b2 tM;refine JN bz I (fun w1 aG=>eS (h.keeps aG.keeps) Pb) ?_;rintro ⟨o1,q1,u1,v1⟩ _
 try dsimp only [id_eq,Zb,Za]
 refine cn (r:=r) (s:=o1) (d:=q1) (t:=u1) (p:=v1) (aQ _ _) fun _ _ _ _=>?_;refine xi I I ?_;refine JN ba I (fun w1 aG=>wh HM I ⟨bM aG (by exact .here) I,bN aG (by exact Take.there .here) I,bL aG bF I,bJ aG cA I⟩ dD hd) ?_;rintro xb _
 try dsimp only [id_eq,Zb,Za]
 refine Jv I<|JJ I I<|JJ I I<|Ja I<|Ja I<|Ji<|ab (cK eG) I ?_;refine cz [row 9 1 (xb) (r.lv.toNat) (aJ (B0)),JQ b2 r s (.slice da r.de.length oe) t p] (by exact .h1 (.cons df .nil)) ?_;refine JN bz I (fun w1 aG=>eS (h.keeps aG.keeps) Pb) ?_;rintro ⟨o2,q2,u2,v2⟩ _
 try dsimp only [id_eq,Zb,Za]
 refine cn (r:=r) (s:=o2) (d:=q2) (t:=u2) (p:=v2) (aQ _ _) fun _ _ _ _=>?_;refine xi I I ?_;refine JN eK I (fun w1 aG=>RS p1 p2 ⟨bM aG (by exact .here) I,bN aG (by exact Take.there .here) I,bL aG bF I,bJ aG cA I⟩ hF) ?_;rintro ⟨s1,d1,t1,p1⟩ _
 try dsimp only [id_eq,Zb,Za]
 refine cn (r:=R1) (s:=s1) (d:=d1) (t:=t1) (p:=p1) (aQ _ _) fun _ _ _ _=>?_
 (refine Jv I<|JJ I I<|JJ I I<|Jz I I fun _ _=>an (.of I) (.of I) .here I I (aM I (aM I (aM (by assumption) (aM (by assumption) (aM (by assumption) (aM (by assumption) dT)))))) (bG I) ak<|Ja I<|Jn<|Jq<|Jr<|Jv I<|ab (eI (.of I) (.of I) I) I<|Jv I<|JK I I<|Jv I<|JK I I<|ab (eI (.of I) (.of I) I) I<|ab (du (.of I) (.of I) (.of I) I) I<|Jv I<|JK I I<|ab (cK .here) I<|JK I I ?_)
 rename_i b8 hb8;refine cz [bo b8 (.cells #[.q (R1).lv,.q (R1).ma,s1,d1,t1,p1] 41 (0,0)),J1 (R1) s1,J2 (R1) d1,J3 (R1) t1,J4 (R1) p1,row 9 1 (xb) (r.lv.toNat) (aJ (B0)),JQ b2 r s (.slice da r.de.length oe) t p] (by exact .h5 (.cons df (.cons df .nil))) ?_;refine JN bz I (fun w1 aG=>jz (r:=R1) ⟨bM aG (by exact Take.there .here) I,bN aG bF I,bL aG cA I,bJ aG df I⟩ (dE xJ)) ?_;rintro ⟨o3,q3,u3,v3⟩ _
 try dsimp only [id_eq,Zb,Za]
 refine gi (r:=R1) (s:=o3) (d:=q3) (t:=u3) (p:=v3) (aQ _ _) fun _ _ _ _=>?_;refine zD I I ?_;refine ai bz I (fun w1 aG=>mD (r:=R1) ⟨bM aG (by exact .here) I,bN aG (by exact Take.there .here) I,bL aG bF I,bJ aG cA I⟩ (dE xJ) xJ) ?_
 (refine JK I I<|ab (eI (.of I) (.of I) I) I<|ab (du (.of I) (.of I) (.of I) I) I<|Jn<|bE (.of I)<|Jk<|Jr<|ab (cK df) I ?_)
 refine cz [bo b8 (.cells #[.q (R1).lv,.q (R1).ma,s1,d1,t1,p1] 41 (0,0)),J1 (R1) s1,J2 (R1) d1,J3 (R1) t1,J4 (R1) p1,row 9 1 (xb) (r.lv.toNat) (aJ (B0)),JQ b2 r s (.slice da r.de.length oe) t p] (by exact .cons df (.cons df (.cons df (.cons df (.cons df (.cons df (.cons df .nil))))))) ?_;refine JN bz I (fun w1 aG=>jz (r:=R1) ⟨bM aG (by exact Take.there .here) I,bN aG bF I,bL aG cA I,bJ aG df I⟩ (dE xJ)) ?_;rintro ⟨o4,q4,u4,v4⟩ _
 try dsimp only [id_eq,Zb,Za]
 refine gi (r:=R1) (s:=o4) (d:=q4) (t:=u4) (p:=v4) (aQ _ _) fun _ _ _ _=>?_
 skip
 refine JN bz I (fun w1 aG=>eS (r:=R1) ⟨bM aG (by exact .here) I,bN aG (by exact Take.there .here) I,bL aG bF I,bJ aG cA I⟩ (dE xJ)) ?_;rintro ⟨o5,q5,u5,v5⟩ _
 try dsimp only [id_eq,Zb,Za]
 refine cn (r:=R1) (s:=o5) (d:=q5) (t:=u5) (p:=v5) (aQ _ _) fun _ _ _ _=>?_;refine xi I I ?_;refine JN bz I (fun w1 aG=>uV (Rd.keeps hw aG.keeps) (hM.keeps aG.keeps) (by omega) EP) ?_;rintro ⟨gv1,W1⟩ hW1
 try dsimp only [id_eq,Zb,Za]
 dsimp only at hW1 ⊢
 skip
 refine JN ba I (fun w1 aG=>I3 hs1 hW1 ⟨bM aG bF I,bN aG cA I,bL aG df I,bJ aG eG I⟩ (oX xJ) (im aG (by exact .here) I) (Ia aG (by exact Take.there .here))) ?_;rintro ⟨s2,d2,t2,p2⟩ _
 try dsimp only [id_eq,Zb,Za]
 refine cn (r:=Z) (s:=s2) (d:=d2) (t:=t2) (p:=p2) (aQ _ _) fun _ _ _ _=>?_
 (refine Jv I<|JJ I I<|JJ I I<|JJ I I<|Jz I I fun _ _=>an (.of I) (.of I) .here I I (aM I (aM I (aM (by assumption) (aM (by assumption) (aM (by assumption) (aM (by assumption) dT)))))) (bG I) ak<|Ja I<|Ja I<|Ji<|ab (cK fO) I ?_)
 refine cz [bo b8 (.cells #[.q (R1).lv,.q (R1).ma,s1,d1,t1,p1] 41 (0,0)),J1 (R1) s1,J2 (R1) d1,J3 (R1) t1,J4 (R1) p1,row 9 1 (xb) (r.lv.toNat) (aJ (B0)),JQ b2 r s (.slice da r.de.length oe) t p] (by exact .cons fO (.cons fO (.cons fO (.cons fO (.cons fO (.cons fO (.cons fO .nil))))))) ?_;refine JN bz I (fun w1 aG=>jz (r:=R1) ⟨bM aG (by exact Take.there .here) I,bN aG bF I,bL aG cA I,bJ aG df I⟩ (dE xJ)) ?_;rintro ⟨o6,q6,u6,v6⟩ _
 try dsimp only [id_eq,Zb,Za]
 refine gi (r:=R1) (s:=o6) (d:=q6) (t:=u6) (p:=v6) (aQ _ _) fun _ _ _ _=>?_
 skip
 refine JN bz I (fun w1 aG=>eS (r:=R1) ⟨bM aG (by exact .here) I,bN aG (by exact Take.there .here) I,bL aG bF I,bJ aG cA I⟩ (dE xJ)) ?_;rintro ⟨o7,q7,u7,v7⟩ _
 try dsimp only [id_eq,Zb,Za]
 refine cn (r:=R1) (s:=o7) (d:=q7) (t:=u7) (p:=v7) (aQ _ _) fun _ _ _ _=>?_;refine xi I I ?_;refine JN ba I (fun w1 aG=>QP kc jS ⟨bM aG (by exact .here) I,bN aG (by exact Take.there .here) I,bL aG bF I,bJ aG cA I⟩ (oX xJ)) ?_;rintro ⟨s3,d3,t3,p3⟩ _
 try dsimp only [id_eq,Zb,Za]
 refine cn (r:=Z) (s:=s3) (d:=d3) (t:=t3) (p:=p3) (aQ _ _) fun _ _ _ _=>?_
 (refine Jv I<|JJ I I<|JJ I I<|Jz I I fun _ _=>an (.of I) (.of I) .here I I (aM I (aM I (aM (by assumption) (aM (by assumption) (aM (by assumption) (aM (by assumption) dT)))))) (bG I) ak<|Ja I<|Ji<|ab (cK uu) I ?_)
 refine cz [bo b8 (.cells #[.q (R1).lv,.q (R1).ma,s1,d1,t1,p1] 41 (0,0)),J1 (R1) s1,J2 (R1) d1,J3 (R1) t1,J4 (R1) p1,row 9 1 (xb) (r.lv.toNat) (aJ (B0)),JQ b2 r s (.slice da r.de.length oe) t p] (by exact .cons uu (.cons uu (.cons uu (.cons uu (.cons uu (.cons uu (.cons uu .nil))))))) ?_;refine JN bz I (fun w1 aG=>jz (r:=R1) ⟨bM aG (by exact Take.there .here) I,bN aG bF I,bL aG cA I,bJ aG df I⟩ (dE xJ)) ?_;rintro ⟨o8,q8,u8,v8⟩ _
 try dsimp only [id_eq,Zb,Za]
 refine gi (r:=R1) (s:=o8) (d:=q8) (t:=u8) (p:=v8) (aQ _ _) fun _ _ _ _=>?_
 skip
 refine JN bz I (fun w1 aG=>eS (r:=R1) ⟨bM aG (by exact .here) I,bN aG (by exact Take.there .here) I,bL aG bF I,bJ aG cA I⟩ (dE xJ)) ?_;rintro ⟨o9,q9,u9,v9⟩ _
 try dsimp only [id_eq,Zb,Za]
 refine cn (r:=R1) (s:=o9) (d:=q9) (t:=u9) (p:=v9) (aQ _ _) fun _ _ _ _=>?_;refine xi I I ?_;refine JN ba I (fun w1 aG=>wh SU uf ⟨bM aG (by exact .here) I,bN aG (by exact Take.there .here) I,bL aG bF I,bJ aG cA I⟩ xJ Ua) ?_;rintro xs _
 try dsimp only [id_eq,Zb,Za]
 (refine Jv I<|JJ I I<|JJ I I<|Ja I<|Ja I<|Jn<|Jq<|Jr<|Jv I<|ab (eI (.of I) (.of I) I) I<|Jv I<|JK I I<|Jv I<|JK I I<|ab (eI (.of I) (.of I) I) I<|ab (du (.of I) (.of I) (.of I) I) I<|Jv I<|JK I I<|Jv I<|JK I I<|ab (eI (.of I) (.of I) I) I<|ab (du (.of I) (.of I) (.of I) I) I<|Jv I<|JK I I<|Jv I<|JK I I<|ab (eI (.of I) (.of I) I) I<|ab (du (.of I) (.of I) (.of I) I) I<|Jv I<|JK I I<|Jv I<|JK I I<|Jv I<|JK I I ?_)
 refine cz [row 9 1 (xs) (r.lv.toNat) (aJ (B0)),bo b8 (.cells #[.q (R1).lv,.q (R1).ma,s1,d1,t1,p1] 41 (0,0)),J1 (R1) s1,J2 (R1) d1,J3 (R1) t1,J4 (R1) p1,row 9 1 (xb) (r.lv.toNat) (aJ (B0)),JQ b2 r s (.slice da r.de.length oe) t p] (by exact .h1 (.cons fW (.cons fW (.cons fW (.cons fW (.cons fW (.cons fW (.cons fW .nil)))))))) ?_;refine ai ba I (fun w1 aG=>zV (dz (l:=B0) (n:=r.lv.toNat) aG (by exact .here) (by rw [<- HM];exact jY _ _)) (dz (l:=B0) (n:=r.lv.toNat) aG kU (by rw [<- HM];exact jY _ _)) I) ?_;refine zD I I ?_;refine ab (dX (.of I)) I ?_;refine ab (du (.of I) (.of I) (.of I) I) I ?_;refine DZ ?_;refine zA ?_;refine bE (.of I) ?_;refine zB ?_;refine zA ?_;refine Rh (ι:=Unit) (fun _=>True) (fun _=>[(6,xb),(5,.string dn),(1,.slice a l.length cp),(2,.p b2)]) (fun _=>[row 9 1 (xb) (r.lv.toNat) (aJ (B0)),JQ b2 r s (.slice da r.de.length oe) t p]) ?_ ?_
 ·refine Jr<|ab (cK uZ) I ?_;refine JN bz I (fun w1 aG=>eS (h.keeps aG.keeps) Pb) ?_;rintro ⟨o10,q10,u10,v10⟩ _
  try dsimp only [id_eq,Zb,Za]
  refine cn (r:=r) (s:=o10) (d:=q10) (t:=u10) (p:=v10) (aQ _ _) fun _ _ _ _=>?_;refine xi I I ?_;refine JN ba I (fun w1 aG=>QP XG hC2 ⟨bM aG (by exact .here) I,bN aG (by exact Take.there .here) I,bL aG bF I,bJ aG cA I⟩ hF) ?_;rintro ⟨s4,d4,t4,p4⟩ _
  try dsimp only [id_eq,Zb,Za]
  refine cn (r:=C) (s:=s4) (d:=d4) (t:=t4) (p:=p4) (aQ _ _) fun _ _ _ _=>?_;rcases hC with rfl | ⟨rfl,DK,T6,fH,hhc⟩
  ·(refine Jv I<|JJ I I<|JJ I I<|Jz I I fun _ _=>an (.of I) (.of I) .here I I (aM I (aM I (aM (by assumption) (aM (by assumption) (aM (by assumption) (aM (by assumption) dT)))))) (bG I) ak<|Ja I<|Ji<|Jv I<|JC I<|Jn<|Jc I fun ar=>Jr<|Jv I<|ab (eI (.of I) (.of I) I) I<|Jn<|bE (.of I)<|Jk ?_)
   with_reducible apply FA () trivial
   case h1=>exact .cons I (.cons I (.cons I (.cons I .nil)))
   case ht=>exact .cons fO (.cons fO .nil)
  (refine Jv I<|JJ I I<|JJ I I<|Jz I I fun _ _=>an (.of I) (.of I) .here I I (aM I (aM I (aM (by assumption) (aM (by assumption) (aM (by assumption) (aM (by assumption) dT)))))) (bG I) ak<|Ja I<|Ji<|Jv I<|ab (rC (.of I) (.of I) I) I<|Jn<|cL (.of I)<|Jr<|ab (cK .here) I ?_)
  rename_i DP aaO;refine cz [bo DP (.cells #[.q (C).lv,.q (C).ma,s4,d4,t4,p4] 41 (0,0)),J1 (C) s4,J2 (C) d4,J3 (C) t4,J4 (C) p4,row 9 1 (xb) (r.lv.toNat) (aJ (B0)),JQ b2 r s (.slice da r.de.length oe) t p] (by exact .h5 (.cons lW (.cons lW .nil))) ?_;refine JN bz I (fun w1 aG=>jz (r:=C) ⟨bM aG (by exact Take.there .here) I,bN aG bF I,bL aG cA I,bJ aG df I⟩ (dE DK)) ?_;rintro ⟨o11,q11,u11,v11⟩ _
  try dsimp only [id_eq,Zb,Za]
  refine gi (r:=C) (s:=o11) (d:=q11) (t:=u11) (p:=v11) (aQ _ _) fun _ _ _ _=>?_
  skip
  refine JN bz I (fun w1 aG=>eS (r:=C) ⟨bM aG (by exact .here) I,bN aG (by exact Take.there .here) I,bL aG bF I,bJ aG cA I⟩ (dE DK)) ?_;rintro ⟨o12,q12,u12,v12⟩ _
  try dsimp only [id_eq,Zb,Za]
  refine cn (r:=C) (s:=o12) (d:=q12) (t:=u12) (p:=v12) (aQ _ _) fun _ _ _ _=>?_;refine xi I I ?_;have Y8:C.lv.toNat=r.lv.toNat:=by rw [T6]
  have hdC:dn∈bU C:=by rw [fH];exact hd
  refine JN ba I (fun w1 aG=>wh hhc Y8 ⟨bM aG (by exact .here) I,bN aG (by exact Take.there .here) I,bL aG bF I,bJ aG cA I⟩ DK hdC) ?_;rintro xn _
  try dsimp only [id_eq,Zb,Za]
  refine xi I I ?_;refine ab (di (.of I) I) I ?_;refine ab (di (.of I) I) I ?_;refine a_s I I ?_;refine a_s I I ?_;refine aY (E:=9) (sz:=1) (v:=xn) (by exact .here) fun na nc e=>?_;subst e;refine cz [row 9 1 (.slice na r.lv.toNat nc) (r.lv.toNat) (aJ ((List.replicate r.lv.toNat (⟨#[]⟩:ByteArray)))),bo DP (.cells #[.q (C).lv,.q (C).ma,s4,d4,t4,p4] 41 (0,0)),J1 (C) s4,J2 (C) d4,J3 (C) t4,J4 (C) p4,row 9 1 (xb) (r.lv.toNat) (aJ (B0)),JQ b2 r s (.slice da r.de.length oe) t p] (by exact .h1 (.cons fW (.cons fW (.cons fW (.cons fW (.cons fW (.cons fW (.cons fW .nil)))))))) ?_
  (refine Jn<|Jq<|Jr<|Jv I<|ab (eI (.of I) (.of I) I) I<|Jv I<|JK I I<|Jv I<|JK I I<|JI I<|JK I I<|bP I I ae<|JK I I<|JL I uZ I<|JK I I<|ab (eI (.of I) (.of I) Xv) I<|ab (du (.of I) (.of I) (.of I) I) I<|Jv I<|JK I I<|ab (cK (.there .here)) I<|JK I I ?_)
  refine JN bz I (fun w1 aG=>jz (r:=C) ⟨bM aG bF I,bN aG cA I,bL aG df I,bJ aG eG I⟩ (dE DK)) ?_;rintro ⟨o13,q13,u13,v13⟩ _
  try dsimp only [id_eq,Zb,Za]
  refine gi (r:=C) (s:=o13) (d:=q13) (t:=u13) (p:=v13) (aQ _ _) fun _ _ _ _=>?_;refine zD I I ?_;refine ai bz I (fun w1 aG=>mD (r:=C) ⟨bM aG (by exact .here) I,bN aG (by exact Take.there .here) I,bL aG bF I,bJ aG cA I⟩ (dE DK) DK) ?_
  (refine JK I I<|ab (eI (.of I) (.of I) I) I<|ab (du (.of I) (.of I) (.of I) I) I<|Jn<|bE (.of I)<|Jk<|Jr<|Jv I<|JI I<|Jv I<|Jn<|J0 ?_)
  refine cz [row 9 1 (.slice na r.lv.toNat nc) (r.lv.toNat) (aJ ((List.replicate r.lv.toNat (⟨#[]⟩:ByteArray)))),bo DP (.cells #[.q (C).lv,.q (C).ma,s4,d4,t4,p4] 41 (0,0)),J1 (C) s4,J2 (C) d4,J3 (C) t4,J4 (C) p4,row 9 1 (xb) (r.lv.toNat) (aJ (B0)),JQ b2 r s (.slice da r.de.length oe) t p] (by exact .cons df (.cons df (.cons df (.cons df (.cons df (.cons df (.cons df (.cons df .nil)))))))) ?_;refine a7 (ι:=Nat) (fun v=>v<=r.lv.toNat) (fun v=>[(181,.q (v:Nat)),(180,.q (r.lv.toNat:Nat)),(179,.slice na r.lv.toNat nc),(17,.p DP),(6,xb),(5,.string dn),(1,.slice a l.length cp),(2,.p b2)]) (fun v=>[row 9 1 (.slice na r.lv.toNat nc) (r.lv.toNat) (aJ ((List.replicate r.lv.toNat (⟨#[]⟩:ByteArray)))),bo DP (.cells #[.q (C).lv,.q (C).ma,s4,d4,t4,p4] 41 (0,0)),J1 (C) s4,J2 (C) d4,J3 (C) t4,J4 (C) p4,row 9 1 (xb) (r.lv.toNat) (aJ (B0)),JQ b2 r s (.slice da r.de.length oe) t p]) (fun v=>r.lv.toNat-v) ?_ ?_
  ·apply aI 0 (show 0<=r.lv.toNat from Zi _)
   case hs1=>exact cu
   case ht=>exact ng
  intro v hv
  try dsimp only at hv ⊢
  by_cases VE:v<r.lv.toNat
  rotate_left
  ·obtain rfl:v=r.lv.toNat:=by omega
   refine Jr<|JA I<|Jn<|Jq<|Jc I fun ar=>Jp<|Jl<|Jo<|Jt ?_
   with_reducible apply FA () trivial
   case h1=>exact .cons I (.cons I (.cons I (.cons I .nil)))
   case ht=>exact .cons kU (.cons kU .nil)
  have aaX:∀ cur,(aJ (List.replicate r.lv.toNat (⟨#[]⟩:ByteArray))++cur)[v*1]? = some (.string ⟨#[]⟩):=fun cur=>by
   have xH:v<(List.replicate r.lv.toNat (⟨#[]⟩:ByteArray)).length:=by rw [Z3];exact VE
   rw [rm _ cur xH,List.getElem_replicate]
  have MT:((v:Nat):Int)<C.lv:=by omega
  refine cQ (E:=9) (sz:=1) (v:=.slice na r.lv.toNat nc) (by exact .here) (show 0<r.lv.toNat by omega) ?_;intro gn cap_ WC hev Y0 YZ YY YX;cases hev;have Lu:=aaX WC
  (refine Jr<|JA I<|Jn<|Jq<|Jd I fun ar=>Jk<|Jq<|J0<|Jr<|Jv I<|ab (au (.of I) (.of I) I (by omega) ar bn) I ?_;refine ab (ag (.of I) (At.mW .here Lu)) I ?_;refine Ja I<|Ja I<|Ji<|ab (cK (.there .here)) I ?_)
  refine cH (g:=gn) (E:=9) (sz:=1) (n:=r.lv.toNat) (xs:=aJ (List.replicate r.lv.toNat (⟨#[]⟩:ByteArray))) (cur:=WC) (by exact .here) Y0 YZ YY YX ?_;refine cz [row 9 1 (.w gn r.lv.toNat nc) (r.lv.toNat) (aJ ((List.replicate r.lv.toNat (⟨#[]⟩:ByteArray)))),bo DP (.cells #[.q (C).lv,.q (C).ma,s4,d4,t4,p4] 41 (0,0)),J1 (C) s4,J2 (C) d4,J3 (C) t4,J4 (C) p4,row 9 1 (xb) (r.lv.toNat) (aJ (B0)),JQ b2 r s (.slice da r.de.length oe) t p] (by exact .h8 .nil) ?_;refine JN bz I (fun w1 aG=>jz (r:=C) ⟨bM aG bF I,bN aG cA I,bL aG df I,bJ aG eG I⟩ (dE DK)) ?_;rintro ⟨o14,q14,u14,v14⟩ _
  try dsimp only [id_eq,Zb,Za]
  refine gi (r:=C) (s:=o14) (d:=q14) (t:=u14) (p:=v14) (aQ _ _) fun _ _ _ _=>?_
  skip
  refine JN bz I (fun w1 aG=>eS (r:=C) ⟨bM aG (by exact .here) I,bN aG (by exact Take.there .here) I,bL aG bF I,bJ aG cA I⟩ (dE DK)) ?_;rintro ⟨o15,q15,u15,v15⟩ _
  try dsimp only [id_eq,Zb,Za]
  refine cn (r:=C) (s:=o15) (d:=q15) (t:=u15) (p:=v15) (aQ _ _) fun _ _ _ _=>?_;refine xi I I ?_;refine JN ba I (fun w1 aG=>TA (r:=C) (k:=v) ⟨bM aG (by exact .here) I,bN aG (by exact Take.there .here) I,bL aG bF I,bJ aG cA I⟩ (oX DK) DK MT) ?_;rintro bv _
  try dsimp only [id_eq,Zb,Za]
  have hBL:∀ m (hm:m<((cN C).filter (ig C.po (v:Nat))).length),∃ y∈bU r,((cN C).filter (ig C.po (v:Nat)))[m]∈oz C (v:Nat) y:=fun m hm=>by
   have k6:=Zy.1 (Zj hm);rw [<- fH];exact H3 DK k6.1 k6.2
  have hBl:((cN C).filter (ig C.po (v:Nat))).length<=6:=by
   have h1:=Z8 (ig C.po (v:Nat)) (cN C);have h2:=(rO DK).len.2.2;unfold cN at h1 ⊢;rw [Zd] at h1;omega
  generalize (cN C).filter (ig C.po (v:Nat))=BL at hBL hBl ⊢
  (refine Jv I<|JJ I I<|JJ I I<|Ja I<|Ja I<|Jn<|Jq<|Jr<|Jv I<|ab (eI (.of I) (.of I) I) I<|Jv I<|JK I I<|Jv I<|JK I I<|ab (gY (.of I) (.of I)) I<|ab (du (.of I) (.of I) (.of I) I) I<|Jn<|bE (.of I)<|Jk<|Jr<|Jv I ?_)
  refine aY (E:=9) (sz:=1) (v:=bv) (by exact .here) fun va vc e=>?_;subst e;refine cz [row 9 1 (.slice va BL.length vc) (BL.length) (aJ (BL)),row 9 1 (.w gn r.lv.toNat nc) (r.lv.toNat) (aJ ((List.replicate r.lv.toNat (⟨#[]⟩:ByteArray)))),bo DP (.cells #[.q (C).lv,.q (C).ma,s4,d4,t4,p4] 41 (0,0)),J1 (C) s4,J2 (C) d4,J3 (C) t4,J4 (C) p4,row 9 1 (xb) (r.lv.toNat) (aJ (B0)),JQ b2 r s (.slice da r.de.length oe) t p] (by exact .h1 (.cons fW (.cons fW (.cons fW (.cons fW (.cons fW (.cons fW (.cons fW (.cons fW .nil))))))))) ?_;refine JI I<|Jv I<|Jn<|J0 ?_;refine a7 (ι:=Nat) (fun m=>m<=BL.length) (fun m=>[(202,.q (m:Nat)),(201,.q (BL.length:Nat)),(200,.slice va BL.length vc),(21,.q (v:Nat)),(181,.q (v:Nat)),(180,.q (r.lv.toNat:Nat)),(179,.w gn r.lv.toNat nc),(17,.p DP),(6,xb),(5,.string dn),(1,.slice a l.length cp),(2,.p b2)]) (fun m=>[row 9 1 (.slice va BL.length vc) (BL.length) (aJ (BL)),row 9 1 (.w gn r.lv.toNat nc) (r.lv.toNat) (aJ ((List.replicate r.lv.toNat (⟨#[]⟩:ByteArray)))),bo DP (.cells #[.q (C).lv,.q (C).ma,s4,d4,t4,p4] 41 (0,0)),J1 (C) s4,J2 (C) d4,J3 (C) t4,J4 (C) p4,row 9 1 (xb) (r.lv.toNat) (aJ (B0)),JQ b2 r s (.slice da r.de.length oe) t p]) (fun m=>BL.length-m) ?_ ?_
  ·apply aI 0 (show 0<=BL.length from Zi _)
   case hs1=>exact cu
   case ht=>exact ng
  intro m hm
  try dsimp only at hm ⊢
  by_cases wa:m<BL.length
  rotate_left
  ·obtain rfl:m=BL.length:=by omega
   refine Jr<|JA I<|Jn<|Jq<|Jc I fun ar=>Jp<|Jl<|Jo<|Jj<|Jt<|Jg<|JB I (by omega)<|Jv I<|Jn ?_;apply aL (v+1) (show v+1<=r.lv.toNat from VE) (show r.lv.toNat-(v+1)<r.lv.toNat-v by omega)
   case hs1=>exact cu
   case ht=>exact ng
  obtain ⟨y0,hy0,Qk⟩:=hBL m wa;have V5:∀ cur,(aJ BL++cur)[m*1]? = some (.string BL[m]):=fun cur=>rm _ cur wa
  generalize BL[m]=tn at Qk V5;refine cQ (E:=9) (sz:=1) (v:=.slice va BL.length vc) (by exact .here) (show 0<BL.length by omega) ?_;intro gb cap_ WD hev aaL aaK aaJ aaI;cases hev;have aaW:=V5 WD
  (refine Jr<|JA I<|Jn<|Jq<|Jd I fun ar=>Jk<|Jq<|J0<|Jr<|ab (au (.of I) (.of I) I (by omega) ar bn) I ?_;refine ab (ag (.of I) (At.mW .here aaW)) I ?_;refine Ja I<|Ji<|Ja I<|Jn<|Jq<|Jr<|bP I I ae ?_;refine JL I fW I<|JI I<|Jv I<|Jn<|J0 ?_)
  refine cH (g:=gb) (E:=9) (sz:=1) (n:=BL.length) (xs:=aJ BL) (cur:=WD) (by exact .here) aaL aaK aaJ aaI ?_;refine cz [row 9 1 (.w gb BL.length vc) (BL.length) (aJ (BL)),row 9 1 (.w gn r.lv.toNat nc) (r.lv.toNat) (aJ ((List.replicate r.lv.toNat (⟨#[]⟩:ByteArray)))),bo DP (.cells #[.q (C).lv,.q (C).ma,s4,d4,t4,p4] 41 (0,0)),J1 (C) s4,J2 (C) d4,J3 (C) t4,J4 (C) p4,row 9 1 (xb) (r.lv.toNat) (aJ (B0)),JQ b2 r s (.slice da r.de.length oe) t p] (by exact .h1 (.h8 .nil)) ?_;refine a7 (ι:=Nat×Bool) (fun z=>z.1<=r.de.length/\(z.2=true↔∃ i,∃ hi:i<r.de.length,i<z.1/\tn∈oz C (v:Nat) r.de[i].nm)) (fun z=>[(209,.q (z.1:Nat)),(208,.q (r.de.length:Nat)),(207,.slice da r.de.length oe),(27,.bool z.2),(26,.string tn),(202,.q (m:Nat)),(201,.q (BL.length:Nat)),(200,.w gb BL.length vc),(21,.q (v:Nat)),(181,.q (v:Nat)),(180,.q (r.lv.toNat:Nat)),(179,.w gn r.lv.toNat nc),(17,.p DP),(6,xb),(5,.string dn),(1,.slice a l.length cp),(2,.p b2)]) (fun z=>[row 9 1 (.w gb BL.length vc) (BL.length) (aJ (BL)),row 9 1 (.w gn r.lv.toNat nc) (r.lv.toNat) (aJ ((List.replicate r.lv.toNat (⟨#[]⟩:ByteArray)))),bo DP (.cells #[.q (C).lv,.q (C).ma,s4,d4,t4,p4] 41 (0,0)),J1 (C) s4,J2 (C) d4,J3 (C) t4,J4 (C) p4,row 9 1 (xb) (r.lv.toNat) (aJ (B0)),JQ b2 r s (.slice da r.de.length oe) t p]) (fun z=>r.de.length-z.1) ?_ ?_
  ·apply aI (0,false) ⟨Zi _,⟨fun e=>absurd e (by decide),fun ⟨_,_,e,_⟩=>absurd e (ZR _)⟩⟩
   case hs1=>exact cu
   case ht=>exact ng
  rintro ⟨k,u⟩ ⟨hk,hu⟩;dsimp only at hk hu ⊢;by_cases aN:k<r.de.length
  rotate_left
  ·obtain rfl:k=r.de.length:=by omega
   obtain rfl:u=true:=by
    obtain ⟨x,hx,TY⟩:=Zo.1 hy0;obtain ⟨i,hi,rfl⟩:=Zx hx;exact hu.2 ⟨i,hi,hi,by rw [TY];exact Qk⟩
   (refine Jr<|JA I<|Jn<|Jq<|Jc I fun ar=>Jp<|Jl<|Jo<|Jt<|Jr<|Jv I<|JH I<|Jn<|bE (.of I)<|Jw<|Jj<|Jt<|Jg<|JB I (by omega)<|Jv I<|Jn ?_)
   apply aL (m+1) (show m+1<=BL.length from wa) (show BL.length-(m+1)<BL.length-m by omega)
   case hs1=>exact cu
   case ht=>exact ng
  have S1:=hda (gI aN);have aB:=(xr k _ (fm aN)).2;have hyC:(r.de[k]).nm∈bU C:=by rw [fH];exact ZU (Zj aN)
  have OL:∀ b:Bool,(b=true↔tn∈oz C (v:Nat) r.de[k].nm)->((u||b)=true↔∃ i,∃ hi:i<r.de.length,i<k+1/\tn∈oz C (v:Nat) r.de[i].nm):=fun b hb=>by
   rw [ZQ,hu,hb];constructor
   ·rintro (⟨i,hi,h1,h2⟩ | h2)
    ·exact ⟨i,hi,Nat.lt_succ_of_lt h1,h2⟩
    ·exact ⟨k,aN,Nat.lt_succ_self k,h2⟩
   ·rintro ⟨i,hi,h1,h2⟩;rcases Nat.lt_succ_iff_lt_or_eq.1 h1 with h1 | rfl
    ·exact .inl ⟨i,hi,h1,h2⟩
    ·exact .inr h2
  unfold De.cells at aB;generalize (r.de[k]).nm=y at hyC aB OL;generalize (r.de[k]).mx=mx at aB;generalize (r.de[k]).pr=pr at aB
  (refine Jr<|JA I<|Jn<|Jq<|Jd I fun ar=>Jk<|Jq<|J0<|Jr<|ab (au (.of I) (.of I) S1 (by omega) ar bn) I<|ab (iA (eV.base aB I)) I<|Jz I I fun _ _=>an (.of I) (.of I) .here I I (fq I I I) (bG I) ak<|Jn<|Jq ?_)
  rename_i b29 ah0
  with_reducible refine dP 12 (by kernel_rfl) ?_
  refine aq (fun β=>(bV (.of I) cA ak (by rfl))) br I ?_;dsimp only [Nat.zero_add,Nat.reduceAdd]
  with_reducible apply dW (ι:=Value×Value×Value×Value) (Φ:=fun _=>True) (val:=fun x=>.agg #[.q C.lv,.q C.ma,x.1,x.2.1,x.2.2.1,x.2.2.2]) (own:=fun x=>DE C x) (g:=g4) (B:=[]) (args:=fun β=>[.agg #[.q C.lv,.q C.ma,s4,d4,t4,p4]])
  case hg=>exact oV
  case hB=>first | rfl | kernel_rfl
  case hr=>exact fun β=>aZ (.of I) (.o I .nil) inferInstance I
  case hd=>rfl
  case hc=>
   intro β w' hb;have m0:=hb.mem;exact jz (r:=C) ⟨bM m0 df I,bN m0 eG I,bL m0 kU I,bJ m0 uZ I⟩ (dE DK)
  dsimp only [Nat.reduceAdd]
  with_reducible apply dW (ι:=Value×Value×Value×Value) (Φ:=fun _=>True) (val:=fun x=>.agg #[.q C.lv,.q C.ma,x.1,x.2.1,x.2.2.1,x.2.2.2]) (own:=fun x=>oA C x) (g:=g4) (B:=[1]) (args:=fun β=>[.agg #[.q C.lv,.q C.ma,(g4 (β 1)).1,(g4 (β 1)).2.1,(g4 (β 1)).2.2.1,(g4 (β 1)).2.2.2]])
  case hg=>exact oV
  case hB=>first | rfl | kernel_rfl
  case hr=>exact fun β=>aZ (.of I) (.o I .nil) inferInstance I
  case hd=>rfl
  case hc=>
   intro β w' hb;have m1:=hb.at 1 Zr I;dsimp only at m1;have m4:=Ce m1 (aQ _ _);exact eS m4 (dE DK)
  dsimp only [Nat.reduceAdd]
  (refine aq (fun β=>(aX (.of I))) br I<|aq (fun β=>(az (.of I) ae)) br I<|aq (fun β=>(ag (.of I) (At.lit .here I))) br I ?_)
  dsimp only [Nat.zero_add,Nat.reduceAdd]
  with_reducible apply dW (ι:=Value) (Φ:=fun _=>True) (val:=fun x=>.tuple #[x,.q 0]) (own:=fun x=>[row 9 1 x ((oz C (v:Nat) y).length) (aJ (oz C (v:Nat) y))]) (g:=id) (B:=[2]) (args:=fun β=>[.agg #[.q C.lv,.q C.ma,(g4 (β 2)).1,(g4 (β 2)).2.1,(g4 (β 2)).2.2.1,(g4 (β 2)).2.2.2],.q (v:Nat),.string y])
  case hg=>exact fun x=>⟨x,I⟩
  case hB=>kernel_rfl
  case hr=>exact fun β=>aZ (.of I) ((.o I (.o I (.o I .nil)))) inferInstance I
  case hd=>rfl
  case hc=>
   intro β w' hb;have m1:=hb.at 2 Zr I;dsimp only at m1;have m4:=I7 m1 (aQ _ _);exact Nj (r:=C) m4 (oX DK) DK MT hyC
  dsimp only [id_eq,Nat.reduceAdd]
  with_reducible apply aq (F:=fun β=>.tuple #[β 6,.q 0])
  case hr=>(intro β;exact aX (.of I))
  case hi=>exact fun β β' h=>by simp only [h 6 (by kernel_rfl)]
  case hd=>rfl
  dsimp only [Nat.reduceAdd]
  with_reducible apply aq (F:=fun β=>β 6)
  case hr=>(intro β;exact di (.of I) I)
  case hi=>exact fun β β' h=>by simp only [h 6 (by kernel_rfl)]
  case hd=>rfl
  dsimp only [Nat.reduceAdd]
  with_reducible apply aq (F:=fun β=>.q 0)
  case hr=>(intro β;exact di (.of I) I)
  case hi=>exact br
  case hd=>rfl
  dsimp only [Nat.reduceAdd]
  with_reducible apply aq (F:=fun β=>β 6)
  case hr=>(intro β;exact cS (.of I))
  case hi=>exact fun β β' h=>by simp only [h 6 (by kernel_rfl)]
  case hd=>rfl
  dsimp only [Nat.reduceAdd]
  with_reducible apply aq (F:=fun β=>.q 0)
  case hr=>(intro β;exact cS (.of I))
  case hi=>exact br
  case hd=>rfl
  dsimp only [Nat.reduceAdd];refine fo fun β=>?_;unfold oA DE;dsimp only [eB,Za,Zb,List.append_eq,Nat.reduceAdd];generalize β 6=xw;generalize g4 (β 1)=y1;generalize g4 (β 2)=y2;clear β
  with_reducible refine cM (by kernel_rfl) ?_
  refine cz [row 9 1 (xw) ((oz C (v:Nat) y).length) (aJ (oz C (v:Nat) y)),bo b29 (.cells #[.string y,.q mx,.bool pr] 88 (0,0)),row 9 1 (.w gb BL.length vc) (BL.length) (aJ (BL)),row 9 1 (.w gn r.lv.toNat nc) (r.lv.toNat) (aJ ((List.replicate r.lv.toNat (⟨#[]⟩:ByteArray)))),bo DP (.cells #[.q (C).lv,.q (C).ma,s4,d4,t4,p4] 41 (0,0)),J1 (C) s4,J2 (C) d4,J3 (C) t4,J4 (C) p4,row 9 1 (xb) (r.lv.toNat) (aJ (B0)),JQ b2 r s (.slice da r.de.length oe) t p] (by exact .cons fW (.cons fW (.cons fW (.cons fW (.cons fW (.cons fW (.cons fW (.cons fW (.cons fW (.cons fW (.cons fW .nil))))))))))) ?_;generalize hTT:oz C (v:Nat) y=T at OL ⊢;obtain ⟨b,hb⟩:∃ b,fv T tn=b:=⟨_,rfl⟩;have Sv:=OL b (by rw [<- hb];exact dZ);cases u
  ·skip
   (refine Jt<|Jq<|Jr<|Jv I<|ab (eI (.of I) (.of I) I) I<|Jn<|bE (.of I)<|Jk<|Jg<|Jv I<|Jv I<|JK I I<|Jv I<|JK I I<|Jv I<|JK I I ?_)
   refine ai ba I (fun w1 aG=>Lw (dz (l:=T) aG (by exact .here) I) hb) ?_;cases b
   ·skip
    (refine ab (du (.of I) (.of I) (.of I) I) I<|Ja I<|Jx<|Jj<|Jt<|Jg<|JB I (by omega)<|Jv I<|Jn ?_)
    apply aL (k+1,false) ⟨Zbc aN,by simpa using Sv⟩ (show r.de.length-(k+1)<r.de.length-k by omega)
    case hs1=>exact cu
    case ht=>exact .cons bF (.cons bF (.cons bF (.cons bF (.cons bF (.cons bF (.cons bF (.cons bF (.cons bF .nil))))))))
   (refine ab (du (.of I) (.of I) (.of I) I) I<|Ja I<|Jx<|Jj<|Jt<|Jg<|JB I (by omega)<|Jv I<|Jn ?_)
   apply aL (k+1,true) ⟨Zbc aN,by simpa using Sv⟩ (show r.de.length-(k+1)<r.de.length-k by omega)
   case hs1=>exact cu
   case ht=>exact .cons bF (.cons bF (.cons bF (.cons bF (.cons bF (.cons bF (.cons bF (.cons bF (.cons bF .nil))))))))
  (refine Jt<|Jq<|Jr<|Jv I<|ab (eI (.of I) (.of I) I) I<|Jn<|bE (.of I)<|Jk<|Jg<|Jv I<|Jv I<|iT I I I I<|iT I I I I<|dx I I I I<|ab (du (.of I) (.of I) (.of I) I) I<|Ja I<|Jx<|Jj<|Jt<|Jg<|JB I (by omega)<|Jv I<|Jn ?_)
  apply aL (k+1,true) ⟨Zbc aN,by simpa using Sv⟩ (show r.de.length-(k+1)<r.de.length-k by omega)
  case hs1=>exact cu
  case ht=>exact .cons bF (.cons bF (.cons bF (.cons bF (.cons bF (.cons bF (.cons bF (.cons bF (.cons bF .nil))))))))
 rintro ⟨⟩ _
 try dsimp only
 refine Jr<|ab (cK (.there .here)) I ?_;refine JN bz I (fun w1 aG=>eS (h.keeps aG.keeps) Pb) ?_;rintro ⟨o16,q16,u16,v16⟩ _
 try dsimp only [id_eq,Zb,Za]
 refine cn (r:=r) (s:=o16) (d:=q16) (t:=u16) (p:=v16) (aQ _ _) fun _ _ _ _=>?_;refine xi I I ?_;refine JN bz I (fun w1 aG=>uV (Rd.keeps hw aG.keeps) (hM.keeps aG.keeps) (by omega) EP) ?_;rintro ⟨gv2,W2⟩ hW2
 try dsimp only [id_eq,Zb,Za]
 dsimp only at hW2 ⊢
 skip
 refine JN ba I (fun w1 aG=>I3 hX hW2 ⟨bM aG bF I,bN aG cA I,bL aG df I,bJ aG eG I⟩ hF (im aG (by exact .here) I) (Ia aG (by exact Take.there .here))) ?_;rintro ⟨s5,d5,t5,p5⟩ _
 try dsimp only [id_eq,Zb,Za]
 refine cn (r:=X) (s:=s5) (d:=d5) (t:=t5) (p:=p5) (aQ _ _) fun _ _ _ _=>?_
 (refine Jv I<|JJ I I<|JJ I I<|JJ I I<|Jz I I fun _ _=>an (.of I) (.of I) .here I I (aM I (aM I (aM (by assumption) (aM (by assumption) (aM (by assumption) (aM (by assumption) dT)))))) (bG I) ak<|Ja I<|Ja I<|Ji<|ab (cK kV) I ?_)
 rename_i b32 ahX;refine cz [bo b32 (.cells #[.q (X).lv,.q (X).ma,s5,d5,t5,p5] 41 (0,0)),J1 (X) s5,J2 (X) d5,J3 (X) t5,J4 (X) p5,row 9 1 (xb) (r.lv.toNat) (aJ (B0)),JQ b2 r s (.slice da r.de.length oe) t p] (by exact .h5 (.cons kU (.cons kU .nil))) ?_;refine JN bz I (fun w1 aG=>eS (h.keeps aG.keeps) Pb) ?_;rintro ⟨o17,q17,u17,v17⟩ _
 try dsimp only [id_eq,Zb,Za]
 refine cn (r:=r) (s:=o17) (d:=q17) (t:=u17) (p:=v17) (aQ _ _) fun _ _ _ _=>?_;refine xi I I ?_;refine JN bz I (fun w1 aG=>uV (Rd.keeps hw aG.keeps) (hM.keeps aG.keeps) (by omega) EP) ?_;rintro ⟨gv3,W3⟩ hW3
 try dsimp only [id_eq,Zb,Za]
 dsimp only at hW3 ⊢
 skip
 refine JN ba I (fun w1 aG=>Up ((congrArg (fT r) hW3).trans hX) (congrArg (zw r) hW3) ⟨bM aG bF I,bN aG cA I,bL aG df I,bJ aG eG I⟩ hF (im aG (by exact .here) I) (Ia aG (by exact Take.there .here))) ?_;rintro ⟨u,U⟩ hU
 try dsimp only [id_eq,Zb,Za]
 dsimp only at hU ⊢
 (refine Jv I<|JJ I I<|JJ I I<|Ja I<|Ja I<|Jn<|Jq<|Jr<|Jv I<|Jv I<|ab (eI (.of I) (.of I) I) I<|Jv I<|JK I I<|Jv I<|JK I I<|JD I ?_)
 refine ab (du (.of I) (.of I) (.of I) I) I ?_
 (refine Jn<|gB I (fun ar=>?_) fun ar=>?_;refine Jr<|Jv I<|Jv I<|ab (rC (.of I) (.of I) I) I<|Ja I<|Jn<|Ju<|JT ?_;rotate_left;refine Jk<|Jq<|Jq ?_;rotate_right)
 ·rfl
 have hE0:Ex=0:=Zq.1 ar;obtain ⟨T7,VD,T9,huu,Yp,B,J,F,hB,hBF⟩:=Ng dD hx hX hE0;have Wb:=hU.trans huu;obtain ⟨HB,Wc⟩:=j7.1 Yp;have hsU:=NF dD Wc;generalize (cq l).map (jr r)=L2 at Wb Yp hB Wc hsU HB;have hf4:∀ t∈L2,t.so.length<=1000:=fun t ht=>by have:=Wc.lv t ht;omega
 obtain ⟨hU9,hU4⟩:=tkf Wb Wc.y6 hf4;clear huu HB;refine cz [row 78 2 u U.length (gL U).flatten,DX U,bo b32 (.cells #[.int .i64 (X).lv,.int .i64 (X).ma,s5,d5,t5,p5] 41 (0,0)),J1 (X) s5,J2 (X) d5,J3 (X) t5,J4 (X) p5,row 9 1 (xb) (r.lv.toNat) (aJ (B0)),JQ b2 r s (.slice da r.de.length oe) t p] (by exact .h2 (.cons kU (.cons kU (.cons kU (.cons kU (.cons kU (.cons kU (.cons kU .nil)))))))) ?_
 with_reducible refine dP 17 (by kernel_rfl) ?_
 refine aq (fun β=>(bV (.of I) bF ak (by rfl))) br I ?_;dsimp only [Nat.zero_add,Nat.reduceAdd]
 with_reducible apply dW (ι:=Value×Value×Value×Value) (Φ:=fun _=>True) (val:=fun x=>.agg #[.q X.lv,.q X.ma,x.1,x.2.1,x.2.2.1,x.2.2.2]) (own:=fun x=>DE X x) (g:=g4) (B:=[]) (args:=fun β=>[.agg #[.q X.lv,.q X.ma,s5,d5,t5,p5]])
 case hg=>exact oV
 case hB=>first | rfl | kernel_rfl
 case hr=>exact fun β=>aZ (.of I) (.o I .nil) inferInstance I
 case hd=>rfl
 case hc=>
  intro β w' hb;have m0:=hb.mem;exact jz (r:=X) ⟨bM m0 cA I,bN m0 df I,bL m0 eG I,bJ m0 kU I⟩ (dE T7)
 dsimp only [Nat.reduceAdd]
 with_reducible apply cy (B:=[1]) (F:=fun _=>.q 0) (args:=fun β=>[.agg #[.q X.lv,.q X.ma,(g4 (β 1)).1,(g4 (β 1)).2.1,(g4 (β 1)).2.2.1,(g4 (β 1)).2.2.2]])
 case hB=>first | rfl | kernel_rfl
 case hr=>exact fun β=>aZ (.of I) ((.o I .nil)) inferInstance I
 case hi=>exact br
 case hd=>rfl
 case hc=>
  intro β w' hb;have m1:=hb.at 1 Zr I;dsimp only at m1;have m4:=Ce m1 (aQ _ _);exact mD m4 (dE T7) T7
 dsimp only [Nat.reduceAdd];refine aq (fun β=>(gU (.of I) (.of I))) br I ?_;refine aq (fun β=>(aX (.of I))) br I ?_
 (refine cd I (fun _=>rfl)<|aq (fun β=>(aX (.of I))) br I ?_)
 dsimp only [Nat.zero_add,Nat.reduceAdd];refine cd I (fun _=>rfl) ?_
 with_reducible apply dW (ι:={x:Value×List eN // cq x.2=cq U}) (Φ:=fun _=>True) (val:=fun z=>z.1.1) (own:=fun z=>[row 69 2 z.1.1 z.1.2.length (gL z.1.2).flatten,DX z.1.2]) (g:=Pe U) (B:=[]) (args:=fun _=>[u])
 case hg=>exact LF U
 case hB=>rfl
 case hr=>exact fun β=>aZ (.of I) (.o I .nil) inferInstance I
 case hd=>rfl
 case hc=>
  intro β w' hb;have m0:=hb.mem;exact bb.sub (uz (im m0 (by exact .here) I) (Ia m0 (by exact Take.there .here)) hU9 hU4)
 dsimp only [Nat.reduceAdd];refine cd I (fun _=>rfl) ?_
 with_reducible apply cy (B:=[6]) (F:=fun _=>.bool true) (args:=fun β=>[(Pe U (β 6)).1.1])
 case hB=>first | rfl | kernel_rfl
 case hr=>exact fun β=>aZ (.of I) ((.o I .nil)) inferInstance I
 case hi=>exact br
 case hd=>rfl
 case hc=>
  intro β w' hb;have m1:=hb.at 6 Zr I;dsimp only [Zb,Za] at m1;exact UA ((congrArg sE ((Pe U (β 6)).2.trans Wb)).trans hsU) (im m1 .here I) (Ia m1 (.there .here))
 dsimp only [Nat.reduceAdd]
 (refine cd I (fun _=>rfl)<|aq (fun β=>(dX (.of I))) br I ?_)
 refine aq (fun β=>(du (.of I) (.of I) (.of I) I)) br I ?_;refine aq (fun β=>(aX (.of I))) br I ?_
 (refine cd I (fun _=>rfl)<|aq (fun β=>(bV (.of I) fW ak (by rfl))) br I ?_)
 (refine cd I (fun _=>rfl)<|aq (fun β=>(aX (.of I))) br I ?_)
 dsimp only [Nat.zero_add,Nat.reduceAdd];refine cd I (fun _=>rfl) ?_
 with_reducible apply dW (ι:={x:Value×List eN // cq x.2=cq U}) (Φ:=fun _=>True) (val:=fun z=>z.1.1) (own:=fun z=>[row 69 2 z.1.1 z.1.2.length (gL z.1.2).flatten,DX z.1.2]) (g:=Pe U) (B:=[]) (args:=fun _=>[u])
 case hg=>exact LF U
 case hB=>rfl
 case hr=>exact fun β=>aZ (.of I) (.o I .nil) inferInstance I
 case hd=>rfl
 case hc=>
  intro β w' hb;have m0:=hb.mem;exact bb.sub (uz (im m0 (by exact .here) I) (Ia m0 (by exact Take.there .here)) hU9 hU4)
 dsimp only [Nat.reduceAdd];refine cd I (fun _=>rfl) ?_
 with_reducible apply cy (B:=[13]) (F:=fun _=>.q 0) (args:=fun β=>[.agg #[.q r.lv,.q r.ma,s,.slice da r.de.length oe,t,p],(Pe U (β 13)).1.1])
 case hB=>first | rfl | kernel_rfl
 case hr=>exact fun β=>aZ (.of I) ((.o I (.o I .nil))) inferInstance I
 case hi=>exact br
 case hd=>rfl
 case hc=>
  intro β w' hb;have m1:=hb.at 13 Zr I;dsimp only [Zb,Za] at m1;exact abn ((congrArg (qy r) ((Pe U (β 13)).2.trans Wb)).trans Yp) (h.keeps hb.mem.keeps) (im m1 .here I) (Ia m1 (.there .here))
 dsimp only [Nat.reduceAdd]
 (refine cd I (fun _=>rfl)<|aq (fun β=>(gU (.of I) (.of I))) br I ?_)
 refine aq (fun β=>(du (.of I) (.of I) (.of I) I)) br I ?_;dsimp only [Nat.zero_add,Nat.reduceAdd];refine fo fun β=>?_;unfold DE;dsimp only [eB,Za,Zb,List.append_eq,Nat.reduceAdd];generalize g4 (β 1)=ya;generalize Pe U (β 6)=yb;generalize Pe U (β 13)=yc;clear β
 with_reducible refine cM (by kernel_rfl) ?_
 refine cz [row 78 2 u U.length (gL U).flatten,DX U,bo b32 (.cells #[.q (X).lv,.q (X).ma,s5,d5,t5,p5] 41 (0,0)),J1 (X) s5,J2 (X) d5,J3 (X) t5,J4 (X) p5,row 9 1 (xb) (r.lv.toNat) (aJ (B0)),JQ b2 r s (.slice da r.de.length oe) t p] (by exact .cons fW (.cons fW (.cons fW (.cons fW (.cons fW (.cons fW (.cons fW (.cons fW (.cons fW .nil))))))))) ?_
 (refine Jt<|bE (.of I)<|Jk<|Jr<|ab (cK bF) I ?_)
 refine JN bz I (fun w1 aG=>jz (r:=X) ⟨bM aG cA I,bN aG df I,bL aG eG I,bJ aG kU I⟩ (dE T7)) ?_;rintro ⟨o18,q18,u18,v18⟩ _
 try dsimp only [id_eq,Zb,Za]
 refine gi (r:=X) (s:=o18) (d:=q18) (t:=u18) (p:=v18) (aQ _ _) fun _ _ _ _=>?_
 skip
 refine JN bz I (fun w1 aG=>eS (r:=X) ⟨bM aG (by exact .here) I,bN aG (by exact Take.there .here) I,bL aG bF I,bJ aG cA I⟩ (dE T7)) ?_;rintro ⟨o19,q19,u19,v19⟩ _
 try dsimp only [id_eq,Zb,Za]
 refine cn (r:=X) (s:=o19) (d:=q19) (t:=u19) (p:=v19) (aQ _ _) fun _ _ _ _=>?_;refine xi I I ?_;refine JN bz I (fun w1 aG=>uz (im aG fW I) (Ia aG iS) hU9 hU4) ?_;rintro ⟨tv,T⟩ hTv
 try dsimp only [id_eq,Zb,Za]
 dsimp only at hTv ⊢;have hTn:=hTv.trans Wb;obtain ⟨hT9,hT4⟩:=tkf hTn Wc.y6 hf4
 skip
 refine JN bz I (fun w1 aG=>uV (im aG (by exact .here) I) (Ia aG (by exact Take.there .here)) hT9 hT4) ?_;rintro ⟨gv4,W4⟩ hW4
 try dsimp only [id_eq,Zb,Za]
 dsimp only at hW4 ⊢;have aaZ:=hW4.trans hTn
 skip
 refine JN ba I (fun w1 aG=>I3 hB aaZ ⟨bM aG df I,bN aG eG I,bL aG kU I,bJ aG uZ I⟩ (oX T7) (im aG (by exact .here) I) (Ia aG (by exact Take.there .here))) ?_;rintro ⟨s6,d6,t6,p6⟩ _
 try dsimp only [id_eq,Zb,Za]
 refine cn (r:=B) (s:=s6) (d:=d6) (t:=t6) (p:=p6) (aQ _ _) fun _ _ _ _=>?_;rcases hBF with rfl | ⟨rfl,VK,Qn,XB,hhb⟩
 ·(refine Jv I<|JJ I I<|JJ I I<|JJ I I<|Jz I I fun _ _=>an (.of I) (.of I) .here I I (aM I (aM I (aM (by assumption) (aM (by assumption) (aM (by assumption) (aM (by assumption) dT)))))) (bG I) ak<|Ja I<|Ja I<|Jn<|Jq<|Jr<|Jv I<|JD I<|Jn<|Jd I fun ar=>Jr<|Jv I<|ab (rC (.of I) (.of I) I) I<|Ja I<|Jn<|Ju<|JT ?_)
  rfl
 (refine Jv I<|JJ I I<|JJ I I<|JJ I I<|Jz I I fun _ _=>an (.of I) (.of I) .here I I (aM I (aM I (aM (by assumption) (aM (by assumption) (aM (by assumption) (aM (by assumption) dT)))))) (bG I) ak<|Ja I<|Ja I<|Jn<|Jq<|Jr<|Jv I<|ab (eI (.of I) (.of I) I) I<|Jn<|bE (.of I)<|Jk<|Jq<|Jr<|bP I I ae<|JL I (.there (.there (.there (.there (.there (.there (.there (.there (.there lJ))))))))) I<|JI I<|Jv I<|Jn<|J0 ?_)
 rename_i WO ahW;refine cz [bo WO (.cells #[.q (B).lv,.q (B).ma,s6,d6,t6,p6] 41 (0,0)),J1 (B) s6,J2 (B) d6,J3 (B) t6,J4 (B) p6,row 9 1 (xb) (r.lv.toNat) (aJ (B0)),JQ b2 r s (.slice da r.de.length oe) t p] (by exact .h5 (.cons (.there (.there (.there lJ))) (.cons (.there (.there (.there lJ))) .nil))) ?_
 skip
 refine a7 (ι:=Nat) (fun k=>k<=r.de.length) (fun k=>[(300,.q (k:Nat)),(299,.q (r.de.length:Nat)),(298,.slice da r.de.length oe),(37,.p WO),(6,xb),(5,.string dn),(1,.slice a l.length cp),(2,.p b2)]) (fun k=>[bo WO (.cells #[.q (B).lv,.q (B).ma,s6,d6,t6,p6] 41 (0,0)),J1 (B) s6,J2 (B) d6,J3 (B) t6,J4 (B) p6,row 9 1 (xb) (r.lv.toNat) (aJ (B0)),JQ b2 r s (.slice da r.de.length oe) t p]) (fun k=>r.de.length-k) ?_ ?_
 ·apply aI 0 (show 0<=r.de.length from Zi _)
  case hs1=>exact cu
  case ht=>exact ng
 intro k hk
 try dsimp only at hk ⊢
 by_cases aN:k<r.de.length
 ·have S1:=hda (gI aN);have aB:=(xr k _ (fm aN)).2;have hy:(r.de[k]).nm∈bU r:=ZU (Zj aN);unfold De.cells at aB;generalize (r.de[k]).nm=y at hy aB;generalize (r.de[k]).mx=mx at aB;generalize (r.de[k]).pr=pr at aB;have hyB:y∈bU B:=by rw [XB];exact hy
  have VG:B.lv.toNat=r.lv.toNat:=by rw [Qn]
  (refine Jr<|JA I<|Jn<|Jq<|Jd I fun ar=>Jk<|Jq<|J0<|Jr<|ab (au (.of I) (.of I) S1 (by omega) ar bn) I<|ab (iA (eV.base aB I)) I<|Jz I I fun _ _=>an (.of I) (.of I) .here I I (fq I I I) (bG I) ak<|Jn<|Jq ?_)
  rename_i b41 ahV
  with_reducible refine dP 10 (by kernel_rfl) ?_
  refine aq (fun β=>(bV (.of I) uZ ak (by rfl))) br I ?_;dsimp only [Nat.zero_add,Nat.reduceAdd]
  with_reducible apply dW (ι:=Value×Value×Value×Value) (Φ:=fun _=>True) (val:=fun x=>.agg #[.q r.lv,.q r.ma,x.1,x.2.1,x.2.2.1,x.2.2.2]) (own:=fun x=>oA r x) (g:=g4) (B:=[]) (args:=fun β=>[.agg #[.q r.lv,.q r.ma,s,.slice da r.de.length oe,t,p]])
  case hg=>exact oV
  case hB=>first | rfl | kernel_rfl
  case hr=>exact fun β=>aZ (.of I) (.o I .nil) inferInstance I
  case hd=>rfl
  case hc=>
   intro β w' hb;exact eS (h.keeps hb.mem.keeps) Pb
  dsimp only [Nat.reduceAdd]
  (refine aq (fun β=>(az (.of I) ae)) br I<|aq (fun β=>(ag (.of I) (At.lit .here I))) br I ?_)
  dsimp only [Nat.zero_add,Nat.reduceAdd]
  with_reducible apply dW (ι:=Value) (Φ:=fun _=>True) (val:=fun x=>.tuple #[x,.q 0]) (own:=fun x=>[row 9 1 x (r.lv.toNat) (aJ (bH r y))]) (g:=id) (B:=[1]) (args:=fun β=>[.agg #[.q r.lv,.q r.ma,(g4 (β 1)).1,(g4 (β 1)).2.1,(g4 (β 1)).2.2.1,(g4 (β 1)).2.2.2],.string y])
  case hg=>exact fun x=>⟨x,I⟩
  case hB=>kernel_rfl
  case hr=>exact fun β=>aZ (.of I) ((.o I (.o I .nil))) inferInstance I
  case hd=>rfl
  case hc=>
   intro β w' hb;have m1:=hb.at 1 Zr I;dsimp only at m1;have m4:=I7 m1 (aQ _ _);exact Ln (r:=r) m4 hF dD hy
  dsimp only [id_eq,Nat.reduceAdd]
  with_reducible apply aq (F:=fun β=>.tuple #[β 4,.q 0])
  case hr=>(intro β;exact aX (.of I))
  case hi=>exact fun β β' h=>by simp only [h 4 (by kernel_rfl)]
  case hd=>rfl
  dsimp only [Nat.reduceAdd]
  with_reducible apply aq (F:=fun β=>β 4)
  case hr=>(intro β;exact di (.of I) I)
  case hi=>exact fun β β' h=>by simp only [h 4 (by kernel_rfl)]
  case hd=>rfl
  dsimp only [Nat.reduceAdd]
  with_reducible apply aq (F:=fun β=>.q 0)
  case hr=>(intro β;exact di (.of I) I)
  case hi=>exact br
  case hd=>rfl
  dsimp only [Nat.reduceAdd]
  with_reducible apply aq (F:=fun β=>β 4)
  case hr=>(intro β;exact cS (.of I))
  case hi=>exact fun β β' h=>by simp only [h 4 (by kernel_rfl)]
  case hd=>rfl
  dsimp only [Nat.reduceAdd]
  with_reducible apply aq (F:=fun β=>.q 0)
  case hr=>(intro β;exact cS (.of I))
  case hi=>exact br
  case hd=>rfl
  dsimp only [Nat.reduceAdd];refine fo fun β=>?_;unfold oA;dsimp only [eB,Za,Zb,List.append_eq,Nat.reduceAdd];generalize β 4=xc;generalize g4 (β 1)=y1;clear β
  with_reducible refine cM (by kernel_rfl) ?_
  refine cz [row 9 1 (xc) (r.lv.toNat) (aJ (bH r y)),bo b41 (.cells #[.string y,.q mx,.bool pr] 88 (0,0)),bo WO (.cells #[.q (B).lv,.q (B).ma,s6,d6,t6,p6] 41 (0,0)),J1 (B) s6,J2 (B) d6,J3 (B) t6,J4 (B) p6,row 9 1 (xb) (r.lv.toNat) (aJ (B0)),JQ b2 r s (.slice da r.de.length oe) t p] (by exact .cons df (.cons df (.cons df (.cons df (.cons df (.cons df (.cons df (.cons df (.cons df .nil))))))))) ?_;refine Jt<|Jq ?_
  with_reducible refine dP 11 (by kernel_rfl) ?_
  refine aq (fun β=>(bV (.of I) bF ak (by rfl))) br I ?_;dsimp only [Nat.zero_add,Nat.reduceAdd]
  with_reducible apply dW (ι:=Value×Value×Value×Value) (Φ:=fun _=>True) (val:=fun x=>.agg #[.q B.lv,.q B.ma,x.1,x.2.1,x.2.2.1,x.2.2.2]) (own:=fun x=>DE B x) (g:=g4) (B:=[]) (args:=fun β=>[.agg #[.q B.lv,.q B.ma,s6,d6,t6,p6]])
  case hg=>exact oV
  case hB=>first | rfl | kernel_rfl
  case hr=>exact fun β=>aZ (.of I) (.o I .nil) inferInstance I
  case hd=>rfl
  case hc=>
   intro β w' hb;have m0:=hb.mem;exact jz (r:=B) ⟨bM m0 cA I,bN m0 df I,bL m0 eG I,bJ m0 kU I⟩ (dE VK)
  dsimp only [Nat.reduceAdd]
  with_reducible apply dW (ι:=Value×Value×Value×Value) (Φ:=fun _=>True) (val:=fun x=>.agg #[.q B.lv,.q B.ma,x.1,x.2.1,x.2.2.1,x.2.2.2]) (own:=fun x=>oA B x) (g:=g4) (B:=[1]) (args:=fun β=>[.agg #[.q B.lv,.q B.ma,(g4 (β 1)).1,(g4 (β 1)).2.1,(g4 (β 1)).2.2.1,(g4 (β 1)).2.2.2]])
  case hg=>exact oV
  case hB=>first | rfl | kernel_rfl
  case hr=>exact fun β=>aZ (.of I) (.o I .nil) inferInstance I
  case hd=>rfl
  case hc=>
   intro β w' hb;have m1:=hb.at 1 Zr I;dsimp only at m1;have m4:=Ce m1 (aQ _ _);exact eS m4 (dE VK)
  dsimp only [Nat.reduceAdd]
  (refine aq (fun β=>(az (.of I) ae)) br I<|aq (fun β=>(ag (.of I) (At.lit (.there .here) I))) br I ?_)
  dsimp only [Nat.zero_add,Nat.reduceAdd]
  with_reducible apply dW (ι:=Value) (Φ:=fun _=>True) (val:=fun x=>.tuple #[x,.q 0]) (own:=fun x=>[row 9 1 x (r.lv.toNat) (aJ (bH B y))]) (g:=id) (B:=[2]) (args:=fun β=>[.agg #[.q B.lv,.q B.ma,(g4 (β 2)).1,(g4 (β 2)).2.1,(g4 (β 2)).2.2.1,(g4 (β 2)).2.2.2],.string y])
  case hg=>exact fun x=>⟨x,I⟩
  case hB=>kernel_rfl
  case hr=>exact fun β=>aZ (.of I) ((.o I (.o I .nil))) inferInstance I
  case hd=>rfl
  case hc=>
   intro β w' hb;have m1:=hb.at 2 Zr I;dsimp only at m1;have m4:=I7 m1 (aQ _ _);exact wh I VG m4 VK hyB
  dsimp only [id_eq,Nat.reduceAdd]
  with_reducible apply aq (F:=fun β=>.tuple #[β 5,.q 0])
  case hr=>(intro β;exact aX (.of I))
  case hi=>exact fun β β' h=>by simp only [h 5 (by kernel_rfl)]
  case hd=>rfl
  dsimp only [Nat.reduceAdd]
  with_reducible apply aq (F:=fun β=>β 5)
  case hr=>(intro β;exact di (.of I) I)
  case hi=>exact fun β β' h=>by simp only [h 5 (by kernel_rfl)]
  case hd=>rfl
  dsimp only [Nat.reduceAdd]
  with_reducible apply aq (F:=fun β=>.q 0)
  case hr=>(intro β;exact di (.of I) I)
  case hi=>exact br
  case hd=>rfl
  dsimp only [Nat.reduceAdd]
  with_reducible apply aq (F:=fun β=>β 5)
  case hr=>(intro β;exact cS (.of I))
  case hi=>exact fun β β' h=>by simp only [h 5 (by kernel_rfl)]
  case hd=>rfl
  dsimp only [Nat.reduceAdd]
  with_reducible apply aq (F:=fun β=>.q 0)
  case hr=>(intro β;exact cS (.of I))
  case hi=>exact br
  case hd=>rfl
  dsimp only [Nat.reduceAdd];refine fo fun β=>?_;unfold oA DE;dsimp only [eB,Za,Zb,List.append_eq,Nat.reduceAdd];generalize β 5=xe;generalize g4 (β 1)=y1;generalize g4 (β 2)=y2;clear β
  with_reducible refine cM (by kernel_rfl) ?_
  refine cz [row 9 1 (xe) (r.lv.toNat) (aJ (bH B y)),row 9 1 (xc) (r.lv.toNat) (aJ (bH r y)),bo b41 (.cells #[.string y,.q mx,.bool pr] 88 (0,0)),bo WO (.cells #[.q (B).lv,.q (B).ma,s6,d6,t6,p6] 41 (0,0)),J1 (B) s6,J2 (B) d6,J3 (B) t6,J4 (B) p6,row 9 1 (xb) (r.lv.toNat) (aJ (B0)),JQ b2 r s (.slice da r.de.length oe) t p] (by exact .cons fW (.cons fW (.cons fW (.cons fW (.cons fW (.cons fW (.cons fW (.cons fW (.cons fW (.cons fW .nil)))))))))) ?_
  (refine Jt<|Jr<|Jv I<|ab (eI (.of I) (.of I) I) I<|Jv I<|JK I I<|Jv I<|JK I I<|ab (eI (.of I) (.of I) I) I<|ab (du (.of I) (.of I) (.of I) I) I<|Jv I<|JK I I<|Jv I<|JK I I<|Jv I<|JK I I ?_)
  refine ai ba I (fun w1 aG=>zV (dz (l:=bH r y) (n:=r.lv.toNat) aG (by exact Take.there .here) (jY _ _)) (dz (l:=bH B y) (n:=r.lv.toNat) aG (by exact .here) (by rw [jY];exact VG)) (hhb y hy).symm) ?_
  (refine JK I I<|JH I<|ab (du (.of I) (.of I) (.of I) I) I<|Jn<|bE (.of I)<|Jw<|Jj<|Jt<|Jg<|JB I (by omega)<|Jv I<|Jn ?_)
  apply aL (k+1) (show k+1<=r.de.length from aN) (show r.de.length-(k+1)<r.de.length-k by omega)
  case hs1=>exact cu
  case ht=>exact .cons cA (.cons cA (.cons cA (.cons cA (.cons cA (.cons cA (.cons cA .nil))))))
 obtain rfl:k=r.de.length:=by omega
 refine Jr<|JA I<|Jn<|Jq<|Jc I fun ar=>Jp<|Jl<|Jo<|Jt<|Jq<|Jr<|ab (cK kU) I ?_;refine cz [row 9 1 (xb) (r.lv.toNat) (aJ (B0)),JQ b2 r s (.slice da r.de.length oe) t p] (by exact .cons eG (.cons eG .nil)) ?_;refine JN bz I (fun w1 aG=>Az (h.keeps aG.keeps) Pb) ?_;rintro nv _
 try dsimp only [id_eq,Zb,Za]
 obtain ⟨bm,Qz⟩:∃ b,fv (bW r) (⟨#[109,111,114,101]⟩:ByteArray)=b:=⟨_,rfl⟩
 skip
 refine ai ba I (fun w1 aG=>Lw (dz (l:=bW r) aG (by exact .here) I) Qz) ?_;cases bm
 rotate_left
 ·(refine Jn<|cL (.of I)<|Jr<|Ja I<|Jn<|Ju<|JT ?_)
  rfl
 have hmA:(⟨#[109,111,114,101]⟩:ByteArray) ∉ bW r:=fun c=>by rw [dZ.2 c] at Qz;cases Qz
 obtain ⟨N,hN1,hN2,T8,CX,hmN,hhn,hN3,hN4⟩:=N0 (m:=⟨#[109,111,114,101]⟩) dD hd hmA (by decide +kernel);have Y5:N.lv.toNat=r.lv.toNat:=by rw [CX]
 (refine Jn<|bE (.of I)<|Jk<|Jr<|ab (cK bF) I ?_)
 refine cz [row 9 1 (xb) (r.lv.toNat) (aJ (B0)),JQ b2 r s (.slice da r.de.length oe) t p] (by exact .cons (.there .here) (.cons (.there .here) .nil)) ?_;refine JN bz I (fun w1 aG=>eS (h.keeps aG.keeps) Pb) ?_;rintro ⟨o20,q20,u20,v20⟩ _
 try dsimp only [id_eq,Zb,Za]
 refine cn (r:=r) (s:=o20) (d:=q20) (t:=u20) (p:=v20) (aQ _ _) fun _ _ _ _=>?_;refine xi I I ?_;refine JN eK I (fun w1 aG=>P5 hN1 hN2 ⟨bM aG (by exact .here) I,bN aG (by exact Take.there .here) I,bL aG bF I,bJ aG cA I⟩ hF) ?_;rintro ⟨s7,d7,t7,p7⟩ _
 try dsimp only [id_eq,Zb,Za]
 refine cn (r:=N) (s:=s7) (d:=d7) (t:=t7) (p:=p7) (aQ _ _) fun _ _ _ _=>?_
 (refine Jv I<|JJ I I<|JJ I I<|Jz I I fun _ _=>an (.of I) (.of I) .here I I (aM I (aM I (aM (by assumption) (aM (by assumption) (aM (by assumption) (aM (by assumption) dT)))))) (bG I) ak<|Ja I<|Ji<|ab (cK .here) I ?_)
 rename_i b46 ahU;refine cz [bo b46 (.cells #[.q (N).lv,.q (N).ma,s7,d7,t7,p7] 41 (0,0)),J1 (N) s7,J2 (N) d7,J3 (N) t7,J4 (N) p7,row 9 1 (xb) (r.lv.toNat) (aJ (B0)),JQ b2 r s (.slice da r.de.length oe) t p] (by exact .h5 (.cons df (.cons df .nil))) ?_;refine JN bz I (fun w1 aG=>jz (r:=N) ⟨bM aG (by exact Take.there .here) I,bN aG bF I,bL aG cA I,bJ aG df I⟩ (dE T8)) ?_;rintro ⟨o21,q21,u21,v21⟩ _
 try dsimp only [id_eq,Zb,Za]
 refine gi (r:=N) (s:=o21) (d:=q21) (t:=u21) (p:=v21) (aQ _ _) fun _ _ _ _=>?_
 skip
 refine JN bz I (fun w1 aG=>eS (r:=N) ⟨bM aG (by exact .here) I,bN aG (by exact Take.there .here) I,bL aG bF I,bJ aG cA I⟩ (dE T8)) ?_;rintro ⟨o22,q22,u22,v22⟩ _
 try dsimp only [id_eq,Zb,Za]
 refine cn (r:=N) (s:=o22) (d:=q22) (t:=u22) (p:=v22) (aQ _ _) fun _ _ _ _=>?_;refine xi I I ?_;refine JN eK I (fun w1 aG=>P5 hN3 hN4 ⟨bM aG (by exact .here) I,bN aG (by exact Take.there .here) I,bL aG bF I,bJ aG cA I⟩ (oX T8)) ?_;rintro ⟨s8,d8,t8,p8⟩ _
 try dsimp only [id_eq,Zb,Za]
 refine cn (r:=r) (s:=s8) (d:=d8) (t:=t8) (p:=p8) (aQ _ _) fun _ _ _ _=>?_
 (refine Jv I<|JJ I I<|JJ I I<|Jz I I fun _ _=>an (.of I) (.of I) .here I I (aM I (aM I (aM (by assumption) (aM (by assumption) (aM (by assumption) (aM (by assumption) dT)))))) (bG I) ak<|Ja I<|Ji<|ab (cK uu) I ?_)
 rename_i b48 ahT;refine cz [bo b48 (.cells #[.q (r).lv,.q (r).ma,s8,d8,t8,p8] 41 (0,0)),J1 (r) s8,J2 (r) d8,J3 (r) t8,J4 (r) p8,bo b46 (.cells #[.q (N).lv,.q (N).ma,s7,d7,t7,p7] 41 (0,0)),J1 (N) s7,J2 (N) d7,J3 (N) t7,J4 (N) p7,row 9 1 (xb) (r.lv.toNat) (aJ (B0)),JQ b2 r s (.slice da r.de.length oe) t p] (by exact .h5 (.cons fW (.cons fW (.cons fW (.cons fW (.cons fW (.cons fW (.cons fW .nil)))))))) ?_;refine JN bz I (fun w1 aG=>jz (r:=N) ⟨bM aG kU I,bN aG uZ I,bL aG fW I,bJ aG iS I⟩ (dE T8)) ?_;rintro ⟨o23,q23,u23,v23⟩ _
 try dsimp only [id_eq,Zb,Za]
 refine gi (r:=N) (s:=o23) (d:=q23) (t:=u23) (p:=v23) (aQ _ _) fun _ _ _ _=>?_
 skip
 refine JN bz I (fun w1 aG=>eS (r:=N) ⟨bM aG (by exact .here) I,bN aG (by exact Take.there .here) I,bL aG bF I,bJ aG cA I⟩ (dE T8)) ?_;rintro ⟨o24,q24,u24,v24⟩ _
 try dsimp only [id_eq,Zb,Za]
 refine cn (r:=N) (s:=o24) (d:=q24) (t:=u24) (p:=v24) (aQ _ _) fun _ _ _ _=>?_
 skip
 refine JN ba I (fun w1 aG=>wh (hhn.trans HM) Y5 ⟨bM aG (by exact .here) I,bN aG (by exact Take.there .here) I,bL aG bF I,bJ aG cA I⟩ T8 hmN) ?_;rintro xo _
 try dsimp only [id_eq,Zb,Za]
 refine Jv I<|JJ I I<|JJ I I<|Ja I<|Ja I<|Jn<|Jq ?_;refine cz [row 9 1 (xo) (r.lv.toNat) (aJ (B0)),bo b48 (.cells #[.q (r).lv,.q (r).ma,s8,d8,t8,p8] 41 (0,0)),J1 (r) s8,J2 (r) d8,J3 (r) t8,J4 (r) p8,bo b46 (.cells #[.q (N).lv,.q (N).ma,s7,d7,t7,p7] 41 (0,0)),J1 (N) s7,J2 (N) d7,J3 (N) t7,J4 (N) p7,row 9 1 (xb) (r.lv.toNat) (aJ (B0)),JQ b2 r s (.slice da r.de.length oe) t p] (by exact .h1 (.cons fW (.cons fW (.cons fW (.cons fW (.cons fW (.cons fW (.cons fW (.cons fW (.cons fW (.cons fW (.cons fW (.cons fW .nil))))))))))))) ?_
 with_reducible refine dP 22 (by kernel_rfl) ?_
 refine aq (fun β=>(aX (.of I))) br I ?_;refine aq (fun β=>(mr (.of I) (.of I))) br I ?_;refine aq (fun β=>(aX (.of I))) br I ?_
 (refine cd I (fun _=>rfl)<|aq (fun β=>(aX (.of I))) br I ?_)
 (refine cd I (fun _=>rfl)<|aq (fun β=>(mr (.of I) (.of I))) br I ?_)
 refine aq (fun β=>(du (.of I) (.of I) (.of I) I)) br I ?_;refine aq (fun β=>(aX (.of I))) br I ?_
 (refine cd I (fun _=>rfl)<|aq (fun β=>(aX (.of I))) br I ?_)
 (refine cd I (fun _=>rfl)<|aq (fun β=>(mr (.of I) (.of I))) br I ?_)
 refine aq (fun β=>(du (.of I) (.of I) (.of I) I)) br I ?_;refine aq (fun β=>(aX (.of I))) br I ?_
 (refine cd I (fun _=>rfl)<|aq (fun β=>(bV (.of I) (.there .here) ak (by rfl))) br I ?_)
 dsimp only [Nat.zero_add,Nat.reduceAdd];refine cd I (fun _=>rfl) ?_
 with_reducible apply dW (ι:=Value×Value×Value×Value) (Φ:=fun _=>True) (val:=fun x=>.agg #[.q r.lv,.q r.ma,x.1,x.2.1,x.2.2.1,x.2.2.2]) (own:=fun x=>DE r x) (g:=g4) (B:=[]) (args:=fun β=>[.agg #[.q r.lv,.q r.ma,s8,d8,t8,p8]])
 case hg=>exact oV
 case hB=>first | rfl | kernel_rfl
 case hr=>exact fun β=>aZ (.of I) (.o I .nil) inferInstance I
 case hd=>rfl
 case hc=>
  intro β w' hb;have m0:=hb.mem;exact jz (r:=r) ⟨bM m0 bF I,bN m0 cA I,bL m0 df I,bJ m0 eG I⟩ Pb
 dsimp only [Nat.reduceAdd]
 (refine cd I (fun _=>rfl)<|aq (fun β=>(bV (.of I) kV ak (by rfl))) br I ?_)
 dsimp only [Nat.zero_add,Nat.reduceAdd];refine cd I (fun _=>rfl) ?_
 with_reducible apply cy (B:=[12]) (F:=fun _=>.bool true) (args:=fun β=>[.agg #[.q r.lv,.q r.ma,(g4 (β 12)).1,(g4 (β 12)).2.1,(g4 (β 12)).2.2.1,(g4 (β 12)).2.2.2],.agg #[.q r.lv,.q r.ma,s,.slice da r.de.length oe,t,p]])
 case hB=>first | rfl | kernel_rfl
 case hr=>exact fun β=>aZ (.of I) ((.o I (.o I .nil))) inferInstance I
 case hi=>exact br
 case hd=>rfl
 case hc=>
  intro β w' hb;have m1:=hb.at 12 Zr I;dsimp only at m1;have m4:=Ce m1 (aQ _ _);exact Rs m4 (h.keeps hb.mem.keeps)
 dsimp only [Nat.reduceAdd];refine aq (fun β=>(du (.of I) (.of I) (.of I) I)) br I ?_;refine aq (fun β=>(aX (.of I))) br I ?_
 (refine cd I (fun _=>rfl)<|aq (fun β=>(aX (.of I))) br I ?_)
 (refine cd I (fun _=>rfl)<|aq (fun β=>(aX (.of I))) br I ?_)
 dsimp only [Nat.zero_add,Nat.reduceAdd];refine cd I (fun _=>rfl) ?_
 with_reducible apply cy (B:=[]) (F:=fun _=>.bool true) (args:=fun β=>[xo,xb])
 case hB=>first | rfl | kernel_rfl
 case hr=>exact fun β=>aZ (.of I) ((.o I (.o I .nil))) inferInstance I
 case hi=>exact br
 case hd=>rfl
 case hc=>
  intro β w' hb;have m0:=hb.mem;exact zV (dz (l:=B0) (n:=r.lv.toNat) m0 (by exact .here) (by rw [<- HM];exact jY _ _)) (dz (l:=B0) (n:=r.lv.toNat) m0 Bu (by rw [<- HM];exact jY _ _)) I
 dsimp only [Nat.reduceAdd];refine aq (fun β=>(du (.of I) (.of I) (.of I) I)) br I ?_;refine aq (fun β=>(cS (.of I))) br I ?_;dsimp only [Nat.zero_add,Nat.reduceAdd];refine fo fun β=>?_;unfold DE;dsimp only [eB,Za,Zb,List.append_eq,Nat.reduceAdd];generalize g4 (β 12)=ya;clear β
 with_reducible refine cM (by kernel_rfl) ?_
 refine cz [row 9 1 (xb) (r.lv.toNat) (aJ (B0)),JQ b2 r s (.slice da r.de.length oe) t p] (by exact .cons fO (.cons fO .nil)) ?_;refine Jt<|Je<|JT ?_
 rfl
end Go.Proofs.A1
