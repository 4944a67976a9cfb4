/- Parts of the proof: PB. -/
import Derived.Test.YteonnodafmegaaaGreatDoorKM14
import Derived.Test.YteonnodafmegaaaGreatDoorKM04
set_option linter.unusedSectionVars false
set_option linter.unusedVariables false
set_option linter.unusedSimpArgs false
namespace Go.Proofs.A1
open Go Go.SL
open Tryz
open Tryz renaming prog->T_
variable {P:Program} {af:Array Edge} {c:Cx} {dst:Option Tmp} {g:Option (Nat×Bool)} {hs:List bh} {pos:String} {r:Ro} {sl:aD} {w:World} {x y:Operand}
theorem Ac {ty:TypeId} {t u:TypeId} {a b k:Int} (hx:Is sl x (.q a)) (hy:Is sl y (.q b)) (h0:0<=a) (hb:b≠0) (e:a % b=k) :
  cM P c sl hs ⟨dst,.binOp .rem t x y u,ty,pos,af,g⟩ (.q k):=e ▸ QR hx hy h0 hb
theorem vB {ty t u:TypeId} {k':IntKind} {n:Int} [ht:gJ P t (.int k')] [hu:gJ P u (.int .i64)] (hx:Is sl x (.int k' n)) (h:0<=n/\n<9223372036854775808) :
  cM P c sl hs ⟨dst,.convert t u x,ty,pos,af,g⟩ (.q n):=by
 have:=Nr (P:=P) (c:=c) (hs:=hs) (dst:=dst) (ty:=ty) (pos:=pos) (af:=af) (g:=g) (t:=t) (u:=u) (k:=.i64) hx;rwa [show IntKind.i64.wrap n=n by unfold IntKind.wrap;simp [IntKind.signed,IntKind.bits];omega] at this
theorem ID {ty:TypeId} {t u:TypeId} {a b:Bool} [hu:gJ P t .bool] (hx:Is sl x (.bool a)) (hy:Is sl y (.bool b)) :
  cM P c sl hs ⟨dst,.binOp .eql t x y u,ty,pos,af,g⟩ (.bool (a==b)):=
 gX hx hy fun w=>by
  have:(Op.equal t (.bool a) (.bool b)).run P w=.ok (a==b) w:=by
   exact AE (d:=9999) (by rw [hu.eq];rfl) (fun k h=>by rw [hu.eq] at h;cases h) (fun h=>by rw [hu.eq] at h;cases h) (fun _=>⟨a,I⟩) I
  simp [r7,binOp,this]
theorem Cb {ty:TypeId} {t u:TypeId} {a b v:Bool} [hu:gJ P t .bool] (hx:Is sl x (.bool a)) (hy:Is sl y (.bool b)) (e:decide (a=b)=v) :
  cM P c sl hs ⟨dst,.binOp .eql t x y u,ty,pos,af,g⟩ (.bool v):=by
 have:=ID (P:=P) (c:=c) (hs:=hs) (dst:=dst) (ty:=ty) (pos:=pos) (af:=af) (g:=g) (t:=t) (u:=u) hx hy;rw [<- e];cases a <;> cases b <;> exact this
theorem B8 {ty:TypeId} {t u:TypeId} {a b v:Bool} [hu:gJ P t .bool] (hx:Is sl x (.bool a)) (hy:Is sl y (.bool b)) (e:decide (a≠b)=v) :
  cM P c sl hs ⟨dst,.binOp .neq t x y u,ty,pos,af,g⟩ (.bool v):=by
 have:=vu (P:=P) (c:=c) (hs:=hs) (dst:=dst) (ty:=ty) (pos:=pos) (af:=af) (g:=g) (t:=t) (u:=u) hx hy;rw [<- e];cases a <;> cases b <;> exact this
theorem Ae {ty:TypeId} {k:IntKind} {t u:TypeId} {a b:Int} (hx:Is sl x (.int k a)) (hy:Is sl y (.int k b)) (e:¬ b<a) :
  cM P c sl hs ⟨dst,.binOp .gtr t x y u,ty,pos,af,g⟩ (.bool false):=by
 have:=mj (P:=P) (c:=c) (hs:=hs) (dst:=dst) (ty:=ty) (pos:=pos) (af:=af) (g:=g) (t:=t) (u:=u) hx hy;rwa [decide_eq_false e] at this
theorem VO {s d t p wv:Value} (v:Int) (so de:ByteArray) {wy:List ByteArray} {w:World} (e:SR r v so de wy=0) (h:RR w r s d t p) (cJ:me r) (hw:Rd w wv 1 (ie wy)) :
  ao T_ 71 [.agg #[.q r.lv,.q r.ma,s,d,t,p],.q v,.string so,.string de,wv] w (.q 0):=e ▸ ET v so de h cJ hw
theorem aaz {s d t p cv:Value} (v:Int) (so de:ByteArray) {L:List Int} {w:World} (e:SU r v so de L=0) (h:RR w r s d t p) (cJ:me r) (hw:Rd w cv 1 (ints L)) :
  ao T_ 37 [.agg #[.q r.lv,.q r.ma,s,d,t,p],.q v,.string so,.string de,cv] w (.q 0):=e ▸ xx v so de h cJ hw
theorem yY {s d t p:Value} (h:RR w r s d t p) (hf:mu r):bB T_ 76 [.agg #[.q r.lv,.q r.ma,s,d,t,p]] w [] (fun _:Value×Value×Value×Value=>True) (fun x=>.agg #[.q r.lv,.q r.ma,x.1,x.2.1,x.2.2.1,x.2.2.2]) (fun x=>MV r x):=T3 h hf
theorem Fj {m:Int} {s d t p:Value} (h1:Rd w s 2 (uj r.sr)) (h2:Rd w d 3 (ue (r.de++[⟨nC,m,false⟩]))) (h3:Rd w t 3 (tE r.ti)) (h4:Rd w p 3 (sq r.po)):RR w (r.more m) s d t p:=⟨h1,h2,h3,h4⟩
theorem OU {A B:Prop} (h:A->B) (k:A):B:=h k
theorem E3 {D:List Nat} {hs rest:List bh} {X:Act->World->Prop} (sl2:aD) (hs2:List bh) (h1:lH sl sl2) (ht:bK hs hs2 rest) (k:Tr c D sl2 hs2 X):Tr c D sl hs X:=fun a w bj=>k a w (bj.weaken h1 ht)
theorem CO (r:Ro) (m:Int):j5 r.de++[.string (⟨#[109,111,114,101]⟩:ByteArray),.q m,.bool false]=j5 (r.de++[⟨nC,m,false⟩]):=by rw [F5];rfl
theorem Ag {a b:Int} (h:0<b):∃ k:Nat,a % b=(k:Int)/\(k:Int)<b:=by
 have h1:=Int.emod_nonneg a (show b≠0 by omega);have h2:=Int.emod_lt_of_pos a h;exact ⟨(a % b).toNat,by omega,by omega⟩
set_option maxRecDepth 20000 in
set_option maxHeartbeats 4000000 in
theorem C0 {s d t p:Value} (h:RR w r s d t p) (n0 n1 n2:Int) (UE:0<=n0/\n0<=255) (Mo:0<=n1/\n1<=255) (xS:0<=n2/\n2<=255):ao T_ 10 [RA r s d t p,.agg #[.int .u8 n0,.int .u8 n1,.int .u8 n2]] w (.bool true):=by
 obtain ⟨h1,h2,h3,h4⟩:=h.one;have GY:=h.sr;obtain ⟨sa,my,sb,so',rfl,Kx,wh,RZ,RY⟩:=GY;have hs:=h.de;obtain ⟨da,qf,db,do',rfl,abm,U9,hda,ur⟩:=hs;have hti:=h.ti;obtain ⟨ta,tcp,tb,to',rfl,aaZ,Uq,XO,XN⟩:=hti;rw [cy] at *;rw [bZ] at *;rw [bU] at *;have fZ:∀ {w'},aH [] w w'->ao T_ 55 [.agg #[.int .i64 r.lv,.int .i64 r.ma,.slice sa r.sr.length my,.slice da r.de.length qf,.slice ta r.ti.length tcp,p]] w' (.bool (uk r&&decide (fT r=0))):=fun hk=>MK (h.keeps hk)
 unfold RA;cases WA:(uk r&&decide (fT r=0)) with
 | false =>
  rw [WA] at fZ;refine ak func10 I I ?_
  (refine Jr<|Jy I I fun _ _=>Jy I I fun _ _=>Ja I<|Jn<|Jq<|Jr<|aj k8 I (fun w' az=>(mb w'))<|JH I<|Jv I<|au I I (fun hg bG=>(bL (.of I) (.there .here) an (by rfl))) I<|jj I I (fun hg=>(a8 (.of I) (.cons (.bX hg I) .nil) inferInstance gF)) I (fun hg w' az=>(fZ (Mem.keeps az)))<|au I I (fun hg bG=>(fC (.bX bG I))) I<|ab (bE (.of I) I) I<|Jv I<|au I I (fun hg bG=>(ai (.of I) ae)) I<|au I I (fun hg bG=>(ag (.bX hg I) (At.lit (.there .here) I))) I<|au I I (fun hg bG=>(bz (.bX hg I))) I<|au I I (fun hg bG=>(fR (.bX hg I) (.of I))) I<|ab (bE (.of I) I) I<|Jv I<|au I I (fun hg bG=>(ai (.of I) ae)) I<|au I I (fun hg bG=>(ag (.bX hg I) (At.lit (.there .here) I))) I<|au I I (fun hg bG=>(bz (.bX hg I))) I<|au I I (fun hg bG=>(fR (.bX hg I) (.of I))) I<|ab (bE (.of I) I) I<|Jn<|ch (.of I)<|Jr<|aj k8 I (fun w' az=>(mb w'))<|Ja I<|Jn<|Ju<|JT ?_)
  rfl
 | true=>
 rw [WA] at fZ;rw [Zm,decide_eq_true_iff] at WA;obtain ⟨hsb,fB⟩:=WA;have hF:=tj fB;have Eu:=pT fB;clear hsb;have dw:=uo fB;have AM:=dw.lim;have abb:=dw.len;have Yo:((r.lv.toNat:Nat):Int)=r.lv:=by omega
 unfold maxLen at wh U9 Uq;by_cases hs0:r.sr.length=0
 ·refine ak func10 I I ?_
  (refine Jr<|Jy I I fun _ _=>Jy I I fun _ _=>Ja I<|Jn<|Jq<|Jr<|aj k8 I (fun w' az=>(mb w'))<|JH I<|Jv I<|au I I (fun hg bG=>(bL (.of I) (.there .here) an (by rfl))) I<|jj I I (fun hg=>(a8 (.of I) (.cons (.bX hg I) .nil) inferInstance gF)) I (fun hg w' az=>(fZ (Mem.keeps az)))<|au I I (fun hg bG=>(fC (.bX bG I))) I<|ab (bE (.of I) I) I<|Jv I<|au I I (fun hg bG=>(ai (.of I) ae)) I<|au I I (fun hg bG=>(ag (.bX hg I) (At.lit (.there .here) I))) I<|au I I (fun hg bG=>(bz (.bX hg I))) I<|au I I (fun hg bG=>(fR (.bX hg I) (.of I))) I<|ab (bE (.of I) I) I<|Jv I<|au I I (fun hg bG=>(ai (.of I) ae)) I<|au I I (fun hg bG=>(ag (.bX hg I) (At.lit (.there .here) I))) I<|au I I (fun hg bG=>(bz (.bX hg I))) I<|au I I (fun hg bG=>(fR (.bX hg I) (.of I))) I<|ab (bE (.of I) I) I<|Jn<|oq I (fun aA=>?_) (fun _=>by omega);refine Jr<|aj k8 I (fun w' az=>(mb w'))<|Ja I<|Jn<|Ju<|JT ?_)
  rfl
 by_cases Sl:r.de.length=0
 ·refine ak func10 I I ?_
  (refine Jr<|Jy I I fun _ _=>Jy I I fun _ _=>Ja I<|Jn<|Jq<|Jr<|aj k8 I (fun w' az=>(mb w'))<|JH I<|Jv I<|au I I (fun hg bG=>(bL (.of I) (.there .here) an (by rfl))) I<|jj I I (fun hg=>(a8 (.of I) (.cons (.bX hg I) .nil) inferInstance gF)) I (fun hg w' az=>(fZ (Mem.keeps az)))<|au I I (fun hg bG=>(fC (.bX bG I))) I<|ab (bE (.of I) I) I<|Jv I<|au I I (fun hg bG=>(ai (.of I) ae)) I<|au I I (fun hg bG=>(ag (.bX hg I) (At.lit (.there .here) I))) I<|au I I (fun hg bG=>(bz (.bX hg I))) I<|au I I (fun hg bG=>(fR (.bX hg I) (.of I))) I<|ab (bE (.of I) I) I<|Jv I<|au I I (fun hg bG=>(ai (.of I) ae)) I<|au I I (fun hg bG=>(ag (.bX hg I) (At.lit (.there .here) I))) I<|au I I (fun hg bG=>(bz (.bX hg I))) I<|au I I (fun hg bG=>(fR (.bX hg I) (.of I))) I<|ab (bE (.of I) I) I<|Jn<|oq I (fun aA=>?_) (fun _=>by omega);refine Jr<|aj k8 I (fun w' az=>(mb w'))<|Ja I<|Jn<|Ju<|JT ?_)
  rfl
 obtain ⟨k,hk,En⟩:=Ag (a:=n0) (b:=r.lv) (by omega);obtain ⟨i,hi,iY⟩:=Ag (a:=n1) (b:=(r.sr.length:Nat)) (by omega);obtain ⟨j,hj,KN⟩:=Ag (a:=n2) (b:=(r.de.length:Nat)) (by omega);have Oj:i<r.sr.length:=by omega
 have Oh:j<r.de.length:=by omega
 have Ek:=RZ (gW Oj);have hcs:=(RY i _ (fG Oj)).2;have YS:=hda (gI Oh);have Vc:=(ur j _ (fq Oh)).2;unfold Sr.cells at hcs;unfold De.cells at Vc;refine ak func10 I I ?_
 (refine Jr<|Jy I I fun _ _=>Jy I I fun _ _=>Ja I<|Jn<|Jq<|Jr<|aj k8 I (fun w' az=>(mb w'))<|JH I<|Jv I<|au I I (fun hg bG=>(bL (.of I) (.there .here) an (by rfl))) I<|jj I I (fun hg=>(a8 (.of I) (.cons (.bX hg I) .nil) inferInstance gF)) I (fun hg w' az=>(fZ (Mem.keeps az)))<|au I I (fun hg bG=>(fC (.bX bG I))) I<|ab (bE (.of I) I) I<|Jv I<|au I I (fun hg bG=>(ai (.of I) ae)) I<|au I I (fun hg bG=>(ag (.bX hg I) (At.lit (.there .here) I))) I<|au I I (fun hg bG=>(bz (.bX hg I))) I<|au I I (fun hg bG=>(fR (.bX hg I) (.of I))) I<|ab (bE (.of I) I) I<|Jv I<|au I I (fun hg bG=>(ai (.of I) ae)) I<|au I I (fun hg bG=>(ag (.bX hg I) (At.lit (.there .here) I))) I<|au I I (fun hg bG=>(bz (.bX hg I))) I<|au I I (fun hg bG=>(fR (.bX hg I) (.of I))) I<|ab (bE (.of I) I) I<|Jn<|oq I (fun aA=>?_) fun aA=>?_;refine Jr<|aj k8 I (fun w' az=>(mb w'))<|Ja I<|Jn<|Ju<|JT ?_;rotate_left;refine Jk<|Jq ?_;rotate_right)
 ·rfl
 rename_i b2 tX b3 uY;refine cT [JQ b2 r (.slice sa r.sr.length my) (.slice da r.de.length qf) (.slice ta r.ti.length tcp) p,bA b3 (.cells #[.int .u8 n0,.int .u8 n1,.int .u8 n2] 116 (0,0))] (by exact .cons (.there .here) (.h1 .nil)) ?_
 with_reducible refine KT.HY 33 (gD [(28,31),(29,32)]) (by kernel_rfl) ?_
 refine KT.ez (fun β=>(eQ (.of I) (.of I) (by omega) (by omega) bu)) aK I I ?_;refine KT.ez (fun β=>(ag (.of I) (At.lit (.there .here) I))) aK I I ?_;dsimp only [Nat.zero_add,Nat.reduceAdd]
 with_reducible apply KT.ez
 case hr=>
  intro β
  with_reducible apply vB
  case hx=>exact Is.of I
  case h=>omega
 case hi=>exact aK
 case hd=>rfl
 case hn=>rfl
 dsimp only [Nat.zero_add,Nat.reduceAdd];refine KT.ez (fun β=>(ai (.of I) ae)) aK I I ?_;refine KT.ez (fun β=>(ag (.of I) (At.lit .here I))) aK I I ?_;dsimp only [Nat.zero_add,Nat.reduceAdd]
 with_reducible apply KT.ez
 case hr=>
  intro β
  with_reducible apply Ac (e:=hk)
  case hx=>exact Is.of I
  case hy=>exact Is.of I
  case h0=>omega
  case hb=>omega
 case hi=>exact aK
 case hd=>rfl
 case hn=>rfl
 dsimp only [Nat.zero_add,Nat.reduceAdd];refine KT.ez (fun β=>(ai (.of I) ae)) aK I I ?_;refine KT.ez (fun β=>(ag (.of I) (At.lit .here I))) aK I I ?_;refine KT.ez (fun β=>(eQ (.of I) (.of I) (by omega) (by omega) bu)) aK I I ?_;refine KT.ez (fun β=>(ag (.of I) (At.lit (.there .here) I))) aK I I ?_;dsimp only [Nat.zero_add,Nat.reduceAdd]
 with_reducible apply KT.ez
 case hr=>
  intro β
  with_reducible apply vB
  case hx=>exact Is.of I
  case h=>omega
 case hi=>exact aK
 case hd=>rfl
 case hn=>rfl
 dsimp only [Nat.zero_add,Nat.reduceAdd];refine KT.ez (fun β=>(ai (.of I) ae)) aK I I ?_;refine KT.ez (fun β=>(ag (.of I) (At.lit .here I))) aK I I ?_;refine KT.ez (fun β=>(bz (.of I))) aK I I ?_;dsimp only [Nat.zero_add,Nat.reduceAdd]
 with_reducible apply KT.ez
 case hr=>
  intro β
  with_reducible apply Ac (e:=hi)
  case hx=>exact Is.of I
  case hy=>exact Is.of I
  case h0=>omega
  case hb=>omega
 case hi=>exact aK
 case hd=>rfl
 case hn=>rfl
 dsimp only [Nat.zero_add,Nat.reduceAdd];refine KT.ez (fun β=>(aC (.of I) (.of I) Ek (by omega) iY bu)) aK I I ?_;refine KT.ez (fun β=>(iw (.of I) (eO.base hcs I) I)) aK I I ?_;dsimp only [Nat.zero_add,Nat.reduceAdd];refine KT.ez (fun β=>(ai (.of I) ae)) aK I I ?_;refine KT.ez (fun β=>(ag (.of I) (At.lit .here I))) aK I I ?_;refine KT.ez (fun β=>(eQ (.of I) (.of I) (by omega) (by omega) bu)) aK I I ?_;refine KT.ez (fun β=>(ag (.of I) (At.lit (.there .here) I))) aK I I ?_;dsimp only [Nat.zero_add,Nat.reduceAdd]
 with_reducible apply KT.ez
 case hr=>
  intro β
  with_reducible apply vB
  case hx=>exact Is.of I
  case h=>omega
 case hi=>exact aK
 case hd=>rfl
 case hn=>rfl
 dsimp only [Nat.zero_add,Nat.reduceAdd];refine KT.ez (fun β=>(ai (.of I) ae)) aK I I ?_;refine KT.ez (fun β=>(ag (.of I) (At.lit .here I))) aK I I ?_;refine KT.ez (fun β=>(bz (.of I))) aK I I ?_;dsimp only [Nat.zero_add,Nat.reduceAdd]
 with_reducible apply KT.ez
 case hr=>
  intro β
  with_reducible apply Ac (e:=hj)
  case hx=>exact Is.of I
  case hy=>exact Is.of I
  case h0=>omega
  case hb=>omega
 case hi=>exact aK
 case hd=>rfl
 case hn=>rfl
 dsimp only [Nat.zero_add,Nat.reduceAdd];refine KT.ez (fun β=>(aC (.of I) (.of I) YS (by omega) KN bu)) aK I I ?_;refine KT.ez (fun β=>(iw (.of I) (eO.base Vc I) I)) aK I I ?_;dsimp only [Nat.zero_add,Nat.reduceAdd]
 with_reducible apply KT.Bd
 case hr=>(intro β;exact kh I)
 case hd=>rfl
 case hn=>rfl
 dsimp only [Nat.zero_add,Nat.reduceAdd]
 with_reducible apply KT.Bd
 case hr=>(intro β;exact kh I)
 case hd=>rfl
 case hn=>rfl
 dsimp only [Nat.zero_add,Nat.reduceAdd];refine KT.ez (fun β=>(cd (.of I))) aK I I ?_;dsimp only [Nat.zero_add,Nat.reduceAdd]
 with_reducible apply KT.C3 (jx:=28) (vs:=[.string r.sr[i].nm,.q r.sr[i].mx]) (cs:=[.string ⟨#[]⟩,.q 0]) (E:=118) (Vx:=fun β=>.pointer (some ⟨ep (β 28),0,none⟩)) (v:=.agg #[.string r.sr[i].nm,.q r.sr[i].mx])
 case hS=>kernel_rfl
 case htk=>exact pD (by kernel_rfl) (by kernel_rfl)
 case hti=>rfl
 case h0=>rfl
 case hwx=>kernel_rfl
 case hx=>exact fun β=>.of I
 case hy=>exact fun β=>.of I
 case hv=>rfl
 case hl=>rfl
 case hcs=>rfl
 case he=>rfl
 case ha=>kernel_rfl
 case h1=>exact Zt.2 ⟨I,Zt.2 ⟨I,fun _ h=>absurd h Zo⟩⟩
 dsimp only [Nat.zero_add,Nat.reduceAdd]
 with_reducible apply KT.C3 (jx:=29) (vs:=[.string r.de[j].nm,.q r.de[j].mx,.bool r.de[j].pr]) (cs:=[.string ⟨#[]⟩,.q 0,.bool false]) (E:=88) (Vx:=fun β=>.pointer (some ⟨ep (β 29),0,none⟩)) (v:=.agg #[.string r.de[j].nm,.q r.de[j].mx,.bool r.de[j].pr])
 case hS=>kernel_rfl
 case htk=>exact pD (by kernel_rfl) (by kernel_rfl)
 case hti=>rfl
 case h0=>rfl
 case hwx=>kernel_rfl
 case hx=>exact fun β=>.of I
 case hy=>exact fun β=>.of I
 case hv=>rfl
 case hl=>rfl
 case hcs=>rfl
 case he=>rfl
 case ha=>kernel_rfl
 case h1=>exact Zt.2 ⟨I,Zt.2 ⟨I,Zt.2 ⟨I,fun _ h=>absurd h Zo⟩⟩⟩
 dsimp only [Nat.zero_add,Nat.reduceAdd];refine KT.O8 (fun β=>[bA (ep (β 28)) (.cells #[.string r.sr[i].nm,.q r.sr[i].mx] 118 (0,0)),bA (ep (β 29)) (.cells #[.string r.de[j].nm,.q r.de[j].mx,.bool r.de[j].pr] 88 (0,0))]) (fun β=>by kernel_rfl) fun β=>?_;dsimp only [Zb,Za];generalize ep (β 28)=b6;generalize ep (β 29)=b7;clear β
 with_reducible refine cn (by kernel_rfl) ?_
 generalize rN:r.sr[i].nm=so at *;generalize hsx:r.sr[i].mx=sx at *;generalize lp:r.de[j].nm=de at *;generalize Om:r.de[j].mx=dx at *;generalize r.de[j].pr=dp at *;refine cT [bA b6 (.cells #[.string so,.q sx] 118 (0,0)),bA b7 (.cells #[.string de,.q dx,.bool dp] 88 (0,0)),JQ b2 r (.slice sa r.sr.length my) (.slice da r.de.length qf) (.slice ta r.ti.length tcp) p] (by exact .h3 .nil) ?_;have Mm:so∈cz r:=by rw [<- rN];exact Zai (Zj Oj)
 have Sk:de∈bY r:=by rw [<- lp];exact Zai (Zj Oh)
 have Tm:=sD fB En Mm Sk;have WC:mJ r so=sx:=by rw [<- rN,<- hsx];exact QK fB Oj
 have KV:gQ r de=dx:=by rw [<- lp,<- Om];exact SM fB Oh
 obtain ⟨WY,hWY⟩:∃ W,qw r (k:Nat) so de=W:=⟨_,rfl⟩;obtain ⟨CY,hCY⟩:∃ C,wU r (k:Nat) so de=C:=⟨_,rfl⟩;obtain ⟨bw,Oq⟩:∃ b,wB r (k:Nat) so de=b:=⟨_,rfl⟩;refine Jt<|Jq ?_;cases bw
 ·skip
  have hW1:sC r (k:Nat) so de=18:=by rw [ve Tm,Oq];rfl
  have hC1:A4 r (k:Nat) so de=0:=by rw [Lq Tm,Oq];rfl
  obtain ⟨W0,hCl⟩:=OV fB Tm Mm Oq;rw [hCY] at W0 hCl;have hC9:CY.length<=1000000:=by omega
  with_reducible refine dy 13 (by kernel_rfl) ?_
  refine ah (fun β=>(bL (.of I) bO an (by rfl))) aK I ?_;dsimp only [Nat.zero_add,Nat.reduceAdd]
  with_reducible apply cZ (ι:=Value×Value×Value×Value) (Φ:=fun _=>True) (val:=fun x=>.agg #[.q r.lv,.q r.ma,x.1,x.2.1,x.2.2.1,x.2.2.2]) (own:=fun x=>kC r x) (g:=g4) (B:=[]) (args:=fun β=>[.agg #[.q r.lv,.q r.ma,.slice sa r.sr.length my,.slice da r.de.length qf,.slice ta r.ti.length tcp,p]])
  case hg=>exact kr
  case hB=>first | rfl | kernel_rfl
  case hr=>exact fun β=>a8 (.of I) (.o I .nil) inferInstance I
  case hd=>rfl
  case hc=>
   intro β w' hb;exact fU (h.keeps hb.mem.keeps) Eu
  dsimp only [Nat.reduceAdd]
  (refine ah (fun β=>(aL (.of I))) aK I<|ah (fun β=>(ai (.of I) ae)) aK I<|ah (fun β=>(ag (.of I) (At.lit .here I))) aK I<|ah (fun β=>(ai (.of I) ae)) aK I<|ah (fun β=>(ag (.of I) (At.lit (.there .here) I))) aK I ?_)
  dsimp only [Nat.zero_add,Nat.reduceAdd]
  with_reducible apply cZ (ι:=Value) (Φ:=fun _=>True) (val:=fun x=>.tuple #[x,.q (18)]) (own:=fun x=>[row 9 1 x WY.length (aO WY)]) (g:=id) (B:=[1]) (args:=fun β=>[.agg #[.q r.lv,.q r.ma,(g4 (β 1)).1,(g4 (β 1)).2.1,(g4 (β 1)).2.2.1,(g4 (β 1)).2.2.2],.q (k:Nat),.string so,.string de])
  case hg=>exact fun x=>⟨x,I⟩
  case hB=>kernel_rfl
  case hr=>exact fun β=>a8 (.of I) ((.o I (.o I (.o I (.o I .nil))))) inferInstance I
  case hd=>rfl
  case hc=>
   intro β w' hb;have m1:=hb.at 1 Zp I;dsimp only at m1;have m4:=nO m1 (bb _ _);exact qR (k:Nat) so de m4 hF hW1 hWY
  dsimp only [id_eq,Nat.reduceAdd]
  with_reducible apply ah (F:=fun β=>.tuple #[β 7,.q (18)])
  case hr=>(intro β;exact aL (.of I))
  case hi=>exact fun β β' h=>by simp only [h 7 (by kernel_rfl)]
  case hd=>rfl
  dsimp only [Nat.reduceAdd]
  with_reducible apply ah (F:=fun β=>β 7)
  case hr=>(intro β;exact cC (.of I) I)
  case hi=>exact fun β β' h=>by simp only [h 7 (by kernel_rfl)]
  case hd=>rfl
  dsimp only [Nat.reduceAdd]
  with_reducible apply ah (F:=fun β=>.q (18))
  case hr=>(intro β;exact cC (.of I) I)
  case hi=>exact aK
  case hd=>rfl
  dsimp only [Nat.reduceAdd]
  with_reducible apply ah (F:=fun β=>β 7)
  case hr=>(intro β;exact cd (.of I))
  case hi=>exact fun β β' h=>by simp only [h 7 (by kernel_rfl)]
  case hd=>rfl
  dsimp only [Nat.reduceAdd]
  with_reducible apply ah (F:=fun β=>.q (18))
  case hr=>(intro β;exact cd (.of I))
  case hi=>exact aK
  case hd=>rfl
  dsimp only [Nat.reduceAdd];refine eG fun β=>?_;unfold kC;dsimp only [dX,Za,Zb,List.append_eq,Nat.reduceAdd];generalize β 7=xw;generalize g4 (β 1)=y1;clear β
  with_reducible refine cn (by kernel_rfl) ?_
  refine cT [row 9 1 xw WY.length (aO WY),bA b6 (.cells #[.string so,.q sx] 118 (0,0)),bA b7 (.cells #[.string de,.q dx,.bool dp] 88 (0,0)),JQ b2 r (.slice sa r.sr.length my) (.slice da r.de.length qf) (.slice ta r.ti.length tcp) p] (by exact .cons dF (.cons dF (.cons dF (.cons dF .nil)))) ?_;refine Jt<|Jq ?_
  with_reducible refine dy 13 (by kernel_rfl) ?_
  refine ah (fun β=>(bL (.of I) c6 an (by rfl))) aK I ?_;dsimp only [Nat.zero_add,Nat.reduceAdd]
  with_reducible apply cZ (ι:=Value×Value×Value×Value) (Φ:=fun _=>True) (val:=fun x=>.agg #[.q r.lv,.q r.ma,x.1,x.2.1,x.2.2.1,x.2.2.2]) (own:=fun x=>kC r x) (g:=g4) (B:=[]) (args:=fun β=>[.agg #[.q r.lv,.q r.ma,.slice sa r.sr.length my,.slice da r.de.length qf,.slice ta r.ti.length tcp,p]])
  case hg=>exact kr
  case hB=>first | rfl | kernel_rfl
  case hr=>exact fun β=>a8 (.of I) (.o I .nil) inferInstance I
  case hd=>rfl
  case hc=>
   intro β w' hb;exact fU (h.keeps hb.mem.keeps) Eu
  dsimp only [Nat.reduceAdd]
  (refine ah (fun β=>(aL (.of I))) aK I<|ah (fun β=>(ai (.of I) ae)) aK I<|ah (fun β=>(ag (.of I) (At.lit (.there .here) I))) aK I<|ah (fun β=>(ai (.of I) ae)) aK I<|ah (fun β=>(ag (.of I) (At.lit bO I))) aK I ?_)
  dsimp only [Nat.zero_add,Nat.reduceAdd]
  with_reducible apply cZ (ι:=Value) (Φ:=fun _=>True) (val:=fun x=>.tuple #[x,.q (0)]) (own:=fun x=>[row 3 1 x CY.length (CY.map (Value.int .i64))]) (g:=id) (B:=[1]) (args:=fun β=>[.agg #[.q r.lv,.q r.ma,(g4 (β 1)).1,(g4 (β 1)).2.1,(g4 (β 1)).2.2.1,(g4 (β 1)).2.2.2],.q (k:Nat),.string so,.string de])
  case hg=>exact fun x=>⟨x,I⟩
  case hB=>kernel_rfl
  case hr=>exact fun β=>a8 (.of I) ((.o I (.o I (.o I (.o I .nil))))) inferInstance I
  case hd=>rfl
  case hc=>
   intro β w' hb;have m1:=hb.at 1 Zp I;dsimp only at m1;have m4:=nO m1 (bb _ _);exact EL (k:Nat) so de m4 hF hC1 hCY
  dsimp only [id_eq,Nat.reduceAdd]
  with_reducible apply ah (F:=fun β=>.tuple #[β 7,.q (0)])
  case hr=>(intro β;exact aL (.of I))
  case hi=>exact fun β β' h=>by simp only [h 7 (by kernel_rfl)]
  case hd=>rfl
  dsimp only [Nat.reduceAdd]
  with_reducible apply ah (F:=fun β=>β 7)
  case hr=>(intro β;exact cC (.of I) I)
  case hi=>exact fun β β' h=>by simp only [h 7 (by kernel_rfl)]
  case hd=>rfl
  dsimp only [Nat.reduceAdd]
  with_reducible apply ah (F:=fun β=>.q (0))
  case hr=>(intro β;exact cC (.of I) I)
  case hi=>exact aK
  case hd=>rfl
  dsimp only [Nat.reduceAdd]
  with_reducible apply ah (F:=fun β=>β 7)
  case hr=>(intro β;exact cd (.of I))
  case hi=>exact fun β β' h=>by simp only [h 7 (by kernel_rfl)]
  case hd=>rfl
  dsimp only [Nat.reduceAdd]
  with_reducible apply ah (F:=fun β=>.q (0))
  case hr=>(intro β;exact cd (.of I))
  case hi=>exact aK
  case hd=>rfl
  dsimp only [Nat.reduceAdd];refine eG fun β=>?_;unfold kC;dsimp only [dX,Za,Zb,List.append_eq,Nat.reduceAdd];generalize β 7=xc;generalize g4 (β 1)=y1;clear β
  with_reducible refine cn (by kernel_rfl) ?_
  refine cT [row 3 1 xc CY.length (CY.map (Value.int .i64)),row 9 1 xw WY.length (aO WY),bA b6 (.cells #[.string so,.q sx] 118 (0,0)),bA b7 (.cells #[.string de,.q dx,.bool dp] 88 (0,0)),JQ b2 r (.slice sa r.sr.length my) (.slice da r.de.length qf) (.slice ta r.ti.length tcp) p] (by exact .cons dF (.cons dF (.cons dF (.cons dF (.cons dF .nil))))) ?_
  (refine Jt<|Jq<|Jr<|Jv I<|ab (hP (.of I) (.of I) (by omega)) I<|Jv I<|ab (fV (.of I) (.of I) I) I<|ab (Cb (.of I) (.of I) I) I<|Jv I<|JK I I<|Jv I<|JK I I<|ab (rb (.of I) (.of I) (by omega)) I<|JK I I<|Jv I<|JK I I<|Jv I<|JK I I<|ab (jw (.of I) (.of I) I) I<|JK I I<|ab (cq (.of I) (.of I) (.of I) I) I<|ab (cq (.of I) (.of I) (.of I) I) I<|Jv I<|JK I I<|Jv I<|JK I I<|ab (jw (.of I) (.of I) I) I<|JK I I<|Jv I<|gy I I I I<|au I I (fun hg bG=>(eE (.bX bG I) (.of I))) I<|JK I I<|ab (cq (.of I) (.of I) (.of I) I) I<|ab (cq (.of I) (.of I) (.of I) I) I<|Jn<|bJ (.of I)<|Jk<|Jq<|Jq ?_)
  refine aT (E:=9) (sz:=1) (v:=xw) (by exact Take.there .here) fun wa wc e=>?_;subst e;refine aT (E:=3) (sz:=1) (v:=xc) (by exact .here) fun ca cc e=>?_;subst e
  with_reducible refine dy 52 (by kernel_rfl) ?_
  refine ah (fun β=>(aL (.of I))) aK I ?_;refine ah (fun β=>(hP (.of I) (.of I) (by omega))) aK I ?_;refine ah (fun β=>(aL (.of I))) aK I ?_;refine a7 I (fun _=>rfl) (Or.inr I) I ?_;refine a7 I (fun _=>rfl) (Or.inr I) I ?_;refine a7 I (fun _=>rfl) (Or.inr I) I ?_;refine a7 I (fun _=>rfl) (Or.inr I) I ?_;refine a7 I (fun _=>rfl) (Or.inr I) I ?_;refine a7 I (fun _=>rfl) (Or.inr I) I ?_;refine a7 I (fun _=>rfl) (Or.inr I) I ?_;refine a7 I (fun _=>rfl) (Or.inl I) I ?_;refine a7 I (fun _=>rfl) (Or.inl I) I ?_;refine a7 I (fun _=>rfl) (Or.inl I) I ?_;refine a7 I (fun _=>rfl) (Or.inl I) I ?_;refine a7 I (fun _=>rfl) (Or.inl I) I ?_;refine a7 I (fun _=>rfl) (Or.inl I) I ?_;refine a7 I (fun _=>rfl) (Or.inl I) I ?_;refine a7 I (fun _=>rfl) (Or.inl I) I ?_;refine a7 I (fun _=>rfl) (Or.inl I) I ?_;refine a7 I (fun _=>rfl) (Or.inl I) I ?_;refine a7 I (fun _=>rfl) (Or.inl I) I ?_;refine a7 I (fun _=>rfl) (Or.inr I) I ?_;refine a7 I (fun _=>rfl) (Or.inr I) I ?_;refine a7 I (fun _=>rfl) (Or.inl I) I ?_;refine a7 I (fun _=>rfl) (Or.inl I) I ?_;refine a7 I (fun _=>rfl) (Or.inl I) I ?_;refine a7 I (fun _=>rfl) (Or.inl I) I ?_;refine a7 I (fun _=>rfl) (Or.inl I) I ?_;refine a7 I (fun _=>rfl) (Or.inl I) I ?_;refine a7 I (fun _=>rfl) (Or.inl I) I ?_;refine a7 I (fun _=>rfl) (Or.inl I) I ?_;refine a7 I (fun _=>rfl) (Or.inl I) I ?_;refine a7 I (fun _=>rfl) (Or.inl I) I ?_;refine a7 I (fun _=>rfl) (Or.inr I) I ?_;refine ah (fun β=>(cq (.of I) (.of I) (.of I) I)) aK I ?_;refine ah (fun β=>(aL (.of I))) aK I ?_
  (refine aS I (fun _=>rfl)<|ah (fun β=>(aL (.of I))) aK I ?_)
  (refine aS I (fun _=>rfl)<|ah (fun β=>(fV (.of I) (.of I) I)) aK I ?_)
  (refine aS I (fun _=>rfl)<|ah (fun β=>(aL (.of I))) aK I ?_)
  (refine aS I (fun _=>rfl)<|ah (fun β=>(bL (.of I) dF an (by rfl))) aK I ?_)
  dsimp only [Nat.zero_add,Nat.reduceAdd];refine aS I (fun _=>rfl) ?_
  with_reducible apply cZ (ι:=Value×Value×Value×Value) (Φ:=fun _=>True) (val:=fun x=>.agg #[.q r.lv,.q r.ma,x.1,x.2.1,x.2.2.1,x.2.2.2]) (own:=fun x=>kC r x) (g:=g4) (B:=[]) (args:=fun β=>[.agg #[.q r.lv,.q r.ma,.slice sa r.sr.length my,.slice da r.de.length qf,.slice ta r.ti.length tcp,p]])
  case hg=>exact kr
  case hB=>first | rfl | kernel_rfl
  case hr=>exact fun β=>a8 (.of I) (.o I .nil) inferInstance I
  case hd=>rfl
  case hc=>
   intro β w' hb;exact fU (h.keeps hb.mem.keeps) Eu
  dsimp only [Nat.reduceAdd]
  (refine aS I (fun _=>rfl)<|ah (fun β=>(aL (.of I))) aK I ?_)
  (refine aS I (fun _=>rfl)<|ah (fun β=>(ai (.of I) ae)) aK I ?_)
  (refine aS I (fun _=>rfl)<|ah (fun β=>(ag (.of I) (At.lit bO I))) aK I ?_)
  (refine aS I (fun _=>rfl)<|ah (fun β=>(ai (.of I) ae)) aK I ?_)
  (refine aS I (fun _=>rfl)<|ah (fun β=>(ag (.of I) (At.lit c6 I))) aK I ?_)
  (refine aS I (fun _=>rfl)<|ah (fun β=>(aL (.of I))) aK I ?_)
  dsimp only [Nat.zero_add,Nat.reduceAdd];refine aS I (fun _=>rfl) ?_
  with_reducible apply cZ (ι:=Value) (Φ:=fun _=>True) (val:=id) (own:=fun x=>[row 3 1 x CY.length (ints CY).flatten]) (g:=id) (B:=[]) (args:=fun _=>[.slice ca CY.length cc])
  case hg=>exact fun x=>⟨x,I⟩
  case hB=>rfl
  case hr=>exact fun β=>a8 (.of I) (.o I .nil) inferInstance I
  case hd=>rfl
  case hc=>
   intro β w' hb;have m0:=hb.mem;exact NW (jF (E:=3) (v:=.slice ca CY.length cc) (l:=CY) (n:=CY.length) m0 (by exact .here) I) hC9
  dsimp only [id_eq,Nat.reduceAdd];refine aS I (fun _=>rfl) ?_
  with_reducible apply cV (B:=[40,47]) (F:=fun _=>.q 0) (args:=fun β=>[.agg #[.q r.lv,.q r.ma,(g4 (β 40)).1,(g4 (β 40)).2.1,(g4 (β 40)).2.2.1,(g4 (β 40)).2.2.2],.q (k:Nat),.string so,.string de,β 47])
  case hB=>first | rfl | kernel_rfl
  case hr=>exact fun β=>a8 (.of I) ((.o I (.o I (.o I (.o I (.o I .nil)))))) inferInstance I
  case hi=>exact aK
  case hd=>rfl
  case hc=>
   intro β w' hb;have m1:=hb.at 40 Zp (s:=⟨fun β=>.agg #[.q r.lv,.q r.ma,(g4 (β 40)).1,(g4 (β 40)).2.1,(g4 (β 40)).2.2.1,(g4 (β 40)).2.2.2],fun β=>kC r (g4 (β 40))⟩) (by kernel_rfl)
   have m2:=hb.at 47 (ZT _ Zp) (s:=⟨fun β=>β 47,fun β=>[row 3 1 (β 47) CY.length (ints CY).flatten]⟩) (by kernel_rfl)
   dsimp only at m1;dsimp only [Zb,Za] at m2;have m4:=nO m1 (bb _ _);rw [<- sV] at m2;have m3:=jF (E:=3) (v:=β 47) (n:=CY.length) m2 (by exact .here) I;exact aaz (k:Nat) so de W0 m4 hF m3
  dsimp only [Nat.reduceAdd]
  (refine aS I (fun _=>rfl)<|ah (fun β=>(jw (.of I) (.of I) I)) aK I ?_)
  (refine aS I (fun _=>rfl)<|ah (fun β=>(cq (.of I) (.of I) (.of I) I)) aK I ?_)
  refine ah (fun β=>(cq (.of I) (.of I) (.of I) I)) aK I ?_;dsimp only [Nat.zero_add,Nat.reduceAdd];refine eG fun β=>?_;unfold kC;dsimp only [dX,Za,Zb,List.append_eq,Nat.reduceAdd];generalize g4 (β 40)=ya;generalize β 47=yb;clear β
  with_reducible refine cn (by kernel_rfl) ?_
  refine cT [bA b6 (.cells #[.string so,.q sx] 118 (0,0)),bA b7 (.cells #[.string de,.q dx,.bool dp] 88 (0,0)),JQ b2 r (.slice sa r.sr.length my) (.slice da r.de.length qf) (.slice ta r.ti.length tcp) p] (by exact .cons nR (.cons nR (.cons nR .nil))) ?_
  (refine Jt<|bJ (.of I)<|Jk<|Jr<|ab (cN bO) I ?_)
  by_cases h8:((r.de.length:Nat):Int)=8
  ·have h8t:=h8;refine JN bS I (fun w1 aY=>yY (h.keeps aY.keeps) Eu) ?_;rintro ⟨m1,m2,m3,m4⟩ _
   try dsimp only [id_eq,Zb,Za]
   refine iS (r:=r) (s:=m1) (d:=m2) (t:=m3) (p:=m4) (bb _ _) fun _ _ _ _=>?_
   (refine Jz I I fun _ _=>aq (.of I) (.of I) .here I I (aU I (aU I (aU (by assumption) (aU (by assumption) (aU (by assumption) (aU (by assumption) eS)))))) (bF I) an<|Jn<|Jq<|Jr<|bN I I ae<|JL I nR I<|JI I<|ab (fV (.of I) (.of I) h8t) I<|Jv I<|au I I (fun hg bG=>(bL (.of I) nR an (by rfl))) I<|cK I I I I<|cK I I I I<|ab (cq (.of I) (.of I) (.of I) I) I<|Jn<|ch (.of I)<|Jr<|Ja I<|Jn<|Ju<|JT ?_)
   rfl
  have h8f:=h8;refine JN bS I (fun w1 aY=>yY (h.keeps aY.keeps) Eu) ?_;rintro ⟨m1,m2,m3,m4⟩ _
  try dsimp only [id_eq,Zb,Za]
  refine iS (r:=r) (s:=m1) (d:=m2) (t:=m3) (p:=m4) (bb _ _) fun _ _ _ _=>?_
  (refine Jz I I fun _ _=>aq (.of I) (.of I) .here I I (aU I (aU I (aU (by assumption) (aU (by assumption) (aU (by assumption) (aU (by assumption) eS)))))) (bF I) an<|Jn<|Jq<|Jr<|bN I I ae<|JL I nR I<|JI I<|ab (hP (.of I) (.of I) h8f) I<|Jv I<|JK I I<|ab (cN nR) I<|JK I I ?_)
  rename_i Bc Su;refine cT [JQ Bc r m1 m2 m3 m4,row 118 2 m1 (r).sr.length (mw (r).sr),row 88 3 m2 (r).de.length (j5 (r).de),row 122 3 m3 (r).ti.length (nN (r).ti),row 180 3 m4 (r).po.length (jb (r).po),bA b6 (.cells #[.string so,.q sx] 118 (0,0)),bA b7 (.cells #[.string de,.q dx,.bool dp] 88 (0,0)),JQ b2 r (.slice sa r.sr.length my) (.slice da r.de.length qf) (.slice ta r.ti.length tcp) p] (by exact .h8 .nil) ?_;refine JN bS I (fun w1 aY=>uR (h.keeps aY.keeps) Eu) ?_;rintro nv _
  try dsimp only [id_eq,Zb,Za]
  obtain ⟨bm,Mt⟩:∃ b,fy (cY r) (⟨#[109,111,114,101]⟩:ByteArray)=b:=⟨_,rfl⟩;refine DA I I ?_;refine aj bo I (fun w1 aY=>K1 (dA (l:=cY r) aY (by exact .here) I) Mt) ?_;cases bm
  rotate_left
  ·(refine ab (cq (.of I) (.of I) (.of I) I) I<|Jn<|ch (.of I)<|Jr<|Ja I<|Jn<|Ju<|JT ?_)
   rfl
  have US:nC ∉ cY r:=fun c=>by
   have:fy (cY r) nC=false:=Mt;rw [dN.2 c] at this;cases this
  have Vs:r.de.length<8:=by omega
  have KY:fT (r.more dx)=0:=by rw [<- KV];exact r9 fB (tq dw Sk) Vs US
  obtain ⟨Q2,I2,Oz⟩:=vM fB US Vs En Mm Sk;rw [Oq,KV] at Oz
  replace Oz:iv (r.more dx) [jA r k so]=(Q2,I2,18):=Oz
  have hlen:(j5 r.de).length=r.de.length*3:=u6 r.de
  (refine ab (cq (.of I) (.of I) (.of I) I) I<|Jn<|bJ (.of I)<|Jk<|Jr<|bN I I ae<|JL I (.there .here) I<|bN I I ae<|JL I nR I<|ab (aX (.o I (.o I .nil)) an) I<|bn (bD (.o I .nil) I I bV bV an) I fun _ _=>?_)
  refine bH (.of I) (.of I) dF .here an (by rfl) (fc I I I) (by rfl) (by rfl) (by rfl) eC (by rfl) ?_;intro z;refine aT (v:=z) (by exact .here) fun gm SD e0=>?_;subst e0;rw [CO,mO r.de ⟨nC,dx,false⟩];obtain ⟨DM,Vr⟩:∃ D,r.de++[⟨nC,dx,false⟩]=D:=⟨_,rfl⟩;rw [Vr]
  (refine bN I I ae<|aq (.of I) (.of I) c6 I I (dG I) (bF I) an<|Ji<|ab (aX (.o I .nil) an) I<|Jz I I fun _ _=>aq (.of I) (.of I) .here I I (gK I I) (bF I) an<|Jn<|Jq<|Jr<|bN I I ae<|JL I lT I<|Jv I<|Jn<|J0 ?_)
  rename_i Hq Vf;refine aR 9 1 ?_;refine bd (ι:=Nat×Option Addr×Nat×List ByteArray) (fun y=>y.1<=r.lv.toNat/\y.2.2.2=(List.range y.1).map fun i=>if i=k then so else ⟨#[]⟩) (fun y=>[(188,.q (y.1:Nat)),(187,.q r.lv),(13,.p Hq),(12,.p Bc),(9,.q 18),(5,.q (k:Nat)),(6,.p b6),(7,.p b7),(2,.p b2)]) (fun y=>[row 9 1 (.slice y.2.1 y.2.2.2.length y.2.2.1) y.2.2.2.length (aO y.2.2.2),bA Hq (.cells #[.string ⟨#[109,111,114,101]⟩,.slice y.2.1 y.2.2.2.length y.2.2.1] 78 (0,0)),JQ Bc r m1 (.slice gm DM.length SD) m3 m4,row 118 2 m1 (r).sr.length (mw (r).sr),row 88 3 (.slice gm DM.length SD) DM.length (j5 DM),row 122 3 m3 (r).ti.length (nN (r).ti),row 180 3 m4 (r).po.length (jb (r).po),bA b6 (.cells #[.string so,.q sx] 118 (0,0)),bA b7 (.cells #[.string de,.q dx,.bool dp] 88 (0,0)),JQ b2 r (.slice sa r.sr.length my) (.slice da r.de.length qf) (.slice ta r.ti.length tcp) p]) (fun y=>r.lv.toNat-y.1) ?_ ?_
  ·apply aJ (0,none,0,[]) ⟨Zi _,I⟩
   case hs1=>exact cB
   case ht=>
    exact .h3 (.cons c6 (.h1 (.cons bO (.cons bO (.cons bO (.cons bO (.cons bO .nil)))))))
  rintro ⟨k2,g1,oY,L⟩ ⟨eL,hL⟩;dsimp only at eL hL ⊢;have Et:L.length=k2:=by rw [hL,Zd,Zar]
  by_cases su:k2<r.lv.toNat
  ·have kc:L++[if k2=k then so else ⟨#[]⟩]=(List.range (k2+1)).map fun i=>if i=k then so else ⟨#[]⟩:=by rw [hL,Zbc,Zz];rfl
   have UX:(aO L).length=L.length*1:=by rw [dj];omega
   (refine Jr<|JA I<|Jn<|Jq<|Jd I fun aA=>Jk<|Jq<|J0<|Jr<|Jv I<|Ja I<|Ji<|Ja I<|Jn<|Jq<|Jr<|Jv I<|Jv I<|JC I<|Jn<|gR I (fun aA=>?_) fun aA=>?_;refine Jg<|bN I I ae<|JL I nR I<|Ja I<|Jn<|Jg<|bN I I ae<|JL I (.there .here) I<|Jv I<|bn (aB (.o I .nil) I I I I) I fun _ _=>?_;rotate_left;refine Jk<|Jg<|bN I I ae<|JL I (.there .here) I<|Jv I<|bn (aB (.o I .nil) I I I I) I fun _ _=>?_;rotate_right)
   ·rw [if_pos (by omega)] at kc;refine bH (.of I) (.of I) (.there .here) .here an (by rfl) (dG I) (by rfl) (by rfl) (by rfl) eC (by rfl) ?_;intro z;refine aT (v:=z) (by exact .here) fun gx cx e0=>?_;subst e0;rw [<- pG,mO L so]
    (refine bN I I ae<|aq (.of I) (.of I) bO I I (dG I) (bF I) an<|Jx<|Jj<|Jt<|Jg<|JB I (by omega)<|Jv I<|Jn ?_)
    apply aI (k2+1,gx,cx,L++[so]) ⟨Nat.succ_le_of_lt su,kc⟩ (show r.lv.toNat-(k2+1)<r.lv.toNat-k2 by omega)
    case hs1=>exact cB
    case ht=>
     dsimp only;exact .cons (.there .here) (.h1 (.cons (.there .here) (.cons (.there .here) (.cons (.there .here) (.cons (.there .here) (.cons (.there .here) (.cons (.there .here) (.cons (.there .here) (.cons (.there .here) .nil)))))))))
   ·rw [if_neg (by omega)] at kc;refine bH (.of I) (.of I) (.there .here) .here an (by rfl) (dG I) (by rfl) (by rfl) (by rfl) eC (by rfl) ?_;intro z;refine aT (v:=z) (by exact .here) fun gx cx e0=>?_;subst e0;rw [<- pG,mO L (⟨#[]⟩:ByteArray)]
    (refine bN I I ae<|aq (.of I) (.of I) bO I I (dG I) (bF I) an<|Jx<|Jj<|Jt<|Jg<|JB I (by omega)<|Jv I<|Jn ?_)
    apply aI (k2+1,gx,cx,L++[(⟨#[]⟩:ByteArray)]) ⟨Nat.succ_le_of_lt su,kc⟩ (show r.lv.toNat-(k2+1)<r.lv.toNat-k2 by omega)
    case hs1=>exact cB
    case ht=>
     dsimp only;exact .cons (.there .here) (.h1 (.cons (.there .here) (.cons (.there .here) (.cons (.there .here) (.cons (.there .here) (.cons (.there .here) (.cons (.there .here) (.cons (.there .here) (.cons (.there .here) .nil)))))))))
  obtain rfl:k2=r.lv.toNat:=by omega
  replace hL:L=(jA r k so).so:=hL
  refine Jr<|JA I<|Jn<|Jq<|Jc I fun aA=>Jp<|Jl<|Jo<|Jt<|Jq ?_
  with_reducible refine mE 8 [6] (by kernel_rfl) (Zt.2 ⟨pL I (by kernel_rfl) (by kernel_rfl),fun _ h=>absurd h Zo⟩) ?_
  refine ah (fun β=>(bL (.of I) bO an (by rfl))) aK I ?_;dsimp only [Nat.zero_add,Nat.reduceAdd]
  with_reducible apply cZ (ι:=Value×Value×Value×Value) (Φ:=fun _=>True) (val:=fun x=>.agg #[.q (r.more dx).lv,.q (r.more dx).ma,x.1,x.2.1,x.2.2.1,x.2.2.2]) (own:=fun x=>kC (r.more dx) x) (g:=g4) (B:=[]) (args:=fun β=>[.agg #[.q r.lv,.q r.ma,m1,.slice gm DM.length SD,m3,m4]])
  case hg=>exact kr
  case hB=>first | rfl | kernel_rfl
  case hr=>exact fun β=>a8 (.of I) (.o I .nil) inferInstance I
  case hd=>rfl
  case hc=>
   intro β w' hb;have m0:=hb.mem;exact fU (r:=r.more dx) (Fj (df m0 c6 I) (by rw [Vr];exact di m0 dF I) (dd m0 fx I) (c7 m0 qY I)) (pT KY)
  dsimp only [Nat.reduceAdd];refine ah (fun β=>(bL (.of I) (.there .here) an (by rfl))) aK I ?_;dsimp only [Nat.reduceAdd]
  with_reducible apply cZ (ι:=Value×Value×Value×Value) (Φ:=fun _=>True) (val:=fun y=>.tuple #[.agg #[.q Q2.lv,.q Q2.ma,y.1,y.2.1,y.2.2.1,y.2.2.2],.q 18]) (own:=fun y=>kC Q2 y) (g:=g4) (B:=[1]) (args:=fun β=>[.agg #[.q (r.more dx).lv,.q (r.more dx).ma,(g4 (β 1)).1,(g4 (β 1)).2.1,(g4 (β 1)).2.2.1,(g4 (β 1)).2.2.2],.agg #[.string ⟨#[109,111,114,101]⟩,.slice g1 L.length oY]])
  case hg=>exact kr
  case hB=>kernel_rfl
  case hr=>exact fun β=>a8 (.of I) (.o I (.o I .nil)) inferInstance I
  case hd=>rfl
  case hc=>
   intro β w' hb;have m0:=hb.mem;have m1:=hb.at 1 Zp I;dsimp only at m1;have m4:=nO m1 (bb _ _);have m3:=dA (E:=9) (v:=.slice g1 L.length oY) (l:=L) (n:=L.length) m0 (by exact .here) I;exact Fa (r:=r.more dx) (k:=jA r k so) Oz m4 (tj KY) (hL ▸ m3)
  dsimp only [Nat.reduceAdd]
  with_reducible apply ah (F:=fun β=>.tuple #[.agg #[.q Q2.lv,.q Q2.ma,(g4 (β 3)).1,(g4 (β 3)).2.1,(g4 (β 3)).2.2.1,(g4 (β 3)).2.2.2],.q 18])
  case hr=>(intro β;exact aL (.of I))
  case hi=>exact fun β β' h=>by simp only [h 3 (by kernel_rfl)]
  case hd=>rfl
  dsimp only [Nat.reduceAdd]
  with_reducible apply ah (F:=fun β=>.agg #[.q Q2.lv,.q Q2.ma,(g4 (β 3)).1,(g4 (β 3)).2.1,(g4 (β 3)).2.2.1,(g4 (β 3)).2.2.2])
  case hr=>(intro β;exact cC (.of I) I)
  case hi=>exact fun β β' h=>by simp only [h 3 (by kernel_rfl)]
  case hd=>rfl
  dsimp only [Nat.reduceAdd]
  with_reducible apply ah (F:=fun β=>.q 18)
  case hr=>(intro β;exact cC (.of I) I)
  case hi=>exact aK
  case hd=>rfl
  dsimp only [Nat.reduceAdd];refine lG (fun β=>(kh I)) (fun _ _ _=>rfl) I ?_;refine eG fun β=>?_;unfold kC;dsimp only [dX,Za,Zb,List.append_eq,Nat.reduceAdd];generalize g4 (β 1)=ya;obtain ⟨s9,d9,t9,p9⟩:=g4 (β 3);generalize ep (β 7)=Gb;clear β;dsimp only;refine dI (r:=Q2) (s:=s9) (d:=d9) (t:=t9) (p:=p9) (by unfold kC;dsimp only;exact .cons dF (.cons dF (.cons dF (.cons dF .nil)))) fun Xw Xv Xu Xt=>?_;refine cI (rs:=[8]) (by kernel_rfl) (by simp) (Zt.2 ⟨?_,fun _ h=>absurd h Zo⟩);refine cQ I ?_
  (refine aq (.of I) (.of I) zD I I (hG I I Xw Xv Xu Xt) (bF I) an<|Jn ?_)
  refine cI (rs:=[9]) (by kernel_rfl) (by simp) (Zt.2 ⟨?_,fun _ h=>absurd h Zo⟩);refine cQ I ?_;refine Ja I<|Jn ?_
  with_reducible refine cn (by kernel_rfl) ?_
  refine cT [bA b6 (.cells #[.string so,.q sx] 118 (0,0)),bA b7 (.cells #[.string de,.q dx,.bool dp] 88 (0,0)),JQ b2 r (.slice sa r.sr.length my) (.slice da r.de.length qf) (.slice ta r.ti.length tcp) p] (by exact .cons kB (.cons kB (.cons kB .nil))) ?_
  (refine Jt<|Jq<|Jr<|Jv I<|ab (rb (.of I) (.of I) (by omega)) I<|Jv I<|JK I I<|Jv I<|JK I I<|ab (jw (.of I) (.of I) I) I<|ab (cq (.of I) (.of I) (.of I) I) I<|Jv I<|JK I I<|Jv I<|JK I I<|ab (hP (.of I) (.of I) (by omega)) I<|JK I I<|Jv I<|JK I I<|ab (hP (.of I) (.of I) (by omega)) I<|JK I I<|ab (B8 (.of I) (.of I) I) I<|ab (cq (.of I) (.of I) (.of I) I) I<|Jn<|bJ (.of I)<|Jk<|Jr<|ab (cN bO) I ?_)
  refine JN bS I (fun w1 aY=>yY (h.keeps aY.keeps) Eu) ?_;rintro ⟨f1,f2,f3,f4⟩ _
  try dsimp only [id_eq,Zb,Za]
  refine iS (r:=r) (s:=f1) (d:=f2) (t:=f3) (p:=f4) (bb _ _) fun _ _ _ _=>?_
  (refine Jz I I fun _ _=>aq (.of I) (.of I) .here I I (aU I (aU I (aU (by assumption) (aU (by assumption) (aU (by assumption) (aU (by assumption) eS)))))) (bF I) an<|Ji<|bN I I ae<|aq (.of I) (.of I) .here I I (dG I) (bF I) an<|Jn<|Jq ?_)
  rename_i b18 Y5;refine cT [JQ b18 r f1 f2 f3 (.z),row 118 2 f1 (r).sr.length (mw (r).sr),row 88 3 f2 (r).de.length (j5 (r).de),row 122 3 f3 (r).ti.length (nN (r).ti),bA b6 (.cells #[.string so,.q sx] 118 (0,0)),bA b7 (.cells #[.string de,.q dx,.bool dp] 88 (0,0)),JQ b2 r (.slice sa r.sr.length my) (.slice da r.de.length qf) (.slice ta r.ti.length tcp) p] (by exact .h4 (.cons (.there .here) (.cons (.there .here) (.cons (.there .here) .nil)))) ?_;have AR:fT (r.wp [])=0:=EE fB (gV.nil r);have Wz:=sD (r:=r.wp []) AR En Mm Sk;obtain ⟨YF,W3⟩:∃ W,qw (r.wp []) (k:Nat) so de=W:=⟨_,rfl⟩;obtain ⟨bf,Dl⟩:∃ b,wB (r.wp []) (k:Nat) so de=b:=⟨_,rfl⟩;cases bf
  ·skip
   have Vk:sC (r.wp []) (k:Nat) so de=18:=by rw [ve Wz,Dl];rfl
   with_reducible refine dy 13 (by kernel_rfl) ?_
   refine ah (fun β=>(bL (.of I) .here an (by rfl))) aK I ?_;dsimp only [Nat.zero_add,Nat.reduceAdd]
   with_reducible apply cZ (ι:=Value×Value×Value×Value) (Φ:=fun _=>True) (val:=fun x=>.agg #[.q (r.wp []).lv,.q (r.wp []).ma,x.1,x.2.1,x.2.2.1,x.2.2.2]) (own:=fun x=>kC (r.wp []) x) (g:=g4) (B:=[]) (args:=fun β=>[.agg #[.q r.lv,.q r.ma,f1,f2,f3,.z]])
   case hg=>exact kr
   case hB=>first | rfl | kernel_rfl
   case hr=>exact fun β=>a8 (.of I) (.o I .nil) inferInstance I
   case hd=>rfl
   case hc=>
    intro β w' hb;have m0:=hb.mem;exact fU (r:=r.wp []) (IA (df m0 (by exact Take.there .here) I) (di m0 bO I) (dd m0 c6 I) (DO w').po) (pT AR)
   dsimp only [Nat.reduceAdd]
   (refine ah (fun β=>(aL (.of I))) aK I<|ah (fun β=>(ai (.of I) ae)) aK I<|ah (fun β=>(ag (.of I) (At.lit dF I))) aK I<|ah (fun β=>(ai (.of I) ae)) aK I<|ah (fun β=>(ag (.of I) (At.lit fx I))) aK I ?_)
   dsimp only [Nat.zero_add,Nat.reduceAdd]
   with_reducible apply cZ (ι:=Value) (Φ:=fun _=>True) (val:=fun x=>.tuple #[x,.q (18)]) (own:=fun x=>[row 9 1 x YF.length (aO YF)]) (g:=id) (B:=[1]) (args:=fun β=>[.agg #[.q (r.wp []).lv,.q (r.wp []).ma,(g4 (β 1)).1,(g4 (β 1)).2.1,(g4 (β 1)).2.2.1,(g4 (β 1)).2.2.2],.q (k:Nat),.string so,.string de])
   case hg=>exact fun x=>⟨x,I⟩
   case hB=>kernel_rfl
   case hr=>exact fun β=>a8 (.of I) ((.o I (.o I (.o I (.o I .nil))))) inferInstance I
   case hd=>rfl
   case hc=>
    intro β w' hb;have m1:=hb.at 1 Zp I;dsimp only at m1;have m4:=nO m1 (bb _ _);exact qR (k:Nat) so de m4 (tj AR) Vk W3
   dsimp only [id_eq,Nat.reduceAdd]
   with_reducible apply ah (F:=fun β=>.tuple #[β 7,.q (18)])
   case hr=>(intro β;exact aL (.of I))
   case hi=>exact fun β β' h=>by simp only [h 7 (by kernel_rfl)]
   case hd=>rfl
   dsimp only [Nat.reduceAdd]
   with_reducible apply ah (F:=fun β=>β 7)
   case hr=>(intro β;exact cC (.of I) I)
   case hi=>exact fun β β' h=>by simp only [h 7 (by kernel_rfl)]
   case hd=>rfl
   dsimp only [Nat.reduceAdd]
   with_reducible apply ah (F:=fun β=>.q (18))
   case hr=>(intro β;exact cC (.of I) I)
   case hi=>exact aK
   case hd=>rfl
   dsimp only [Nat.reduceAdd]
   with_reducible apply ah (F:=fun β=>β 7)
   case hr=>(intro β;exact cd (.of I))
   case hi=>exact fun β β' h=>by simp only [h 7 (by kernel_rfl)]
   case hd=>rfl
   dsimp only [Nat.reduceAdd]
   with_reducible apply ah (F:=fun β=>.q (18))
   case hr=>(intro β;exact cd (.of I))
   case hi=>exact aK
   case hd=>rfl
   dsimp only [Nat.reduceAdd];refine eG fun β=>?_;unfold kC;dsimp only [dX,Za,Zb,List.append_eq,Nat.reduceAdd];generalize β 7=xf;generalize g4 (β 1)=y1;clear β
   with_reducible refine cn (by kernel_rfl) ?_
   refine cT [row 9 1 xf YF.length (aO YF),bA b6 (.cells #[.string so,.q sx] 118 (0,0)),bA b7 (.cells #[.string de,.q dx,.bool dp] 88 (0,0)),JQ b2 r (.slice sa r.sr.length my) (.slice da r.de.length qf) (.slice ta r.ti.length tcp) p] (by exact .cons dF (.cons zD (.cons zD (.cons zD .nil)))) ?_
   (refine Jt<|Jq<|Jr<|bN I I ae<|JL I c6 I<|JI I<|Jv I<|Jn<|J0 ?_)
   refine bd (ι:=Nat) (fun q=>q<=r.ti.length) (fun q=>[(240,.q (q:Nat)),(239,.q (r.ti.length:Nat)),(238,.slice ta r.ti.length tcp),(20,.q 18),(9,.q 18),(5,.q (k:Nat)),(6,.p b6),(7,.p b7),(2,.p b2)]) (fun q=>[bA b6 (.cells #[.string so,.q sx] 118 (0,0)),bA b7 (.cells #[.string de,.q dx,.bool dp] 88 (0,0)),JQ b2 r (.slice sa r.sr.length my) (.slice da r.de.length qf) (.slice ta r.ti.length tcp) p]) (fun q=>r.ti.length-q) ?_ ?_
   ·apply aJ 0 (show 0<=r.ti.length from Zi _)
    case hs1=>exact cB
    case ht=>exact qv
   intro q hq
   try dsimp only at hq ⊢
   by_cases FI:q<r.ti.length
   rotate_left
   ·obtain rfl:q=r.ti.length:=by omega
    (refine Jr<|JA I<|Jn<|Jq<|Jc I fun aA=>Jp<|Jl<|Jo<|Jt<|Jr<|Jv I<|JC I<|Jv I<|gy I I I I<|au I I (fun hg bG=>(fR (.bX hg I) (.of I))) I<|au I I (fun hg bG=>(aL (.bX hg I))) I<|gy I I I I<|au I I (fun hg bG=>(eE (.bX hg I) (.of I))) I<|au I I (fun hg bG=>(cE (.bX hg I) I)) I<|ab (bE (.of I) I) I<|Ja I<|Jn<|Je<|JT ?_)
    skip
    rfl
   have Kt:=XO (eV FI);have rV:=(XN q _ (ed FI)).2;have Hx:=fun a1 a2=>wL (v:=(k:Nat)) Mm FI (de:=de) a1 a2
   rw [WC,KV] at Hx;unfold Ti.cells at rV;generalize (r.ti[q]).nm=tm at rV;generalize (r.ti[q]).fr=tf at rV Hx;generalize (r.ti[q]).to=tt at rV Hx
   (refine Jr<|JA I<|Jn<|Jq<|Jd I fun aA=>Jk<|Jq<|J0<|Jr<|ab (aC (.of I) (.of I) Kt (by omega) aA bu) I<|ab (iD (eO.base rV I)) I<|Jz I I fun _ _=>aq (.of I) (.of I) .here I I (fc I I I) (bF I) an<|Ji<|bN I I ae<|JL I .here I<|bN I I ae<|JL I (.there .here) I<|JC I<|Jv I<|au I I (fun hg bG=>(ai (.of I) ae)) I<|au I I (fun hg bG=>(ag (.bX hg I) (At.lit .here I))) I<|au I I (fun hg bG=>(ai (.of I) ae)) I<|au I I (fun hg bG=>(ag (.bX hg I) (At.lit bO I))) I<|au I I (fun hg bG=>(fR (.bX hg I) (.bX hg I))) I<|ab (cE (.of I) I) I<|Jv I<|gy I I I I<|au I I (fun hg bG=>(eE (.bX hg I) (.of I))) I<|ab (cE (.of I) I) I<|Jn<|oq I (fun aA=>?_) fun aA=>?_;refine Jr<|Ja I<|Jn<|Je<|Jm<|Jh<|Jh<|Jm<|Jh<|JT ?_;rotate_left;refine Jw<|Jj<|Jt<|Jg<|JB I (by omega)<|Jv I<|Jn ?_;rotate_right)
   ·exfalso;have:=Hx aA.1.1 aA.1.2;rw [Dl] at this;cases this
   apply aI (q+1) (show q+1<=r.ti.length from FI) (show r.ti.length-(q+1)<r.ti.length-q by omega)
   case hs1=>exact cB
   case ht=>exact qv
  have Vk:sC (r.wp []) (k:Nat) so de=0:=by rw [ve Wz,Dl];rfl
  with_reducible refine dy 13 (by kernel_rfl) ?_
  refine ah (fun β=>(bL (.of I) .here an (by rfl))) aK I ?_;dsimp only [Nat.zero_add,Nat.reduceAdd]
  with_reducible apply cZ (ι:=Value×Value×Value×Value) (Φ:=fun _=>True) (val:=fun x=>.agg #[.q (r.wp []).lv,.q (r.wp []).ma,x.1,x.2.1,x.2.2.1,x.2.2.2]) (own:=fun x=>kC (r.wp []) x) (g:=g4) (B:=[]) (args:=fun β=>[.agg #[.q r.lv,.q r.ma,f1,f2,f3,.z]])
  case hg=>exact kr
  case hB=>first | rfl | kernel_rfl
  case hr=>exact fun β=>a8 (.of I) (.o I .nil) inferInstance I
  case hd=>rfl
  case hc=>
   intro β w' hb;have m0:=hb.mem;exact fU (r:=r.wp []) (IA (df m0 (by exact Take.there .here) I) (di m0 bO I) (dd m0 c6 I) (DO w').po) (pT AR)
  dsimp only [Nat.reduceAdd]
  (refine ah (fun β=>(aL (.of I))) aK I<|ah (fun β=>(ai (.of I) ae)) aK I<|ah (fun β=>(ag (.of I) (At.lit dF I))) aK I<|ah (fun β=>(ai (.of I) ae)) aK I<|ah (fun β=>(ag (.of I) (At.lit fx I))) aK I ?_)
  dsimp only [Nat.zero_add,Nat.reduceAdd]
  with_reducible apply cZ (ι:=Value) (Φ:=fun _=>True) (val:=fun x=>.tuple #[x,.q (0)]) (own:=fun x=>[row 9 1 x YF.length (aO YF)]) (g:=id) (B:=[1]) (args:=fun β=>[.agg #[.q (r.wp []).lv,.q (r.wp []).ma,(g4 (β 1)).1,(g4 (β 1)).2.1,(g4 (β 1)).2.2.1,(g4 (β 1)).2.2.2],.q (k:Nat),.string so,.string de])
  case hg=>exact fun x=>⟨x,I⟩
  case hB=>kernel_rfl
  case hr=>exact fun β=>a8 (.of I) ((.o I (.o I (.o I (.o I .nil))))) inferInstance I
  case hd=>rfl
  case hc=>
   intro β w' hb;have m1:=hb.at 1 Zp I;dsimp only at m1;have m4:=nO m1 (bb _ _);exact qR (k:Nat) so de m4 (tj AR) Vk W3
  dsimp only [id_eq,Nat.reduceAdd]
  with_reducible apply ah (F:=fun β=>.tuple #[β 7,.q (0)])
  case hr=>(intro β;exact aL (.of I))
  case hi=>exact fun β β' h=>by simp only [h 7 (by kernel_rfl)]
  case hd=>rfl
  dsimp only [Nat.reduceAdd]
  with_reducible apply ah (F:=fun β=>β 7)
  case hr=>(intro β;exact cC (.of I) I)
  case hi=>exact fun β β' h=>by simp only [h 7 (by kernel_rfl)]
  case hd=>rfl
  dsimp only [Nat.reduceAdd]
  with_reducible apply ah (F:=fun β=>.q (0))
  case hr=>(intro β;exact cC (.of I) I)
  case hi=>exact aK
  case hd=>rfl
  dsimp only [Nat.reduceAdd]
  with_reducible apply ah (F:=fun β=>β 7)
  case hr=>(intro β;exact cd (.of I))
  case hi=>exact fun β β' h=>by simp only [h 7 (by kernel_rfl)]
  case hd=>rfl
  dsimp only [Nat.reduceAdd]
  with_reducible apply ah (F:=fun β=>.q (0))
  case hr=>(intro β;exact cd (.of I))
  case hi=>exact aK
  case hd=>rfl
  dsimp only [Nat.reduceAdd];refine eG fun β=>?_;unfold kC;dsimp only [dX,Za,Zb,List.append_eq,Nat.reduceAdd];generalize β 7=xf;generalize g4 (β 1)=y1;clear β
  with_reducible refine cn (by kernel_rfl) ?_
  refine cT [row 9 1 xf YF.length (aO YF),bA b6 (.cells #[.string so,.q sx] 118 (0,0)),bA b7 (.cells #[.string de,.q dx,.bool dp] 88 (0,0)),JQ b2 r (.slice sa r.sr.length my) (.slice da r.de.length qf) (.slice ta r.ti.length tcp) p] (by exact .cons dF (.cons zD (.cons zD (.cons zD .nil)))) ?_
  (refine Jt<|Jq<|Jr<|bN I I ae<|JL I c6 I<|JI I<|Jv I<|Jn<|J0 ?_)
  refine bd (ι:=Nat) (fun q=>q<=r.ti.length) (fun q=>[(240,.q (q:Nat)),(239,.q (r.ti.length:Nat)),(238,.slice ta r.ti.length tcp),(20,.q 0),(9,.q 18),(5,.q (k:Nat)),(6,.p b6),(7,.p b7),(2,.p b2)]) (fun q=>[bA b6 (.cells #[.string so,.q sx] 118 (0,0)),bA b7 (.cells #[.string de,.q dx,.bool dp] 88 (0,0)),JQ b2 r (.slice sa r.sr.length my) (.slice da r.de.length qf) (.slice ta r.ti.length tcp) p]) (fun q=>r.ti.length-q) ?_ ?_
  ·apply aJ 0 (show 0<=r.ti.length from Zi _)
   case hs1=>exact cB
   case ht=>exact qv
  intro q hq
  try dsimp only at hq ⊢
  by_cases FI:q<r.ti.length
  rotate_left
  ·obtain rfl:q=r.ti.length:=by omega
   (refine Jr<|JA I<|Jn<|Jq<|Jc I fun aA=>Jp<|Jl<|Jo<|Jt<|Jr<|Jv I<|JC I<|Jv I<|gy I I I I<|au I I (fun hg bG=>(fR (.bX hg I) (.of I))) I<|au I I (fun hg bG=>(aL (.bX hg I))) I<|iO I I (fun hg bG=>(aL (.of I))) I<|iO I I (fun hg bG=>(have Mr:=(A9 hg);(eE (.bX Mr I) (.of I)))) I<|au I I (fun hg bG=>(iJ hg (.bX hg I) I)) I<|ab (bE (.of I) I) I<|Ja I<|Jn<|Je<|JT ?_)
   skip
   rfl
  have Kt:=XO (eV FI);have rV:=(XN q _ (ed FI)).2;have Hx:=fun a1 a2=>wL (v:=(k:Nat)) Mm FI (de:=de) a1 a2
  rw [WC,KV] at Hx;unfold Ti.cells at rV;generalize (r.ti[q]).nm=tm at rV;generalize (r.ti[q]).fr=tf at rV Hx;generalize (r.ti[q]).to=tt at rV Hx
  (refine Jr<|JA I<|Jn<|Jq<|Jd I fun aA=>Jk<|Jq<|J0<|Jr<|ab (aC (.of I) (.of I) Kt (by omega) aA bu) I<|ab (iD (eO.base rV I)) I<|Jz I I fun _ _=>aq (.of I) (.of I) .here I I (fc I I I) (bF I) an<|Ji<|bN I I ae<|JL I .here I<|bN I I ae<|JL I (.there .here) I<|JC I<|Jv I<|au I I (fun hg bG=>(ai (.of I) ae)) I<|au I I (fun hg bG=>(ag (.bX hg I) (At.lit .here I))) I<|au I I (fun hg bG=>(ai (.of I) ae)) I<|au I I (fun hg bG=>(ag (.bX hg I) (At.lit bO I))) I<|au I I (fun hg bG=>(fR (.bX hg I) (.bX hg I))) I<|ab (cE (.of I) I) I<|Jv I<|gy I I I I<|au I I (fun hg bG=>(eE (.bX hg I) (.of I))) I<|ab (cE (.of I) I) I<|Jn<|oq I (fun _=>by omega) fun aA=>Jw<|Jj<|Jt<|Jg<|JB I (by omega)<|Jv I<|Jn ?_)
  apply aI (q+1) (show q+1<=r.ti.length from FI) (show r.ti.length-(q+1)<r.ti.length-q by omega)
  case hs1=>exact cB
  case ht=>exact qv
 have hW1:sC r (k:Nat) so de=0:=by rw [ve Tm,Oq];rfl
 have hC1:A4 r (k:Nat) so de=24:=by rw [Lq Tm,Oq];rfl
 obtain ⟨Sm,PR,Y9⟩:=OS fB Tm Mm Oq;rw [hWY] at Sm PR Y9;rw [WC,KV] at Y9;have hW9:WY.length<=1000000:=by omega
 have Tv:¬ ((r.ti.length:Nat):Int)<(WY.length:Nat):=by omega
 with_reducible refine dy 13 (by kernel_rfl) ?_
 refine ah (fun β=>(bL (.of I) bO an (by rfl))) aK I ?_;dsimp only [Nat.zero_add,Nat.reduceAdd]
 with_reducible apply cZ (ι:=Value×Value×Value×Value) (Φ:=fun _=>True) (val:=fun x=>.agg #[.q r.lv,.q r.ma,x.1,x.2.1,x.2.2.1,x.2.2.2]) (own:=fun x=>kC r x) (g:=g4) (B:=[]) (args:=fun β=>[.agg #[.q r.lv,.q r.ma,.slice sa r.sr.length my,.slice da r.de.length qf,.slice ta r.ti.length tcp,p]])
 case hg=>exact kr
 case hB=>first | rfl | kernel_rfl
 case hr=>exact fun β=>a8 (.of I) (.o I .nil) inferInstance I
 case hd=>rfl
 case hc=>
  intro β w' hb;exact fU (h.keeps hb.mem.keeps) Eu
 dsimp only [Nat.reduceAdd]
 (refine ah (fun β=>(aL (.of I))) aK I<|ah (fun β=>(ai (.of I) ae)) aK I<|ah (fun β=>(ag (.of I) (At.lit .here I))) aK I<|ah (fun β=>(ai (.of I) ae)) aK I<|ah (fun β=>(ag (.of I) (At.lit (.there .here) I))) aK I ?_)
 dsimp only [Nat.zero_add,Nat.reduceAdd]
 with_reducible apply cZ (ι:=Value) (Φ:=fun _=>True) (val:=fun x=>.tuple #[x,.q (0)]) (own:=fun x=>[row 9 1 x WY.length (aO WY)]) (g:=id) (B:=[1]) (args:=fun β=>[.agg #[.q r.lv,.q r.ma,(g4 (β 1)).1,(g4 (β 1)).2.1,(g4 (β 1)).2.2.1,(g4 (β 1)).2.2.2],.q (k:Nat),.string so,.string de])
 case hg=>exact fun x=>⟨x,I⟩
 case hB=>kernel_rfl
 case hr=>exact fun β=>a8 (.of I) ((.o I (.o I (.o I (.o I .nil))))) inferInstance I
 case hd=>rfl
 case hc=>
  intro β w' hb;have m1:=hb.at 1 Zp I;dsimp only at m1;have m4:=nO m1 (bb _ _);exact qR (k:Nat) so de m4 hF hW1 hWY
 dsimp only [id_eq,Nat.reduceAdd]
 with_reducible apply ah (F:=fun β=>.tuple #[β 7,.q (0)])
 case hr=>(intro β;exact aL (.of I))
 case hi=>exact fun β β' h=>by simp only [h 7 (by kernel_rfl)]
 case hd=>rfl
 dsimp only [Nat.reduceAdd]
 with_reducible apply ah (F:=fun β=>β 7)
 case hr=>(intro β;exact cC (.of I) I)
 case hi=>exact fun β β' h=>by simp only [h 7 (by kernel_rfl)]
 case hd=>rfl
 dsimp only [Nat.reduceAdd]
 with_reducible apply ah (F:=fun β=>.q (0))
 case hr=>(intro β;exact cC (.of I) I)
 case hi=>exact aK
 case hd=>rfl
 dsimp only [Nat.reduceAdd]
 with_reducible apply ah (F:=fun β=>β 7)
 case hr=>(intro β;exact cd (.of I))
 case hi=>exact fun β β' h=>by simp only [h 7 (by kernel_rfl)]
 case hd=>rfl
 dsimp only [Nat.reduceAdd]
 with_reducible apply ah (F:=fun β=>.q (0))
 case hr=>(intro β;exact cd (.of I))
 case hi=>exact aK
 case hd=>rfl
 dsimp only [Nat.reduceAdd];refine eG fun β=>?_;unfold kC;dsimp only [dX,Za,Zb,List.append_eq,Nat.reduceAdd];generalize β 7=xw;generalize g4 (β 1)=y1;clear β
 with_reducible refine cn (by kernel_rfl) ?_
 refine cT [row 9 1 xw WY.length (aO WY),bA b6 (.cells #[.string so,.q sx] 118 (0,0)),bA b7 (.cells #[.string de,.q dx,.bool dp] 88 (0,0)),JQ b2 r (.slice sa r.sr.length my) (.slice da r.de.length qf) (.slice ta r.ti.length tcp) p] (by exact .cons dF (.cons dF (.cons dF (.cons dF .nil)))) ?_;refine Jt<|Jq ?_
 with_reducible refine dy 13 (by kernel_rfl) ?_
 refine ah (fun β=>(bL (.of I) c6 an (by rfl))) aK I ?_;dsimp only [Nat.zero_add,Nat.reduceAdd]
 with_reducible apply cZ (ι:=Value×Value×Value×Value) (Φ:=fun _=>True) (val:=fun x=>.agg #[.q r.lv,.q r.ma,x.1,x.2.1,x.2.2.1,x.2.2.2]) (own:=fun x=>kC r x) (g:=g4) (B:=[]) (args:=fun β=>[.agg #[.q r.lv,.q r.ma,.slice sa r.sr.length my,.slice da r.de.length qf,.slice ta r.ti.length tcp,p]])
 case hg=>exact kr
 case hB=>first | rfl | kernel_rfl
 case hr=>exact fun β=>a8 (.of I) (.o I .nil) inferInstance I
 case hd=>rfl
 case hc=>
  intro β w' hb;exact fU (h.keeps hb.mem.keeps) Eu
 dsimp only [Nat.reduceAdd]
 (refine ah (fun β=>(aL (.of I))) aK I<|ah (fun β=>(ai (.of I) ae)) aK I<|ah (fun β=>(ag (.of I) (At.lit (.there .here) I))) aK I<|ah (fun β=>(ai (.of I) ae)) aK I<|ah (fun β=>(ag (.of I) (At.lit bO I))) aK I ?_)
 dsimp only [Nat.zero_add,Nat.reduceAdd]
 with_reducible apply cZ (ι:=Value) (Φ:=fun _=>True) (val:=fun x=>.tuple #[x,.q (24)]) (own:=fun x=>[row 3 1 x CY.length (CY.map (Value.int .i64))]) (g:=id) (B:=[1]) (args:=fun β=>[.agg #[.q r.lv,.q r.ma,(g4 (β 1)).1,(g4 (β 1)).2.1,(g4 (β 1)).2.2.1,(g4 (β 1)).2.2.2],.q (k:Nat),.string so,.string de])
 case hg=>exact fun x=>⟨x,I⟩
 case hB=>kernel_rfl
 case hr=>exact fun β=>a8 (.of I) ((.o I (.o I (.o I (.o I .nil))))) inferInstance I
 case hd=>rfl
 case hc=>
  intro β w' hb;have m1:=hb.at 1 Zp I;dsimp only at m1;have m4:=nO m1 (bb _ _);exact EL (k:Nat) so de m4 hF hC1 hCY
 dsimp only [id_eq,Nat.reduceAdd]
 with_reducible apply ah (F:=fun β=>.tuple #[β 7,.q (24)])
 case hr=>(intro β;exact aL (.of I))
 case hi=>exact fun β β' h=>by simp only [h 7 (by kernel_rfl)]
 case hd=>rfl
 dsimp only [Nat.reduceAdd]
 with_reducible apply ah (F:=fun β=>β 7)
 case hr=>(intro β;exact cC (.of I) I)
 case hi=>exact fun β β' h=>by simp only [h 7 (by kernel_rfl)]
 case hd=>rfl
 dsimp only [Nat.reduceAdd]
 with_reducible apply ah (F:=fun β=>.q (24))
 case hr=>(intro β;exact cC (.of I) I)
 case hi=>exact aK
 case hd=>rfl
 dsimp only [Nat.reduceAdd]
 with_reducible apply ah (F:=fun β=>β 7)
 case hr=>(intro β;exact cd (.of I))
 case hi=>exact fun β β' h=>by simp only [h 7 (by kernel_rfl)]
 case hd=>rfl
 dsimp only [Nat.reduceAdd]
 with_reducible apply ah (F:=fun β=>.q (24))
 case hr=>(intro β;exact cd (.of I))
 case hi=>exact aK
 case hd=>rfl
 dsimp only [Nat.reduceAdd];refine eG fun β=>?_;unfold kC;dsimp only [dX,Za,Zb,List.append_eq,Nat.reduceAdd];generalize β 7=xc;generalize g4 (β 1)=y1;clear β
 with_reducible refine cn (by kernel_rfl) ?_
 refine cT [row 3 1 xc CY.length (CY.map (Value.int .i64)),row 9 1 xw WY.length (aO WY),bA b6 (.cells #[.string so,.q sx] 118 (0,0)),bA b7 (.cells #[.string de,.q dx,.bool dp] 88 (0,0)),JQ b2 r (.slice sa r.sr.length my) (.slice da r.de.length qf) (.slice ta r.ti.length tcp) p] (by exact .cons dF (.cons dF (.cons dF (.cons dF (.cons dF .nil))))) ?_
 (refine Jt<|Jq<|Jr<|Jv I<|ab (fV (.of I) (.of I) I) I<|Jv I<|ab (hP (.of I) (.of I) (by omega)) I<|ab (Cb (.of I) (.of I) I) I<|Jv I<|JK I I<|Jv I<|JK I I<|ab (jw (.of I) (.of I) I) I<|JK I I<|Jv I<|gy I I I I<|au I I (fun hg bG=>(eE (.bX bG I) (.of I))) I<|JK I I<|ab (cq (.of I) (.of I) (.of I) I) I<|ab (cq (.of I) (.of I) (.of I) I) I<|Jv I<|JK I I<|Jv I<|JK I I<|ab (rb (.of I) (.of I) (by omega)) I<|JK I I<|Jv I<|JK I I<|Jv I<|JK I I<|ab (jw (.of I) (.of I) I) I<|JK I I<|ab (cq (.of I) (.of I) (.of I) I) I<|ab (cq (.of I) (.of I) (.of I) I) I<|Jn<|bJ (.of I)<|Jk<|Jq<|Jq ?_)
 refine aT (E:=9) (sz:=1) (v:=xw) (by exact Take.there .here) fun wa wc e=>?_;subst e;refine aT (E:=3) (sz:=1) (v:=xc) (by exact .here) fun ca cc e=>?_;subst e;apply OU (A:=Tr _ [] [(166,.agg #[.q r.lv,.q r.ma,.slice sa r.sr.length my,.slice da r.de.length qf,.slice ta r.ti.length tcp,p]),(9,.q 0),(5,.q (k:Nat)),(6,.p b6),(7,.p b7),(2,.p b2)] [bA b6 (.cells #[.string so,.q sx] 118 (0,0)),bA b7 (.cells #[.string de,.q dx,.bool dp] 88 (0,0)),JQ b2 r (.slice sa r.sr.length my) (.slice da r.de.length qf) (.slice ta r.ti.length tcp) p] _)
 ·intro key;by_cases WD:sx=dx
  ·have hW0:WY.length=0:=by rw [Y9 WD];rfl
   have U5:¬ (0:Int)<(WY.length:Nat):=by rw [hW0];decide
   with_reducible refine dy 52 (by kernel_rfl) ?_
   refine ah (fun β=>(aL (.of I))) aK I ?_;refine ah (fun β=>(fV (.of I) (.of I) I)) aK I ?_;refine ah (fun β=>(aL (.of I))) aK I ?_
   (refine aS I (fun _=>rfl)<|ah (fun β=>(aL (.of I))) aK I ?_)
   (refine aS I (fun _=>rfl)<|ah (fun β=>(bz (.of I))) aK I ?_)
   (refine aS I (fun _=>rfl)<|ah (fun β=>(ai (.of I) ae)) aK I ?_)
   (refine aS I (fun _=>rfl)<|ah (fun β=>(ag (.of I) (At.lit dF I))) aK I ?_)
   (refine aS I (fun _=>rfl)<|ah (fun β=>(bz (.of I))) aK I ?_)
   dsimp only [Nat.zero_add,Nat.reduceAdd];refine aS I (fun _=>rfl) ?_
   with_reducible apply ah (F:=fun _=>Value.bool false)
   case hr=>
    intro β
    with_reducible apply Ae
    case hx=>exact Is.of I
    case hy=>exact Is.of I
    case e=>exact Tv
   case hi=>exact aK
   case hd=>rfl
   dsimp only [Nat.zero_add,Nat.reduceAdd]
   (refine aS I (fun _=>rfl)<|ah (fun β=>(aL (.of I))) aK I ?_)
   (refine aS I (fun _=>rfl)<|ah (fun β=>(bL (.of I) dF an (by rfl))) aK I ?_)
   dsimp only [Nat.zero_add,Nat.reduceAdd];refine aS I (fun _=>rfl) ?_
   with_reducible apply cZ (ι:=Value×Value×Value×Value) (Φ:=fun _=>True) (val:=fun x=>.agg #[.q r.lv,.q r.ma,x.1,x.2.1,x.2.2.1,x.2.2.2]) (own:=fun x=>kC r x) (g:=g4) (B:=[]) (args:=fun β=>[.agg #[.q r.lv,.q r.ma,.slice sa r.sr.length my,.slice da r.de.length qf,.slice ta r.ti.length tcp,p]])
   case hg=>exact kr
   case hB=>first | rfl | kernel_rfl
   case hr=>exact fun β=>a8 (.of I) (.o I .nil) inferInstance I
   case hd=>rfl
   case hc=>
    intro β w' hb;exact fU (h.keeps hb.mem.keeps) Eu
   dsimp only [Nat.reduceAdd]
   (refine aS I (fun _=>rfl)<|ah (fun β=>(aL (.of I))) aK I ?_)
   (refine aS I (fun _=>rfl)<|ah (fun β=>(ai (.of I) ae)) aK I ?_)
   (refine aS I (fun _=>rfl)<|ah (fun β=>(ag (.of I) (At.lit bO I))) aK I ?_)
   (refine aS I (fun _=>rfl)<|ah (fun β=>(ai (.of I) ae)) aK I ?_)
   (refine aS I (fun _=>rfl)<|ah (fun β=>(ag (.of I) (At.lit c6 I))) aK I ?_)
   (refine aS I (fun _=>rfl)<|ah (fun β=>(aL (.of I))) aK I ?_)
   dsimp only [Nat.zero_add,Nat.reduceAdd];refine aS I (fun _=>rfl) ?_
   with_reducible apply cZ (ι:=Value) (Φ:=fun _=>True) (val:=id) (own:=fun x=>[row 9 1 x WY.length (aO WY)]) (g:=id) (B:=[]) (args:=fun _=>[.slice wa WY.length wc])
   case hg=>exact fun x=>⟨x,I⟩
   case hB=>rfl
   case hr=>exact fun β=>a8 (.of I) (.o I .nil) inferInstance I
   case hd=>rfl
   case hc=>
    intro β w' hb;have m0:=hb.mem;exact zH (dA (E:=9) (v:=.slice wa WY.length wc) (l:=WY) (n:=WY.length) m0 (by exact Take.there .here) I) hW9
   dsimp only [id_eq,Nat.reduceAdd];refine aS I (fun _=>rfl) ?_
   with_reducible apply cV (B:=[11,18]) (F:=fun _=>.q 0) (args:=fun β=>[.agg #[.q r.lv,.q r.ma,(g4 (β 11)).1,(g4 (β 11)).2.1,(g4 (β 11)).2.2.1,(g4 (β 11)).2.2.2],.q (k:Nat),.string so,.string de,β 18])
   case hB=>first | rfl | kernel_rfl
   case hr=>exact fun β=>a8 (.of I) ((.o I (.o I (.o I (.o I (.o I .nil)))))) inferInstance I
   case hi=>exact aK
   case hd=>rfl
   case hc=>
    intro β w' hb;have m1:=hb.at 11 Zp (s:=⟨fun β=>.agg #[.q r.lv,.q r.ma,(g4 (β 11)).1,(g4 (β 11)).2.1,(g4 (β 11)).2.2.1,(g4 (β 11)).2.2.2],fun β=>kC r (g4 (β 11))⟩) (by kernel_rfl)
    have m2:=hb.at 18 (ZT _ Zp) (s:=⟨fun β=>β 18,fun β=>[row 9 1 (β 18) WY.length (aO WY)]⟩) (by kernel_rfl)
    dsimp only at m1;dsimp only [Zb,Za] at m2;have m4:=nO m1 (bb _ _);have m3:=dA (E:=9) (v:=β 18) (n:=WY.length) m2 (by exact .here) I;exact VO (k:Nat) so de Sm m4 hF m3
   dsimp only [Nat.reduceAdd]
   (refine aS I (fun _=>rfl)<|ah (fun β=>(jw (.of I) (.of I) I)) aK I ?_)
   (refine aS I (fun _=>rfl)<|ah (fun β=>(cq (.of I) (.of I) (.of I) I)) aK I ?_)
   (refine aS I (fun _=>rfl)<|ah (fun β=>(aL (.of I))) aK I ?_)
   (refine aS I (fun _=>rfl)<|ah (fun β=>(ai (.of I) ae)) aK I ?_)
   (refine aS I (fun _=>rfl)<|ah (fun β=>(ag (.of I) (At.lit bO I))) aK I ?_)
   (refine aS I (fun _=>rfl)<|ah (fun β=>(ai (.of I) ae)) aK I ?_)
   (refine aS I (fun _=>rfl)<|ah (fun β=>(ag (.of I) (At.lit c6 I))) aK I ?_)
   dsimp only [Nat.zero_add,Nat.reduceAdd];refine aS I (fun _=>rfl) ?_
   with_reducible apply ah (F:=fun _=>Value.bool true)
   case hr=>
    intro β
    with_reducible apply fV
    case hx=>exact Is.of I
    case hy=>exact Is.of I
    case e=>exact WD
   case hi=>exact aK
   case hd=>rfl
   dsimp only [Nat.zero_add,Nat.reduceAdd]
   (refine aS I (fun _=>rfl)<|ah (fun β=>(aL (.of I))) aK I ?_)
   (refine aS I (fun _=>rfl)<|ah (fun β=>(aL (.of I))) aK I ?_)
   (refine aS I (fun _=>rfl)<|ah (fun β=>(bz (.of I))) aK I ?_)
   dsimp only [Nat.zero_add,Nat.reduceAdd];refine aS I (fun _=>rfl) ?_
   with_reducible apply ah (F:=fun _=>Value.bool false)
   case hr=>
    intro β
    with_reducible apply Ae
    case hx=>exact Is.of I
    case hy=>exact Is.of I
    case e=>exact U5
   case hi=>exact aK
   case hd=>rfl
   dsimp only [Nat.zero_add,Nat.reduceAdd]
   (refine aS I (fun _=>rfl)<|ah (fun β=>(cq (.of I) (.of I) (.of I) I)) aK I ?_)
   (refine aS I (fun _=>rfl)<|ah (fun β=>(cq (.of I) (.of I) (.of I) I)) aK I ?_)
   refine ah (fun β=>(cq (.of I) (.of I) (.of I) I)) aK I ?_;refine ah (fun β=>(aL (.of I))) aK I ?_
   (refine aS I (fun _=>rfl)<|ah (fun β=>(aL (.of I))) aK I ?_)
   (refine aS I (fun _=>rfl)<|ah (fun β=>(hP (.of I) (.of I) (by omega))) aK I ?_)
   (refine aS I (fun _=>rfl)<|ah (fun β=>(aL (.of I))) aK I ?_)
   refine a7 I (fun _=>rfl) (Or.inr I) I ?_;refine a7 I (fun _=>rfl) (Or.inr I) I ?_;refine a7 I (fun _=>rfl) (Or.inr I) I ?_;refine a7 I (fun _=>rfl) (Or.inr I) I ?_;refine a7 I (fun _=>rfl) (Or.inr I) I ?_;refine a7 I (fun _=>rfl) (Or.inr I) I ?_;refine a7 I (fun _=>rfl) (Or.inr I) I ?_;refine a7 I (fun _=>rfl) (Or.inr I) I ?_;refine a7 I (fun _=>rfl) (Or.inr I) I ?_;refine a7 I (fun _=>rfl) (Or.inr I) I ?_;refine a7 I (fun _=>rfl) (Or.inr I) I ?_
   (refine aS I (fun _=>rfl)<|ah (fun β=>(cq (.of I) (.of I) (.of I) I)) aK I ?_)
   refine ah (fun β=>(cq (.of I) (.of I) (.of I) I)) aK I ?_;dsimp only [Nat.zero_add,Nat.reduceAdd];refine eG fun β=>?_;unfold kC;dsimp only [dX,Za,Zb,List.append_eq,Nat.reduceAdd];generalize g4 (β 11)=ya;generalize β 18=yb;clear β
   with_reducible refine cn (by kernel_rfl) ?_
   refine cT [bA b6 (.cells #[.string so,.q sx] 118 (0,0)),bA b7 (.cells #[.string de,.q dx,.bool dp] 88 (0,0)),JQ b2 r (.slice sa r.sr.length my) (.slice da r.de.length qf) (.slice ta r.ti.length tcp) p] (by exact .cons nR (.cons nR (.cons nR .nil))) ?_
   (refine Jt<|bJ (.of I)<|Jk<|Jr<|ab (cN bO) I ?_)
   exact E3 _ _ (by exact .cons I (.cons I (.cons I (.cons I (.cons I (.cons I .nil)))))) (by exact .h3 .nil) key
  with_reducible refine dy 52 (by kernel_rfl) ?_
  refine ah (fun β=>(aL (.of I))) aK I ?_;refine ah (fun β=>(fV (.of I) (.of I) I)) aK I ?_;refine ah (fun β=>(aL (.of I))) aK I ?_
  (refine aS I (fun _=>rfl)<|ah (fun β=>(aL (.of I))) aK I ?_)
  (refine aS I (fun _=>rfl)<|ah (fun β=>(bz (.of I))) aK I ?_)
  (refine aS I (fun _=>rfl)<|ah (fun β=>(ai (.of I) ae)) aK I ?_)
  (refine aS I (fun _=>rfl)<|ah (fun β=>(ag (.of I) (At.lit dF I))) aK I ?_)
  (refine aS I (fun _=>rfl)<|ah (fun β=>(bz (.of I))) aK I ?_)
  dsimp only [Nat.zero_add,Nat.reduceAdd];refine aS I (fun _=>rfl) ?_
  with_reducible apply ah (F:=fun _=>Value.bool false)
  case hr=>
   intro β
   with_reducible apply Ae
   case hx=>exact Is.of I
   case hy=>exact Is.of I
   case e=>exact Tv
  case hi=>exact aK
  case hd=>rfl
  dsimp only [Nat.zero_add,Nat.reduceAdd]
  (refine aS I (fun _=>rfl)<|ah (fun β=>(aL (.of I))) aK I ?_)
  (refine aS I (fun _=>rfl)<|ah (fun β=>(bL (.of I) dF an (by rfl))) aK I ?_)
  dsimp only [Nat.zero_add,Nat.reduceAdd];refine aS I (fun _=>rfl) ?_
  with_reducible apply cZ (ι:=Value×Value×Value×Value) (Φ:=fun _=>True) (val:=fun x=>.agg #[.q r.lv,.q r.ma,x.1,x.2.1,x.2.2.1,x.2.2.2]) (own:=fun x=>kC r x) (g:=g4) (B:=[]) (args:=fun β=>[.agg #[.q r.lv,.q r.ma,.slice sa r.sr.length my,.slice da r.de.length qf,.slice ta r.ti.length tcp,p]])
  case hg=>exact kr
  case hB=>first | rfl | kernel_rfl
  case hr=>exact fun β=>a8 (.of I) (.o I .nil) inferInstance I
  case hd=>rfl
  case hc=>
   intro β w' hb;exact fU (h.keeps hb.mem.keeps) Eu
  dsimp only [Nat.reduceAdd]
  (refine aS I (fun _=>rfl)<|ah (fun β=>(aL (.of I))) aK I ?_)
  (refine aS I (fun _=>rfl)<|ah (fun β=>(ai (.of I) ae)) aK I ?_)
  (refine aS I (fun _=>rfl)<|ah (fun β=>(ag (.of I) (At.lit bO I))) aK I ?_)
  (refine aS I (fun _=>rfl)<|ah (fun β=>(ai (.of I) ae)) aK I ?_)
  (refine aS I (fun _=>rfl)<|ah (fun β=>(ag (.of I) (At.lit c6 I))) aK I ?_)
  (refine aS I (fun _=>rfl)<|ah (fun β=>(aL (.of I))) aK I ?_)
  dsimp only [Nat.zero_add,Nat.reduceAdd];refine aS I (fun _=>rfl) ?_
  with_reducible apply cZ (ι:=Value) (Φ:=fun _=>True) (val:=id) (own:=fun x=>[row 9 1 x WY.length (aO WY)]) (g:=id) (B:=[]) (args:=fun _=>[.slice wa WY.length wc])
  case hg=>exact fun x=>⟨x,I⟩
  case hB=>rfl
  case hr=>exact fun β=>a8 (.of I) (.o I .nil) inferInstance I
  case hd=>rfl
  case hc=>
   intro β w' hb;have m0:=hb.mem;exact zH (dA (E:=9) (v:=.slice wa WY.length wc) (l:=WY) (n:=WY.length) m0 (by exact Take.there .here) I) hW9
  dsimp only [id_eq,Nat.reduceAdd];refine aS I (fun _=>rfl) ?_
  with_reducible apply cV (B:=[11,18]) (F:=fun _=>.q 0) (args:=fun β=>[.agg #[.q r.lv,.q r.ma,(g4 (β 11)).1,(g4 (β 11)).2.1,(g4 (β 11)).2.2.1,(g4 (β 11)).2.2.2],.q (k:Nat),.string so,.string de,β 18])
  case hB=>first | rfl | kernel_rfl
  case hr=>exact fun β=>a8 (.of I) ((.o I (.o I (.o I (.o I (.o I .nil)))))) inferInstance I
  case hi=>exact aK
  case hd=>rfl
  case hc=>
   intro β w' hb;have m1:=hb.at 11 Zp (s:=⟨fun β=>.agg #[.q r.lv,.q r.ma,(g4 (β 11)).1,(g4 (β 11)).2.1,(g4 (β 11)).2.2.1,(g4 (β 11)).2.2.2],fun β=>kC r (g4 (β 11))⟩) (by kernel_rfl)
   have m2:=hb.at 18 (ZT _ Zp) (s:=⟨fun β=>β 18,fun β=>[row 9 1 (β 18) WY.length (aO WY)]⟩) (by kernel_rfl)
   dsimp only at m1;dsimp only [Zb,Za] at m2;have m4:=nO m1 (bb _ _);have m3:=dA (E:=9) (v:=β 18) (n:=WY.length) m2 (by exact .here) I;exact VO (k:Nat) so de Sm m4 hF m3
  dsimp only [Nat.reduceAdd]
  (refine aS I (fun _=>rfl)<|ah (fun β=>(jw (.of I) (.of I) I)) aK I ?_)
  (refine aS I (fun _=>rfl)<|ah (fun β=>(cq (.of I) (.of I) (.of I) I)) aK I ?_)
  (refine aS I (fun _=>rfl)<|ah (fun β=>(aL (.of I))) aK I ?_)
  (refine aS I (fun _=>rfl)<|ah (fun β=>(ai (.of I) ae)) aK I ?_)
  (refine aS I (fun _=>rfl)<|ah (fun β=>(ag (.of I) (At.lit bO I))) aK I ?_)
  (refine aS I (fun _=>rfl)<|ah (fun β=>(ai (.of I) ae)) aK I ?_)
  (refine aS I (fun _=>rfl)<|ah (fun β=>(ag (.of I) (At.lit c6 I))) aK I ?_)
  dsimp only [Nat.zero_add,Nat.reduceAdd];refine aS I (fun _=>rfl) ?_
  with_reducible apply ah (F:=fun _=>Value.bool false)
  case hr=>
   intro β
   with_reducible apply hP
   case hx=>exact Is.of I
   case hy=>exact Is.of I
   case e=>exact WD
  case hi=>exact aK
  case hd=>rfl
  dsimp only [Nat.zero_add,Nat.reduceAdd]
  (refine aS I (fun _=>rfl)<|ah (fun β=>(aL (.of I))) aK I ?_)
  refine a7 I (fun _=>rfl) (Or.inr I) I ?_;refine a7 I (fun _=>rfl) (Or.inr I) I ?_;refine a7 I (fun _=>rfl) (Or.inr I) I ?_;dsimp only [Nat.zero_add,Nat.reduceAdd]
  (refine aS I (fun _=>rfl)<|ah (fun β=>(cq (.of I) (.of I) (.of I) I)) aK I ?_)
  (refine aS I (fun _=>rfl)<|ah (fun β=>(cq (.of I) (.of I) (.of I) I)) aK I ?_)
  refine ah (fun β=>(cq (.of I) (.of I) (.of I) I)) aK I ?_;refine ah (fun β=>(aL (.of I))) aK I ?_
  (refine aS I (fun _=>rfl)<|ah (fun β=>(aL (.of I))) aK I ?_)
  (refine aS I (fun _=>rfl)<|ah (fun β=>(hP (.of I) (.of I) (by omega))) aK I ?_)
  (refine aS I (fun _=>rfl)<|ah (fun β=>(aL (.of I))) aK I ?_)
  refine a7 I (fun _=>rfl) (Or.inr I) I ?_;refine a7 I (fun _=>rfl) (Or.inr I) I ?_;refine a7 I (fun _=>rfl) (Or.inr I) I ?_;refine a7 I (fun _=>rfl) (Or.inr I) I ?_;refine a7 I (fun _=>rfl) (Or.inr I) I ?_;refine a7 I (fun _=>rfl) (Or.inr I) I ?_;refine a7 I (fun _=>rfl) (Or.inr I) I ?_;refine a7 I (fun _=>rfl) (Or.inr I) I ?_;refine a7 I (fun _=>rfl) (Or.inr I) I ?_;refine a7 I (fun _=>rfl) (Or.inr I) I ?_;refine a7 I (fun _=>rfl) (Or.inr I) I ?_
  (refine aS I (fun _=>rfl)<|ah (fun β=>(cq (.of I) (.of I) (.of I) I)) aK I ?_)
  refine ah (fun β=>(cq (.of I) (.of I) (.of I) I)) aK I ?_;dsimp only [Nat.zero_add,Nat.reduceAdd];refine eG fun β=>?_;unfold kC;dsimp only [dX,Za,Zb,List.append_eq,Nat.reduceAdd];generalize g4 (β 11)=ya;generalize β 18=yb;clear β
  with_reducible refine cn (by kernel_rfl) ?_
  refine cT [bA b6 (.cells #[.string so,.q sx] 118 (0,0)),bA b7 (.cells #[.string de,.q dx,.bool dp] 88 (0,0)),JQ b2 r (.slice sa r.sr.length my) (.slice da r.de.length qf) (.slice ta r.ti.length tcp) p] (by exact .cons nR (.cons nR (.cons nR .nil))) ?_
  (refine Jt<|bJ (.of I)<|Jk<|Jr<|ab (cN bO) I ?_)
  exact E3 _ _ (by exact .cons I (.cons I (.cons I (.cons I (.cons I (.cons I .nil)))))) (by exact .h3 .nil) key
 by_cases h8:((r.de.length:Nat):Int)=8
 ·have h8t:=h8;refine JN bS I (fun w1 aY=>yY (h.keeps aY.keeps) Eu) ?_;rintro ⟨m1,m2,m3,m4⟩ _
  try dsimp only [id_eq,Zb,Za]
  refine iS (r:=r) (s:=m1) (d:=m2) (t:=m3) (p:=m4) (bb _ _) fun _ _ _ _=>?_
  (refine Jz I I fun _ _=>aq (.of I) (.of I) .here I I (aU I (aU I (aU (by assumption) (aU (by assumption) (aU (by assumption) (aU (by assumption) eS)))))) (bF I) an<|Jn<|Jq<|Jr<|bN I I ae<|JL I nR I<|JI I<|ab (fV (.of I) (.of I) h8t) I<|Jv I<|au I I (fun hg bG=>(bL (.of I) nR an (by rfl))) I<|cK I I I I<|cK I I I I<|ab (cq (.of I) (.of I) (.of I) I) I<|Jn<|ch (.of I)<|Jr<|Ja I<|Jn<|Ju<|JT ?_)
  rfl
 have h8f:=h8;refine JN bS I (fun w1 aY=>yY (h.keeps aY.keeps) Eu) ?_;rintro ⟨m1,m2,m3,m4⟩ _
 try dsimp only [id_eq,Zb,Za]
 refine iS (r:=r) (s:=m1) (d:=m2) (t:=m3) (p:=m4) (bb _ _) fun _ _ _ _=>?_
 (refine Jz I I fun _ _=>aq (.of I) (.of I) .here I I (aU I (aU I (aU (by assumption) (aU (by assumption) (aU (by assumption) (aU (by assumption) eS)))))) (bF I) an<|Jn<|Jq<|Jr<|bN I I ae<|JL I nR I<|JI I<|ab (hP (.of I) (.of I) h8f) I<|Jv I<|JK I I<|ab (cN nR) I<|JK I I ?_)
 rename_i Bc Su;refine cT [JQ Bc r m1 m2 m3 m4,row 118 2 m1 (r).sr.length (mw (r).sr),row 88 3 m2 (r).de.length (j5 (r).de),row 122 3 m3 (r).ti.length (nN (r).ti),row 180 3 m4 (r).po.length (jb (r).po),bA b6 (.cells #[.string so,.q sx] 118 (0,0)),bA b7 (.cells #[.string de,.q dx,.bool dp] 88 (0,0)),JQ b2 r (.slice sa r.sr.length my) (.slice da r.de.length qf) (.slice ta r.ti.length tcp) p] (by exact .h8 .nil) ?_;refine JN bS I (fun w1 aY=>uR (h.keeps aY.keeps) Eu) ?_;rintro nv _
 try dsimp only [id_eq,Zb,Za]
 obtain ⟨bm,Mt⟩:∃ b,fy (cY r) (⟨#[109,111,114,101]⟩:ByteArray)=b:=⟨_,rfl⟩;refine DA I I ?_;refine aj bo I (fun w1 aY=>K1 (dA (l:=cY r) aY (by exact .here) I) Mt) ?_;cases bm
 rotate_left
 ·(refine ab (cq (.of I) (.of I) (.of I) I) I<|Jn<|ch (.of I)<|Jr<|Ja I<|Jn<|Ju<|JT ?_)
  rfl
 have US:nC ∉ cY r:=fun c=>by
  have:fy (cY r) nC=false:=Mt;rw [dN.2 c] at this;cases this
 have Vs:r.de.length<8:=by omega
 have KY:fT (r.more dx)=0:=by rw [<- KV];exact r9 fB (tq dw Sk) Vs US
 obtain ⟨Q2,I2,Oz⟩:=vM fB US Vs En Mm Sk;rw [Oq,KV] at Oz
 replace Oz:iv (r.more dx) [jA r k so]=(Q2,I2,0):=Oz
 have hlen:(j5 r.de).length=r.de.length*3:=u6 r.de
 (refine ab (cq (.of I) (.of I) (.of I) I) I<|Jn<|bJ (.of I)<|Jk<|Jr<|bN I I ae<|JL I (.there .here) I<|bN I I ae<|JL I nR I<|ab (aX (.o I (.o I .nil)) an) I<|bn (bD (.o I .nil) I I bV bV an) I fun _ _=>?_)
 refine bH (.of I) (.of I) dF .here an (by rfl) (fc I I I) (by rfl) (by rfl) (by rfl) eC (by rfl) ?_;intro z;refine aT (v:=z) (by exact .here) fun gm SD e0=>?_;subst e0;rw [CO,mO r.de ⟨nC,dx,false⟩];obtain ⟨DM,Vr⟩:∃ D,r.de++[⟨nC,dx,false⟩]=D:=⟨_,rfl⟩;rw [Vr]
 (refine bN I I ae<|aq (.of I) (.of I) c6 I I (dG I) (bF I) an<|Ji<|ab (aX (.o I .nil) an) I<|Jz I I fun _ _=>aq (.of I) (.of I) .here I I (gK I I) (bF I) an<|Jn<|Jq<|Jr<|bN I I ae<|JL I lT I<|Jv I<|Jn<|J0 ?_)
 rename_i Hq Vf;refine aR 9 1 ?_;refine bd (ι:=Nat×Option Addr×Nat×List ByteArray) (fun y=>y.1<=r.lv.toNat/\y.2.2.2=(List.range y.1).map fun i=>if i=k then so else ⟨#[]⟩) (fun y=>[(188,.q (y.1:Nat)),(187,.q r.lv),(13,.p Hq),(12,.p Bc),(9,.q 0),(5,.q (k:Nat)),(6,.p b6),(7,.p b7),(2,.p b2)]) (fun y=>[row 9 1 (.slice y.2.1 y.2.2.2.length y.2.2.1) y.2.2.2.length (aO y.2.2.2),bA Hq (.cells #[.string ⟨#[109,111,114,101]⟩,.slice y.2.1 y.2.2.2.length y.2.2.1] 78 (0,0)),JQ Bc r m1 (.slice gm DM.length SD) m3 m4,row 118 2 m1 (r).sr.length (mw (r).sr),row 88 3 (.slice gm DM.length SD) DM.length (j5 DM),row 122 3 m3 (r).ti.length (nN (r).ti),row 180 3 m4 (r).po.length (jb (r).po),bA b6 (.cells #[.string so,.q sx] 118 (0,0)),bA b7 (.cells #[.string de,.q dx,.bool dp] 88 (0,0)),JQ b2 r (.slice sa r.sr.length my) (.slice da r.de.length qf) (.slice ta r.ti.length tcp) p]) (fun y=>r.lv.toNat-y.1) ?_ ?_
 ·apply aJ (0,none,0,[]) ⟨Zi _,I⟩
  case hs1=>exact cB
  case ht=>
   exact .h3 (.cons c6 (.h1 (.cons bO (.cons bO (.cons bO (.cons bO (.cons bO .nil)))))))
 rintro ⟨k2,g1,oY,L⟩ ⟨eL,hL⟩;dsimp only at eL hL ⊢;have Et:L.length=k2:=by rw [hL,Zd,Zar]
 by_cases su:k2<r.lv.toNat
 ·have kc:L++[if k2=k then so else ⟨#[]⟩]=(List.range (k2+1)).map fun i=>if i=k then so else ⟨#[]⟩:=by rw [hL,Zbc,Zz];rfl
  have UX:(aO L).length=L.length*1:=by rw [dj];omega
  (refine Jr<|JA I<|Jn<|Jq<|Jd I fun aA=>Jk<|Jq<|J0<|Jr<|Jv I<|Ja I<|Ji<|Ja I<|Jn<|Jq<|Jr<|Jv I<|Jv I<|JC I<|Jn<|gR I (fun aA=>?_) fun aA=>?_;refine Jg<|bN I I ae<|JL I nR I<|Ja I<|Jn<|Jg<|bN I I ae<|JL I (.there .here) I<|Jv I<|bn (aB (.o I .nil) I I I I) I fun _ _=>?_;rotate_left;refine Jk<|Jg<|bN I I ae<|JL I (.there .here) I<|Jv I<|bn (aB (.o I .nil) I I I I) I fun _ _=>?_;rotate_right)
  ·rw [if_pos (by omega)] at kc;refine bH (.of I) (.of I) (.there .here) .here an (by rfl) (dG I) (by rfl) (by rfl) (by rfl) eC (by rfl) ?_;intro z;refine aT (v:=z) (by exact .here) fun gx cx e0=>?_;subst e0;rw [<- pG,mO L so]
   (refine bN I I ae<|aq (.of I) (.of I) bO I I (dG I) (bF I) an<|Jx<|Jj<|Jt<|Jg<|JB I (by omega)<|Jv I<|Jn ?_)
   apply aI (k2+1,gx,cx,L++[so]) ⟨Nat.succ_le_of_lt su,kc⟩ (show r.lv.toNat-(k2+1)<r.lv.toNat-k2 by omega)
   case hs1=>exact cB
   case ht=>
    dsimp only;exact .cons (.there .here) (.h1 (.cons (.there .here) (.cons (.there .here) (.cons (.there .here) (.cons (.there .here) (.cons (.there .here) (.cons (.there .here) (.cons (.there .here) (.cons (.there .here) .nil)))))))))
  ·rw [if_neg (by omega)] at kc;refine bH (.of I) (.of I) (.there .here) .here an (by rfl) (dG I) (by rfl) (by rfl) (by rfl) eC (by rfl) ?_;intro z;refine aT (v:=z) (by exact .here) fun gx cx e0=>?_;subst e0;rw [<- pG,mO L (⟨#[]⟩:ByteArray)]
   (refine bN I I ae<|aq (.of I) (.of I) bO I I (dG I) (bF I) an<|Jx<|Jj<|Jt<|Jg<|JB I (by omega)<|Jv I<|Jn ?_)
   apply aI (k2+1,gx,cx,L++[(⟨#[]⟩:ByteArray)]) ⟨Nat.succ_le_of_lt su,kc⟩ (show r.lv.toNat-(k2+1)<r.lv.toNat-k2 by omega)
   case hs1=>exact cB
   case ht=>
    dsimp only;exact .cons (.there .here) (.h1 (.cons (.there .here) (.cons (.there .here) (.cons (.there .here) (.cons (.there .here) (.cons (.there .here) (.cons (.there .here) (.cons (.there .here) (.cons (.there .here) .nil)))))))))
 obtain rfl:k2=r.lv.toNat:=by omega
 replace hL:L=(jA r k so).so:=hL
 refine Jr<|JA I<|Jn<|Jq<|Jc I fun aA=>Jp<|Jl<|Jo<|Jt<|Jq ?_
 with_reducible refine mE 8 [6] (by kernel_rfl) (Zt.2 ⟨pL I (by kernel_rfl) (by kernel_rfl),fun _ h=>absurd h Zo⟩) ?_
 refine ah (fun β=>(bL (.of I) bO an (by rfl))) aK I ?_;dsimp only [Nat.zero_add,Nat.reduceAdd]
 with_reducible apply cZ (ι:=Value×Value×Value×Value) (Φ:=fun _=>True) (val:=fun x=>.agg #[.q (r.more dx).lv,.q (r.more dx).ma,x.1,x.2.1,x.2.2.1,x.2.2.2]) (own:=fun x=>kC (r.more dx) x) (g:=g4) (B:=[]) (args:=fun β=>[.agg #[.q r.lv,.q r.ma,m1,.slice gm DM.length SD,m3,m4]])
 case hg=>exact kr
 case hB=>first | rfl | kernel_rfl
 case hr=>exact fun β=>a8 (.of I) (.o I .nil) inferInstance I
 case hd=>rfl
 case hc=>
  intro β w' hb;have m0:=hb.mem;exact fU (r:=r.more dx) (Fj (df m0 c6 I) (by rw [Vr];exact di m0 dF I) (dd m0 fx I) (c7 m0 qY I)) (pT KY)
 dsimp only [Nat.reduceAdd];refine ah (fun β=>(bL (.of I) (.there .here) an (by rfl))) aK I ?_;dsimp only [Nat.reduceAdd]
 with_reducible apply cZ (ι:=Value×Value×Value×Value) (Φ:=fun _=>True) (val:=fun y=>.tuple #[.agg #[.q Q2.lv,.q Q2.ma,y.1,y.2.1,y.2.2.1,y.2.2.2],.q 0]) (own:=fun y=>kC Q2 y) (g:=g4) (B:=[1]) (args:=fun β=>[.agg #[.q (r.more dx).lv,.q (r.more dx).ma,(g4 (β 1)).1,(g4 (β 1)).2.1,(g4 (β 1)).2.2.1,(g4 (β 1)).2.2.2],.agg #[.string ⟨#[109,111,114,101]⟩,.slice g1 L.length oY]])
 case hg=>exact kr
 case hB=>kernel_rfl
 case hr=>exact fun β=>a8 (.of I) (.o I (.o I .nil)) inferInstance I
 case hd=>rfl
 case hc=>
  intro β w' hb;have m0:=hb.mem;have m1:=hb.at 1 Zp I;dsimp only at m1;have m4:=nO m1 (bb _ _);have m3:=dA (E:=9) (v:=.slice g1 L.length oY) (l:=L) (n:=L.length) m0 (by exact .here) I;exact Fa (r:=r.more dx) (k:=jA r k so) Oz m4 (tj KY) (hL ▸ m3)
 dsimp only [Nat.reduceAdd]
 with_reducible apply ah (F:=fun β=>.tuple #[.agg #[.q Q2.lv,.q Q2.ma,(g4 (β 3)).1,(g4 (β 3)).2.1,(g4 (β 3)).2.2.1,(g4 (β 3)).2.2.2],.q 0])
 case hr=>(intro β;exact aL (.of I))
 case hi=>exact fun β β' h=>by simp only [h 3 (by kernel_rfl)]
 case hd=>rfl
 dsimp only [Nat.reduceAdd]
 with_reducible apply ah (F:=fun β=>.agg #[.q Q2.lv,.q Q2.ma,(g4 (β 3)).1,(g4 (β 3)).2.1,(g4 (β 3)).2.2.1,(g4 (β 3)).2.2.2])
 case hr=>(intro β;exact cC (.of I) I)
 case hi=>exact fun β β' h=>by simp only [h 3 (by kernel_rfl)]
 case hd=>rfl
 dsimp only [Nat.reduceAdd]
 with_reducible apply ah (F:=fun β=>.q 0)
 case hr=>(intro β;exact cC (.of I) I)
 case hi=>exact aK
 case hd=>rfl
 dsimp only [Nat.reduceAdd];refine lG (fun β=>(kh I)) (fun _ _ _=>rfl) I ?_;refine eG fun β=>?_;unfold kC;dsimp only [dX,Za,Zb,List.append_eq,Nat.reduceAdd];generalize g4 (β 1)=ya;obtain ⟨s9,d9,t9,p9⟩:=g4 (β 3);generalize ep (β 7)=Gb;clear β;dsimp only;refine dI (r:=Q2) (s:=s9) (d:=d9) (t:=t9) (p:=p9) (by unfold kC;dsimp only;exact .cons dF (.cons dF (.cons dF (.cons dF .nil)))) fun Xw Xv Xu Xt=>?_;refine cI (rs:=[8]) (by kernel_rfl) (by simp) (Zt.2 ⟨?_,fun _ h=>absurd h Zo⟩);refine cQ I ?_
 (refine aq (.of I) (.of I) zD I I (hG I I Xw Xv Xu Xt) (bF I) an<|Jn ?_)
 refine cI (rs:=[9]) (by kernel_rfl) (by simp) (Zt.2 ⟨?_,fun _ h=>absurd h Zo⟩);refine cQ I ?_;refine Ja I<|Jn ?_
 with_reducible refine cn (by kernel_rfl) ?_
 refine cT [bA b6 (.cells #[.string so,.q sx] 118 (0,0)),bA b7 (.cells #[.string de,.q dx,.bool dp] 88 (0,0)),JQ b2 r (.slice sa r.sr.length my) (.slice da r.de.length qf) (.slice ta r.ti.length tcp) p] (by exact .cons kB (.cons kB (.cons kB .nil))) ?_
 (refine Jt<|Jq<|Jr<|Jv I<|ab (jw (.of I) (.of I) I) I<|Jv I<|gy I I I I<|au I I (fun hg bG=>(eE (.bX bG I) (.of I))) I<|ab (cq (.of I) (.of I) (.of I) I) I<|Jv I<|JK I I<|Jv I<|JK I I<|ab (fV (.of I) (.of I) I) I<|JK I I<|Jv I<|JK I I<|ab (fV (.of I) (.of I) I) I<|JK I I<|ab (B8 (.of I) (.of I) I) I<|ab (cq (.of I) (.of I) (.of I) I) I<|Jn<|bJ (.of I)<|Jk<|Jr<|ab (cN bO) I ?_)
 refine JN bS I (fun w1 aY=>yY (h.keeps aY.keeps) Eu) ?_;rintro ⟨f1,f2,f3,f4⟩ _
 try dsimp only [id_eq,Zb,Za]
 refine iS (r:=r) (s:=f1) (d:=f2) (t:=f3) (p:=f4) (bb _ _) fun _ _ _ _=>?_
 (refine Jz I I fun _ _=>aq (.of I) (.of I) .here I I (aU I (aU I (aU (by assumption) (aU (by assumption) (aU (by assumption) (aU (by assumption) eS)))))) (bF I) an<|Ji<|bN I I ae<|aq (.of I) (.of I) .here I I (dG I) (bF I) an<|Jn<|Jq ?_)
 rename_i b18 Y5;refine cT [JQ b18 r f1 f2 f3 (.z),row 118 2 f1 (r).sr.length (mw (r).sr),row 88 3 f2 (r).de.length (j5 (r).de),row 122 3 f3 (r).ti.length (nN (r).ti),bA b6 (.cells #[.string so,.q sx] 118 (0,0)),bA b7 (.cells #[.string de,.q dx,.bool dp] 88 (0,0)),JQ b2 r (.slice sa r.sr.length my) (.slice da r.de.length qf) (.slice ta r.ti.length tcp) p] (by exact .h4 (.cons (.there .here) (.cons (.there .here) (.cons (.there .here) .nil)))) ?_;have AR:fT (r.wp [])=0:=EE fB (gV.nil r);have Wz:=sD (r:=r.wp []) AR En Mm Sk;obtain ⟨YF,W3⟩:∃ W,qw (r.wp []) (k:Nat) so de=W:=⟨_,rfl⟩;obtain ⟨bf,Dl⟩:∃ b,wB (r.wp []) (k:Nat) so de=b:=⟨_,rfl⟩;have hbt:=K8 fB Oq;obtain rfl:bf=true:=Dl.symm.trans hbt;have Vk:sC (r.wp []) (k:Nat) so de=0:=by rw [ve Wz,Dl];rfl
 with_reducible refine dy 13 (by kernel_rfl) ?_
 refine ah (fun β=>(bL (.of I) .here an (by rfl))) aK I ?_;dsimp only [Nat.zero_add,Nat.reduceAdd]
 with_reducible apply cZ (ι:=Value×Value×Value×Value) (Φ:=fun _=>True) (val:=fun x=>.agg #[.q (r.wp []).lv,.q (r.wp []).ma,x.1,x.2.1,x.2.2.1,x.2.2.2]) (own:=fun x=>kC (r.wp []) x) (g:=g4) (B:=[]) (args:=fun β=>[.agg #[.q r.lv,.q r.ma,f1,f2,f3,.z]])
 case hg=>exact kr
 case hB=>first | rfl | kernel_rfl
 case hr=>exact fun β=>a8 (.of I) (.o I .nil) inferInstance I
 case hd=>rfl
 case hc=>
  intro β w' hb;have m0:=hb.mem;exact fU (r:=r.wp []) (IA (df m0 (by exact Take.there .here) I) (di m0 bO I) (dd m0 c6 I) (DO w').po) (pT AR)
 dsimp only [Nat.reduceAdd]
 (refine ah (fun β=>(aL (.of I))) aK I<|ah (fun β=>(ai (.of I) ae)) aK I<|ah (fun β=>(ag (.of I) (At.lit dF I))) aK I<|ah (fun β=>(ai (.of I) ae)) aK I<|ah (fun β=>(ag (.of I) (At.lit fx I))) aK I ?_)
 dsimp only [Nat.zero_add,Nat.reduceAdd]
 with_reducible apply cZ (ι:=Value) (Φ:=fun _=>True) (val:=fun x=>.tuple #[x,.q (0)]) (own:=fun x=>[row 9 1 x YF.length (aO YF)]) (g:=id) (B:=[1]) (args:=fun β=>[.agg #[.q (r.wp []).lv,.q (r.wp []).ma,(g4 (β 1)).1,(g4 (β 1)).2.1,(g4 (β 1)).2.2.1,(g4 (β 1)).2.2.2],.q (k:Nat),.string so,.string de])
 case hg=>exact fun x=>⟨x,I⟩
 case hB=>kernel_rfl
 case hr=>exact fun β=>a8 (.of I) ((.o I (.o I (.o I (.o I .nil))))) inferInstance I
 case hd=>rfl
 case hc=>
  intro β w' hb;have m1:=hb.at 1 Zp I;dsimp only at m1;have m4:=nO m1 (bb _ _);exact qR (k:Nat) so de m4 (tj AR) Vk W3
 dsimp only [id_eq,Nat.reduceAdd]
 with_reducible apply ah (F:=fun β=>.tuple #[β 7,.q (0)])
 case hr=>(intro β;exact aL (.of I))
 case hi=>exact fun β β' h=>by simp only [h 7 (by kernel_rfl)]
 case hd=>rfl
 dsimp only [Nat.reduceAdd]
 with_reducible apply ah (F:=fun β=>β 7)
 case hr=>(intro β;exact cC (.of I) I)
 case hi=>exact fun β β' h=>by simp only [h 7 (by kernel_rfl)]
 case hd=>rfl
 dsimp only [Nat.reduceAdd]
 with_reducible apply ah (F:=fun β=>.q (0))
 case hr=>(intro β;exact cC (.of I) I)
 case hi=>exact aK
 case hd=>rfl
 dsimp only [Nat.reduceAdd]
 with_reducible apply ah (F:=fun β=>β 7)
 case hr=>(intro β;exact cd (.of I))
 case hi=>exact fun β β' h=>by simp only [h 7 (by kernel_rfl)]
 case hd=>rfl
 dsimp only [Nat.reduceAdd]
 with_reducible apply ah (F:=fun β=>.q (0))
 case hr=>(intro β;exact cd (.of I))
 case hi=>exact aK
 case hd=>rfl
 dsimp only [Nat.reduceAdd];refine eG fun β=>?_;unfold kC;dsimp only [dX,Za,Zb,List.append_eq,Nat.reduceAdd];generalize β 7=xf;generalize g4 (β 1)=y1;clear β
 with_reducible refine cn (by kernel_rfl) ?_
 refine cT [row 9 1 xf YF.length (aO YF),bA b6 (.cells #[.string so,.q sx] 118 (0,0)),bA b7 (.cells #[.string de,.q dx,.bool dp] 88 (0,0)),JQ b2 r (.slice sa r.sr.length my) (.slice da r.de.length qf) (.slice ta r.ti.length tcp) p] (by exact .cons dF (.cons zD (.cons zD (.cons zD .nil)))) ?_
 (refine Jt<|Jq<|Jr<|bN I I ae<|JL I c6 I<|JI I<|Jv I<|Jn<|J0 ?_)
 refine bd (ι:=Nat) (fun q=>q<=r.ti.length) (fun q=>[(240,.q (q:Nat)),(239,.q (r.ti.length:Nat)),(238,.slice ta r.ti.length tcp),(20,.q 0),(9,.q 0),(5,.q (k:Nat)),(6,.p b6),(7,.p b7),(2,.p b2)]) (fun q=>[bA b6 (.cells #[.string so,.q sx] 118 (0,0)),bA b7 (.cells #[.string de,.q dx,.bool dp] 88 (0,0)),JQ b2 r (.slice sa r.sr.length my) (.slice da r.de.length qf) (.slice ta r.ti.length tcp) p]) (fun q=>r.ti.length-q) ?_ ?_
 ·apply aJ 0 (show 0<=r.ti.length from Zi _)
  case hs1=>exact cB
  case ht=>exact qv
 intro q hq
 try dsimp only at hq ⊢
 by_cases FI:q<r.ti.length
 rotate_left
 ·obtain rfl:q=r.ti.length:=by omega
  (refine Jr<|JA I<|Jn<|Jq<|Jc I fun aA=>Jp<|Jl<|Jo<|Jt<|Jr<|Jv I<|JC I<|Jv I<|gy I I I I<|au I I (fun hg bG=>(fR (.bX hg I) (.of I))) I<|au I I (fun hg bG=>(aL (.bX hg I))) I<|iO I I (fun hg bG=>(aL (.of I))) I<|iO I I (fun hg bG=>(have Mr:=(A9 hg);(eE (.bX Mr I) (.of I)))) I<|au I I (fun hg bG=>(iJ hg (.bX hg I) I)) I<|ab (bE (.of I) I) I<|Ja I<|Jn<|Je<|JT ?_)
  skip
  rfl
 have Kt:=XO (eV FI);have rV:=(XN q _ (ed FI)).2;have Hx:=fun a1 a2=>wL (v:=(k:Nat)) Mm FI (de:=de) a1 a2
 rw [WC,KV] at Hx;unfold Ti.cells at rV;generalize (r.ti[q]).nm=tm at rV;generalize (r.ti[q]).fr=tf at rV Hx;generalize (r.ti[q]).to=tt at rV Hx
 (refine Jr<|JA I<|Jn<|Jq<|Jd I fun aA=>Jk<|Jq<|J0<|Jr<|ab (aC (.of I) (.of I) Kt (by omega) aA bu) I<|ab (iD (eO.base rV I)) I<|Jz I I fun _ _=>aq (.of I) (.of I) .here I I (fc I I I) (bF I) an<|Ji<|bN I I ae<|JL I .here I<|bN I I ae<|JL I (.there .here) I<|JC I<|Jv I<|au I I (fun hg bG=>(ai (.of I) ae)) I<|au I I (fun hg bG=>(ag (.bX hg I) (At.lit .here I))) I<|au I I (fun hg bG=>(ai (.of I) ae)) I<|au I I (fun hg bG=>(ag (.bX hg I) (At.lit bO I))) I<|au I I (fun hg bG=>(fR (.bX hg I) (.bX hg I))) I<|ab (cE (.of I) I) I<|Jv I<|gy I I I I<|au I I (fun hg bG=>(eE (.bX hg I) (.of I))) I<|ab (cE (.of I) I) I<|Jn<|oq I (fun _=>by omega) fun aA=>Jw<|Jj<|Jt<|Jg<|JB I (by omega)<|Jv I<|Jn ?_)
 apply aI (q+1) (show q+1<=r.ti.length from FI) (show r.ti.length-(q+1)<r.ti.length-q by omega)
 case hs1=>exact cB
 case ht=>exact qv
end Go.Proofs.A1
