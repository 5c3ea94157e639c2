/- Lemmas for the last texts. -/
import Derived.Test.YtnnokglddolglaaGreatDoorM40
import Derived.Lib.LaidTab
set_option maxHeartbeats 3200000
set_option maxRecDepth 100000
namespace Go.Proofs.YtnnokglddolglaaGreatDoor
open Go.RowKit Go.Proofs.Tryz
def TzOk(w:World):Prop:=w.cell? ⟨3,15,none⟩=some (.int .u8 4)
def zvO:List Int:=[0,1,56,2,57,49,28,3,61,58,42,50,38,29,17,4,62,47,59,36,45,43,51,22,53,39,33,30,24,18,12,5,63,55,48,27,60,41,37,16,46,35,44,21,52,32,23,11,54,26,40,15,34,20,31,10,25,14,19,9,13,8,7,6]
theorem zsi {w:World} (h:Lib.TabIs prog w "math/bits.deBruijn64tab" .u8 zvO):TzOk w:=h.cell (g:=3) (by kernel_rfl) 15 (by decide)
theorem TzOk.below{w w':World}(h:TzOk w)(hb:w w'):TzOk w':=(hb.cell (QQ w _ h)).trans h
theorem zwv(w:World)(h:TzOk w):Calls prog 215 #[jB 16] w λe w'=>e=jC (jA 4)/\w'=w:=by
 unfold TzOk at h;have a:IntKind.u64.wrap (bits .and .u64 16 (IntKind.u64.wrap (-16))*285870213051353865) / 288230376151711744=15:=by decide+kernel
 go_in
 go_wp2;go_ret;exact⟨rfl,rfl⟩
theorem zzE(w:World)(h:TzOk w):Calls prog 173 #[jB 16] w λe w'=>e=jC (jA 4)/\w'=w:=by
 have H:=hIx (zwv w h);clear h
 go_in
 go_wp2_with fail;refine H.out.mono ?_;rintro e a ⟨rfl,rfl⟩;go_wp2;go_ret;exact⟨rfl,rfl⟩
theorem zv8(w:World):Calls prog 172 #[jA 16] w λe w'=>e=jC (.bool true)/\w'=w:=by
 have a:(bits .and .i64 16 15==0)=true:=by decide+kernel
 go_in
 go_wp2;go_ret;exact⟨rfl,rfl⟩
theorem zy6(u:Nat)(h:u<18446744073709551616):bits .and .u64 (u:Int) 15=((u % 16:Nat):Int):=by
 have:=bits_and_u64_nat u 15 h (by decide);rw[show (15:Nat)=2 ^ 4-1 from rfl,Nat.and_two_pow_sub_one_eq_mod]at this;exact this
theorem zxX:((List.range 16).all λn=>(ByteArray.mk #[48,49,50,51,52,53,54,55,56,57,97,98,99,100,101,102,103,104,105,106,107,108,109,110,111,112,113,114,115,116,117,118,119,120,121,122]).data.toList[n]? == some (hexC n))=true:=by decide
theorem zr9(n:Nat)(a:n<16)(h:n<(ByteArray.mk #[48,49,50,51,52,53,54,55,56,57,97,98,99,100,101,102,103,104,105,106,107,108,109,110,111,112,113,114,115,116,117,118,119,120,121,122]).size):(ByteArray.mk #[48,49,50,51,52,53,54,55,56,57,97,98,99,100,101,102,103,104,105,106,107,108,109,110,111,112,113,114,115,116,117,118,119,120,121,122])[n]=hexC n:=by
 have h1:=Zl.1 zxX n (ZP.2 a);have h2:=Xt (ByteArray.mk #[48,49,50,51,52,53,54,55,56,57,97,98,99,100,101,102,103,104,105,106,107,108,109,110,111,112,113,114,115,116,117,118,119,120,121,122]) n h;rw[h2]at h1
 simpa using h1
theorem zzf:zeroCells268=(List.replicate 65 (Value.int .u8 0)).toArray:=by kernel_rfl
theorem zsC(w:World):BytesAt (w.alloc (.cells zeroCells268 268)) w.heap.size (List.replicate 65 0):=by
 refine⟨by simp,λj b=>?_⟩;have a:j<65:=by simpa using b
 refine⟨?_,?_⟩
 ·rw[Qf _ w.heap.size j _ _ (0,0) (Qt w _),zzf]
  rw[List.getElem_replicate,ZT,List.getElem?_replicate,Qg a]
  rfl
 ·have:=Qt w (.cells zeroCells268 268)
  generalize w.alloc (.cells zeroCells268 268)=W at *;generalize w.heap.size=g at *;simp[World.frozen?, this]
theorem zoG(m:Nat)(tail:jE)(x:UInt8):(List.replicate (m+1) 0++tail).set m x=List.replicate m 0++(x::tail):=by
 rw[List.replicate_succ',QG,ZH m _ (by simp)];simp
theorem znd(g m:Nat)(h:m<=64)(w:World):(Instr.sliceAt 268 (.pointer g) (some (jA (m:Int))) none none).run prog w=.ok (.slice (some ⟨g,m,none⟩) (65-m) (65-m)) w:=by
 obtain⟨f,d,c,a,b⟩:=ZG zli;have e:(Go.sizeOf 5).run prog w=.ok 1 w:=by simp[Go.sizeOf,typeInfo,d,a]
 have h1:¬65=m:=by omega
 have h2:m<=65:=by omega
 simp[Instr.sliceAt,Instr.sureAddr,ZV underlying268,Instr.sliceBounds,Instr.sliceBound,asIntOf,go_sem,e,h1,h2]
def zyW(n g:Nat)(w:World)(u i:Value)(wr:World):Prop:=
 ∃(m v:Nat) (tail:jE),58<=m/\m<=64/\u=jB v/\i=jA ((m:Int)+1)/\Hid (hexF 6 n=hexF (m-58) v++tail)/\tail.length=64-m/\Hid (v<16 ^ (m-57))/\v<268435456/\BytesAt wr g (List.replicate (m+1) 0++tail)/\w wr
theorem zjb(n:Nat)(N:n<268435456)(w:World)(h:TzOk w):Calls prog 135 #[jD 0 0,jB n,jA 16,.bool false,.bool false] w
 λe w'=>e=jC (.tuple #[jD 0 0,.string (bs (hexF 6 n))])/\w w':=by
 have q:∀o,w (w.alloc o):=λo=>(Qj _ _).alloc (Qc _) o
 have y:Hid (∀o,_):=λo=>zzE (w.alloc o) (h.below (q o))
 have z:Hid (∀W,_):=λW=>zv8 W
 have t:=hIx q;clear h q
 go_in
 go_wp2_with fail;refine(z.out _).mono ?_;rintro e I ⟨rfl,c⟩;subst c;go_wp2_with fail;refine(y.out _).mono ?_;rintro e I ⟨rfl,c⟩;have G:=zsC w;have r:=t.out (.cells zeroCells268 268);rw[<-c]at G r;clear c;have J:Hid (zyW n w.heap.size w (jB n) (jA 65) I):=⟨64,n,[],by decide,by decide,rfl,rfl,by simp[Hid],rfl,by unfold Hid;simpa using N,N,by rw[QE];exact G,r⟩
 clear G r z y t;have K:=zr9;have DG:=hIx K;clear K;go_wp2
 go_loopw [1,13] (λu i wr=>zyW n w.heap.size w u i wr) (λu _ _=>(intOf u).toNat)
 case atStart=>exact J.out
 case round=>
  obtain⟨m,v,tail,U,D,rfl,rfl,B,hl,A,Q,s,hb⟩:=hrel;clear J;have g:(List.replicate (m+1) 0++tail).length=65:=by rw[Qa,List.length_replicate,hl];omega
  have X:=s.cell (j:=m) (by omega);have Z:=s.free (j:=m) (by omega);rw[Zw (by simp),List.getElem_replicate]at X
  by_cases V:16<=v
  ·have T:decide ((16:Int)<=(v:Int))=true:=Qu (by omega)
   have ha:=zy6 v (by omega);have C:=zr9 (v % 16) (by omega);have a:=s.set (k:=m) (by omega) (hexC (v % 16));rw[zoG]at a;have b:=hb.setCell (p:=⟨w.heap.size,m,none⟩) (Qc _) (.int .u8 (hexC (v % 16)).toNat)
   have O:59<=m:=by
    have:=A.out
    rcases ZI m 59 with h|h
    ·have:m=58:=by omega
     subst this;have:v<16:=by simpa using A.out
     omega
    ·exact h
   obtain⟨d,rfl⟩:∃d,m=d+1:=⟨m-1,by omega⟩
   have l:Hid (hexF 6 n=hexF (d-58) (v / 16)++(hexC (v % 16)::tail)):=by
    unfold Hid;rw[B.out,show d+1-58=(d-58)+1 by omega,hexF,Qe (by omega),QG]
    rfl
   have E:Hid (v / 16<16 ^ (d-57)):=by
    unfold Hid;have:=A.out;rw[show d+1-57=(d-57)+1 by omega,Nat.pow_succ]at this;rw[Nat.div_lt_iff_lt_mul (by decide)];exact this
   have L:=hIx (And.intro a b);clear s hb a b g B A;go_wp2;exact⟨⟨d,v / 16,hexC (v % 16)::tail,by omega,by omega,rfl,rfl,l.out,by rw[Qn,hl];omega,E.out,by omega,L.out.1,L.out.2⟩,by dsimp only[intOf];omega⟩
  ·have T:decide ((16:Int)<=(v:Int))=false:=Qq (by omega)
   have C:=zr9 v (by omega);have a:=s.set (k:=m) (by omega) (hexC v);rw[zoG]at a;have b:=hb.setCell (p:=⟨w.heap.size,m,none⟩) (Qc _) (.int .u8 (hexC v).toNat)
   have x:hexF (m-58) v=[hexC v]:=by
    cases Y:m-58 with
    |zero=>rfl
    |succ f=>rw[hexF,Qg (by omega)]
   have l:Hid (hexF 6 n=hexC v::tail):=by
    unfold Hid;rw[B.out,x]
    rfl
   have H:=run_convert_bytes_back (P:=prog) (wr.setCell ⟨w.heap.size,m,none⟩ (.int .u8 (hexC v).toNat)) 140 9 5 ⟨w.heap.size,m,none⟩ (65-m) (hexC v::tail) underlying140 underlying5 underlying9 (λj hj=>by
    have h1:=a.cell (j:=m+j) (by rw[Qa,List.length_replicate];omega);rw[ZO (by simp)]at h1;have e:(⟨w.heap.size,m,none⟩:Addr).add j=⟨w.heap.size,m+j,none⟩:=by unfold Addr.add;split <;> simp_all
    rw[e,h1];simp)
   rw[show (hexC v::tail).length=65-m by rw[Qn,hl];omega]at H;have F:=hIx b;have S:=λW=>znd w.heap.size m D W
   clear s hb a b g B A x;go_wp2;exact Qi (v:=.tuple #[jD 0 0,.string (bs (hexC v::tail))]) (by simp[results,results135,go_sem,bs]) rfl ⟨by rw[l.out],F.out⟩
theorem zns(n:Nat)(b:n<268435456)(w:World)(h:TzOk w):Calls prog 98 #[jA n,jA 16] w
 λe w'=>e=jC (.string (bs (hexF 6 n)))/\w w':=by
 have H:=hIx (zjb n b w h);have c:decide ((n:Int)<0)=false:=Qq (by omega);have a:IntKind.u64.wrap (n:Int)=(n:Int):=by rw[IntKind.wrap_u64];omega
 clear h
 go_in
 go_wp2_with fail;refine H.out.mono ?_;rintro e a ⟨rfl,hb⟩;go_wp2;go_ret;exact⟨rfl,hb⟩
theorem zjl(n:Nat)(a:n<268435456)(w:World)(h:TzOk w):Calls prog 69 #[jA n,jA 16] w
 λe w'=>e=jC (.string (bs (hexF 6 n)))/\w w':=by
 have H:=hIx (zns n a w h);clear h
 go_in
 go_wp2_with fail;refine H.out.mono ?_;rintro e b ⟨rfl,hb⟩;go_wp2;go_ret;exact⟨rfl,hb⟩
theorem BuilderAt.keep{T e:TypeId}{B b:Nat}{p:Value}{bs:List Value}{w w':World}(h:Lib.BuilderAt T e B b p bs w)(_:w.heap.size<=w'.heap.size)(j:∀k,B<=k->k<w.heap.size->w'.heap[k]? = w.heap[k]?):Lib.BuilderAt T e B b p bs w':=by
 have c:=h.lt;obtain⟨l,v,hb,a,d⟩:=h;refine⟨l,v,(j b l c).trans hb,?_,d⟩;refine⟨a.1,?_⟩
 rcases a.2 with h1|⟨g,cap,f,h1,h2,q,m,n,r,o⟩
 ·exact .inl h1
 ·have i:=a.lt g (by rw[h1];rfl)
  exact .inr ⟨g,cap,f,h1,h2,(j g i.1 i.2).trans q,m,n,r,o⟩
def ChS(H:Nat)(l:jE)(s:ByteArray)(w:World):Prop:=
 Lib.IsBuilder 142 5 (H+1) (H+1) (Lib.byteCells l) w/\w.heap[H]? = some (.cells #[.string s] 9 (0,0))
theorem ChS.below{H:Nat}{l:jE}{s:ByteArray}{w w':World}(h:ChS H l s w)(hb:w w'):ChS H l s w':=by
 have hl:H<w.heap.size:=by
  have:=h.2;rw[QV]at this;exact this.1
 refine⟨h.1.imp (λx=>BuilderAt.keep x hb.size λk _ a=>hb.block k a) (λx=>BuilderAt.keep x hb.size λk _ a=>hb.block k a),(hb.block H hl).trans h.2⟩
theorem ChS.lt{H:Nat}{l:jE}{s:ByteArray}{w:World}(h:ChS H l s w):H+1<w.heap.size:=h.1.elim (λx=>x.lt) (λx=>x.lt)
theorem ztt{B:Nat}{W w':World}(hb:Below B W.drew w'):Below B W w':=⟨hb.os,hb.tape,hb.output,hb.size,hb.block⟩
theorem zyf(H:Nat)(l:jE)(s:ByteArray)(n:Nat)(w:World)(h:ChS H l s w)(hn:n<=s.size)(hs:s.size<=1048576)(hl:l.length<=1099511627776)(r:TzOk w):
 Calls prog 68 #[jA (n:Int),.pointer (H+1:),.pointer H] w
  λe w'=>e=jC (.tuple #[])/\ChS H (l++zaQ (s.data.toList.take n)) (bs (s.data.toList.drop n)) w'/\Below H w w':=by
 have h0:s.data.toList.length=s.size:=by simp
 have v:=zic 6 n;obtain⟨E,z⟩:∃E,bs (hexF 6 n)=E:=⟨_,rfl⟩
 have P:E.size<=7:=by rw[<-z,zae];omega
 obtain⟨Q,y⟩:∃Q,s.extract 0 n=Q:=⟨_,rfl⟩
 have Z:Q.size<=1048576:=by rw[<-y,Z0];omega
 have u:Q.data.toList=s.data.toList.take n:=by rw[<-y,ZK];simp
 have L:(E++ByteArray.mk #[13,10]++Q++ByteArray.mk #[13,10]).data.toList=zaQ (s.data.toList.take n):=by
  unfold zaQ;rw[QJ,Xn (by omega),<-z,<-u];simp[bs]
 have h3:(E++ByteArray.mk #[13,10]++Q++ByteArray.mk #[13,10]).size<=1048600:=by
  rw[Q5,Q5,Q5];show E.size+2+Q.size+2<=_
  omega
 have U:∀W,(Op.stringOp .add E (ByteArray.mk #[13,10])).run prog W=.ok (.string (E++ByteArray.mk #[13,10])) W:=λW=>Zv W E _ (by show E.size+2<=_;omega)
 have y2:∀W,(Op.stringOp .add (E++ByteArray.mk #[13,10]) Q).run prog W=.ok (.string (E++ByteArray.mk #[13,10]++Q)) W:=λW=>Zv W _ Q (by rw[Q5];show E.size+2+Q.size<=_;omega)
 have Y:∀W,(Op.stringOp .add (E++ByteArray.mk #[13,10]++Q) (ByteArray.mk #[13,10])).run prog W=.ok (.string (E++ByteArray.mk #[13,10]++Q++ByteArray.mk #[13,10])) W:=λW=>Zv W _ _ (by rw[Q5,Q5];show E.size+2+Q.size+2<=_;omega)
 have HX:=hIx L
 have J:Hid (∀W,w W->Calls prog 69 #[jA (n:Int),jA 16] W λe w'=>e=jC (.string E)/\W w'):=λW hb=>by
  have:=zjl n (by omega) W (r.below hb);rw[z]at this;exact this
 have D:Hid (∀W,ChS H l s W->_):=λW A=>zcL (H+1) (H+1) (Lib.byteCells l) (E++ByteArray.mk #[13,10]++Q++ByteArray.mk #[13,10]) W A.1 (by rw[Lib.byteCells_length];omega) (QX A.lt)
 have S:w.cell? H=some (.string s):=by rw[Lib.cell_of_heap h.2];rfl
 have F:=hIx y;have q:=hIx h;have i1:(n:Int)<=(s.size:Int):=by omega
 have b:∀W,ChS H l s W->W.cell? H=some (.string s):=λW A=>by rw[Lib.cell_of_heap A.2];rfl
 have j:=hIx b;clear z u L r h b v y
 go_in
 go_wp2_with fail;have X:=F.out
 go_region_held3 (λw'=>w'.cell? H=some (.string s))
  (first|go_keep|exact C|exact o)
  (first
   |(go_at_call 69;(with_reducible refine(J.out _ ?_).mono ?_);(first|exact Qj _ _|exact(Qj _ _).drew);rintro e O ⟨rfl,m⟩;have a:w O:=(by first|exact m|exact ztt m);have d:=q.out.below a;have o:=j.out _ d)
   |(go_at_call 62;(with_reducible refine(D.out _ ?_).mono ?_);(first|exact d|exact d.drew);rintro e x ⟨rfl,f,i⟩;have c:Below (H+1) O x:=(by first|exact i|exact ztt i);have g:=(c.block H (ZB H)).trans d.2;have C:x.cell? H=some (.string s):=(by rw[Lib.cell_of_heap g];rfl)))
 have T:x.frozen? ⟨H,0,none⟩=false:=Lib.frozen_of_heap g 0;have N:s.extract n s.size=bs (s.data.toList.drop n):=zgO (Lib.extract_to_end s n);have HR:=hIx N;have G:=hIx f;have t:Below H w x:=(a.mono (QX (Nat.lt_of_succ_lt q.out.lt))).trans (c.mono (Zc H));clear N m a i c d o f U y2 Y X;go_wp2_with fail
 go_end0
 have B:∀k,H+1<=k->H≠k:=λk h e=>by omega
 refine⟨rfl,⟨.inr ?_,?_⟩,t.setCell (p:=⟨H,0,none⟩) (Qc _) _⟩
 ·have K:=G.out
  rw[Lib.strCells_eq,HX.out]at K
  have I:Lib.BuilderAt 142 5 (H+1) (H+1) (.pointer (H+1:)) (Lib.byteCells (l++zaQ (s.data.toList.take n))) x:=by
   unfold Lib.byteCells at K ⊢;rw[Q2];exact K
  exact BuilderAt.keep I (by simp[World.setCell]) λk V _=>Qk _ _ _ _ λe=>B k V (by rw[e])
 ·rw[<-HR.out]
  simp[World.setCell,Q4,g]
def zyV(b:List Int)(s:jE)(w:World)(i:Value)(wr:World):Prop:=
 ∃(k:Nat) (l:jE) (a:ByteArray),k<=b.length/\i=jA k/\ChS w.heap.size l a wr/\Hid (l++(cutP (b.drop k) a.data.toList).flatMap zaQ=(cutP b s).flatMap zaQ)/\a.size<=s.length/\l.length+12*a.size<=12*s.length/\w wr
theorem znR(s:ByteArray)(a:List Int)(A:Option Addr)(c:Nat)(w:World)(hA:Sl w w.heap.size 1 A a.length (a.map (Value.int .i64)))(h5:a.length<=1048576)(hs:s.size<=1048576)(J:TzOk w):
 Calls prog 44 #[.string s,.slice A a.length c] w λe w'=>e=jC (.string (bs (zct (cutP a s.data.toList))))/\w w':=by
 have g:s.data.toList.length=s.size:=by simp
 have HA:Hid (∀W,w W->Sl W W.heap.size 1 A a.length (a.map (Value.int .i64))):=λW hb=>(hA.below hb).more hb.size
 have C:Hid (∀(l:jE) (x:ByteArray) (n:Nat) W,ChS w.heap.size l x W->n<=x.size->x.size<=1048576->l.length<=1099511627776->w W->_):=λl x n W h1 h2 h3 h4 hb=>zyf w.heap.size l x n W h1 h2 h3 h4 (J.below hb)
 have h0:∀W,W=(w.alloc (.cells #[.string s] 9)).alloc (.cells #[.pointer none,jD 0 0] 142)->ChS w.heap.size [] s W/\w W:=λW Z=>by
  refine⟨⟨?_,?_⟩,by rw[Z];exact WaL.alloc (by simp) _⟩
  ·have:=Lib.fresh_isBuilder 142 5 (w.alloc (.cells #[.string s] 9))
   rw[Qp]at this;rw[Z];exact this
  ·rw[Z]
   exact(Qr _ _ _ (by simp)).trans (Qt w _)
 have H0:=hIx h0;clear hA J h0
 go_in
 obtain⟨F,P⟩:=H0.out _ rfl;go_wp2_with fail;generalize (w.alloc (.cells #[.string s] 9)).alloc (.cells #[.pointer none,jD 0 0] 142)=W0 at *
 go_loopw [12] (λi wr=>zyV a s.data.toList w i wr) (λi _=>a.length-(intOf i).toNat)
 case atStart=>exact⟨0,[],s,Qm _,rfl,F,by unfold Hid;rw[List.drop_zero];rfl,by omega,by simp,P⟩
 case round=>
  obtain⟨k,l,x,hk,rfl,p,S,H,E,hb⟩:=hrel;rw[g]at H E;clear F P H0;have F:wr.cell? w.heap.size=some (.string x):=by rw[Lib.cell_of_heap p.2];rfl
  have q:x.data.toList.length=x.size:=by simp
  by_cases N:k<a.length
  ·have d2:decide ((k:Int)<(a.length:Int))=true:=Qu (by omega)
   have i7:IntKind.i64.wrap ((k:Int)+1)=(k:Int)+1:=Qx _ (by omega);obtain⟨b,off,rfl,_,B⟩:=(HA.out wr hb).src (by rw[Qh];omega);have K:=B k (by rw[Qh];exact N);rw[Zm]at K;have G:Hid (a.drop k=a[k]::a.drop (k+1)):=Zb N;generalize a[k]=n at K G;have HC:=hIx p;have HB:=hIx hb
   by_cases f:0<n/\x.data.toList≠[]
   ·have d3:decide ((0:Int)<n)=true:=Qu f.1
    have X:x.toList.isEmpty=false:=by rw[QP];cases h:x.data.toList with|nil=>exact absurd h f.2|cons _ _=>rfl
    have O:0<x.size:=by rw[<-q];exact ZJ.2 f.2
    obtain⟨m,hm⟩:∃m:Nat,min n (x.size:Int)=m:=⟨(min n (x.size:Int)).toNat,by omega⟩
    have h6:1<=m:=by omega
    have U:m<=x.size:=by omega
    have o:Hid (l++(cutP (a.drop k) x.data.toList).flatMap zaQ=(l++zaQ (x.data.toList.take m))++(cutP (a.drop (k+1)) (x.data.toList.drop m)).flatMap zaQ):=by
     unfold Hid;rw[G.out,cutP,Qg f,q,hm,QH,QG]
     rfl
    have z:=hIx (ze7 (x.data.toList.take m));have T:=hIx (C.out l x m wr p U (by omega) (by omega) hb);clear f p hb B;go_wp2_with fail;refine T.out.mono ?_;rintro e w2 ⟨rfl,r,d⟩;have d:=HB.out.trans d;have I:(bs (x.data.toList.drop m)).size=x.size-m:=by rw[zae,QM,q]
    have L:(zaQ (x.data.toList.take m)).length<=m+11:=by
     have:=z.out;rw[QJ,Xn (by omega)]at this;exact this
    go_wp2_with fail
    go_roundw
    case rel=>
     refine⟨k+1,l++zaQ (x.data.toList.take m),bs (x.data.toList.drop m),by omega,by go_num,r,?_,by rw[I,g];omega,by rw[I,g,Qa];omega,d⟩;unfold Hid;rw[zah,<-o.out,S.out]
    case measure=>simp[intOf] <;> omega
   ·have o:Hid (l++(cutP (a.drop (k+1)) x.data.toList).flatMap zaQ=(cutP a s.data.toList).flatMap zaQ):=by
     have:=S.out;rw[G.out,cutP,Qe f]at this;exact this
    by_cases t:0<n
    ·have d3:decide ((0:Int)<n)=true:=Qu t
     have X:x.toList.isEmpty=true:=by
      rw[QP];cases h:x.data.toList with
      |nil=>rfl
      |cons _ _=>exact absurd ⟨t,by rw[h];simp⟩ f
     clear f p hb B t;go_wp2_with fail
     go_roundw
     case rel=>exact⟨k+1,l,x,by omega,by go_num,HC.out,o.out,by rw[g];exact H,by rw[g];exact E,HB.out⟩
     case measure=>simp[intOf] <;> omega
    ·have d3:decide ((0:Int)<n)=false:=Qq t
     clear f p hb B t;go_wp2_with fail
     go_roundw
     case rel=>exact⟨k+1,l,x,by omega,by go_num,HC.out,o.out,by rw[g];exact H,by rw[g];exact E,HB.out⟩
     case measure=>simp[intOf] <;> omega
  ·obtain rfl:k=a.length:=by omega
   have d2:decide ((a.length:Int)<(a.length:Int))=false:=by simp
   rw[List.drop_length]at S;obtain⟨Ao,co,rfl,_⟩:∃Ao co,A=Ao/\c=co:=⟨_,_,rfl,rfl⟩
   have D:Hid (∀y:jE,y=(cutP a s.data.toList).flatMap zaQ->bs y++ByteArray.mk #[48,13,10,13,10]=bs (zct (cutP a s.data.toList))):=λy hy=>by
    subst hy;rw[show ByteArray.mk #[48,13,10,13,10]=bs [48,13,10,13,10]from rfl,zh9]
    rfl
   by_cases j:x.data.toList=[]
   ·have X:x.toList.isEmpty=true:=by rw[QP,j];rfl
    have V:Hid (l=(cutP a s.data.toList).flatMap zaQ):=by
     have:=S.out;rw[cutP,Qg j,Xa,QE]at this;exact this
    have v:=hIx (Builder_String_any (w.heap.size+1) (w.heap.size+1) l wr p.1 (QX p.lt));have Y:l.length<=12582912:=by omega
    clear j p;go_wp2_with fail;refine v.out.mono ?_;rintro e w2 ⟨rfl,d⟩;have u:=hb.trans (d.mono (Zc _));have Q:(ByteArray.mk l.toArray).size=l.length:=rfl;go_wp2;go_ret;refine⟨Zi (λx:ByteArray=>jC (Value.string x)) (?_:_=bs (zct (cutP a s.data.toList))),u⟩;exact D.out l V.out
   ·have X:x.toList.isEmpty=false:=by rw[QP];cases h:x.data.toList with|nil=>exact absurd h j|cons _ _=>rfl
    have O:0<x.size:=by rw[<-q];exact ZJ.2 j
    have V:Hid (l++zaQ (x.data.toList.take x.size)=(cutP a s.data.toList).flatMap zaQ):=by
     have:=S.out;rw[cutP,Qe j,QH,Xa,QE]at this;rw[<-q,QZ];exact this
    have z:=hIx (ze7 (x.data.toList.take x.size));have T:=hIx (C.out l x x.size wr p (Qc _) (by omega) (by omega) hb);clear j p;go_wp2_with fail;refine T.out.mono ?_;rintro e w2 ⟨rfl,r,d⟩;have d:=hb.trans d
    have L:(zaQ (x.data.toList.take x.size)).length<=x.size+11:=by
     have:=z.out;rw[QJ,Xn (by omega)]at this;exact this
    have Y:(l++zaQ (x.data.toList.take x.size)).length<=12582930:=by rw[Qa];omega
    have v:=hIx (Builder_String_any (w.heap.size+1) (w.heap.size+1) (l++zaQ (x.data.toList.take x.size)) w2 r.1 (QX r.lt));generalize l++zaQ (x.data.toList.take x.size)=y at *;clear r L T z;go_wp2_with fail;refine v.out.mono ?_;rintro e w3 ⟨rfl,u⟩;have u:=d.trans (u.mono (Zc _));have Q:(ByteArray.mk y.toArray).size=y.length:=rfl;go_wp2;go_ret;refine⟨Zi (λx:ByteArray=>jC (Value.string x)) (?_:_=bs (zct (cutP a s.data.toList))),u⟩;exact D.out y V.out
theorem zvL(a:List jE)(h:∀d∈a,d≠[]):(zct a).length<=12*a.flatten.length+5:=by
 have:(a.flatMap zaQ).length<=12*a.flatten.length:=by
  induction a with
  |nil=>simp
  |cons d a ih=>
   have h1:=ze7 d;have h2:0<d.length:=ZJ.2 (h d (by simp));have c:=ih λx b=>h x (by simp[b])
   simp only[QH,List.flatten_cons,Qa];omega
 unfold zct;rw[Qa];simp only[Qn,QS];omega
def zcW(h:za3)(b:jE)(a:List Int)(w:World)(e:Ending)(w':World):Prop:=
 ((∃x:ByteArray,e=jC (.tuple #[.string x,.bool false]))\/∃t,zcc h b/\zdV h b a=some t/\t.length<=65536/\e=jC (.tuple #[.string (bs (zas h++t)),.bool true]))/\w w'
theorem zzx(x y:jE):bs x++bs y=bs (x++y):=by
 apply XT
 simp[bs]
theorem zmQ(m t b:ByteArray)(a:List zal)(A:Option Addr)(c:Nat)(i:List Int)(A2:Option Addr)(c2:Nat)(w:World)(hf:Sl w w.heap.size 2 A a.length (a.flatMap zaA))(hA:Sl w w.heap.size 1 A2 i.length (i.map (Value.int .i64)))
 (hm:m.size<=maxLen) (ht:t.size<=maxLen) (hs:∀f∈a,f.1.size<=maxLen/\f.2.size<=maxLen) (hl:a.length<=4398046511104) (hq:i.length<=1048576) (Q:TzOk w):
 Calls prog 24 #[.agg #[.string m,.string t,.slice A a.length c,.string b],.slice A2 i.length c2] w (zcW ⟨m,t,a⟩ b.data.toList i w):=by
 have ha:∀W,Below (w.heap.size+1) (w.alloc (.cells #[.string m,.string t,.slice A a.length c,.string b] 29)) W->(W.cell? w.heap.size=some (.string m)/\W.cell? ⟨w.heap.size,1,none⟩=some (.string t)/\W.cell? ⟨w.heap.size,2,none⟩=some (.slice A a.length c)/\W.cell? ⟨w.heap.size,3,none⟩=some (.string b))/\w W/\Sl W W.heap.size 2 A a.length (a.flatMap zaA)/\Sl W W.heap.size 1 A2 i.length (i.map (Value.int .i64))/\TzOk W:=λW hb=>by
  obtain⟨h1,h2⟩:=zbs hb;exact⟨⟨h1 0,h1 1,h1 2,h1 3⟩,h2,(hf.below h2).more h2.size,(hA.below h2).more h2.size,Q.below h2⟩
 have k:=hIx ha;obtain⟨s,H⟩:∃s,w.alloc (.cells #[.string m,.string t,.slice A a.length c,.string b] 29)=s:=⟨_,rfl⟩
 have U:w.heap.size+1<=s.heap.size:=by rw[<-H];simp
 rw[H]at k;have hB:=hIx H;have F:b.data.toList.length=b.size:=by simp
 have D:∀W,Below (w.heap.size+1) s W->Calls prog 43 #[.agg #[.string m,.string t,.slice A a.length c]] W (zkm (zam ⟨m,t,a⟩) W):=λW h=>zs1 m t A a.length c a W rfl (k.out W h).2.2.1 (λf hf=>(hs f hf).1) (λf hf=>(hs f hf).2) hl
 have Z:=zhD (getL a clen) (getL a tenc);have X:Hid (zcc ⟨m,t,a⟩ b.data.toList↔zag ⟨m,t,a⟩=0/\(zam ⟨m,t,a⟩).2.2=0/\(zas ⟨m,t,a⟩).length<=4096/\b.size<=4096):=by unfold Hid zcc;rw[F]
 have z:Hid (zdV ⟨m,t,a⟩ b.data.toList i=if (zam ⟨m,t,a⟩).1=3 then some (zct (cutP i b.data.toList))else if (zam ⟨m,t,a⟩).1=1/\b.data.toList=[]\/((zam ⟨m,t,a⟩).1=2/\(zam ⟨m,t,a⟩).2.1=(b.size:Int))then some b.data.toList else none):=by unfold Hid zdV;rw[F]
 have h7:Hid (Calls prog 42 #[.agg #[.string m,.string t,.slice A a.length c]] s (zcH ⟨m,t,a⟩ s)):=zko ⟨m,t,a⟩ A c s (k.out s (Qj _ _)).2.2.1 hm ht hs hl;have hg:Hid (zag ⟨m,t,a⟩=0->(zas ⟨m,t,a⟩).length<=31154):=λhc=>zgq _ (zdF hc)
 have h9:Hid (b.size<=4096->∀W,Below (w.heap.size+1) s W->Calls prog 44 #[.string b,.slice A2 i.length c2] W λe w'=>e=jC (.string (bs (zct (cutP i b.data.toList))))/\W w'):=λh W hb=>znR b i A2 c2 W (k.out W hb).2.2.2.1 hq (by omega) (k.out W hb).2.2.2.2
 have hk:Hid ((zct (cutP i b.data.toList)).length<=12*b.size+5):=by
  unfold Hid;have:=zvL (cutP i b.data.toList) λd hd=>ze6 _ _ d hd
  rw[zec,F]at this;exact this
 change _=4\/_ at Z
 have h5:(zam ⟨m,t,a⟩).2.2=4\/((zam ⟨m,t,a⟩).2.2=0/\((zam ⟨m,t,a⟩).1=1\/(zam ⟨m,t,a⟩).1=3\/((zam ⟨m,t,a⟩).1=2/\0<=(zam ⟨m,t,a⟩).2.1/\(zam ⟨m,t,a⟩).2.1<1000000000))):=Z;generalize zam ⟨m,t,a⟩=r at *;obtain⟨K,N,E⟩:=r;dsimp only at h5 X z;unfold zkm ofV at D;dsimp only at D;have h8:=hIx D;have j:Hid (∀(x:ByteArray) W,w W->zcW ⟨m,t,a⟩ b.data.toList i w (jC (.tuple #[.string x,.bool false])) W):=λx W h=>⟨.inl ⟨x,rfl⟩,h⟩
 have O:Hid (∀(x:jE) (y:ByteArray) W,zcc ⟨m,t,a⟩ b.data.toList->zdV ⟨m,t,a⟩ b.data.toList i=some x->x.length<=65536->y=bs (zas ⟨m,t,a⟩++x)->w W->zcW ⟨m,t,a⟩ b.data.toList i w (jC (.tuple #[.string y,.bool true])) W):=λx y W h1 h2 S h4 h=>⟨.inr ⟨x,h1,h2,S,by rw[h4]⟩,h⟩
 have hv:=hIx h5;have ⟨⟨b0,b1,b2,b3⟩,_⟩:=k.out s (Qj _ _);clear ha H D Z hf hA hm ht hs hl hq Q h5 F
 go_in
 go_upto_region 1 with fail
 rw[hB.out];go_wp2_with fail;refine h7.out.mono ?_;rintro e w1 hP
 obtain⟨P,C,hh,rfl,n⟩:∃(P:ByteArray) (C:Int),((zag ⟨m,t,a⟩=0/\C=0/\P=bs (zas ⟨m,t,a⟩))\/(zag ⟨m,t,a⟩≠0/\C≠0))/\e=jC (.tuple #[.string P,jA C])/\s w1:=by
  rcases hP with ⟨h1,h2,S⟩|⟨h1,h2,S⟩
  ·exact⟨_,0,.inl ⟨h1,rfl,rfl⟩,h2,S⟩
  ·exact⟨_,_,.inr ⟨h1,h1⟩,h2,S⟩
 have n:=n.mono U;have hn:w.heap.size+1<=w1.heap.size:=Ql U n.size;clear b0 b1 b2 b3 hP;have ⟨⟨b0,b1,b2,b3⟩,_⟩:=k.out w1 n;have q:=hIx hh;clear hh;go_wp2_with fail;refine(h8.out w1 n).mono ?_;rintro e w2 ⟨rfl,p⟩;have p:=n.trans (p.mono hn);have hj:w.heap.size+1<=w2.heap.size:=Ql U p.size;have Y:=p.alloc hj (.cells #[jA K,jA N] 114);have hH:w.heap.size<w2.heap.size:=hj;clear b0 b1 b2 b3;have ⟨⟨b0,b1,b2,b3⟩,hp,_⟩:=k.out w2 p;have ⟨⟨e0,e1,e2,e3⟩,L,_⟩:=k.out _ Y;have hy:=hIx Y;have g:=hIx L;clear n p Y hp L hn
 by_cases hC:C=0
 ·subst hC
  rcases q.out with ⟨o,_,h0⟩|⟨_,h⟩
  case inr=>exact absurd rfl h
  have G:=hg.out o;have B:P.size=(zas ⟨m,t,a⟩).length:=by rw[h0,zae]
  have u:=hIx h0;clear h0
  rcases hv.out with rfl|⟨rfl,hK⟩
  ·clear q u B G o
   go_wp2;exact Qi (v:=.tuple #[.string (.mk #[]),.bool false]) (by simp[results,results24,go_sem]) rfl (j.out _ _ g.out)
  ·by_cases J:(zas ⟨m,t,a⟩).length<=4096
   rotate_left
   ·have d1:decide ((4096:Int)<(P.size:Int))=true:=Qu (by omega)
    clear q u B G o J;go_wp2;exact Qi (v:=.tuple #[.string (.mk #[]),.bool false]) (by simp[results,results24,go_sem]) rfl (j.out _ _ g.out)
   ·have d1:decide ((4096:Int)<(P.size:Int))=false:=Qq (by omega)
    have hF:P.size<=4096:=by omega
    by_cases l:b.size<=4096
    rotate_left
    ·have d2:decide ((4096:Int)<(b.size:Int))=true:=Qu (by omega)
     clear q u B G o J l;go_wp2;exact Qi (v:=.tuple #[.string (.mk #[]),.bool false]) (by simp[results,results24,go_sem]) rfl (j.out _ _ g.out)
    ·have d2:decide ((4096:Int)<(b.size:Int))=false:=Qq (by omega)
     have hi:Hid (zcc ⟨m,t,a⟩ b.data.toList):=X.out.2 ⟨o,rfl,J,l⟩;have I:Hid (∀(x:jE) W,zdV ⟨m,t,a⟩ b.data.toList i=some x->x.length<=65536->w W->zcW ⟨m,t,a⟩ b.data.toList i w (jC (.tuple #[.string (P++bs x),.bool true])) W):=λx W h2 S h=>O.out x _ W hi.out h2 S (by rw[u.out];exact zzx _ _) h
     have hu:=hIx (h9.out l);have hG:=hIx l;clear q u B G o J X hg h7 h8 h9 O hi
     rcases hK with rfl|rfl|⟨rfl,hI,hE⟩
     ·cases he:b.toList.isEmpty with
      |true=>
       have h6:b.data.toList=[]:=by rw[<-QP];simpa using he
       have HT:Hid (zdV ⟨m,t,a⟩ b.data.toList i=some []):=by rw[z.out,h6];rfl
       have V:Hid (P++b=P++bs []):=by unfold Hid;rw[show b=bs []by rw[<-h6,zc1]]
       have y1:∀W,(Op.stringOp .add P b).run prog W=.ok (.string (P++b)) W:=λW=>Zv W P b (by omega)
       clear h6;go_wp2;exact Qi (v:=.tuple #[.string (P++b),.bool true]) (by simp[results,results24,go_sem]) rfl (by rw[V.out];exact I.out [] _ HT.out (by decide) g.out)
      |false=>
       clear l;go_wp2;exact Qi (v:=.tuple #[.string (.mk #[]),.bool false]) (by simp[results,results24,go_sem]) rfl (j.out _ _ g.out)
     ·have HT:Hid (zdV ⟨m,t,a⟩ b.data.toList i=some (zct (cutP i b.data.toList))):=by rw[z.out];rfl
      have hz:=hk.out;have hw:Hid (∀W,w W->zcW ⟨m,t,a⟩ b.data.toList i w (jC (.tuple #[.string (P++bs (zct (cutP i b.data.toList))),.bool true])) W):=λW h=>I.out _ W HT.out (by omega) h
      have Q:(bs (zct (cutP i b.data.toList))).size<=65536:=by rw[zae];omega
      generalize bs (zct (cutP i b.data.toList))=T at *;have y1:∀W,(Op.stringOp .add P T).run prog W=.ok (.string (P++T)) W:=λW=>Zv W P T (by omega)
      clear l hz hk z I HT;go_wp2_with fail;refine(hu.out _ hy.out).mono ?_;rintro e w4 ⟨rfl,hr⟩;have ho:=g.out.trans (hr.mono g.out.size);have hD:=hIx ho;clear hr ho;go_wp2;exact Qi (v:=.tuple #[.string (P++T),.bool true]) (by simp[results,results24,go_sem]) rfl (hw.out _ hD.out)
     ·cases he:(N==(b.size:Int))with
      |true=>
       have HT:Hid (zdV ⟨m,t,a⟩ b.data.toList i=some b.data.toList):=by unfold Hid;rw[z.out,Qe (by decide),Qg (.inr ⟨rfl,by simpa using he⟩)]
       have V:Hid (P++b=P++bs b.data.toList):=by unfold Hid;rw[zc1]
       have y1:∀W,(Op.stringOp .add P b).run prog W=.ok (.string (P++b)) W:=λW=>Zv W P b (by omega)
       have hx:Hid (b.data.toList.length<=65536):=by unfold Hid;rw[show b.data.toList.length=b.size by simp];omega
       clear l;go_wp2;exact Qi (v:=.tuple #[.string (P++b),.bool true]) (by simp[results,results24,go_sem]) rfl (by rw[V.out];exact I.out _ _ HT.out hx.out g.out)
      |false=>
       clear l;go_wp2;exact Qi (v:=.tuple #[.string (.mk #[]),.bool false]) (by simp[results,results24,go_sem]) rfl (j.out _ _ g.out)
 ·have q0:(C != 0)=true:=Q7.2 hC
  clear q hC;go_wp2;exact Qi (v:=.tuple #[.string (.mk #[]),.bool false]) (by simp[results,results24,go_sem]) rfl (j.out _ _ g.out)
theorem zk3:∀(a:List Int) (s:jE),(cutP a s).length<=a.length+1
 | [],s=>by rw[cutP];split <;> simp
 |n::a,s=>by
  rw[cutP]
  split
  ·rw[Qn,Qn];have:=zk3 a (s.drop (min n s.length).toNat);omega
  ·rw[Qn];have:=zk3 a s;omega
theorem ztW(a:List jE):(zct a).length<=a.flatten.length+11*a.length+5:=by
 unfold zct;rw[Qa]
 have:(a.flatMap zaQ).length<=a.flatten.length+11*a.length:=by
  induction a with
  |nil=>exact Qm _
  |cons d a ih=>
   rw[QH,List.flatten_cons,Qa,Qa,Qn];have:=ze7 d;omega
 have b:([48,13,10,13,10]:jE).length=5:=rfl;omega
theorem zmW{h:za3}{b t:jE}{c:List Int}(d:zcc h b)(a:zdV h b c=some t)(g:c.length<=1):(zas h++t).length<=8300:=by
 have h1:=d.2.2.1;have h2:=d.2.2.2;rw[Qa];unfold zdV at a
 split at a
 ·cases a
  have e:=ztW (cutP c b);have f:=zk3 c b;rw[zec]at e;omega
 ·split at a
  ·cases a;omega
  ·cases a
theorem zpm{F:ReqV->OutP}:allS F 4096 4096 []=[]:=by rw[zon (show oneR [] 4096 4096=.error 7 by kernel_rfl),Qg rfl]
theorem zjy{F:ReqV->OutP}{h:za3}{b t:jE}{c:List Int}(a:zcc h b)(d:zdV h b c=some t)(more:jE):
 allS F 4096 4096 (zas h++t++more)=F ⟨h,b⟩::if (F ⟨h,b⟩).err=0 then allS F 4096 4096 more else []:=by
 rw[znG (by decide) (by decide) (zpQ a d),ZL]
theorem zf7{F:ReqV->OutP}{h:za3}{b t:jE}{c:List Int}(a:zcc h b)(d:zdV h b c=some t):allS F 4096 4096 (zas h++t)=[F ⟨h,b⟩]:=by
 have:=zjy (F:=F) a d [];rw[QE,zpm,ite_self]at this;exact this
theorem zuw{F:ReqV->OutP}{h1 h2:za3}{a b d c:jE}{h n2:List Int}(e:zcc h1 a)(g:zdV h1 a h=some d)(f:zcc h2 b)(i:zdV h2 b n2=some c):
 allS F 4096 4096 (zas h1++d++(zas h2++c))=F ⟨h1,a⟩::if (F ⟨h1,a⟩).err=0 then [F ⟨h2,b⟩]else []:=by
 rw[zjy e g,zf7 f i]
theorem zxi(a b:OutP):upJ [a,b]=upJ [a]++upJ [b]:=by unfold upJ;simp
theorem znX(m t n:ByteArray)(g:List zal)(h who i f:Int)(a:List Int)(A p B o:Option Addr)(c v d d':Nat)(w:World)(h1:Sl w w.heap.size 2 A g.length (g.flatMap zaA))(h2:Sl w w.heap.size 2 p g.length (g.flatMap zaA))
 (G:Sl w w.heap.size 1 B a.length (a.map (Value.int .i64))) (I:Sl w w.heap.size 1 o a.length (a.map (Value.int .i64))) (hl:g.length<=1048576) (z:a.length<=1048576):
 Calls prog 26 #[.agg #[.string m,.string t,.slice A g.length c,.string n,jA h,jA who,jA i,.slice B a.length d,jA f],.agg #[.string m,.string t,.slice p g.length v,.string n,jA h,jA who,jA i,.slice o a.length d',jA f]] w λe w'=>e=jC (.bool true)/\w w':=by
 obtain⟨k,j⟩:∃k,(w.alloc (.cells #[.string m,.string t,.slice A g.length c,.string n,jA h,jA who,jA i,.slice B a.length d,jA f] 62)).alloc (.cells #[.string m,.string t,.slice p g.length v,.string n,jA h,jA who,jA i,.slice o a.length d',jA f] 62)=k:=⟨_,rfl⟩
 have b:w k:=by rw[<-j];exact WaL.alloc (by simp) _
 have y:O9 k w.heap.size (.string m) (.string t) (.slice A g.length c) (.string n) (jA h) (jA who) (jA i) (.slice B a.length d) (jA f):=by
  rw[<-j];exact(Qr _ _ _ (by simp only[Qp];omega)).trans (Qt w _)
 have hb:O9 k (w.heap.size+1) (.string m) (.string t) (.slice p g.length v) (.string n) (jA h) (jA who) (jA i) (.slice o a.length d') (jA f):=by
  rw[<-j];exact zbu _ _ _ (by simp only[Qp])
 have P:=hIx (zm7 m t n g A p c v k ((h1.below b).more b.size) ((h2.below b).more b.size) (by omega))
 have HV:Hid (∀W,k W->Calls prog 9 #[.agg #[jA h,jA who,jA i,.slice B a.length d],.agg #[jA h,jA who,jA i,.slice o a.length d']] W (zav true W)):=hIx λW s=>by
  have x:=b.trans (s.mono b.size);have:=zn9 h who i h who i B o a.length d a.length d' a a W ((G.below x).more x.size) ((I.below x).more x.size) z z;simp only[beq_self_eq_true,Bool.and_self]at this;exact this
 have H:Hid (∀W,k W->O9 W w.heap.size (.string m) (.string t) (.slice A g.length c) (.string n) (jA h) (jA who) (jA i) (.slice B a.length d) (jA f)/\O9 W (w.heap.size+1) (.string m) (.string t) (.slice p g.length v) (.string n) (jA h) (jA who) (jA i) (.slice o a.length d') (jA f)/\w W):=hIx λW s=>⟨(s.block _ (zaz y)).trans y,(s.block _ (zaz hb)).trans hb,b.trans (s.mono b.size)⟩
 have ⟨⟨a0,a1,a2,a3⟩,a4,a5,a6,O,K⟩:=y.nine;have ⟨⟨U,d1,L,Z⟩,d4,d5,T,Q,d8⟩:=hb.nine;have F:=hIx j;clear h1 h2 G I y hb j hl z
 go_in
 go_upto_region 1 with fail
 rw[F.out];go_wp2_with (go_at_call 45;apply Hid.out);refine WhM P ?_;rintro e w2 ⟨rfl,l⟩;obtain⟨u,r,_⟩:=H.out w2 l;have ⟨⟨p0,p1,N,J⟩,Y,X,p6,p7,p8⟩:=u.nine;have ⟨⟨q0,q1,q2,S⟩,q4,q5,q6,q7,V⟩:=r.nine;have E:=hIx (HV.out w2 l);clear a0 a1 a2 a3 a4 a5 a6 O K U d1 L Z d4 d5 T Q d8 u r;go_wp2_with (go_at_call 9;apply Hid.out);refine WhM E ?_;rintro e w3 ⟨rfl,C⟩;have q:=l.trans (C.mono l.size);obtain⟨u,r,D⟩:=H.out w3 q;have y1:=u.cell 8;have y2:=r.cell 8;clear p0 p1 N J Y X p6 p7 p8 q0 q1 q2 S q4 q5 q6 q7 V u r;go_wp2;go_ret;exact⟨rfl,D⟩
def zlL(x:OutM):Prop:=x.p.q.h.fs.length<=1048576/\x.p.mt.length<=1048576
theorem zjM(l k:List OutM)(Q A2:Option Addr)(c1 c2:Nat)(w:World)(h1:Sl w w.heap.size 9 Q l.length (l.flatMap zaN))(h2:Sl w w.heap.size 9 A2 k.length (k.flatMap zaN))(hl:∀x∈l,OutIn w w.heap.size x)(U:∀x∈k,OutIn w w.heap.size x)
 (r:∀x∈l,zlL x) (N:l.map OutM.p=k.map OutM.p) (hn:l.length<=4194304):
 Calls prog 25 #[.slice Q l.length c1,.slice A2 k.length c2,.func (.func 26) #[] #[]] w λe w'=>e=jC (.bool true)/\w w':=by
 have h:k.length=l.length:=by have:=Zi List.length N;rw[Qh,Qh]at this;omega
 have HQ:Hid (∀j (h1:j<l.length) (h2:j<k.length),l[j].p=k[j].p):=λj h1 h2=>by
  have:=Zi (λz=>z[j]?) N;simp only[ZM,Qd h1,Qd h2,Option.map_some,Option.some.injEq]at this;exact this
 have HL:=hIx hl;have HK:=hIx U;have HF:=hIx r;have J:=hIx h;rw[h];clear hl U N h r
 go_in
 go_wp2
 go_loopw [17] (λi wr=>∃j:Nat,j<=l.length/\i=jA j/\w wr) (λi _=>l.length-(intOf i).toNat)
 case atStart=>exact⟨0,Qm _,rfl,Qj _ _⟩
 case round=>
  obtain⟨j,hj,rfl,hb⟩:=hrel
  by_cases o:j<l.length
  ·have d1:decide ((j:Int)<(l.length:Int))=true:=by simp;omega
   have i7:IntKind.i64.wrap ((j:Int)+1)=(j:Int)+1:=Qx _ (by omega);have i8:(0:Int)<=(j:Int):=by omega
   have i9:(j:Int)<(l.length:Int):=by omega
   have n:j<k.length:=by rw[J.out];exact o
   obtain⟨b,off,rfl,_,a⟩:=zoS (h1.below hb) j o;obtain⟨b',P,rfl,y,hy9⟩:=zoS (h2.below hb) j n;have S:=(HL.out l[j] (Qz o)).keep hb hb.size;have V:=(HK.out k[j] (Qz n)).keep hb hb.size;have G:=HF.out l[j] (Qz o);have H:=HQ.out j o n;generalize l[j]=X at *;generalize k[j]=Y at *;obtain⟨p,A,c,B,d⟩:=X;obtain⟨p',O,L,K,d'⟩:=Y;dsimp only at *;subst H;obtain⟨⟨⟨m,t,v⟩,bd⟩,C,who,F,E,q⟩:=p;unfold zlL at G;dsimp only at *;have T:=a 0 (by decide) _ rfl;have W:=hy9 0 (by decide) _ rfl;have x1:=a 1 (by decide) _ rfl;have y1:=hy9 1 (by decide) _ rfl;have x2:=a 2 (by decide) _ rfl;have y2:=hy9 2 (by decide) _ rfl;have x3:=a 3 (by decide) _ rfl;have y3:=hy9 3 (by decide) _ rfl;have x4:=a 4 (by decide) _ rfl;have y4:=hy9 4 (by decide) _ rfl;have x5:=a 5 (by decide) _ rfl;have y5:=hy9 5 (by decide) _ rfl;have x6:=a 6 (by decide) _ rfl;have y6:=hy9 6 (by decide) _ rfl;have x7:=a 7 (by decide) _ rfl;have y7:=hy9 7 (by decide) _ rfl;have x8:=a 8 (by decide) _ rfl;have y8:=hy9 8 (by decide) _ rfl;rw[XI]at T W;dsimp only at T x1 x2 x3 x4 x5 x6 x7 x8 W y1 y2 y3 y4 y5 y6 y7 y8;generalize bs bd=D at *
   have g:=((Qj wr.heap.size wr).alloc (Qc _) (.cells #[.string m,.string t,.slice A v.length c,.string D,jA C,jA who,jA F,.slice B E.length d,jA q] 62)).alloc (by simp) (.cells #[.string m,.string t,.slice O v.length L,.string D,jA C,jA who,jA F,.slice K E.length d',jA q] 62);have s:=S.keep g g.size;have u:=V.keep g g.size;have HS:=hIx (znX m t D v C who F q E A O B K c L d d' ((wr.alloc (.cells #[.string m,.string t,.slice A v.length c,.string D,jA C,jA who,jA F,.slice B E.length d,jA q] 62)).alloc (.cells #[.string m,.string t,.slice O v.length L,.string D,jA C,jA who,jA F,.slice K E.length d',jA q] 62)) s.f u.f s.mt u.mt G.1 G.2);have Z:=hIx (hb.trans (g.mono hb.size));have hz:b'<wr.heap.size:=Qv y hb.size;clear hb S V g s u a hy9 G;go_wp2_with fail;refine HS.out.mono ?_;rintro e w2 ⟨rfl,I⟩;go_wp2;exact⟨⟨j+1,by omega,rfl,Z.out.trans (I.mono Z.out.size)⟩,by dsimp only[intOf];omega⟩
  ·obtain rfl:j=l.length:=by omega
   have d1:decide ((l.length:Int)<(l.length:Int))=false:=by simp
   go_wp2;go_ret;exact⟨rfl,hb⟩
