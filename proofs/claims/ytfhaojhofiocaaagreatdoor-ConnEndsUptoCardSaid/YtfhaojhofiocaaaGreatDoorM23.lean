/- Lemmas for the last texts. -/
import Derived.Test.YtfhaojhofiocaaaGreatDoorM22
import Derived.Deep.DrawnRows
import Derived.Deep.DeepCutAuto
set_option maxHeartbeats 3200000
set_option maxRecDepth 100000
namespace Go.Proofs.YtfhaojhofiocaaaGreatDoor
open Go.RowKit Go.Proofs.Tryz
attribute [go_sem] results77 results122
def zhZ(l:jE)(w:World)(e:Ending)(w':World):Prop:=
 (zdY l=none/\e=jC (.tuple #[jD 0 0,.bool false])/\w w')\/
 ∃a,zdY l=some a/\e=jC (.tuple #[.slice w.heap.size a.length a.length,.bool true])/\w'=w.alloc (.cells (a.map λx=>Value.string (bs x)).toArray 9)
def zsB(a:List jE)(i:Value):Prop:=∃k:Nat,k<=a.length/\i=jA k/\Hid ((a.take k).all zes=true)
theorem zv7(l:jE)(h:Lib.hasSuffix l endL=true):Lib.trimSuffix l endL=l.take (l.length-4):=by
 unfold Lib.trimSuffix;rw[Qj h]
 rfl
theorem zrQ(l:jE)(b:UInt8):decide (0<=Lib.indexByte l b)=l.contains b:=(Lib.contains_iff_indexByte l b).symm
theorem zry(s:ByteArray)(w:World)(D:LibOk w)(hs:s.size<=4194304):
 Calls prog 77 #[.string s] w (zhZ s.data.toList w):=by
 obtain⟨m0,z⟩:=D;have d:=strings_CutSuffix s (ByteArray.mk #[13,10,13,10]) w (by omega);have E:s.data.toList.length=s.size:=by simp
 rw[show (ByteArray.mk #[13,10,13,10]).data.toList=endL from rfl]at d;cases f:Lib.hasSuffix s.data.toList endL with
 |false=>
  rw[f]at d;have HN:Hid (zdY s.data.toList=none):=by unfold Hid zdY;rw[Qf (by rw[f];decide)]
  have J:=hIx d;clear d f z E
  go_in
  go_wp2_with fail;refine J.out.mono ?_;rintro e A ⟨rfl,rfl⟩;go_wp2;exact zad (.inl ⟨HN.out,rfl,Qi _ _⟩)
 |true=>
  rw[f,zv7 _ f]at d;obtain⟨t,H⟩:∃t,bs (s.data.toList.take (s.data.toList.length-4))=t:=⟨_,rfl⟩
  have C:t.data.toList=s.data.toList.take (s.data.toList.length-4):=by rw[<-H];rfl
  have P:t.size<=4194304:=by rw[<-H,zah,QK];omega
  rw[show (ByteArray.mk (s.data.toList.take (s.data.toList.length-4)).toArray)=t from H]at d;have m:=strings_Split t ⟨#[13,10]⟩ m0 w (by omega) z (by decide);have l:=zqZ t;have q:=Z9 ⟨#[13,10]⟩ (by decide) 0 _ t rfl;generalize Lib.splitB ⟨#[13,10]⟩ 0 (Lib.countB t ⟨#[13,10]⟩) t=c at m l q;generalize Lib.countB t ⟨#[13,10]⟩=n at m q;rw[<-q]at m;have v:(spl2 t.data.toList).length=c.length:=by rw[<-l,Qk]
  have Q:=zhb t.data.toList;have O:t.data.toList.length=t.size:=by simp
  have h0:c.length<=4194305:=by omega
  have T:Hid (zdY s.data.toList=if (spl2 t.data.toList).all zes=true then some (spl2 t.data.toList)else none):=by unfold Hid zdY;rw[Qj f,C]
  have I:=hIx l;have L:=hIx m;have g:=hIx v;have J:=hIx d
  have N:Hid (∀j (h:j<c.length),(w.alloc (.cells (c.map Value.string).toArray 9)).cell? ⟨w.heap.size,j,none⟩=some (.string c[j])):=λj h=>by
   rw[zar (Qi _ _) j];simp[h]
  have K:Hid (w (w.alloc (.cells (c.map Value.string).toArray 9))):=WaL
  have G:Hid ((c.map Value.string)=(spl2 t.data.toList).map λx=>Value.string (bs x)):=by
   unfold Hid;rw[<-l,Xn]
   rfl
  clear d f z m l q v Q C H P O E
  go_in
  go_wp2_with fail;refine J.out.mono ?_;rintro e A ⟨rfl,rfl⟩;go_wp2_with fail;refine L.out.mono ?_;rintro e w2 ⟨rfl,rfl⟩;go_wp2_with fail
  go_loop [19] (λi=>zsB (spl2 t.data.toList) i) (λi=>c.length-(intOf i).toNat)
  case atStart=>exact⟨0,Qn _,rfl,rfl⟩
  case round=>
   obtain⟨k,X,rfl,F⟩:=hrel;rw[g.out]at X
   by_cases B:k<c.length
   ·have i7:IntKind.i64.wrap ((k:Int)+1)=(k:Int)+1:=Qz _ (by omega)
    have Z:decide ((k:Int)<(c.length:Int))=true:=by simp;omega
    have hc:=N.out k B;have y:k<(spl2 t.data.toList).length:=by rw[g.out];exact B
    have V:Hid (c[k].data.toList=(spl2 t.data.toList)[k]):=by
     unfold Hid;have:=I.out;simp only[<-this,Zo]
    have b:Hid (zes (spl2 t.data.toList)[k]=false->zhZ s.data.toList A (jC (.tuple #[jD 0 0,.bool false])) (A.alloc (.cells (c.map Value.string).toArray 9))):=λh=>.inl ⟨(by
     rw[T.out,Qf];intro ha;have:=Zv.1 ha _ (QC y);rw[h]at this;cases this),rfl,K.out⟩
    have a:Hid (zes (spl2 t.data.toList)[k]=true->((spl2 t.data.toList).take (k+1)).all zes=true):=λh=>by
     rw[Qu y,List.all_append,F.out];simp[h]
    rw[<-V.out]at b a;generalize c[k]=x at hc V b a;cases c1:x.data.toList.isEmpty with
    |true=>
     have Y:x.toList.isEmpty=true:=by rw[QU];exact c1
     have u:=hIx (b.out (by unfold zes;rw[c1];rfl));clear c1 b a;go_wp2;exact zad u.out
    |false=>
     have Y:x.toList.isEmpty=false:=by rw[QU];exact c1
     have S:=zrQ x.data.toList 13;have U:=zrQ x.data.toList 10;have o:=λW=>hIx (strings_IndexByte x 13 W)
     have r:=λW=>hIx (strings_IndexByte x 10 W)
     rw[show (13:Int).toNat.toUInt8=13 from rfl]at o;rw[show (10:Int).toNat.toUInt8=10 from rfl]at r;generalize Lib.indexByte x.data.toList 13=z1 at *;generalize Lib.indexByte x.data.toList 10=z2 at *;cases c2:x.data.toList.contains 13 with
     |true=>
      rw[c2]at S;have u:=hIx (b.out (by unfold zes;rw[c2];simp));clear c1 c2 b a;go_wp2_with (go_at_call 111;first|(refine(o _).out.mono ?_;rintro e w' ⟨rfl,rfl⟩)|(refine(r _).out.mono ?_;rintro e w' ⟨rfl,rfl⟩));exact zad u.out
     |false=>
      rw[c2]at S;cases c3:x.data.toList.contains 10 with
      |true=>
       rw[c3]at U;have u:=hIx (b.out (by unfold zes;rw[c3];simp));clear c1 c2 c3 b a;go_wp2_with (go_at_call 111;first|(refine(o _).out.mono ?_;rintro e w' ⟨rfl,rfl⟩)|(refine(r _).out.mono ?_;rintro e w' ⟨rfl,rfl⟩));exact zad u.out
      |false=>
       rw[c3]at U;have u:=hIx (a.out (by unfold zes;rw[c1,c2,c3];rfl));clear c1 c2 c3 b a;go_wp2_with (go_at_call 111;first|(refine(o _).out.mono ?_;rintro e w' ⟨rfl,rfl⟩)|(refine(r _).out.mono ?_;rintro e w' ⟨rfl,rfl⟩))
       go_round
       case rel=>exact⟨k+1,by rw[g.out];omega,by go_num,u⟩
       case measure=>simp[intOf] <;> omega
   ·obtain rfl:k=c.length:=by omega
    have Z:decide ((c.length:Int)<(c.length:Int))=false:=by simp
    have u:Hid (zhZ s.data.toList A (jC (.tuple #[.slice A.heap.size c.length c.length,.bool true])) (A.alloc (.cells (c.map Value.string).toArray 9))):=by
     refine .inr ⟨spl2 t.data.toList,?_,by rw[g.out],by rw[G.out]⟩;have:=F.out;rw[<-g.out,Q0]at this;rw[T.out,Qj this]
    go_wp2;exact zad u.out
theorem zop{T e:TypeId}{B b:Nat}{p:Value}{l:List Value}{w w':World}(h:Lib.BuilderAt T e B b p l w)(hb:w w'):Lib.BuilderAt T e B b p l w':=by
 have c:=h.lt;obtain⟨g,v,f,a,d⟩:=h;exact⟨g,v,(hb.block b c).trans f,zaM a hb,d⟩
theorem zm9{T e:TypeId}{B b:Nat}{l:List Value}{w w':World}(h:Lib.IsBuilder T e B b l w)(hb:w w'):Lib.IsBuilder T e B b l w':=
 h.imp (λx=>zop x hb) λx=>zop x hb
theorem zlB{T e:TypeId}{B b:Nat}{l:jE}{s:ByteArray}{w:World}{p:Value}(h:Lib.BuilderAt T e B b p (Lib.byteCells l++Lib.strCells s) w):Lib.BuilderAt T e B b p (Lib.byteCells (l++s.data.toList)) w:=by
 rw[Lib.strCells_eq]at h;unfold Lib.byteCells at h ⊢;rw[Q2];exact h
def zdO(h:zbR)(w:World)(e:Ending)(w':World):Prop:=
 (zal h=0/\e=jC (.tuple #[.string (bs (zdn h)),jA 0])/\w w')\/(zal h≠0/\e=jC (.tuple #[.string ByteArray.empty,jA (zal h)])/\w w')
def zje(a:List zas):jE:=a.flatMap λf=>zp1 f++[13,10]
theorem zih:∀(a:List zas),(∀f∈a,f.1.size+f.2.size<=1000)->(zje a).length<=a.length*1004
 | [],_=>by simp[zje]
 |f::r,h=>by
  have ih:=zih r λg b=>h g (by simp[b])
  have h1:=h f (by simp);have c:f.1.data.toList.length=f.1.size:=by simp
  have d:f.2.data.toList.length=f.2.size:=by simp
  unfold zje at ih ⊢;unfold zp1 at ih ⊢;simp only[QV,Qb,Qq,QP]at ih ⊢;omega
theorem zjs(h:zbR)(a:zh3 h):(zhS h).length<=1030:=by
 have c:h.m.data.toList.length=h.m.size:=by simp
 have b:h.t.data.toList.length=h.t.size:=by simp
 have:=a.short;have:=a.line;unfold zhS verL;simp only[Qb,Qq,QP];omega
theorem zjZ(h:zbR)(a:zh3 h):(zdn h).length<=31154:=by
 have h1:=zjs h a;have h2:=zih h.fs a.lens;have b:=a.few;unfold zdn;unfold zje at h2;simp only[Qb,Qq,QP];omega
def PRel(h:zbR)(a:World)(g:Nat)(i:Value)(wr:World):Prop:=
 ∃(k:Nat) (l:jE),k<=h.fs.length/\i=jA k/\Hid (l=zhS h++[13,10]++zje (h.fs.take k))/\Lib.IsBuilder 261 5 g g (Lib.byteCells l) wr/\Below g a wr
theorem zqV(h:zbR)(A:Option Addr)(c:Nat)(w:World)(P:Sl w w.heap.size 2 A h.fs.length (h.fs.flatMap zaJ))(hm:h.m.size<=maxLen)(ht:h.t.size<=maxLen)
 (hs:∀f∈h.fs,f.1.size<=maxLen/\f.2.size<=maxLen) (hl:h.fs.length<=4398046511104):
 Calls prog 122 #[.agg #[.string h.m,.string h.t,.slice A h.fs.length c]] w (zdO h w):=by
 have s:w (w.alloc (.cells #[.string h.m,.string h.t,.slice A h.fs.length c] 51)):=WaL;have O:=zeA h A c (w.alloc (.cells #[.string h.m,.string h.t,.slice A h.fs.length c] 51)) ((P.below s).more s.size) hm ht hs hl;have HC:=hIx O;have hr:=hIx s;clear O s
 by_cases D:zal h=0
 ·have B:=zhV D
  rw[D]at HC;have h0:=hIx (zjs h B)
  have h4:Hid (∀k,(zje (h.fs.take k)).length<=30120):=λk=>by
   have h1:=zih (h.fs.take k) λf P=>B.lens f (Z7 P)
   have h2:=B.few;rw[QK]at h1;have:min k h.fs.length*1004<=30*1004:=Xu _ (by omega);omega
  have hw:=B.short;have hj:=B.line;have hn:=B.few;have h6:=hIx B.lens;have V:∀W,(Op.stringOp .add h.m (ByteArray.mk #[32])).run prog W=.ok (.string (h.m++ByteArray.mk #[32])) W:=λW=>ZU W _ _ (by show h.m.size+1<=_;omega)
  have y2:∀W,(Op.stringOp .add (h.m++ByteArray.mk #[32]) h.t).run prog W=.ok (.string (h.m++ByteArray.mk #[32]++h.t)) W:=λW=>ZU W _ _ (by rw[Zi];show h.m.size+1+h.t.size<=_;omega)
  have y3:∀W,(Op.stringOp .add (h.m++ByteArray.mk #[32]++h.t) (ByteArray.mk #[32,72,84,84,80,47,49,46,49,13,10])).run prog W=.ok (.string (h.m++ByteArray.mk #[32]++h.t++ByteArray.mk #[32,72,84,84,80,47,49,46,49,13,10])) W:=λW=>ZU W _ _ (by rw[Zi,Zi];show h.m.size+1+h.t.size+11<=_;omega)
  have h9:Hid ((h.m++ByteArray.mk #[32]++h.t++ByteArray.mk #[32,72,84,84,80,47,49,46,49,13,10]).data.toList=zhS h++[13,10]):=by unfold Hid zhS verL;simp
  have ha:Hid ((h.m++ByteArray.mk #[32]++h.t++ByteArray.mk #[32,72,84,84,80,47,49,46,49,13,10]).size<=1100):=by
   unfold Hid;rw[Zi,Zi,Zi];show h.m.size+1+h.t.size+11<=_
   omega
  have h7:=hIx D;clear B D hs hl
  go_in
  go_wp2_with fail;refine HC.out.mono ?_;rintro e d ⟨rfl,j⟩;obtain⟨b0,b1,b2⟩:d.cell? w.heap.size=some (.string h.m)/\d.cell? ⟨w.heap.size,1,none⟩=some (.string h.t)/\d.cell? ⟨w.heap.size,2,none⟩=some (.slice A h.fs.length c):=⟨zar j 0,zar j 1,zar j 2⟩
  have a:=zaN j (Qd _);have u:w.heap.size<d.heap.size:=by have:=j.size;simp at this;omega
  have Q:=Lib.fresh_isBuilder 261 5 d;have q:=(Qi d.heap.size d).alloc (Qd _) (.cells #[.pointer none,jD 0 0] 261)
  have T:Hid (∀W,d W->(W.cell? w.heap.size=some (.string h.m)/\W.cell? ⟨w.heap.size,1,none⟩=some (.string h.t)/\W.cell? ⟨w.heap.size,2,none⟩=some (.slice A h.fs.length c))/\w W/\Sl W W.heap.size 2 A h.fs.length (h.fs.flatMap zaJ)):=λW hb=>
   ⟨⟨(hb.cell (p:=⟨w.heap.size,0,none⟩) u).trans b0,(hb.cell (p:=⟨w.heap.size,1,none⟩) u).trans b1,(hb.cell (p:=⟨w.heap.size,2,none⟩) u).trans b2⟩,a.trans (hb.mono a.size),(P.below (a.trans (hb.mono a.size))).more (a.trans (hb.mono a.size)).size⟩
  have Z:=hIx (zd7 d.heap.size d.heap.size [] (h.m++ByteArray.mk #[32]++h.t++ByteArray.mk #[32,72,84,84,80,47,49,46,49,13,10]) (d.alloc (.cells #[.pointer none,jD 0 0] 261)) Q (by rw[QP];have:=ha.out;omega) (by simp));have h5:=hIx q;clear j a Q P q;go_wp2_with fail;refine Z.out.mono ?_;rintro e w2 ⟨rfl,z,q⟩;have o:=zlB (l:=[]) z;rw[List.nil_append,h9.out]at o;have g:d w2:=h5.out.trans q;have hu:d.heap.size<=w2.heap.size:=g.size;obtain⟨⟨c0,c1,c2⟩,_,_⟩:=T.out w2 g;clear b0 b1 b2 z q V y2 y3;go_wp2
  go_loopw [24] (λi wr=>PRel h d d.heap.size i wr) (λi _=>h.fs.length-(intOf i).toNat)
  case atStart=>exact⟨0,_,Qn _,rfl,by unfold Hid zje;rw[XD,XC,QO],.inr o,g⟩
  case round=>
   obtain⟨k,l,hk,rfl,HL,r,hb⟩:=hrel;clear c0 c1 c2 g o;obtain⟨⟨c0,c1,c2⟩,K,H⟩:=T.out wr hb
   have hv:l.length<=31152:=by
    have h1:=h0.out;have h2:=h4.out k;rw[HL.out,Qb,Qb];show (zhS h).length+2+_<=_
    omega
   have N:d.heap.size<=wr.heap.size:=hb.size
   by_cases G:k<h.fs.length
   ·have d1:decide ((k:Int)<(h.fs.length:Int))=true:=Qx (by omega)
    have i7:IntKind.i64.wrap ((k:Int)+1)=(k:Int)+1:=Qz _ (by omega);obtain⟨b,hq,rfl,hp,I,J⟩:=zoz H k G;have HS:=h6.out _ (QC G)
    have S:Hid (zje (h.fs.take (k+1))=zje (h.fs.take k)++(zp1 h.fs[k]++[13,10])):=by
     unfold Hid zje;rw[Qu G,Q7,QV,XC,QO]
    generalize h.fs[k]=f at I J HS S;obtain⟨n,v⟩:=f;dsimp only at I J HS S;have V:∀W,(Op.stringOp .add n (ByteArray.mk #[58,32])).run prog W=.ok (.string (n++ByteArray.mk #[58,32])) W:=λW=>ZU W _ _ (by show n.size+2<=_;omega)
    have y2:∀W,(Op.stringOp .add (n++ByteArray.mk #[58,32]) v).run prog W=.ok (.string (n++ByteArray.mk #[58,32]++v)) W:=λW=>ZU W _ _ (by rw[Zi];show n.size+2+v.size<=_;omega)
    have y3:∀W,(Op.stringOp .add (n++ByteArray.mk #[58,32]++v) (ByteArray.mk #[13,10])).run prog W=.ok (.string (n++ByteArray.mk #[58,32]++v++ByteArray.mk #[13,10])) W:=λW=>ZU W _ _ (by rw[Zi,Zi];show n.size+2+v.size+2<=_;omega)
    have L:(n++ByteArray.mk #[58,32]++v++ByteArray.mk #[13,10]).data.toList=zp1 (n,v)++[13,10]:=by unfold zp1;simp
    have h8:(n++ByteArray.mk #[58,32]++v++ByteArray.mk #[13,10]).size<=1004:=by
     rw[Zi,Zi,Zi];show n.size+2+v.size+2<=_
     omega
    have F:=(Qi wr.heap.size wr).alloc (Qd _) (.cells #[.string n,.string v] 162);have HW:=hIx (zd7 d.heap.size d.heap.size (Lib.byteCells l) (n++ByteArray.mk #[58,32]++v++ByteArray.mk #[13,10]) (wr.alloc (.cells #[.string n,.string v] 162)) (zm9 r F) (by rw[Lib.byteCells_length];omega) (by simp;omega));have X:=hIx L;have U:d (wr.alloc (.cells #[.string n,.string v] 162)):=hb.trans (F.mono N);have Y:=hIx U;clear L h8 F r hb U H K;go_wp2_with fail;refine HW.out.mono ?_;rintro e w3 ⟨rfl,C,g⟩;have E:=zlB C;rw[X.out]at E;have y:d w3:=Y.out.trans g;clear C g c0 c1 c2 I J V y2 y3;go_wp2_with fail
    go_roundw
    case rel=>exact⟨k+1,_,by omega,by go_num,by unfold Hid;rw[HL.out,S.out,Q4],.inr E,y⟩
    case measure=>simp[intOf] <;> omega
   ·obtain rfl:k=h.fs.length:=by omega
    have d1:decide ((h.fs.length:Int)<(h.fs.length:Int))=false:=by simp
    have he:=hIx (Builder_String_any d.heap.size d.heap.size l wr r N);have hd:=hIx K;have V:∀W,(Op.stringOp .add (ByteArray.mk l.toArray) (ByteArray.mk #[13,10])).run prog W=.ok (.string (ByteArray.mk l.toArray++ByteArray.mk #[13,10])) W:=λW=>ZU W _ _ (by show l.length+2<=_;omega)
    have L:(ByteArray.mk l.toArray++ByteArray.mk #[13,10])=bs (zdn h):=by
     show bs l++bs [13,10]=_
     rw[zbq,HL.out,Q0]
     rfl
    clear r hb H K;go_wp2_with fail;refine he.out.mono ?_;rintro e w3 ⟨rfl,g⟩;have y:=hd.out.trans (g.mono (QZ u));have hg:(ByteArray.mk l.toArray).size=l.length:=rfl;have HP:Hid (zdO h w (jC (.tuple #[.string (ByteArray.mk l.toArray++ByteArray.mk #[13,10]),jA 0])) w3):=.inl ⟨h7.out,by rw[L],y⟩;clear L y g;go_wp2;exact zad HP.out
 ·have S:=hIx D
  have hi:(zal h==0)=false:=Qc.2 D;have hh:(zal h != 0)=true:=Q6.2 D;have h3:Hid (zal h=zal h):=rfl;generalize hx:zal h=x at *;have X:=hIx hx;clear D hx h3
  go_in
  go_wp2_with fail;refine HC.out.mono ?_;rintro e d ⟨rfl,j⟩;have a:=zaN j (Qd _);clear j;go_wp2;exact QD (v:=.tuple #[.string ByteArray.empty,jA x]) (by simp[results,results122,go_sem];rfl) rfl (.inr ⟨by rw[X.out];exact S.out,by rw[X.out],a⟩)
attribute [go_sem] results54
def zwl:Value:=.agg #[.string (.mk #[]),.string (.mk #[]),jD 0 0]
def zdp(l:jE)(w:World)(e:Ending)(w':World):Prop:=
 (∃x,zbz l=.error x/\e=jC (.tuple #[zwl,jA x])/\w w')\/
 ∃h A c,zbz l=.ok h/\e=jC (.tuple #[.agg #[.string h.m,.string h.t,.slice A h.fs.length c],jA 0])/\OwnV w' w.heap.size (.slice A h.fs.length c) h.fs/\w w'
theorem zbx{w:World}{g:Nat}{c d f:Value}(x y z:Value)(b:w.cell? g=some c)(h1:w.cell? ⟨g,1,none⟩=some d)(h2:w.cell? ⟨g,2,none⟩=some f):
 (((w.setCell g x).setCell ⟨g,1,none⟩ y).setCell ⟨g,2,none⟩ z).cell? g=some x/\(((w.setCell g x).setCell ⟨g,1,none⟩ y).setCell ⟨g,2,none⟩ z).cell? ⟨g,1,none⟩=some y/\(((w.setCell g x).setCell ⟨g,1,none⟩ y).setCell ⟨g,2,none⟩ z).cell? ⟨g,2,none⟩=some z:=by
 have i:(⟨g,1,none⟩:Addr)≠⟨g,0,none⟩:=by intro e;cases e
 have n2:(⟨g,2,none⟩:Addr)≠⟨g,0,none⟩:=by intro e;cases e
 have n3:(⟨g,2,none⟩:Addr)≠⟨g,1,none⟩:=by intro e;cases e
 have ⟨h,a⟩:=za9 x y b h1;refine⟨?_,?_,?_⟩
 ·rw[QQ _ _ _ _ n2];exact h
 ·rw[QQ _ _ _ _ n3];exact a
 ·exact Zx _ _ _ ((QQ _ _ _ _ (Xk n3)).trans ((QQ _ _ _ _ (Xk n2)).trans h2))
def ResAt(R:Nat)(w:World):Prop:=w.heap[R]? = some (.cells #[.string (.mk #[]),.string (.mk #[]),jD 0 0] 51 (0,0))
theorem ResAt.cells{R:Nat}{w:World}(h:ResAt R w):w.cell? R=some (.string (.mk #[]))/\w.cell? ⟨R,1,none⟩=some (.string (.mk #[]))/\w.cell? ⟨R,2,none⟩=some (jD 0 0):=
 ⟨Qo w _ 0 _ _ _ h,Qo w _ 1 _ _ _ h,Qo w _ 2 _ _ _ h⟩
theorem ResAt.free{R:Nat}{w:World}(h:ResAt R w)(j:Nat):w.frozen? ⟨R,j,none⟩=false:=by
 unfold ResAt at h;simp[World.frozen?, h]
theorem ResAt.below{R B:Nat}{w w':World}(h:ResAt R w)(hb:Below B w w')(a:R<B):ResAt R w':=(hb.block R a).trans h
def HdAt(H:Nat)(m t:ByteArray)(v:Value)(w:World):Prop:=w.heap[H]? = some (.cells #[.string m,.string t,v] 51 (0,0))
theorem HdAt.cells{H:Nat}{m t:ByteArray}{v:Value}{w:World}(h:HdAt H m t v w):w.cell? H=some (.string m)/\w.cell? ⟨H,1,none⟩=some (.string t)/\w.cell? ⟨H,2,none⟩=some v:=
 ⟨Qo w _ 0 _ _ _ h,Qo w _ 1 _ _ _ h,Qo w _ 2 _ _ _ h⟩
theorem HdAt.free{H:Nat}{m t:ByteArray}{v:Value}{w:World}(h:HdAt H m t v w)(j:Nat):w.frozen? ⟨H,j,none⟩=false:=by
 unfold HdAt at h;simp[World.frozen?, h]
theorem HdAt.put{H:Nat}{m t:ByteArray}{v:Value}{w:World}(h:HdAt H m t v w)(u:Value):HdAt H m t u (w.setCell ⟨H,2,none⟩ u):=by
 unfold HdAt at h ⊢;simp[World.setCell,Q5,h]
section
variable {ops:Array Oper} {o:Oper} {a:Act} {Q:Exit->Act->World->Prop} {w:World}
theorem zdQ{K:Act->World->Prop}{E:Prop}(f:o.guard=none)(s x:Operand)(z:o.op=.call {callee:=.builtin .append,args:=#[s,x],argTypes:=#[49,49]})
 (base:Nat) (v:Value) (l:List zas) (C:a.eval s=v) (d:OwnV w base v l) (b:base<=w.heap.size)
 (n:List Value) (new:zas) (G:n=zaJ new) (q:Nat) (m:w.heap.size=q) (c:Nat) (F:a.eval x=.slice q 1 c)
 (e:l.length<=4194304)
 (h:∀v' w',OwnV w' base v' (l++[new])->Below base w w'->(∀g,g<w.heap.size->v.ownBlock≠some g->w'.heap[g]? = w.heap[g]?)->w.heap.size<w'.heap.size->K (a.put o.dst v') w'):
 if Region.wanted o (yielded ops a.tmps)=true then Oper.wp prog o a (w.alloc (.cells n.toArray 162)) K Q else E:=by
 subst G;subst m
 obtain⟨t,D,i,j,k⟩:=ZG zoU;have y:Region.wanted o (yielded ops a.tmps)=true:=by simp[Region.wanted,f]
 rw[Qj y]
 exact zaT s x 49 z base 162 t _ 2 32 underlying49 D i j k rfl (by decide) v l.length (l.flatMap zaJ) C d b (zaJ new) 1 c F rfl
  (λu A=>zjr [new] u (by simpa using A)) (by unfold maxLen;omega) (by omega) λv' w' h1 h2 B r=>h v' w' (by unfold OwnV;rw[Qb,Q7];simpa using h1) h2 B r
theorem zeU{K:Act->World->Prop}{E:Prop}(f:o.guard=none)(s x:Operand)(n:o.op=.call {callee:=.builtin .append,args:=#[s,x],argTypes:=#[49,49]})
 (base:Nat) (v:Value) (l:List zas) (r:a.eval s=v) (e:OwnV w base v l) (d:base<=w.heap.size)
 (i:List Value) (new:zas) (u:i=zaJ new) (j:Nat) (k:w.heap.size=j) (c:Nat) (t:a.eval x=.slice j 1 c)
 (b:l.length<=4194304)
 (h:∀v' w',OwnV w' base v' (l++[new])->Below base w w'->(∀g,g<w.heap.size->v.ownBlock≠some g->w'.heap[g]? = w.heap[g]?)->w.heap.size<w'.heap.size->K (a.put o.dst v') w'):
 if Region.wanted o (yielded ops a.tmps)=true then Oper.wp prog o a (w.alloc (.cells i.toArray 162)).drew K Q else E:=
 zdQ (w:=w.drew) f s x n base v l r e d i new u j k c t b λv' w' h1 h2 q m=>h v' w' h1 (undrew h2) q m
end
def zhU(b:List jE)(m t:ByteArray)(a:World)(i:Value)(wr:World):Prop:=
 ∃(k:Nat) (v:Value),k<=b.length/\i=jA k/\Hid ((b.take k).all zlS=true)/\HdAt a.heap.size m t v wr/\OwnV wr (a.heap.size+1) v ((b.take k).map cutF)/\a wr
theorem zpF(s:ByteArray)(w:World)(hT:LibOk w):
 Calls prog 54 #[.string s] w (zdp s.data.toList w):=by
 have N:s.data.toList.length=s.size:=by simp
 obtain⟨W0,hv⟩:∃W0,w.alloc (.cells #[.string (.mk #[]),.string (.mk #[]),jD 0 0] 51)=W0:=⟨_,rfl⟩
 have h9:ResAt w.heap.size W0:=by rw[<-hv];exact Qv w _
 have h6:w W0:=by rw[<-hv];exact WaL
 have G:w.heap.size<W0.heap.size:=by rw[<-hv];simp
 have ho:=hT.below h6
 have m:Hid (∀x W,zbz s.data.toList=.error x->w W->zdp s.data.toList w (jC (.tuple #[zwl,jA x])) (((W.setCell w.heap.size (.string (.mk #[]))).setCell ⟨w.heap.size,1,none⟩ (.string (.mk #[]))).setCell ⟨w.heap.size,2,none⟩ (jD 0 0))):=λx W h hb=>
  .inl ⟨x,h,rfl,((hb.setCell (p:=⟨w.heap.size,0,none⟩) (Qd _) _).setCell (p:=⟨w.heap.size,1,none⟩) (Qd _) _).setCell (p:=⟨w.heap.size,2,none⟩) (Qd _) _⟩
 unfold zwl at m;have gt:=hIx hv;clear hT hv
 by_cases hV:4096<s.size
 ·have d0:decide ((4096:Int)<(s.size:Int))=true:=Qx (by omega)
  have V:=hIx (m.out 5 W0 (zr8 (by omega)) h6);have ⟨r0,r1,r2⟩:=h9.cells;have f0:=h9.free;clear hV N m h9 h6 ho
  go_in
  go_upto_region 1 with fail
  rw[gt.out];go_wp2_with fail;have t:=zbx (.string (.mk #[])) (.string (.mk #[])) (jD 0 0) r0 r1 r2;exact zad V.out
 ·have d0:decide ((4096:Int)<(s.size:Int))=false:=Qt (by omega)
  have hs:s.size<=4194304:=by omega
  have g7:Hid (zbz s.data.toList=match zdY s.data.toList with|none=>.error 4|some ls=>zds ls):=by unfold Hid zbz;rw[Qf (by omega)];cases zdY s.data.toList <;> rfl
  have ge:=hIx (zry s W0 ho (by omega));clear hV N
  go_in
  go_upto_region 1 with fail
  rw[gt.out];go_wp2_with fail;refine ge.out.mono ?_;rintro e w1 (⟨gj,rfl,Y⟩|⟨ls,g8,rfl,hJ⟩)
  ·have T:=h9.below Y G
   have V:=hIx (m.out 4 w1 (by rw[g7.out,gj]) (h6.trans (Y.mono (QZ G))));have ⟨r0,r1,r2⟩:=T.cells;have f0:=T.free;clear m h9 h6 ho T Y gj;go_wp2_with fail;have t:=zbx (.string (.mk #[])) (.string (.mk #[])) (jD 0 0) r0 r1 r2;exact zad V.out
  ·have J:Hid (zbz s.data.toList=zds ls):=by unfold Hid;rw[g7.out,g8]
   obtain⟨a,ha,H,gl⟩:=zp5 g8;have N:s.data.toList.length=s.size:=by simp
   have gE:a.length<=4194304:=by
    have:=Zm List.length ha;rw[Qb]at this;omega
   have hy:∀x∈ls,x.length<=4194304:=λx hx=>by
    rw[<-H]at hx;exact Ql (zf9 a x hx) gE
   have hR:ls.length<=4194305:=by have:=zhb a;rw[H]at this;omega
   have o:ls≠[]:=by rw[<-H];exact zkt a
   have Y:W0 w1:=by rw[hJ];exact WaL
   have hS:∀j (h:j<ls.length),w1.cell? ⟨W0.heap.size,j,none⟩=some (.string (bs ls[j])):=λj h=>by
    rw[hJ,zar (Qi _ _) j];simp[h]
   have X:W0.heap.size<w1.heap.size:=by rw[hJ];simp
   clear g8 ha H gl hJ g7 ge
   obtain⟨E,b,rfl⟩:∃E b,ls=E::b:=by
    cases ls with
    |nil=>exact absurd rfl o
    |cons x y=>exact⟨x,y,rfl⟩
   have T:=h9.below Y G;have he:=h6.trans (Y.mono (QZ G));have gD:=ho.below Y;obtain⟨m0,hj⟩:=gD;have ga:=hy E (by simp);have H:=strings_Split (bs E) ⟨#[32]⟩ m0 w1 (by rw[zah];omega) hj (by decide);have ht:=zb1 32 (bs E);have hQ:=Z9 ⟨#[32]⟩ (by decide) 0 _ (bs E) rfl;generalize Lib.splitB ⟨#[32]⟩ 0 (Lib.countB (bs E) ⟨#[32]⟩) (bs E)=ps at H ht hQ;generalize Lib.countB (bs E) ⟨#[32]⟩=nn at H hQ;rw[<-hQ]at H
   have gc:ps.length<=4194305:=by
    have h1:=zdL 32 E;have h2:=Zm List.length ht;rw[Qk,zam]at h2;omega
   have hp:=hIx hy;have gO:=hIx hS;have gL:=hIx hj;have hP:w1.cell? W0.heap.size=some (.string (bs E)):=hS 0 (by simp);rw[zam]at ht;have hn:=hIx ht;have gh:=hIx H;have i0:(0:Int)<((b.length+1:Nat):Int):=by omega
   rw[Qq]at hR;rw[Qq];clear hy hS hj ht H hQ o Y h9 h6 ho ga;go_wp2_with fail;refine gh.out.mono ?_;rintro e w2 ⟨rfl,hI⟩;have hm:w1 w2:=by rw[hI];exact WaL
   have hi:=T.below hm (ZA G X);have K:=he.trans (hm.mono (QZ (ZA G X)))
   have h7:Hid (∀j (h:j<ps.length),w2.cell? ⟨w1.heap.size,j,none⟩=some (.string ps[j])):=λj h=>by
    rw[hI,zar (Qi _ _) j];simp[h]
   have hw:w1.heap.size<w2.heap.size:=by rw[hI];simp
   clear hI gh hP
   by_cases hL:∃x y z,ps=[x,y,z]/\z.data.toList=verL
   ·obtain⟨x,y,z,rfl,F⟩:=hL
    have hP:w2.cell? w1.heap.size=some (.string x):=h7.out 0 (by simp);have gx:w2.cell? ⟨w1.heap.size,1,none⟩=some (.string y):=h7.out 1 (by simp);have g3:w2.cell? ⟨w1.heap.size,2,none⟩=some (.string z):=h7.out 2 (by simp);have q2:(z.toList==[72,84,84,80,47,49,46,49])=true:=by rw[QU,F];rfl
    have q3:(z.toList != [72,84,84,80,47,49,46,49])=false:=by rw[QU,F];rfl
    have gC:z=ByteArray.mk #[72,84,84,80,47,49,46,49]:=by rw[<-zeT z,F];rfl
    subst gC;have B:splL 32 E=[x.data.toList,y.data.toList,verL]:=by have:=hn.out;rw[Q8,Q8,Q8,ZE,F]at this;exact this.symm
    have D:Hid (zds (E::b)=if b.all zlS=true then (if zal ⟨x,y,b.map cutF⟩=0 then .ok ⟨x,y,b.map cutF⟩else .error (zal ⟨x,y,b.map cutF⟩))else .error 4):=by
     unfold Hid zds;rw[List.headD_cons,B];dsimp only;rw[Qj rfl,List.tail_cons,zeT,zeT]
    have gT:x.size<=4194304:=by
     have h1:=zbY 32 E x.data.toList (by rw[B];simp);have h2:=hp.out E (by simp);have h3:x.data.toList.length=x.size:=by simp
     omega
    have gS:y.size<=4194304:=by
     have h1:=zbY 32 E y.data.toList (by rw[B];simp);have h2:=hp.out E (by simp);have h3:y.data.toList.length=y.size:=by simp
     omega
    have hF:Hid (zbz s.data.toList=zds (E::b)):=J.out;have j0:(0:Int)<3:=by decide
    have j1:(1:Int)<3:=by decide
    have j2:(2:Int)<3:=by decide
    have gf:=(Qi w2.heap.size w2).drew;simp only[Qq,QP,Ze,Nat.reduceAdd]at *;have gk:=hIx hi;have hh:=hIx K;have gi:=hIx hm;clear T he F B gc hn h7 J hi K hm gf;go_wp2_with fail
    go_region
    have Q:HdAt w2.heap.size x y (jD 0 0) (w2.alloc (.cells #[.string x,.string y,jD 0 0] 51)).drew:=Qv w2 _;have g4:w2 (w2.alloc (.cells #[.string x,.string y,jD 0 0] 51)).drew:=((Qi w2.heap.size w2).alloc (Qd _) _).drew;have h5:w2.heap.size<(w2.alloc (.cells #[.string x,.string y,jD 0 0] 51)).drew.heap.size:=by show _<(w2.alloc _).heap.size;simp
    generalize (w2.alloc (.cells #[.string x,.string y,jD 0 0] 51)).drew=W5 at *;have S:Hid (zhU b x y w2 (jA 0) W5):=⟨0,jD 0 0,Qn _,rfl,rfl,Q,OwnV.nil _ _,g4⟩
    rcases Z4 b.length with gm|gm
    ·obtain rfl:b=[]:=QA gm
     have i1:(1:Int)<=((([]:List jE).length+1:Nat):Int):=by omega
     have i2:((([]:List jE).length+1:Nat):Int)-1=(([]:List jE).length:Int):=by omega
     clear hP gx g3 Q g4 h5;go_wp2
     go_loopw [50] (λi wr=>zhU ([]:List jE) x y w2 i wr) (λi _=>([]:List jE).length-(intOf i).toNat)
     case atStart=>exact S.out
     case round=>
      obtain⟨k,v,hk,rfl,h4,Q,Z,hb⟩:=hrel;have hr:=gk.out.below hb (ZA G (ZA X hw));have h8:w wr:=hh.out.trans (hb.mono hh.out.size)
      have I:w2.heap.size<wr.heap.size:=by
       have:=Q;unfold HdAt at this;rw[QI]at this;exact this.1
      obtain⟨A,c,rfl,_⟩:=Z.form;rw[Qk]at Q Z
      by_cases hK:k<([]:List jE).length
      ·exact absurd hK (by simp)
      ·obtain rfl:k=([]:List jE).length:=by omega
       have d1:decide ((([]:List jE).length:Int)<(([]:List jE).length:Int))=false:=by simp
       rw[Q0]at h4 Z Q;rw[h4.out]at D;have HH:=hIx (D.out.trans (Qj rfl));have hB:Hid (zbz s.data.toList=if zal ⟨x,y,([]:List jE).map cutF⟩=0 then .ok ⟨x,y,([]:List jE).map cutF⟩else .error (zal ⟨x,y,([]:List jE).map cutF⟩)):=by unfold Hid;rw[hF.out,HH.out]
       obtain⟨A',c',e',N⟩:=Z.form;rw[Qk]at e';injection e' with eA eB eC
       subst eA;subst eC
       have P:(([]:List jE).map cutF).length=([]:List jE).length:=Qk _
       have L:=zeA ⟨x,y,([]:List jE).map cutF⟩ A c wr N (by show x.size<=maxLen;unfold maxLen;omega) (by show y.size<=maxLen;unfold maxLen;omega) (λf hf=>by
        obtain⟨z,hz,rfl⟩:=QS.1 hf;have h1:=zcP z [58];have h2:=hp.out z (by simp[hz]);have h3:=zfC (Lib.cut z [58]).2.1;unfold cutF maxLen;simp only[zah];omega) (by rw[P];omega)
       dsimp only at L;rw[P]at L;have ⟨h0,h1,h2⟩:=Q.cells;have HO:=hIx Z;have hY:=hIx L;have hE:=hIx h8;have hD:=hr;have gd:=hIx hD;have hq:w.heap.size<wr.heap.size:=ZA G (ZA X (ZA hw I));clear L hr hD hb h8 N Z Q S;go_wp2_with fail;refine hY.out.mono ?_;rintro e w6 ⟨rfl,d⟩;have O:=gd.out.below d hq;have n:=hE.out.trans (d.mono (QZ hq));have ⟨r0,r1,r2⟩:=O.cells;have f0:=O.free;have g0:=(d.cell (p:=⟨w2.heap.size,0,none⟩) I).trans h0;have g1:=(d.cell (p:=⟨w2.heap.size,1,none⟩) I).trans h1;have g2:=(d.cell (p:=⟨w2.heap.size,2,none⟩) I).trans h2;have l:=HO.out.below d
       by_cases hc:zal ⟨x,y,([]:List jE).map cutF⟩=0
       ·have r:zbz s.data.toList=.ok ⟨x,y,([]:List jE).map cutF⟩:=by rw[hB.out,Qj hc]
        have U:OwnV (((w6.setCell w.heap.size (.string x)).setCell ⟨w.heap.size,1,none⟩ (.string y)).setCell ⟨w.heap.size,2,none⟩ (.slice A ([]:List jE).length c)) w.heap.size (.slice A ([]:List jE).length c) (([]:List jE).map cutF):=by
         refine(l.keep λg hg=>?_).low (by omega);have o:g≠w.heap.size:=λe=>by have:=(QE l g hg).1;omega
         rw[Qm _ _ _ _ o,Qm _ _ _ _ o,Qm _ _ _ _ o]
        have V:Hid (zdp s.data.toList w (jC (.tuple #[.agg #[.string x,.string y,.slice A ([]:List jE).length c],jA 0])) (((w6.setCell w.heap.size (.string x)).setCell ⟨w.heap.size,1,none⟩ (.string y)).setCell ⟨w.heap.size,2,none⟩ (.slice A ([]:List jE).length c))):=by
         refine .inr ⟨⟨x,y,([]:List jE).map cutF⟩,A,c,r,?_,?_,((n.setCell (p:=⟨w.heap.size,0,none⟩) (Qd _) _).setCell (p:=⟨w.heap.size,1,none⟩) (Qd _) _).setCell (p:=⟨w.heap.size,2,none⟩) (Qd _) _⟩
         ·dsimp only;rw[P]
         ·dsimp only;rw[P];exact U
        rw[hc];clear hc r U l n O d;go_wp2_with fail;have t:=zbx (.string x) (.string y) (.slice A ([]:List jE).length c) r0 r1 r2
        try simp only[QP]at t
        exact zad V.out
       ·have r:zbz s.data.toList=.error (zal ⟨x,y,([]:List jE).map cutF⟩):=by rw[hB.out,Qf hc]
        have V:=hIx (m.out _ w6 r n);have q0:(zal ⟨x,y,([]:List jE).map cutF⟩ != 0)=true:=Q6.2 hc;have q1:(zal ⟨x,y,([]:List jE).map cutF⟩==0)=false:=Qc.2 hc;generalize zal ⟨x,y,([]:List jE).map cutF⟩=C at *;clear hc r l n O d;go_wp2_with fail;have t:=zbx (.string (.mk #[])) (.string (.mk #[])) (jD 0 0) r0 r1 r2;exact zad V.out
    ·have gQ:¬b.length=0:=by omega
     have i1:(1:Int)<=((b.length+1:Nat):Int):=by omega
     have i2:((b.length+1:Nat):Int)-1=(b.length:Int):=by omega
     clear hP gx g3 Q g4 h5;go_wp2
     go_loopw [50] (λi wr=>zhU b x y w2 i wr) (λi _=>b.length-(intOf i).toNat)
     case atStart=>exact S.out
     case round=>
      obtain⟨k,v,hk,rfl,h4,Q,Z,hb⟩:=hrel;have hr:=gk.out.below hb (ZA G (ZA X hw));have h8:w wr:=hh.out.trans (hb.mono hh.out.size)
      have I:w2.heap.size<wr.heap.size:=by
       have:=Q;unfold HdAt at this;rw[QI]at this;exact this.1
      obtain⟨A,c,rfl,_⟩:=Z.form;rw[Qk]at Q Z
      by_cases hK:k<b.length
      ·have hW:(b.take k).length=k:=by rw[QK];omega
       rw[hW]at Q Z;have i7:IntKind.i64.wrap ((k:Int)+1)=(k:Int)+1:=Qz _ (by omega)
       have hS:wr.cell? ⟨W0.heap.size,1+k,none⟩=some (.string (bs b[k])):=by
        rw[(hb.cell (p:=⟨W0.heap.size,1+k,none⟩) (ZA X hw)),gi.out.cell (p:=⟨W0.heap.size,1+k,none⟩) X];have:=gO.out (1+k) (by omega);rw[this];simp[Nat.add_comm 1 k]
       have gR:(b[k]).length<=4194304:=hp.out _ (by simp);have hX:=zcP b[k] [58];have gA:=zfC (Lib.cut b[k] [58]).2.1
       have hj:wr.cell? (0:)=some (jA m0):=by
        rw[hb.cell (p:=⟨0,0,none⟩) (by show 0<w2.heap.size;omega),gi.out.cell (p:=⟨0,0,none⟩) (by show 0<w1.heap.size;omega)];exact gL.out
       have hcut:=strings_Cut (bs b[k]) ⟨#[58]⟩ m0 wr (by rw[zah];omega) hj;rw[zam]at hcut;have gg:Hid (b.take (k+1)=b.take k++[b[k]]):=Qu hK
       have hu:Hid (zlS b[k]=false->zbz s.data.toList=.error 4):=λh=>by
        rw[hF.out,D.out,Qf];intro ha;have:=Zv.1 ha _ (QC hK);rw[h]at this;cases this
       unfold zlS at hu
       have g6:Hid (zlS b[k]=true->(b.take (k+1)).all zlS=true):=λh=>by
        rw[gg.out,List.all_append,h4.out];simp[h]
       unfold zlS at g6;have gn:Hid (cutF b[k]=(bs (Lib.cut b[k] [58]).1,bs (zaI (Lib.cut b[k] [58]).2.1))):=rfl;have hA:=hIx hcut;generalize b[k]=u at *;generalize Lib.cut u [58]=q at *;obtain⟨ca,cb,cc⟩:=q;dsimp only at gn hA hu g6 hX gA;have gz:=hIx hr;have hE:=hIx h8;have gI:=hIx Q;have gP:=hIx Z;have gN:=hIx hb;clear hj hcut hr h8 Q Z hb h4 S;cases cc with
       |false=>
        have gB:=hIx (hu.out rfl);go_wp2_with fail;refine hA.out.mono ?_;rintro e w5 ⟨rfl,nq,rfl⟩;have g5:ResAt w.heap.size (wr.drewN nq):=gz.out;have ⟨r0,r1,r2⟩:=g5.cells;have f0:=g5.free;have V:=hIx (m.out 4 (wr.drewN nq) gB.out (below_drewN hE.out nq));clear g5;go_wp2_with fail;have t:=zbx (.string (.mk #[])) (.string (.mk #[])) (jD 0 0) r0 r1 r2;exact zad V.out
       |true=>
        have gy:=hIx (g6.out rfl);go_wp2_with fail;refine hA.out.mono ?_;rintro e w5 ⟨rfl,nq,rfl⟩;have g9:HdAt w2.heap.size x y (.slice A k c) (wr.drewN nq):=gI.out;have hG:OwnV (wr.drewN nq) (w2.heap.size+1) (.slice A k c) ((b.take k).map cutF):=gP.out;have gp:w2 (wr.drewN nq):=below_drewN gN.out nq;have h0:=g9.cells;have h5:w2.heap.size<(wr.drewN nq).heap.size:=I;have hU:(Value.slice A k c).ownBlock≠some w2.heap.size:=λe=>by have:=(QE hG _ e).1;omega
        have gs:((b.take k).map cutF).length<=4194304:=by rw[Qk,hW];omega
        have gr:(bs cb).size<=maxLen:=by rw[zah];unfold maxLen;omega
        generalize wr.drewN nq=w5 at *;have gq:=hIx g9;have gM:=hIx gp;have gw:=hIx hU
        have gK:Hid (∀W,Calls prog 78 #[.string (ByteArray.mk cb.toArray)] W λe w'=>e=jC (.string (bs (zaI cb)))/\w'=W):=λW=>by
         have:=zdG (bs cb) W gr;rw[zam]at this;exact this
        clear g9 gp gr hU;go_wp2_with fail
        go_region_law (first|(refine zdQ rfl (.tmp 64) (.tmp 69) rfl (w2.heap.size+1) (.slice A k c) ((b.take k).map cutF) rfl (by exact hG) (by exact h5) _ (bs ca,bs (zaI cb)) rfl w5.heap.size rfl 1 rfl gs ?_;intro v6 w6 l d hN gF;obtain⟨A6,c6,rfl,_⟩:=l.form;have hd:HdAt w2.heap.size x y (.slice A k c) w6:=(hN w2.heap.size h5 gw.out).trans gq.out;have gJ:=hd.free 2;have gG:=hd.cells.2.2)|(refine zeU rfl (.tmp 64) (.tmp 69) rfl (w2.heap.size+1) (.slice A k c) ((b.take k).map cutF) rfl (by exact hG) (by exact h5) _ (bs ca,bs (zaI cb)) rfl w5.heap.size rfl 1 rfl gs ?_;intro v6 w6 l d hN gF;obtain⟨A6,c6,rfl,_⟩:=l.form;have hd:HdAt w2.heap.size x y (.slice A k c) w6:=(hN w2.heap.size h5 gw.out).trans gq.out;have gJ:=hd.free 2;have gG:=hd.cells.2.2)|(go_simp;go_at_call 78;refine(gK.out _).mono ?_;rintro e w8 ⟨rfl,rfl⟩))
        all_goals
         have hC:((b.take k).map cutF++[(bs ca,bs (zaI cb))]).length=k+1:=by rw[Qb,Qk,hW];rfl
         rw[hC]at l;have gu:=hd.put (.slice A6 (k+1) c6);have gv:=(gM.out.trans (d.mono (Zd _))).setCell (p:=⟨w2.heap.size,2,none⟩) (Qd _) (.slice A6 (k+1) c6)
         have U:OwnV (w6.setCell ⟨w2.heap.size,2,none⟩ (.slice A6 (k+1) c6)) (w2.heap.size+1) (.slice A6 (k+1) c6) ((b.take (k+1)).map cutF):=by
          rw[gg.out,Q2,Q8,ZE,gn.out];refine l.keep λg hg=>?_
          have o:g≠w2.heap.size:=λe=>by have:=(QE l g hg).1;omega
          rw[Qm _ _ _ _ o]
         have HN:=hIx (And.intro gu (And.intro U gv));clear gu U gv l d hN hd hG h0 hC;go_wp2_with fail
         go_roundw
         case rel=>exact⟨k+1,.slice A6 (k+1) c6,by omega,by go_num,gy,HN.out.1,HN.out.2.1,HN.out.2.2⟩
         case measure=>simp[intOf] <;> omega
      ·obtain rfl:k=b.length:=by omega
       have d1:decide ((b.length:Int)<(b.length:Int))=false:=by simp
       rw[Q0]at h4 Z Q;rw[h4.out]at D;have HH:=hIx (D.out.trans (Qj rfl));have hB:Hid (zbz s.data.toList=if zal ⟨x,y,b.map cutF⟩=0 then .ok ⟨x,y,b.map cutF⟩else .error (zal ⟨x,y,b.map cutF⟩)):=by unfold Hid;rw[hF.out,HH.out]
       obtain⟨A',c',e',N⟩:=Z.form;rw[Qk]at e';injection e' with eA eB eC
       subst eA;subst eC
       have P:(b.map cutF).length=b.length:=Qk _
       have L:=zeA ⟨x,y,b.map cutF⟩ A c wr N (by show x.size<=maxLen;unfold maxLen;omega) (by show y.size<=maxLen;unfold maxLen;omega) (λf hf=>by
        obtain⟨z,hz,rfl⟩:=QS.1 hf;have h1:=zcP z [58];have h2:=hp.out z (by simp[hz]);have h3:=zfC (Lib.cut z [58]).2.1;unfold cutF maxLen;simp only[zah];omega) (by rw[P];omega)
       dsimp only at L;rw[P]at L;have ⟨h0,h1,h2⟩:=Q.cells;have HO:=hIx Z;have hY:=hIx L;have hE:=hIx h8;have hD:=hr;have gd:=hIx hD;have hq:w.heap.size<wr.heap.size:=ZA G (ZA X (ZA hw I));clear L hr hD hb h8 N Z Q S;go_wp2_with fail;refine hY.out.mono ?_;rintro e w6 ⟨rfl,d⟩;have O:=gd.out.below d hq;have n:=hE.out.trans (d.mono (QZ hq));have ⟨r0,r1,r2⟩:=O.cells;have f0:=O.free;have g0:=(d.cell (p:=⟨w2.heap.size,0,none⟩) I).trans h0;have g1:=(d.cell (p:=⟨w2.heap.size,1,none⟩) I).trans h1;have g2:=(d.cell (p:=⟨w2.heap.size,2,none⟩) I).trans h2;have l:=HO.out.below d
       by_cases hc:zal ⟨x,y,b.map cutF⟩=0
       ·have r:zbz s.data.toList=.ok ⟨x,y,b.map cutF⟩:=by rw[hB.out,Qj hc]
        have U:OwnV (((w6.setCell w.heap.size (.string x)).setCell ⟨w.heap.size,1,none⟩ (.string y)).setCell ⟨w.heap.size,2,none⟩ (.slice A b.length c)) w.heap.size (.slice A b.length c) (b.map cutF):=by
         refine(l.keep λg hg=>?_).low (by omega);have o:g≠w.heap.size:=λe=>by have:=(QE l g hg).1;omega
         rw[Qm _ _ _ _ o,Qm _ _ _ _ o,Qm _ _ _ _ o]
        have V:Hid (zdp s.data.toList w (jC (.tuple #[.agg #[.string x,.string y,.slice A b.length c],jA 0])) (((w6.setCell w.heap.size (.string x)).setCell ⟨w.heap.size,1,none⟩ (.string y)).setCell ⟨w.heap.size,2,none⟩ (.slice A b.length c))):=by
         refine .inr ⟨⟨x,y,b.map cutF⟩,A,c,r,?_,?_,((n.setCell (p:=⟨w.heap.size,0,none⟩) (Qd _) _).setCell (p:=⟨w.heap.size,1,none⟩) (Qd _) _).setCell (p:=⟨w.heap.size,2,none⟩) (Qd _) _⟩
         ·dsimp only;rw[P]
         ·dsimp only;rw[P];exact U
        rw[hc];clear hc r U l n O d;go_wp2_with fail;have t:=zbx (.string x) (.string y) (.slice A b.length c) r0 r1 r2
        try simp only[QP]at t
        exact zad V.out
       ·have r:zbz s.data.toList=.error (zal ⟨x,y,b.map cutF⟩):=by rw[hB.out,Qf hc]
        have V:=hIx (m.out _ w6 r n);have q0:(zal ⟨x,y,b.map cutF⟩ != 0)=true:=Q6.2 hc;have q1:(zal ⟨x,y,b.map cutF⟩==0)=false:=Qc.2 hc;generalize zal ⟨x,y,b.map cutF⟩=C at *;clear hc r l n O d;go_wp2_with fail;have t:=zbx (.string (.mk #[])) (.string (.mk #[])) (jD 0 0) r0 r1 r2;exact zad V.out
   ·have ⟨r0,r1,r2⟩:=hi.cells
    have f0:=hi.free
    by_cases hZ:ps.length=3
    ·obtain⟨x,y,z,rfl⟩:∃x y z,ps=[x,y,z]:=by
      match ps,hZ with
      | [x,y,z],_=>exact⟨x,y,z,rfl⟩
     have F:¬z.data.toList=verL:=λe=>hL ⟨x,y,z,rfl,e⟩
     have g3:w2.cell? ⟨w1.heap.size,2,none⟩=some (.string z):=h7.out 2 (by simp);have q2:(z.toList==[72,84,84,80,47,49,46,49])=false:=by rw[QU];exact Qc.2 F
     have q3:(z.toList != [72,84,84,80,47,49,46,49])=true:=by rw[QU];exact Q6.2 F
     have B:splL 32 E=[x.data.toList,y.data.toList,z.data.toList]:=by have:=hn.out;rw[Q8,Q8,Q8,ZE]at this;exact this.symm
     have D:zds (E::b)=.error 4:=by
      unfold zds;rw[List.headD_cons,B];dsimp only;rw[Qf F]
     have V:=hIx (m.out 4 w2 (by rw[J.out,D]) K);simp only[Qq,QP,Ze,Nat.reduceAdd]at *;have j0:(0:Int)<3:=by decide
     have j2:(2:Int)<3:=by decide
     clear T he F B gc hn h7 J hi K hm hL D;go_wp2_with fail;have t:=zbx (.string (.mk #[])) (.string (.mk #[])) (jD 0 0) r0 r1 r2;exact zad V.out
    ·have q2:((ps.length:Int) != 3)=true:=Q6.2 (by omega)
     have q3:((ps.length:Int)==3)=false:=Qc.2 (by omega)
     have D:zds (E::b)=.error 4:=by
      have hl:(splL 32 E).length=ps.length:=by rw[<-hn.out,Qk]
      unfold zds;rw[List.headD_cons]
      split
      ·rename_i gH
       rw[gH]at hl;exact absurd hl.symm hZ
      ·rfl
     have V:=hIx (m.out 4 w2 (by rw[J.out,D]) K);clear T he gc hn h7 J hi K hm hL D hZ;go_wp2_with fail;have t:=zbx (.string (.mk #[])) (.string (.mk #[])) (jD 0 0) r0 r1 r2;exact zad V.out
theorem Sl.cells{w:World}{B n:Nat}{A:Option Addr}{c:List ByteArray}(h:Sl w B 1 A n (c.map Value.string))(g:0<n):
 ∃b a,A=some ⟨b,a,none⟩/\c.length=n/\∀j,j<c.length->w.cell? ⟨b,a+j,none⟩=some (.string (c.getD j ByteArray.empty)):=by
 have hl:=h.len;rw[Qk]at hl;obtain⟨b,a,e,_,f⟩:=h.src (by rw[Qk];omega);refine⟨b,a,e,by omega,λj d=>?_⟩;rw[f j (by rw[Qk];exact d),Zo,Qr,Qe d]
 rfl
theorem Sl.zero{w:World}{B:Nat}{A:Option Addr}{a:List ByteArray}(h:Sl w B 1 A 0 (a.map Value.string)):a=[]:=
 QA (by have:=h.len;rw[Qk]at this;omega)
theorem zkr{w:World}{B n:Nat}{A:Option Addr}{f:List ByteArray}(c:Nat)(x:ByteArray)(h:Sl w B 1 A n (f.map Value.string))(a:n<=9223372036854775807):
 Calls prog 94 #[.slice A n c,.string x] w λe w'=>e=jC (.bool (Lib.containsS f x))/\w'=w:=by
 rcases Z4 n with rfl|g
 ·rw[h.zero]
  exact slices_Contains_string_empty A c x w
 ·obtain⟨b,d,rfl,j,i⟩:=h.cells g
  have:=slices_Contains_string b d n c f x w (by omega) a i;rw[QR (by omega)]at this;exact this
attribute [go_sem] results80
def clen:ByteArray:=ByteArray.mk #[99,111,110,116,101,110,116,45,108,101,110,103,116,104]
def tenc:ByteArray:=ByteArray.mk #[116,114,97,110,115,102,101,114,45,101,110,99,111,100,105,110,103]
def chkd:jE:=[99,104,117,110,107,101,100]
def ofL:List ByteArray->List ByteArray->Int × Int × Int
 | [],[]=>(1,0,0)
 | [],[c]=>if (zaB c.data.toList==chkd)=true then (3,0,0)else (0,0,4)
 | [],_::_::_=>(0,0,4)
 |_::_,_::_=>(0,0,4)
 |s::S,[]=>match numL 10 9 s.data.toList with
  |none=>(0,0,4)
  |some n=>if (s::S).any (λy=>!(y.toList==s.toList))=true then (0,0,4)else (2,n,0)
theorem zsG(c:ByteArray):ofL [] [c]=if (zaB c.data.toList==chkd)=true then (3,0,0)else (0,0,4):=rfl
theorem zoM(s:ByteArray)(S:List ByteArray):ofL (s::S) []=match numL 10 9 s.data.toList with
 |none=>(0,0,4)
 |some n=>if (s::S).any (λy=>!(y.toList==s.toList))=true then (0,0,4)else (2,n,0):=rfl
def ofV(r:Int × Int × Int):Value:=.tuple #[.agg #[jA r.1,jA r.2.1],jA r.2.2]
def zo8(r:Int × Int × Int)(w:World)(e:Ending)(w':World):Prop:=e=jC (ofV r)/\w w'
theorem zvB(x:ByteArray)(g:Nat)(A:Option Addr)(c n:Nat)(S:List ByteArray)(w:World)(B:Nat)(j:w.cell? g=some (.slice A n c))(f:Sl w B 1 A n (S.map Value.string))(i:0<n)(d:ByteArray)(h1:S[0]? = some d):
 Calls prog 117 #[.string x,.pointer g] w (zaC (!(x.toList==d.toList)) w):=by
 obtain⟨b,e,rfl,k,h⟩:=f.cells i;have a:=h 0 (by omega);rw[Qr,h1,XH]at a
 go_in
 go_wp2;go_ret;exact⟨rfl,Qi _ _⟩
def zAp(c:World)(B:Nat)(S C:List ByteArray)(d e:Value)(wx:World):Prop:=
 ∃(g:Nat) (a b:Option Addr) (c1 c2:Nat),d=.pointer g/\wx.cell? g=some (.slice a S.length c1)/\e=.slice b C.length c2/\
  Sl wx wx.heap.size 1 a S.length (S.map Value.string)/\Sl wx wx.heap.size 1 b C.length (C.map Value.string)/\Below B c wx
theorem zwQ(m t:ByteArray)(A:Option Addr)(n c:Nat)(h:List (ByteArray × ByteArray))(w:World)(Y:n=h.length)(hf:Sl w w.heap.size 2 A n (zeV h))
 (hs:∀f∈h,f.1.size<=maxLen) (hv:∀f∈h,f.2.size<=maxLen) (hl:h.length<=4398046511104):
 Calls prog 80 #[.agg #[.string m,.string t,.slice A n c]] w (zo8 (ofL (getL h clen) (getL h tenc)) w):=by
 subst Y;obtain⟨a,G⟩:∃a,(w.alloc (.cells #[.string m,.string t,.slice A h.length c] 51)).alloc (.cells #[jA 0,jA 0] 165)=a:=⟨_,rfl⟩
 have z:a.heap.size=w.heap.size+2:=by rw[<-G];simp
 have F:Below (w.alloc (.cells #[.string m,.string t,.slice A h.length c] 51)).heap.size (w.alloc (.cells #[.string m,.string t,.slice A h.length c] 51)) a:=by rw[<-G];exact WaL
 have b0:a.cell? w.heap.size=some (.string m):=zar F 0;have b1:a.cell? ⟨w.heap.size,1,none⟩=some (.string t):=zar F 1;have b2:a.cell? ⟨w.heap.size,2,none⟩=some (.slice A h.length c):=zar F 2;have h7:=zaN F (Qd _);have h6:Sl a w.heap.size 2 A h.length (zeV h):=hf.below h7
 have L:a.heap[w.heap.size+1]? = some (.cells #[jA 0,jA 0] 165 (0,0)):=by
  rw[<-G];have:=Qv (w.alloc (.cells #[.string m,.string t,.slice A h.length c] 51)) (.cells #[jA 0,jA 0] 165)
  simpa using this
 have N:∀wx,Below (w.heap.size+2) a wx->(wx.cell? (w.heap.size+1:)=some (jA 0)/\wx.cell? ⟨w.heap.size+1,1,none⟩=some (jA 0)/\wx.frozen? ⟨w.heap.size+1,0,none⟩=false/\wx.frozen? ⟨w.heap.size+1,1,none⟩=false)/\w wx:=λwx hb=>by
  have U:=(hb.block (w.heap.size+1) (by omega)).trans L;exact⟨⟨Qo wx _ 0 _ _ _ U,Qo wx _ 1 _ _ _ U,by simp[World.frozen?, U],by simp[World.frozen?, U]⟩,h7.trans (hb.mono (by omega))⟩
 have h0:=hIx G;have K:=hIx N;have HS:=hIx hs;have h3:w.heap.size+2<=a.heap.size:=by omega
 clear z;have z:=h3;clear h3;have J:True:=trivial;clear G N F L hf hs
 go_in
 go_upto_region 1 with fail
 rw[h0.out]
 go_cut [4,5] (λs4 s5 wx=>zAp a (w.heap.size+2) (getL h clen) (getL h tenc) s4 s5 wx)
 case first=>
  go_region_held3 (λw'=>w'.cell? w.heap.size=some (.string m)/\w'.cell? ⟨w.heap.size,1,none⟩=some (.string t)/\w'.cell? ⟨w.heap.size,2,none⟩=some (.slice A h.length c))
   (first|go_keep|(refine⟨zaa (W:=a) ?_ b0,zaa (W:=a) ?_ b1,zaa (W:=a) ?_ b2⟩ <;> (first|exact l|exact l.setCell (p:=⟨a.heap.size,0,none⟩) (Qd _) _|exact l.setCell (p:=⟨D.heap.size,0,none⟩) d.size _|exact d.setCell (p:=⟨a.heap.size,0,none⟩) (Qd _) _|exact l.alloc l.size _|exact(l.alloc l.size _).setCell (by first|exact l.size|(simp;omega)) _|exact d|exact d.alloc d.size _|exact(d.alloc d.size _).setCell d.size _|exact(Qi a.heap.size a).drew|exact(Qi a.heap.size a).drew.alloc (Qd _) _|exact((Qi a.heap.size a).alloc (Qd _) _).drew|exact((Qi a.heap.size a).alloc (Qd _) _))))
   (first|(go_at_call 115;first|(have t1:=J;clear J;refine(zhI _ _ _ _ _ h _ _ rfl (by exact(h6.below (Below.mono (by first|exact(Qi a.heap.size a).drew|exact(Qi a.heap.size a).drew.alloc (Qd _) _|exact((Qi a.heap.size a).alloc (Qd _) _).drew|exact((Qi a.heap.size a).alloc (Qd _) _)) (show w.heap.size<=a.heap.size by omega))).more (by first|exact(show w.heap.size<=a.heap.size by omega)|(simp;omega))) HS.out (by decide) hl).mono ?_;rintro e D ⟨v8,rfl,r,B⟩;have d:a D:=Below.trans (by first|exact(Qi a.heap.size a).drew|exact(Qi a.heap.size a).drew.alloc (Qd _) _|exact((Qi a.heap.size a).alloc (Qd _) _).drew|exact((Qi a.heap.size a).alloc (Qd _) _)) (B.mono (by first|exact Qd _|simp));(first|(have q8:D.cell? ⟨a.heap.size,0,none⟩=some (jD 0 0):=zar B 0;have r8:D.frozen? ⟨a.heap.size,0,none⟩=false:=zkj B 0)|(have q8:D.cell? ⟨a.heap.size,0,none⟩=some (jD 0 0):=zar (undrew B) 0;have r8:D.frozen? ⟨a.heap.size,0,none⟩=false:=zkj (undrew B) 0)|skip);obtain⟨X,V,rfl,h8⟩:=r.form)|(refine(zhI _ _ _ _ _ h _ _ rfl (by exact(h6.below (Below.mono (by first|exact d|exact d.drew|exact d.alloc d.size _|exact(d.alloc d.size _).drew) (show w.heap.size<=a.heap.size by omega))).more (by first|exact Ql (show w.heap.size<=a.heap.size by omega) d.size|(have:=d.size;simp;omega))) HS.out (by decide) hl).mono ?_;rintro e Q ⟨v9,rfl,o,q⟩;have l:a Q:=Below.trans (by first|exact d|exact d.drew|exact d.alloc d.size _|exact(d.alloc d.size _).drew) (q.mono (by first|exact d.size|(have:=d.size;simp;omega)));(first|(have Z:Q.cell? ⟨a.heap.size,0,none⟩=some (jD 0 0):=zaa q q8;have r9:Q.frozen? ⟨a.heap.size,0,none⟩=false:=zaw q q8 r8)|(have Z:Q.cell? D.heap.size=some (jD 0 0):=zar q 0;have r9:Q.frozen? ⟨D.heap.size,0,none⟩=false:=zkj q 0)|(have Z:Q.cell? D.heap.size=some (.slice X _ V):=zar q 0)|(have Z:Q.cell? ⟨a.heap.size,0,none⟩=some (.slice X _ V):=zaa q (by simp[q8,r8,go_sem]))|skip);obtain⟨A9,c9,rfl,h5⟩:=o.form)))
  all_goals (go_wp2;go_meet)
  case rel=>
   exact⟨_,_,_,_,_,rfl,zar (Qi _ _) 0,rfl,(((h8.below q).more q.size).alloc (Qd _) _).more (by simp),(h5.alloc (Qd _) _).more (by simp),(l.mono z).alloc (Ql z l.size) _⟩
  case rel=>
   have o8:=(r.below (zaN q (Qd _))).far (g:=D.heap.size) (λk O e=>by have:=(r.lt k O).2;omega) 0 (.slice X (getL h clen).length V);have o9:=o.far (g:=D.heap.size) (λk O e=>by have:=(o.lt k O).1;simp at this;omega) 0 (.slice X (getL h clen).length V);exact⟨_,_,_,_,_,rfl,Zx _ _ _ Z,rfl,o8.sl,o9.sl,(l.mono z).setCell (p:=⟨D.heap.size,0,none⟩) (Ql z d.size) _⟩
  case rel=>
   have o8:=(r.below q).far (g:=a.heap.size) (λk O e=>by have:=(r.lt k O).1;simp at this;omega) 0 (.slice X (getL h clen).length V);have o9:=o.far (g:=a.heap.size) (λk O e=>by have:=(o.lt k O).1;have:=(undrew B).size;simp at this;omega) 0 (.slice X (getL h clen).length V);exact⟨_,_,_,_,_,rfl,Zx _ _ _ Z,rfl,o8.sl,o9.sl,(l.mono z).setCell (p:=⟨a.heap.size,0,none⟩) z _⟩
 case rest=>
  obtain⟨g,A1,A2,c1,c2,rfl,h4,rfl,T,ha,hb⟩:=hcut;have ⟨⟨H,r1,r2,r3⟩,i⟩:=K.out wc hb;have hS:∀x∈getL h clen,x.size<=maxLen:=zjC hv;have hC:∀x∈getL h tenc,x.size<=maxLen:=zjC hv;have hd:(getL h clen).length<=4398046511104:=Ql (zfz h clen) hl;have hg:(getL h tenc).length<=4398046511104:=Ql (zfz h tenc) hl;generalize getL h clen=S at *;generalize getL h tenc=C at *;clear K h0 hv HS
  match S,C,hS,hC with
  | [],[],_,_=>
   go_wp2_with fail;have t:=za9 (jA 1) (jA 0) H r1;exact zad ⟨rfl,(i.setCell (p:=⟨w.heap.size+1,0,none⟩) (by simp) _).setCell (p:=⟨w.heap.size+1,1,none⟩) (by simp) _⟩
  | [],[c],_,hC=>
   have hc:=hC c (by simp);obtain⟨b,P,rfl,_,E⟩:=ha.cells (by simp);have he:wc.cell? ⟨b,P,none⟩=some (.string c):=E 0 (by simp);clear E hC;go_wp2_with fail;refine(zbg _ _ hc).mono ?_;rintro e w1 ⟨rfl,s⟩;have q0:=zaa s H;have q1:=zaa s r1;have q2:=zaw s H r2;have q3:=zaw s r1 r3;have u:=i.trans (s.mono i.size);clear H r1 r2 r3;go_wp2_with fail
   ·have h1:(!zaB c.data.toList==chkd)=true:=by assumption
    have t:=za9 (jA 0) (jA 0) q0 q1;exact QD (v:=.tuple #[.agg #[jA 0,jA 0],jA 4]) (by simp[results,results80,go_sem,t.1,t.2]) rfl ⟨by rw[zsG,Qf (by simpa using h1)];rfl,(u.setCell (p:=⟨w.heap.size+1,0,none⟩) (by simp) _).setCell (p:=⟨w.heap.size+1,1,none⟩) (by simp) _⟩
   ·have h1:(!zaB c.data.toList==chkd)=false:=by assumption
    have t:=za9 (jA 3) (jA 0) q0 q1;exact QD (v:=.tuple #[.agg #[jA 3,jA 0],jA 0]) (by simp[results,results80,go_sem,t.1,t.2]) rfl ⟨by rw[zsG,Qj (by simpa using h1)];rfl,(u.setCell (p:=⟨w.heap.size+1,0,none⟩) (by simp) _).setCell (p:=⟨w.heap.size+1,1,none⟩) (by simp) _⟩
  | [],x::y::C',_,_=>
   go_wp2_with fail;have t:=za9 (jA 0) (jA 0) H r1;exact zad ⟨rfl,(i.setCell (p:=⟨w.heap.size+1,0,none⟩) (by simp) _).setCell (p:=⟨w.heap.size+1,1,none⟩) (by simp) _⟩
  |x::I,y::C',_,_=>
   go_wp2_with fail;have t:=za9 (jA 0) (jA 0) H r1;exact zad ⟨rfl,(i.setCell (p:=⟨w.heap.size+1,0,none⟩) (by simp) _).setCell (p:=⟨w.heap.size+1,1,none⟩) (by simp) _⟩
  |x::I,[],hS,_=>
   have U:=hS x (by simp);obtain⟨b,P,rfl,_,E⟩:=T.cells (by simp);have he:wc.cell? ⟨b,P,none⟩=some (.string x):=E 0 (by simp);clear E hS;go_wp2_with fail;refine(zge _ _ U).mono ?_;rintro e w1 ⟨rfl,rfl⟩;cases Y:numL 10 9 x.data.toList with
   |none=>
    have HN:=hIx Y;clear Y;simp only[zcg];go_wp2_with fail;have t:=za9 (jA 0) (jA 0) H r1;exact QD (v:=.tuple #[.agg #[jA 0,jA 0],jA 4]) (by simp[results,results80,go_sem,t.1,t.2]) rfl ⟨by rw[zoM,HN.out];rfl,(i.setCell (p:=⟨w.heap.size+1,0,none⟩) (by simp) _).setCell (p:=⟨w.heap.size+1,1,none⟩) (by simp) _⟩
   |some k=>
    have HN:=hIx Y;clear Y;simp only[zcg];go_wp2_with fail
    refine(zjS 117 #[.pointer g] (enters_of func117 (by kernel_rfl) rfl) _ _ _ ((x::I).map Value.string) (λj=>.string ((x::I).getD j ByteArray.empty)) (λj=>!(((x::I).getD j ByteArray.empty).toList==x.toList)) _ T (by simp at hd ⊢;omega)
     (λj hj=>by rw[ZP,Qr,Qe (by simpa using hj)];rfl)
     (λW j hj h9=>zvB _ g _ _ _ (x::I) W _ (zaa h9 h4) (T.below h9) (Nat.succ_pos _) x rfl)).mono ?_
    rintro e w2 ⟨rfl,s⟩;rw[show (I.length+1)=(x::I).length from rfl,zd2 (λy=>!(y.toList==x.toList)) (x::I)];have q0:=zaa s H;have q1:=zaa s r1;have q2:=zaw s H r2;have q3:=zaw s r1 r3;have u:=i.trans (s.mono i.size);clear H r1 r2 r3;cases hq:(x::I).any (λy=>!(y.toList==x.toList))with
    |true=>
     have HQ:=hIx hq;clear hq;go_wp2_with fail;have t:=za9 (jA 0) (jA 0) q0 q1;exact QD (v:=.tuple #[.agg #[jA 0,jA 0],jA 4]) (by simp[results,results80,go_sem,t.1,t.2]) rfl ⟨by rw[zoM,HN.out];show _=jC (ofV (if _ then _ else _));rw[Qj HQ.out];rfl,(u.setCell (p:=⟨w.heap.size+1,0,none⟩) (by simp) _).setCell (p:=⟨w.heap.size+1,1,none⟩) (by simp) _⟩
    |false=>
     have HQ:=hIx hq;clear hq;go_wp2_with fail;have t:=za9 (jA 2) (jA k) q0 q1;exact QD (v:=.tuple #[.agg #[jA 2,jA k],jA 0]) (by simp[results,results80,go_sem,t.1,t.2]) rfl ⟨by rw[zoM,HN.out];show _=jC (ofV (if _ then _ else _));rw[Qf (by rw[HQ.out];decide)];rfl,(u.setCell (p:=⟨w.heap.size+1,0,none⟩) (by simp) _).setCell (p:=⟨w.heap.size+1,1,none⟩) (by simp) _⟩
