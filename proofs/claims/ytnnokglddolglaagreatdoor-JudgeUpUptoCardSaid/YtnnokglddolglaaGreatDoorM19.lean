/- Lemmas for the last texts. -/
import Derived.Test.YtnnokglddolglaaGreatDoorM11
import Derived.Test.YtnnokglddolglaaGreatDoorM18
set_option maxHeartbeats 3200000
set_option maxRecDepth 100000
namespace Go.Proofs.YtnnokglddolglaaGreatDoor
open Go.RowKit Go.Proofs.Tryz
def zfg:List (List UInt8)->Int
 | []=>0
 |x::r=>match netP x with
  |.ok _=>zfg r
  |.error e=>e
def zbT:List (List UInt8)->List zea
 | []=>[]
 |x::r=>match netP x with
  |.ok p=>((p.1:Int),p.2)::zbT r
  |.error _=>zbT r
theorem znw:∀(c:List (List UInt8)) (k:Nat) (b:k<c.length) (e:Int),zfg (c.take k)=0->netP c[k]=.error e->zfg c=e
 | [],_,b,_,_,_=>absurd b (by simp)
 |x::r,0,_,e,_,h=>by
  have f:netP x=.error e:=h;rw[zfg,f]
 |x::r,k+1,b,e,a,h=>by
  rw[Xm,zfg]at a;rw[zfg];cases d:netP x with
  |ok p=>rw[d]at a;exact znw r k (by simpa using b) e a h
  |error g=>
   rw[d]at a;dsimp only at a;rcases zk0 d with h1|h1 <;> omega
theorem zj3:∀(a:List (List UInt8)) (k:Nat) (c:k<a.length) (p:Nat × Int),zfg (a.take k)=0->netP a[k]=.ok p->zfg (a.take (k+1))=0/\zbT (a.take (k+1))=zbT (a.take k)++[((p.1:Int),p.2)]
 | [],_,c,_,_,_=>absurd c (by simp)
 |x::r,0,_,p,_,h=>by
  have f:netP x=.ok p:=h;have e:(x::r).take 1=[x]:=rfl;rw[e,zfg,zbT,f];exact⟨rfl,rfl⟩
 |x::r,k+1,c,p,b,h=>by
  rw[Xm,zfg]at b;rw[Xm,Xm,zfg,zbT,zbT];cases d:netP x with
  |ok q=>
   rw[d]at b;obtain⟨h1,h2⟩:=zj3 r k (by simpa using c) p b h;exact⟨h1,by dsimp only;rw[h2];rfl⟩
  |error g=>
   rw[d]at b;dsimp only at b;rcases zk0 d with h1|h1 <;> omega
def zjp(s:List UInt8):Int:=if 30<(splL 44 s).length then 2 else zfg (splL 44 s)
def zdz(s:List UInt8)(w:World)(e:Ending)(w':World):Prop:=
 ∃v,e=.returned (.tuple #[v,.int .i64 (zjp s)])/\(zjp s=0->OwnN w' w.heap.size v (zbT (splL 44 s)))/\(zjp s≠0->v=.slice none 0 0)/\Below w.heap.size w w'
def zAD(a:List (List UInt8))(w b:World)(v i:Value)(wr:World):Prop:=
 ∃k:Nat,k<=a.length/\i=.int .i64 k/\Hid (zfg (a.take k)=0/\(zbT (a.take k)).length<=30)/\OwnN wr (w.heap.size+1) v (zbT (a.take k))/\Below (w.heap.size+1) b wr
theorem ziR:∀a:List (List UInt8),(zbT a).length<=a.length
 | []=>Qd _
 |x::r=>by
  have:=ziR r;rw[zbT]
  split
  ·simpa using this
  ·rw[Qo];omega
theorem zmE(s:ByteArray)(w:World)(hs:s.size<=4194304)(G:LibOk w):
 Calls prog 107 #[.string s] w (zdz s.data.toList w):=by
 have h6:Hid (∀W,Below w.heap.size w W->LibOk W):=λW hb=>G.below hb
 obtain⟨m0,Q⟩:=G;have hz:0<w.heap.size:=QT w _ Q;have A:=strings_Split s ⟨#[44]⟩ m0 w (by omega) Q (by decide);have D:=zb2 44 s;have E:=Xi ⟨#[44]⟩ (by decide) 0 _ s rfl;have h5:=zbZ 44 s.data.toList;have hh:s.data.toList.length=s.size:=by simp
 generalize Lib.splitB ⟨#[44]⟩ 0 (Lib.countB s ⟨#[44]⟩) s=d at A D E;generalize Lib.countB s ⟨#[44]⟩=n at A E;rw[<-E]at A;have r:(splL 44 s.data.toList).length=d.length:=by rw[<-D,Qh]
 have u:∀j (h:j<d.length) (h2:j<(splL 44 s.data.toList).length),(splL 44 s.data.toList)[j]=d[j].data.toList/\d[j].size<=4194304:=λj h h2=>by
  have e:(splL 44 s.data.toList)[j]=d[j].data.toList:=by simp[<-D]
  refine⟨e,?_⟩;have h3:=h5 _ (Qy h2);rw[e]at h3;simp at h3;omega
 obtain⟨V,z⟩:∃V,w.alloc (.cells (d.map Value.string).toArray 9)=V:=⟨_,rfl⟩
 have h9:∀W,Below (w.heap.size+1) V W->∀j (h:j<d.length),W.cell? ⟨w.heap.size,j,none⟩=some (.string d[j]):=λW hb j h=>by
  have hi:Below (w.alloc (.cells (d.map Value.string).toArray 9)).heap.size (w.alloc (.cells (d.map Value.string).toArray 9)) W:=by rw[<-z]at hb;simpa using hb
  rw[zar hi j];simp[h]
 have hr:w.heap.size+1<=V.heap.size:=by rw[<-z];simp
 have J:Below w.heap.size w V:=by rw[<-z];exact WaL
 have K:Calls prog 77 #[.string s,.string ⟨#[44]⟩] w λe w'=>e=.returned (.slice (some ⟨w.heap.size,0,none⟩) d.length d.length)/\w'=V:=by rw[<-z];exact A
 have Z:=hIx K;have C:=hIx h9;have I:=hIx J;have B:=hIx u
 have c:Hid (∀(v:Value) (f:Int) (W:World),f=(if 30<(splL 44 s.data.toList).length then 2 else zfg (splL 44 s.data.toList))->(f=0->OwnN W w.heap.size v (zbT (splL 44 s.data.toList)))->(f≠0->v=.slice none 0 0)->Below w.heap.size w W->zdz s.data.toList w (.returned (.tuple #[v,.int .i64 f])) W):=hIx λv f W h1 h2 h3 h4=>by
  have e:zjp s.data.toList=f:=h1.symm;unfold zdz;rw[e];exact⟨v,rfl,h2,h3,h4⟩
 rw[r]at c;generalize zdz s.data.toList w=P at *;generalize splL 44 s.data.toList=qs at *;clear A K D E h9 J u z Q h5 hh
 by_cases h8:30<d.length
 ·rw[Qi h8]at c
  have d1:decide (30<(d.length:Int))=true:=by simp;omega
  clear C B
  go_in
  go_wp2_with (go_at_call 77;refine Z.out.mono ?_;rintro e w1 ⟨rfl,N⟩;rw[N]);exact c.out _ _ _ rfl (λe=>absurd e (by decide)) (λ_=>rfl) I.out
 ·rw[Qe h8]at c
  have d1:decide (30<(d.length:Int))=false:=by simp;omega
  have F:=hIx r
  go_in
  go_wp2_with (go_at_call 77;refine Z.out.mono ?_;rintro e w1 ⟨rfl,N⟩;rw[N]);clear r
  go_loopw [5,17] (λv i wr=>zAD qs w V v i wr) (λ_ i _=>d.length-(intOf i).toNat)
  case atStart=>exact⟨0,Qm _,rfl,⟨rfl,Qm _⟩,OwnN.nil _ _,Qg _ _⟩
  case round=>
   obtain⟨k,hk,rfl,H,L,S⟩:=hrel;rw[F.out]at hk;have q:w.heap.size+1<=wr.heap.size:=Qn hr S.size;have y:Below w.heap.size w wr:=I.out.trans (S.mono (Zg _));obtain⟨Ao,co,rfl,_⟩:=L.form;have hy:=H.out.2
   by_cases t:k<d.length
   ·have d2:decide ((k:Int)<(d.length:Int))=true:=by simp;omega
    have i7:IntKind.i64.wrap ((k:Int)+1)=(k:Int)+1:=Qx _ (by omega);have hc:=C.out wr S k t;obtain⟨u,hm⟩:=B.out k t (by rw[F.out];exact t);have m:=zjI d[k] wr (h6.out wr y) hm;unfold zeH at m;rw[<-u]at m;cases X:netP (qs[k]'(by rw[F.out];exact t))with
    |error e0=>
     have he:=znw qs k (by rw[F.out];exact t) e0 H.out.1 X;have hv:=zk0 X;rw[X]at m;have O:=hIx m;have hg:=hIx he.symm;have l:=hIx y;have hu:(e0==0)=false:=Qb.2 (by omega);generalize d[k]=x at *;clear L S y m X he u B C H;go_wp2_with (first|(go_at_call 146;refine O.out.mono ?_;rintro e w2 ⟨rfl,g⟩;unfold netV));exact c.out _ _ _ hg.out (λe=>by omega) (λ_=>rfl) ((l.out.trans (g.mono l.out.size)).alloc (l.out.trans (g.mono l.out.size)).size _)
    |ok p=>
     obtain⟨h1,h2⟩:=zj3 qs k (by rw[F.out];exact t) p H.out.1 X;rw[X]at m;have O:=hIx m;have Y:=ziR (qs.take (k+1));have T:(qs.take (k+1)).length<=d.length:=by rw[Qz,F.out];omega
     have hj:Hid (zfg (qs.take (k+1))=0/\(zbT (qs.take (k+1))).length<=30):=⟨h1,by omega⟩
     have hq:=hIx h2;obtain⟨a,b⟩:=p;generalize zbT (qs.take k)=U at *;generalize d[k]=x at *;have HO:=hIx L;have l:=hIx S;clear L S y m X h1 h2 Y T u B C H;go_wp2_with (first|(go_at_call 146;refine O.out.mono ?_;rintro e w2 ⟨rfl,g⟩;unfold netV;have hf:=λo=>HO.out.below (g.alloc g.size o);have ho:∀o,w.heap.size+1<=(w2.alloc o).heap.size:=λo=>by rw[Qr];exact XX (Qn q g.size))|(at_builtin;refine zhN rfl (.tmp 29) (.tmp 31) rfl (w.heap.size+1) (.slice Ao U.length co) U rfl (by exact hf _) (by exact ho _) _ ((a:Int),b) rfl (w2.heap.size+1) (by rw[Qr]) 1 rfl (by omega) ?_;intro v5 w5 ha ht hx hw));have h0:Below (w.heap.size+1) wr w5:=((g.mono q).trans ((Qg _ _).alloc (Qn q g.size) _)).trans ht;exact⟨⟨k+1,by rw[F.out];omega,rfl,hj,by rw[hq.out];exact ha,l.out.trans h0⟩,by dsimp only[intOf];omega⟩
   ·have hd:k=d.length:=by omega
    subst hd;have h7:qs.take d.length=qs:=QC (Nat.le_of_eq F.out);rw[h7]at H L;have HO:=hIx (L.low (Zg _));have l:=hIx y;have HE:=hIx H.out.1;rw[h7];have hp:Hid (∀W,OwnN W w.heap.size (.slice Ao (zbT qs).length co) (zbT qs)->Below w.heap.size w W->P (.returned (.tuple #[.slice Ao (zbT qs).length co,.int .i64 0])) W):=hIx λW h1 h2=>c.out _ 0 W HE.out.symm (λ_=>h1) (λe=>absurd rfl e) h2
    clear c;generalize zbT qs=U at *;clear L S y H B C;go_wp2;exact hp.out _ HO.out l.out
def zcr(l:List UInt8):Set4 × Int:=if okB l=true then (setF (inB l),0)else (.zero,3)
def ziH(l:List UInt8)(w:World)(e:Ending)(w':World):Prop:=
 e=.returned (.tuple #[setA (zcr l).1,.int .i64 (zcr l).2])/\Below w.heap.size w w'
def RowsW(w:World)(g:Nat)(a:List ByteArray):Prop:=w.heap[g]? = some (.cells (a.map Value.string).toArray 9 (0,0))
theorem RowsW.cell{w:World}{g:Nat}{a:List ByteArray}(h:RowsW w g a)(j:Nat)(b:j<a.length):w.cell? ⟨g,j,none⟩=some (.string a[j]):=by
 have:=Qf w g j _ _ (0,0) h;rw[this];simp[b]
theorem RowsW.far{w:World}{g:Nat}{b:List ByteArray}(h:RowsW w g b){k:Nat}(a:g≠k)(j:Nat)(u:Value):RowsW (w.setCell ⟨k,j,none⟩ u) g b:=(Ql w ⟨k,j,none⟩ u g a).trans h
theorem RowsW.below{B:Nat}{w w':World}{g:Nat}{a:List ByteArray}(h:RowsW w g a)(hb:Below B w w')(b:g<B):RowsW w' g a:=(hb.block g b).trans h
theorem RowsW.lt{w:World}{g:Nat}{a:List ByteArray}(h:RowsW w g a):g<w.heap.size:=by
 unfold RowsW at h;rw[Q1]at h;exact h.1
def mixW(j:Nat)(s u:Set4):Set4:=⟨if 0<j then u.a else s.a,if 1<j then u.b else s.b,if 2<j then u.c else s.c,if 3<j then u.d else s.d⟩
theorem zsJ(s u:Set4):mixW 4 s u=u:=rfl
theorem zwm(j:Nat)(a:j<4)(s u:Set4):putW (mixW j s u) j (u.word j)=mixW (j+1) s u:=by
 match j,a with
 |0,_=>rfl
 |1,_=>rfl
 |2,_=>rfl
 |3,_=>rfl
theorem ztW(j:Nat)(a:j<4)(s u:Set4):(mixW j s u).word j=s.word j:=by
 match j,a with
 |0,_=>rfl
 |1,_=>rfl
 |2,_=>rfl
 |3,_=>rfl
theorem zlu(f g:Nat->Bool)(j:Nat)(a:j<4):bits .or .u64 ((setF f).word j) ((setF g).word j)=(setF λk=>f k||g k).word j:=by
 rw[zdA f j a,zdA g j a,zdA _ j a,bits_or_u64_nat _ _ (zi5 _ _) (zi5 _ _),zxz]
theorem zyW(s:Set4)(k:Nat)(e:k<4):([.int .u64 s.a,.int .u64 s.b,.int .u64 s.c,.int .u64 s.d]:List Value)[k]? = some (.int .u64 (s.word k)):=by
 match k,e with
 |0,_=>rfl
 |1,_=>rfl
 |2,_=>rfl
 |3,_=>rfl
theorem zty:(prog.info? 180).map (λi=>(i.zero,i.size,i.bytes))=some (some (.int .u64 0),1,8):=by kernel_rfl
theorem zsg(s:Set4)(k:Nat)(f:k<4)(w:World):(Instr.index 182 (.agg #[.int .u64 s.a,.int .u64 s.b,.int .u64 s.c,.int .u64 s.d]) (.int .i64 (k:Int))).run prog w=.ok (.int .u64 (s.word k)) w:=by
 obtain⟨m,j,i,e,h⟩:=ZC zty
 have g:(#[.int .u64 s.a,.int .u64 s.b,.int .u64 s.c,.int .u64 s.d]:Array Value)[k]? = some (.int .u64 (s.word k)):=by
  have:=zyW s k f
  simpa using this
 have l:(Go.sizeOf 180).run prog w=.ok 1 w:=by simp[Go.sizeOf,typeInfo,j,e]
 generalize (#[.int .u64 s.a,.int .u64 s.b,.int .u64 s.c,.int .u64 s.d]:Array Value)=cs at *;unfold Instr.index;simp[ZY underlying182,asIntOf,go_sem,f,l,g]
def zAh(P:List (List UInt8))(a:List ByteArray)(w:World)(i:Value)(wr:World):Prop:=
 ∃k:Nat,k<=a.length/\i=.int .i64 k/\Hid ((P.take k).all okR=true)/\FourW wr (w.heap.size+1) (setF (anyR (P.take k)))/\FourW wr w.heap.size (setF λ_=>false)/\RowsW wr (w.heap.size+2) a/\Below w.heap.size w wr
def zzM(s u:Set4)(a:List ByteArray)(w:World)(i:Value)(wr:World):Prop:=
 ∃j:Nat,j<=4/\i=.int .i64 j/\FourW wr (w.heap.size+1) (mixW j s u)/\FourW wr w.heap.size (setF λ_=>false)/\RowsW wr (w.heap.size+2) a/\Below w.heap.size w wr
theorem zmB(s:ByteArray)(w:World)(ht:LibOk w)(hs:s.size<=4194304):Calls prog 108 #[.string s] w (ziH s.data.toList w):=by
 obtain⟨m0,h7⟩:=ht;have g4:0<w.heap.size:=QT w _ h7;have hp:∀W,Below w.heap.size w W->W.cell? ⟨0,0,none⟩=some (.int .i64 m0):=λW hb=>(hb.cell (p:=⟨0,0,none⟩) g4).trans h7
 have A:Hid (∀W,Below w.heap.size w W->Calls prog 77 #[.string s,.string ⟨#[44]⟩] W _):=λW hb=>strings_Split s ⟨#[44]⟩ m0 W (by omega) (hp W hb) (by decide)
 have hf:=zb2 44 s;have r:=Xi ⟨#[44]⟩ (by decide) 0 _ s rfl;generalize Lib.splitB ⟨#[44]⟩ 0 (Lib.countB s ⟨#[44]⟩) s=g at A hf r;generalize Lib.countB s ⟨#[44]⟩=n at A r;rw[<-r]at A
 have h0:∀W,W=(w.alloc (.cells #[.int .u64 0,.int .u64 0,.int .u64 0,.int .u64 0] 182)).alloc (.cells #[.int .u64 0,.int .u64 0,.int .u64 0,.int .u64 0] 182)->FourW W (w.heap.size+1) (setF λ_=>false)/\FourW W w.heap.size (setF λ_=>false)/\Below w.heap.size w W/\W.heap.size=w.heap.size+2:=λW hW=>by
  have hb:Below w.heap.size w W:=by rw[hW];exact WaL.alloc (by simp) _
  refine⟨?_,?_,hb,by rw[hW];simp⟩
  ·have:=FourW.new (w.alloc (.cells #[.int .u64 0,.int .u64 0,.int .u64 0,.int .u64 0] 182))
   rw[Qr]at this;rw[hW];exact this
  ·rw[hW]
   exact(Qt _ _ _ (by simp)).trans (FourW.new w)
 have H0:=hIx h0;have hD:=hIx hf;have hT:=hIx hp;clear hf r h7 h0 hp
 go_in
 obtain⟨Z,h4,N,h6⟩:=H0.out _ rfl;have hn:=A.out _ N;go_wp2_with fail;generalize (w.alloc (.cells #[.int .u64 0,.int .u64 0,.int .u64 0,.int .u64 0] 182)).alloc (.cells #[.int .u64 0,.int .u64 0,.int .u64 0,.int .u64 0] 182)=W0 at *;have C:RowsW (W0.alloc (.cells (g.map Value.string).toArray 9)) (w.heap.size+2) g:=by rw[<-h6];exact Qp W0 _
 have t:Below w.heap.size w (W0.alloc (.cells (g.map Value.string).toArray 9)):=N.alloc N.size _;have hh:=Z.below ((Qg _ _).alloc (Qd _) (.cells (g.map Value.string).toArray 9)) Z.lt;have hm:=h4.below ((Qg _ _).alloc (Qd _) (.cells (g.map Value.string).toArray 9)) h4.lt;rw[h6]at hn;clear Z h4 N h6 A H0;refine hn.mono ?_;rintro e w1 ⟨rfl,hv⟩;rw[<-hv]at C t hh hm;clear hv hn W0;have r:(splL 44 s.data.toList).length=g.length:=by rw[<-hD.out,Qh]
 have g7:g.length<=4194305:=by
  have h1:=zdR 44 s.data.toList;rw[show s.data.toList.length=s.size by simp]at h1;omega
 have O:=hIx r;clear r;go_wp2
 go_loopw [17] (λi wr=>zAh (splL 44 s.data.toList) g w i wr) (λi _=>g.length-(intOf i).toNat)
 case atStart=>exact⟨0,Qm _,rfl,rfl,hh,hm,C,t⟩
 case round=>
  obtain⟨k,hk,rfl,K,u,z,H,V⟩:=hrel;clear C t hh hm
  by_cases L:k<g.length
  ·have d2:decide ((k:Int)<(g.length:Int))=true:=by simp;omega
   have i7:IntKind.i64.wrap ((k:Int)+1)=(k:Int)+1:=Qx _ (by omega);have hc:=H.cell k L
   have hx:(splL 44 s.data.toList)[k]'(by rw[O.out];exact L)=g[k].data.toList:=by
    have:=hD.out;simp only[<-this,Zd]
   have g2:g[k].size<=s.size:=by
    have h1:=zbZ 44 s.data.toList _ (Qy (by rw[O.out];exact L));rw[hx]at h1
    simpa using h1
   have J:Hid ((splL 44 s.data.toList).take (k+1)=(splL 44 s.data.toList).take k++[g[k].data.toList]):=by
    unfold Hid;rw[Qq (by rw[O.out];exact L),hx]
   have X:Hid (g[k].data.toList∈splL 44 s.data.toList):=by
    unfold Hid;rw[<-hx];exact Qy _
   clear hx;generalize g[k]=x at hc J X g2;have hcut:=strings_Cut x ⟨#[45]⟩ m0 wr (by omega) (hT.out wr V);have g3:=zcQ x.data.toList [45];have hV:x.data.toList.length=x.size:=by simp
   have t:(bs (Lib.cut x.data.toList [45]).1).size<=4194304:=by rw[zaj];omega
   have he:(bs (Lib.cut x.data.toList [45]).2.1).size<=4194304:=by rw[zaj];omega
   have hd:Hid (loR x.data.toList=numB 255 (Lib.cut x.data.toList [45]).1):=rfl;have G:Hid (hiR x.data.toList=numB 255 (if (Lib.cut x.data.toList [45]).2.2=true then (Lib.cut x.data.toList [45]).2.1 else (Lib.cut x.data.toList [45]).1)):=rfl;have Y:Hid (∀(y:List UInt8) W,(bs y).size<=4194304->Calls prog 147 #[.string (bs y),.int .i64 255] W λe w'=>e=.returned (.int .i64 (numB 255 y))/\w'=W):=λy W h=>zla (bs y) 255 W (by unfold maxLen;omega)
   have hO:=hIx hcut;clear hcut g3 hV;go_wp2_with fail;refine hO.out.mono ?_;rintro e w2 ⟨rfl,nq,rfl⟩;have E:FourW (wr.drewN nq) (w.heap.size+1) (setF (anyR ((splL 44 s.data.toList).take k))):=u;have l:FourW (wr.drewN nq) w.heap.size (setF λ_=>false):=z;have P:RowsW (wr.drewN nq) (w.heap.size+2) g:=H;have B:=below_drewN V nq;clear u z H V hO;generalize wr.drewN nq=wd at *;clear hc;generalize (Lib.cut x.data.toList [45]).1=ca at *;generalize (Lib.cut x.data.toList [45]).2.1=cb at *;generalize (Lib.cut x.data.toList [45]).2.2=two at *;obtain⟨cc,m⟩:∃cc,cc=(if two=true then cb else ca):=⟨_,rfl⟩
   rw[<-m]at G;have hA:(bs cc).size<=4194304:=by rw[m];split <;> assumption
   have hg:=hIx m;have ho:=λW=>Y.out ca W t
   have h3:=λW=>Y.out cc W hA
   rw[<-hd.out]at ho;rw[<-G.out]at h3;have h9:=hIx ho;have h5:=hIx h3;have hQ:-1<=loR x.data.toList:=by rw[hd.out];exact zr7 _ _
   have hX:hiR x.data.toList<=255:=by rw[G.out];exact zx0 _ _ (by decide)
   have hL:-1<=hiR x.data.toList:=by rw[G.out];exact zr7 _ _
   clear ho h3 Y hd G m t he hA
   go_upto_if 28 with fail
   go_cut [8]from 29 to 29 (λs8 wx=>s8=.string (bs cc)/\wx=wd)
   case first=>
    cases two with
    |true=>
     have m:=hg.out;rw[Qi rfl]at m;subst m;go_wp2;go_meet;exact⟨rfl,rfl⟩
    |false=>
     have m:=hg.out;rw[Qe (by decide)]at m;subst m;go_wp2;go_meet;exact⟨rfl,rfl⟩
   case rest=>
    obtain⟨rfl,rfl⟩:=hcut;go_wp2_with fail;refine(h9.out _).mono ?_;rintro e w3 ⟨rfl,rfl⟩;go_wp2_with fail;refine(h5.out _).mono ?_;rintro e w4 ⟨rfl,rfl⟩
    by_cases f:okR x.data.toList=true
    ·have g0:0<=loR x.data.toList/\loR x.data.toList<=hiR x.data.toList:=by unfold okR at f;simpa using f
     obtain⟨a,ha⟩:∃a:Nat,loR x.data.toList=a:=⟨(loR x.data.toList).toNat,by omega⟩
     obtain⟨b,hb⟩:∃b:Nat,hiR x.data.toList=b:=⟨(hiR x.data.toList).toNat,by omega⟩
     have g1:a<=b:=by omega
     have he:b<256:=by omega
     have hG:Hid (setF (λy=>decide (a<=y)&&decide (y<=b))=setF (inR x.data.toList)):=zb0 λy _=>by
      unfold inR;rw[ha,hb]
      congr 1
      ·exact decide_eq_decide.2 (by omega)
      ·exact decide_eq_decide.2 (by omega)
     have Q:=zcv a b g1 he;rw[hG.out]at Q
     have hE:Hid (setF (λy=>anyR ((splL 44 s.data.toList).take k) y||inR x.data.toList y)=setF (anyR ((splL 44 s.data.toList).take (k+1)))):=zb0 λy _=>by
      rw[J.out];unfold anyR;rw[List.any_append];simp
     have hY:Hid (((splL 44 s.data.toList).take (k+1)).all okR=true):=by
      unfold Hid;rw[J.out,List.all_append,K.out];simp[f]
     have o0:=zlu (anyR ((splL 44 s.data.toList).take k)) (inR x.data.toList) 0 (by decide);have o1:=zlu (anyR ((splL 44 s.data.toList).take k)) (inR x.data.toList) 1 (by decide);have o2:=zlu (anyR ((splL 44 s.data.toList).take k)) (inR x.data.toList) 2 (by decide);have o3:=zlu (anyR ((splL 44 s.data.toList).take k)) (inR x.data.toList) 3 (by decide);rw[hE.out]at o0 o1 o2 o3;rw[ha,hb];have hP:=hIx (And.intro o0 (And.intro o1 (And.intro o2 o3)));obtain⟨S,hS⟩:∃S,S=setF (anyR ((splL 44 s.data.toList).take k)):=⟨_,rfl⟩
     obtain⟨U,hU⟩:∃U,U=setF (anyR ((splL 44 s.data.toList).take (k+1))):=⟨_,rfl⟩
     obtain⟨R,H⟩:∃R,R=setF (inR x.data.toList):=⟨_,rfl⟩
     rw[<-hS,<-hU,<-H]at hP;rw[<-hS]at E;rw[<-H]at Q;have HU:=hIx hU;have hJ:=hIx Q;have d3:decide ((a:Int)<0)=false:=Qs (by omega);have d4:decide ((b:Int)<(a:Int))=false:=Qs (by omega);clear Q hS hU H o0 o1 o2 o3 hE hG ha hb g0 f K J h9 h5 hg hQ hX hL;go_wp2_with fail;refine(hJ.out _).mono ?_;rintro e w5 ⟨rfl,F⟩;have hq:=E.below F E.lt;have hI:=l.below F l.lt;have hK:=P.below F P.lt;have hH:=B.trans (F.mono B.size);unfold setA;clear F E l P B hJ;go_wp2
     go_loopw [45] (λi wr=>zzM S U g w i wr) (λi _=>4-(intOf i).toNat)
     case atStart=>exact⟨0,by decide,rfl,hq,hI,hK,hH⟩
     case round=>
      obtain⟨j,hj,rfl,u,z,H,V⟩:=hrel;clear hq hI hK hH
      by_cases D:j<4
      ·have I:=u.put j D (U.word j)
       rw[zwm j D]at I;have h8:=u.cell j D;rw[ztW j D]at h8;have g5:=u.free j;have hu:=z.far (k:=w.heap.size+1) (by omega) j (.int .u64 (U.word j));have hC:=H.far (k:=w.heap.size+1) (by omega) j (.int .u64 (U.word j));have hw:=V.setCell (p:=⟨w.heap.size+1,j,none⟩) (Zg _) (.int .u64 (U.word j));have Y:=hIx (And.intro I (And.intro hu (And.intro hC hw)));clear u z H V I hu hC hw;have g6:=λW=>zsg R j D W
       have hy:bits .or .u64 (S.word j) (R.word j)=U.word j:=by
        obtain⟨o0,o1,o2,o3⟩:=hP.out;obtain rfl|rfl|rfl|rfl:j=0\/j=1\/j=2\/j=3:=by omega
        ·exact o0
        ·exact o1
        ·exact o2
        ·exact o3
       generalize R.word j=rj at *;generalize S.word j=sj at *;generalize U.word j=uj at *;go_wp2_with fail
       go_roundw
       case rel=>exact⟨j+1,by omega,by go_num,Y.out.1,Y.out.2.1,Y.out.2.2.1,Y.out.2.2.2⟩
       case measure=>simp[intOf] <;> omega
      ·obtain rfl:j=4:=by omega
       rw[zsJ,HU.out]at u;go_wp2_with fail
       go_roundw
       case rel=>exact⟨k+1,by omega,by go_num,hY,u,z,H,V⟩
       case measure=>simp[intOf] <;> omega
    ·have hz:okB s.data.toList=false:=by
      cases h:okB s.data.toList with
      |false=>rfl
      |true=>exact absurd (Zn.1 h _ X.out) f
     have T:Hid (zcr s.data.toList=(.zero,3)):=by unfold Hid zcr;rw[hz];rfl
     have hy:loR x.data.toList<0\/(0<=loR x.data.toList/\hiR x.data.toList<loR x.data.toList):=by
      unfold okR at f;simp only[QW,QY]at f;omega
     have ⟨z0,z1,z2,z3⟩:=l.cells;have y0:=l.free 0;have y1:=l.free 1;have y2:=l.free 2;have y3:=l.free 3;have o:=l.fill .zero;have q:=(((B.setCell (p:=⟨w.heap.size,0,none⟩) (Qd _) (.int .u64 0)).setCell (p:=⟨w.heap.size,1,none⟩) (Qd _) (.int .u64 0)).setCell (p:=⟨w.heap.size,2,none⟩) (Qd _) (.int .u64 0)).setCell (p:=⟨w.heap.size,3,none⟩) (Qd _) (.int .u64 0);have hr:=hIx o;have hN:=hIx q;generalize loR x.data.toList=lo at *;generalize hiR x.data.toList=hi at *;clear o q hz f E l P B h9 h5
     rcases hy with h1|⟨h1,h2⟩
     ·have d3:decide (lo<0)=true:=Qu h1
      go_wp2_with fail;have o:=hr.out;have q:=hN.out;rw[show Set4.zero.a=0 from rfl,show Set4.zero.b=0 from rfl,show Set4.zero.c=0 from rfl,show Set4.zero.d=0 from rfl]at o;generalize ((((w4.setCell ⟨w.heap.size,0,none⟩ (.int .u64 0)).setCell ⟨w.heap.size,1,none⟩ (.int .u64 0)).setCell ⟨w.heap.size,2,none⟩ (.int .u64 0)).setCell ⟨w.heap.size,3,none⟩ (.int .u64 0))=WF at *;obtain⟨s0,s1,s2,s3⟩:=o.cells;exact Qj (v:=.tuple #[setA .zero,.int .i64 3]) (by simp[results,results108,go_sem,s0,s1,s2,s3,setA]) rfl ⟨by rw[T.out],q⟩
     ·have d3:decide (lo<0)=false:=Qs (by omega)
      have d4:decide (hi<lo)=true:=Qu h2;go_wp2_with fail;have o:=hr.out;have q:=hN.out;rw[show Set4.zero.a=0 from rfl,show Set4.zero.b=0 from rfl,show Set4.zero.c=0 from rfl,show Set4.zero.d=0 from rfl]at o;generalize ((((w4.setCell ⟨w.heap.size,0,none⟩ (.int .u64 0)).setCell ⟨w.heap.size,1,none⟩ (.int .u64 0)).setCell ⟨w.heap.size,2,none⟩ (.int .u64 0)).setCell ⟨w.heap.size,3,none⟩ (.int .u64 0))=WF at *;obtain⟨s0,s1,s2,s3⟩:=o.cells;exact Qj (v:=.tuple #[setA .zero,.int .i64 3]) (by simp[results,results108,go_sem,s0,s1,s2,s3,setA]) rfl ⟨by rw[T.out],q⟩
  ·obtain rfl:k=g.length:=by omega
   have d2:decide ((g.length:Int)<(g.length:Int))=false:=by simp
   rw[<-O.out,QV]at K u;have T:Hid (zcr s.data.toList=(setF (inB s.data.toList),0)):=by unfold Hid zcr okB;rw[Qi K.out]
   obtain⟨S,hS⟩:∃S,S=setF (anyR (splL 44 s.data.toList)):=⟨_,rfl⟩
   rw[<-hS]at u;have HS:=hIx hS;clear hS;have ⟨c0,c1,c2,c3⟩:=u.cells;have ⟨z0,z1,z2,z3⟩:=z.cells;have y0:=z.free 0;have y1:=z.free 1;have y2:=z.free 2;have y3:=z.free 3;go_wp2_with fail;have o:=z.fill S;have q:=(((V.setCell (p:=⟨w.heap.size,0,none⟩) (Qd _) (.int .u64 S.a)).setCell (p:=⟨w.heap.size,1,none⟩) (Qd _) (.int .u64 S.b)).setCell (p:=⟨w.heap.size,2,none⟩) (Qd _) (.int .u64 S.c)).setCell (p:=⟨w.heap.size,3,none⟩) (Qd _) (.int .u64 S.d);generalize ((((wr.setCell ⟨w.heap.size,0,none⟩ (.int .u64 S.a)).setCell ⟨w.heap.size,1,none⟩ (.int .u64 S.b)).setCell ⟨w.heap.size,2,none⟩ (.int .u64 S.c)).setCell ⟨w.heap.size,3,none⟩ (.int .u64 S.d))=WF at *;obtain⟨s0,s1,s2,s3⟩:=o.cells;exact Qj (v:=.tuple #[setA S,.int .i64 0]) (by simp[results,results108,go_sem,s0,s1,s2,s3,setA]) rfl ⟨by rw[T.out,HS.out];rfl,q⟩
noncomputable def argC(op:Int)(s:ByteArray):Int:=
 if op=1 then (zda s.data.toList).2.2 else if op=2 then (mkC (zbC s):Nat)else if op=7\/op=8\/op=9 then (if (numL 10 9 s.data.toList).isSome=true then 0 else 4)
 else if op=10 then zjp s.data.toList else if op=11 then (zcr s.data.toList).2 else if op=12 then (if s.data.toList=[]then 0 else 1)else if 200<s.size then 2 else 0
def zbR(op:Int)(s:ByteArray)(w:World)(e:Ending)(w':World):Prop:=e=.returned (.int .i64 (argC op s))/\Below w.heap.size w w'
theorem zgX{s:List UInt8}(h:(zda s).2.2=0):zbj (zda s).1=0:=by
 unfold zda at h ⊢
 split at h
 ·exact absurd h (by decide)
 ·split at h
  ·rename_i h1;exact absurd h h1
  ·split at h
   ·rename_i h1;exact absurd h h1
   ·rename_i a h1 h2
    rw[Qe a,Qe h1,Qe h2]
    simpa using h2
theorem zzU(s:ByteArray)(w:World)(H:s.size<=1048576):Calls prog 74 #[.int .i64 1,.string s] w (zbR 1 s w):=by
 have z:=zl0 s w (by unfold maxLen;omega);have x:Hid (argC 1 s=(zda s.data.toList).2.2):=hIx (by unfold argC;rw[Qi rfl]);have j:=hIx (@zgX s.data.toList);unfold zbR;rw[x.out];generalize zda s.data.toList=P at *;obtain⟨t,n,c⟩:=P;dsimp only at *;have C:=hIx z;clear z x
 by_cases u:c=0
 ·subst u
  have G:=j.out rfl
  go_in
  go_wp2_with (go_at_call 103;apply Hid.out);refine WhM C ?_;rintro e g ⟨A,h,rfl,m,a⟩;have d:=LX.lt (λ_ hb=>hb.2) _ _ m;have r:Hid (∀o,Calls prog 104 #[argX t A h] (g.alloc o) (zjj t (g.alloc o))):=λo=>zoU t A h _ ((d.below ((Qg _ _).alloc (Qd _) o)).more (by simp))
  unfold argX at r ⊢;clear d m;dsimp only;go_wp2_with fail;refine(r.out _).mono ?_;rintro e w2 ⟨v,rfl,_,hl,b⟩;obtain⟨l,D,q,y⟩:=hl G;obtain⟨F,c2,rfl,B⟩:=y.form;have i:=hIx (zgM _ F c2 w2 B (znW D) (by simp) (by rw[Qa,QG];omega));have f:=zaJ b (Qd _);generalize (l++[(⟨6,0,0,.zero⟩:Ins)]).length=I at *;clear b B y hl;go_wp2_with fail;refine i.out.mono ?_;rintro e w3 ⟨rfl,p⟩;have k:=(a.trans (f.mono a.size)).trans (p.mono (Qn a.size f.size));go_wp2;go_ret;exact⟨rfl,k⟩
 ·have E:(c==0)=false:=Qb.2 u
  go_in
  go_wp2_with (go_at_call 103;apply Hid.out);refine WhM C ?_;rintro e g ⟨A,h,rfl,m,a⟩;unfold argX;dsimp only;go_wp2;go_ret;exact⟨rfl,a.alloc a.size _⟩
theorem zxS(s:ByteArray)(w:World)(x:s.size<=1048576)(f:LibOk w):Calls prog 74 #[.int .i64 2,.string s] w (zbR 2 s w):=by
 obtain⟨r,i⟩:=f;have b:=strings_Split s ⟨#[124]⟩ r w (by omega) i (by decide);have d:=zkD s;rw[<-d]at b;have n:Hid (argC 2 s=(mkC (zbC s):Nat)):=hIx (by unfold argC;rw[Qe (by decide),Qi rfl]);unfold zbR;rw[n.out]
 change Calls _ _ _ _ λe w'=>e=.returned (.slice (some ⟨w.heap.size,0,none⟩) (zbC s).length (zbC s).length)/\w'=w.alloc (.cells ((zbC s).map Value.string).toArray 9)at b
 generalize zbC s=a at *;have k:=hIx b
 have c:OwnG zey (w.alloc (.cells (a.map Value.string).toArray 9)) w.heap.size (.slice (some ⟨w.heap.size,0,none⟩) a.length a.length) a:=by
  have:=Xw (base:=w.heap.size) (e:=9) (size:=1) w (a.map Value.string).toArray a.length (Qd _) (by have:=Lib.countB_le ⟨#[124]⟩ (by decide) s.size s (Qd _);unfold maxLen;omega) (by simp);unfold OwnG;rw[zdM];exact this
 have h:Sl (w.alloc (.cells (a.map Value.string).toArray 9)) (w.alloc (.cells (a.map Value.string).toArray 9)).heap.size 1 (some ⟨w.heap.size,0,none⟩) a.length (a.map Value.string):=by
  obtain⟨u,c5,o,m⟩:=c.form;injection o with q _ _
  subst q;rw[zdM]at m;exact m
 have p:=hIx (zr8 (some ⟨w.heap.size,0,none⟩) a.length a.length a _ rfl h);have g:Below w.heap.size w (w.alloc (.cells (a.map Value.string).toArray 9)):=WaL;clear b d c h n
 go_in
 go_wp2_with (go_at_call 77;apply Hid.out);refine WhM k ?_;rintro e t ⟨rfl,rfl⟩;go_wp2_with (go_at_call 106;apply Hid.out);refine WhM p ?_;rintro e w2 ⟨l,v,rfl⟩;have j:=g.trans (l.mono g.size);go_wp2;go_ret;exact⟨rfl,j⟩
theorem zx4(op:Int)(a:op=7\/op=8\/op=9)(s:ByteArray)(w:World)(g:s.size<=1048576):Calls prog 74 #[.int .i64 op,.string s] w (zbR op s w):=by
 have b:=hIx (zei s w (by unfold maxLen;omega));have c:Hid (argC op s=if (numL 10 9 s.data.toList).isSome=true then 0 else 4):=hIx (by unfold argC;rw[Qe (by omega),Qe (by omega),Qi a]);unfold zbR;rw[c.out];clear c;cases d:numL 10 9 s.data.toList with
 |none=>
  rw[d]at b
  rcases a with rfl|rfl|rfl
  all_goals
   go_in
   go_wp2_with (go_at_call 65;refine b.out.mono ?_;rintro e f ⟨rfl,rfl⟩;unfold zbx);go_ret;exact⟨rfl,Qg _ _⟩
 |some k=>
  rw[d]at b
  rcases a with rfl|rfl|rfl
  all_goals
   go_in
   go_wp2_with (go_at_call 65;refine b.out.mono ?_;rintro e f ⟨rfl,rfl⟩;unfold zbx);go_ret;exact⟨rfl,Qg _ _⟩
theorem zxU(s:ByteArray)(w:World)(g:s.size<=1048576)(a:LibOk w):Calls prog 74 #[.int .i64 10,.string s] w (zbR 10 s w):=by
 have b:=hIx (zmE s w (by omega) a);have d:Hid (argC 10 s=zjp s.data.toList):=hIx (by unfold argC;rw[Qe (by decide),Qe (by decide),Qe (by decide),Qi rfl]);unfold zbR;rw[d.out];unfold zdz at b;generalize zjp s.data.toList=c at *;clear d a
 go_in
 go_wp2_with (go_at_call 107;apply Hid.out);refine WhM b ?_;rintro e f ⟨v,rfl,_,_,hb⟩;go_wp2;go_ret;exact⟨rfl,hb⟩
theorem zsy(s:ByteArray)(w:World)(g:s.size<=1048576)(a:LibOk w):Calls prog 74 #[.int .i64 11,.string s] w (zbR 11 s w):=by
 have b:=hIx (zmB s w a (by omega));have d:Hid (argC 11 s=(zcr s.data.toList).2):=hIx (by unfold argC;rw[Qe (by decide),Qe (by decide),Qe (by decide),Qe (by decide),Qi rfl]);unfold zbR;rw[d.out];unfold ziH at b;generalize zcr s.data.toList=c at *;obtain⟨F,c⟩:=c;clear d a
 go_in
 go_wp2_with (go_at_call 108;apply Hid.out);refine WhM b ?_;rintro e f ⟨rfl,hb⟩;unfold setA;go_wp2;go_ret;exact⟨rfl,hb⟩
theorem zv0(s:ByteArray)(w:World):Calls prog 74 #[.int .i64 12,.string s] w (zbR 12 s w):=by
 have b:Hid (argC 12 s=if s.data.toList=[]then 0 else 1):=hIx (by unfold argC;rw[Qe (by decide),Qe (by decide),Qe (by decide),Qe (by decide),Qe (by decide),Qi rfl]);unfold zbR;rw[b.out];clear b
 by_cases h:s.data.toList=[]
 ·have q:s.toList.isEmpty=true:=by rw[Xl,h];rfl
  have e:(s.toList==[])=true:=by rw[Xl,h];rfl
  rw[Qi h]
  go_in
  go_wp2;go_ret;exact⟨rfl,Qg _ _⟩
 ·have q:s.toList.isEmpty=false:=by rw[Xl];cases d:s.data.toList with|nil=>exact absurd d h|cons a r=>rfl
  have e:(s.toList==[])=false:=by rw[Xl];exact Qb.2 h
  rw[Qe h]
  go_in
  go_wp2;go_ret;exact⟨rfl,Qg _ _⟩
theorem zwD(op:Int)(a:op=3\/op=4\/op=5\/op=6)(s:ByteArray)(w:World):Calls prog 74 #[.int .i64 op,.string s] w (zbR op s w):=by
 have b:Hid (argC op s=if 200<s.size then 2 else 0):=hIx (by unfold argC;rw[Qe (by omega),Qe (by omega),Qe (by omega),Qe (by omega),Qe (by omega),Qe (by omega)]);unfold zbR;rw[b.out];clear b
 by_cases h:200<s.size
 ·have d:decide ((200:Int)<(s.size:Int))=true:=by simp;omega
  rw[Qi h]
  rcases a with rfl|rfl|rfl|rfl
  all_goals
   go_in
   go_wp2;go_ret;exact⟨rfl,Qg _ _⟩
 ·have d:decide ((200:Int)<(s.size:Int))=false:=by simp;omega
  rw[Qe h]
  rcases a with rfl|rfl|rfl|rfl
  all_goals
   go_in
   go_wp2;go_ret;exact⟨rfl,Qg _ _⟩
theorem zxV(op:Int)(h1:1<=op)(h2:op<=12)(s:ByteArray)(w:World)(b:s.size<=1048576)(a:LibOk w):Calls prog 74 #[.int .i64 op,.string s] w (zbR op s w):=by
 rcases(by omega:op=1\/op=2\/(op=7\/op=8\/op=9)\/op=10\/op=11\/op=12\/(op=3\/op=4\/op=5\/op=6))with rfl|rfl|h|rfl|rfl|rfl|h
 ·exact zzU s w b
 ·exact zxS s w b a
 ·exact zx4 op h s w b
 ·exact zxU s w b a
 ·exact zsy s w b a
 ·exact zv0 s w
 ·exact zwD op h s w
abbrev zao:=ByteArray × ByteArray
def zaL(x:zao):List Value:=[.string x.1,.string x.2]
theorem zjZ(l:List zao):(l.flatMap zaL).length=l.length*2:=by
 induction l with
 |nil=>rfl
 |cons x l ih=>rw[QM,Qa,ih];simp only[zaL,Qo,QR];omega
theorem zm3:∀(l:List zao) (k:Nat) (h:k<l.length),(l.flatMap zaL)[k*2]? = some (.string l[k].1)/\(l.flatMap zaL)[k*2+1]? = some (.string l[k].2)
 | [],k,h=>absurd h (by simp)
 |x::l,0,_=>⟨rfl,rfl⟩
 |x::l,k+1,h=>by
  have:=zm3 l k (by simpa using h);rw[QM,show (k+1)*2=2+k*2 by omega,QZ (by simp[zaL]),show 2+k*2+1=2+(k*2+1)by omega,QZ (by simp[zaL])]
  simpa[zaL]using this
theorem zpj{w:World}{B n:Nat}{A:Option Addr}{l:List zao}(h:Sl w B 2 A n (l.flatMap zaL))(k:Nat)(f:k<l.length):
 ∃b a,A=some ⟨b,a,none⟩/\b<B/\w.cell? ⟨b,a+k*2,none⟩=some (.string l[k].1)/\w.cell? ⟨b,a+k*2+1,none⟩=some (.string l[k].2):=by
 have hl:=zjZ l;obtain⟨b,a,e,hb,d⟩:=h.src (by omega);obtain⟨c,h1⟩:=zm3 l k f;refine⟨b,a,e,hb,?_,?_⟩
 ·rw[d (k*2) (by omega)]
  rw[Qc (by omega)]at c;exact c
 ·rw[Zh,d (k*2+1) (by omega)]
  rw[Qc (by omega)]at h1;exact h1
