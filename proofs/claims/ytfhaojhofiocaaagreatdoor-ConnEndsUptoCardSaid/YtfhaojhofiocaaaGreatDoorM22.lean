/- Lemmas for the last texts. -/
import Derived.Test.YtfhaojhofiocaaaGreatDoorM21
set_option maxHeartbeats 6400000
set_option maxRecDepth 100000
namespace Go.Proofs.YtfhaojhofiocaaaGreatDoor
open Go.RowKit Go.Proofs.Tryz
attribute [go_sem] results187
def zh6(a:zht):Pair:=(bs a.1,bs a.2)
def zzx(F:Int × List zht)(b:jE)(most:Int)(base:Nat)(w:World)(a c:Value)(wr:World):Prop:=
 ∃(f:Nat) (u:jE) (out:List zht),a=.string (bs u)/\u.length<f/\u.length+out.length<=4096/\zgS f u b most out=F/\OwnA wr base c (out.map zh6)/\Below base w wr
def zfG(F:Int × List zht)(w:World)(e:Ending)(w':World):Prop:=
 ∃v,e=jC (.tuple #[v,jA F.1])/\OwnA w' w.heap.size v (F.2.map zh6)/\w w'
theorem zlx{s p:jE}(h:Lib.hasPrefix s p=true):Lib.trimPrefix s p=s.drop p.length:=by
 unfold Lib.trimPrefix;rw[Qj h]
theorem zqI(s b:ByteArray)(most:Int)(w:World)(hs:s.size<=maxLen)(hb:b.size<=maxLen)(J:LibOk w):
 Calls prog 187 #[.string s,.string b,jA most] w (zfG (zbn s.data.toList b.data.toList most) w):=by
 have Q:=hIx (zlg b w hb);unfold maxLen at hs hb;have Z:s.data.toList.length=s.size:=by simp
 have C:Hid (zbn s.data.toList b.data.toList most=if zbW b.data.toList=false then (1,[])else if 4096<s.size then (2,[])else if Lib.hasPrefix s.data.toList (zbD b.data.toList)=false then (4,[])else zgS (s.data.toList.length+1) (s.data.toList.drop (zbD b.data.toList).length) b.data.toList most []):=by
  unfold Hid zbn;rw[Z]
 generalize h9:zbn s.data.toList b.data.toList most=F at *;have o:Hid (∀W,w W->LibOk W):=λW h=>J.below h
 have a:Hid (∀x W,F=(x,[])->w W->zfG F w (jC (.tuple #[jD 0 0,jA x])) W):=λx W h h2=>by
  subst h;exact⟨_,rfl,OwnA.nil _ _,h2⟩
 clear J h9;cases j:zbW b.data.toList with
 |false=>
  rw[j]at Q C;have A:=hIx (a.out 1 w C.out (Qi _ _));clear C a o j
  go_in
  go_wp2_with (go_at_call 203;apply Hid.out);refine WhM Q ?_;rintro e D ⟨rfl,rfl⟩;go_wp2;exact zad A.out
 |true=>
 have hj:=(zh2 j).2;have h8:b.data.toList.length=b.size:=by simp
 have hk:b.size<=70:=by omega
 rw[j]at Q
 by_cases q:4096<s.size
 ·have d1:decide ((4096:Int)<(s.size:Int))=true:=Qx (by omega)
  have A:=hIx (a.out 2 w (by rw[C.out,j,Qf (by decide),Qj q]) (Qi _ _));clear C a o j
  go_in
  go_wp2_with (go_at_call 203;apply Hid.out);refine WhM Q ?_;rintro e D ⟨rfl,rfl⟩;go_wp2;exact zad A.out
 have d1:decide ((4096:Int)<(s.size:Int))=false:=Qt (by omega);have k2:(ByteArray.mk #[45,45]).size+b.size<=9223372036854775807:=by show 2+b.size<=_;omega
 have c:=zd4 s (ByteArray.mk #[45,45]++b) w;have em:(ByteArray.mk #[45,45]++b).data.toList=zbD b.data.toList:=by simp[zbD]
 rw[em]at c
 have z:Hid (F=if Lib.hasPrefix s.data.toList (zbD b.data.toList)=false then (4,[])else zgS (s.data.toList.length+1) (s.data.toList.drop (zbD b.data.toList).length) b.data.toList most []):=by
  unfold Hid;rw[C.out,j,Qf (by decide),Qf q]
 cases i:Lib.hasPrefix s.data.toList (zbD b.data.toList)with
 |false=>
  rw[i]at c z;have m:=hIx c;have A:=hIx (a.out 4 w z.out (Qi _ _));clear C z a o j c em i
  go_in
  go_wp2_with (go_at_call 203;apply Hid.out);refine WhM Q ?_;rintro e D ⟨rfl,rfl⟩;go_wp2_with (go_at_call 204;apply Hid.out);refine WhM m ?_;rintro e D ⟨rfl,rfl⟩;go_wp2;exact zad A.out
 |true=>
 rw[zlx i]at c;rw[i]at c z;have m:=hIx c;have h3:(s.data.toList.drop (zbD b.data.toList).length).length<=s.size:=by rw[QJ];omega
 have Y:zzx F b.data.toList most w.heap.size w (.string (bs (s.data.toList.drop (zbD b.data.toList).length))) (jD 0 0) w:=
  ⟨s.data.toList.length+1,_,[],rfl,by omega,by show _+0<=4096;omega,z.out.symm,OwnA.nil _ _,Qi _ _⟩
 generalize s.data.toList.drop (zbD b.data.toList).length=u0 at *;have I:=hIx Y;have hd:=hIx j;clear C z c em i Y h3 Z q j hj h8
 go_in
 go_wp2_with (go_at_call 203;apply Hid.out);refine WhM Q ?_;rintro e D ⟨rfl,rfl⟩;go_wp2_with (go_at_call 204;apply Hid.out);refine WhM m ?_;rintro e D ⟨rfl,rfl⟩;go_wp2_with fail;clear Q m d1 k2
 go_loopw [0,8,9,10] (λv0 _ v9 _ wr=>zzx F b.data.toList most D.heap.size D v0 v9 wr) (λv0 _ _ _ _=>zjw v0)
 case atStart=>exact I.out
 case round=>
  obtain⟨f,u,out,rfl,hf,ho,l,X,hB⟩:=hrel;obtain⟨Ao,co,rfl,_⟩:=X.form;have N:=hIx X;have B:=hIx hB;have G:=hB.size;obtain⟨g,rfl⟩:∃g,f=g+1:=⟨f-1,by omega⟩
  rw[zgS]at l
  by_cases k:u=[45,45,13,10]
  ·rw[Qj k]at l
   subst k;have A:Hid (zfG F D (jC (.tuple #[.slice Ao (out.map zh6).length co,jA 0])) wr):=by subst l;exact⟨_,rfl,N.out,B.out⟩
   clear l X hB N B a I;go_wp2;exact zad A.out
  rw[Qf k]at l;have q1:(u==[45,45,13,10])=false:=Qc.2 k;have c:=zd4 (bs u) (ByteArray.mk #[13,10]) wr;have eb:(ByteArray.mk #[13,10]).data.toList=nlL:=rfl;rw[zam,eb]at c;clear eb;cases i:Lib.hasPrefix u nlL with
  |false=>
   rw[i]at c l;have m:=hIx c;have A:=hIx (a.out 4 wr (by rw[<-l];rfl) B.out);clear l X hB N B a I c i k;go_wp2_with (go_at_call 204;apply Hid.out);refine WhM m ?_;rintro e w2 ⟨rfl,rfl⟩;go_wp2;exact zad A.out
  |true=>
  rw[zlx i]at c;have e2:nlL.length=2:=rfl;rw[e2]at c;rw[i]at c l;rw[Qf (by decide)]at l;have h3:(u.drop 2).length<=u.length:=by rw[QJ];omega
  generalize u.drop 2=t at *;have m:=hIx c;clear c i k e2 X hB I;have h0:(out.map zh6).length=out.length:=Qk _;generalize h5:out.map zh6=V at *;have P:=hIx h0;have he:=hIx h5;clear h0 h5;have E:wr.heap.size<(wr.alloc (.cells #[.string (.mk #[]),.string (.mk #[])] 279)).heap.size:=by simp
  have K:wr (wr.alloc (.cells #[.string (.mk #[]),.string (.mk #[])] 279)):=WaL;have T:=zvJ (bs t) b (wr.alloc (.cells #[.string (.mk #[]),.string (.mk #[])] 279)) (by rw[zah];omega) (by omega) (o.out _ (B.out.trans (K.mono G)));rw[zam]at T;have h7:=hIx T;clear T;go_wp2_with (go_at_call 204;apply Hid.out);refine WhM m ?_;rintro e w2 ⟨rfl,rfl⟩;go_wp2_with (go_at_call 205;apply Hid.out);refine WhM h7 ?_;rintro e U ⟨hP,H⟩;have L:ArgAt w2.heap.size (ByteArray.mk #[]) (ByteArray.mk #[]) U:=(H.block _ E).trans (Qv _ _);have h6:w2 U:=K.trans (H.mono (QZ E));have hn:w2.heap.size<U.heap.size:=Qw E H.size
  have O:Hid (∀x y,w2 ((U.setCell w2.heap.size x).setCell ⟨w2.heap.size,1,none⟩ y)):=λx y=>
   (h6.setCell (p:=⟨w2.heap.size,0,none⟩) (Qd _) _).setCell (p:=⟨w2.heap.size,1,none⟩) (Qd _) _
  have ⟨z0,z1⟩:=L.cells;have f0:=L.free;clear h7 m K E H L h6
  rcases hP with ⟨S,rfl⟩|⟨n,v,r,S,rfl⟩
  ·have TT:=hIx (za9 (.string (.mk #[])) (.string (.mk #[])) z0 z1)
   have A:=hIx (a.out 4 _ (by rw[<-l,S]) (B.out.trans ((O.out (.string (.mk #[])) (.string (.mk #[]))).mono G)));clear l S a O B N o;go_wp2;exact zad A.out
  have TT:=hIx (za9 (.string (bs n)) (.string (bs v)) z0 z1);rw[S]at l;dsimp only at l;have hm:=(zrJ hd.out S).2
  by_cases d:most<=(out.length:Int)
  ·have d2:decide (most<=(V.length:Int))=true:=Qx (by rw[P.out];exact d)
   have A:=hIx (a.out 2 _ (by rw[<-l,Qj d]) (B.out.trans ((O.out (.string (bs n)) (.string (bs v))).mono G)));clear l S a O B N o d;go_wp2;exact zad A.out
  ·have d2:decide (most<=(V.length:Int))=false:=Qt (by rw[P.out];exact d)
   rw[Qf d]at l;have C:=hIx l;have ha:=hIx (N.out.below (O.out (.string (bs n)) (.string (bs v))));have h4:=hIx (B.out.trans ((O.out (.string (bs n)) (.string (bs v))).mono G));have hc:Hid (D.heap.size<=((U.setCell w2.heap.size (.string (bs n))).setCell ⟨w2.heap.size,1,none⟩ (.string (bs v))).heap.size):=h4.out.size;have HM:Hid ((out++[(n,v)]).map zh6=V++[(bs n,bs v)]):=by unfold Hid;rw[Q2,he.out];rfl
   have hh:V.length<=4194304:=by have:=P.out;omega
   clear l S a O B N o d;have t0:=TT.out.1;have t1:=TT.out.2;go_wp2_with (at_builtin;refine za2 rfl (.tmp 48) (.tmp 50) rfl D.heap.size (.slice Ao V.length co) V rfl ha.out hc.out _ (bs n,bs v) rfl U.heap.size (by simp) 1 rfl hh ?_;intro v9 w9 hg hi hq hr);exact⟨⟨g,r,out++[(n,v)],rfl,by omega,by rw[Qb,QH];omega,C.out,by rw[HM.out];exact hg,h4.out.trans hi⟩,by show (bs r).size<(bs u).size;rw[zah,zah];omega⟩
attribute [go_sem] results156 results119
def ctB:ByteArray:=ByteArray.mk #[99,111,110,116,101,110,116,45,116,121,112,101]
def ckB:ByteArray:=ByteArray.mk #[99,111,111,107,105,101]
def ufL:jE:=[97,112,112,108,105,99,97,116,105,111,110,47,120,45,119,119,119,45,102,111,114,109,45,117,114,108,101,110,99,111,100,101,100]
def minP(most:Nat):Int:=if (20:Int)<(most:Int)then 20 else most
def zrA(v b:jE)(most:Nat):Int × List Pair:=
 if zaB (zaI (Lib.cut v [59]).1)=ufL then (if most<(zcU b).length then (2,[])else (0,zcU b))
 else if (bdyR v).2=false then (0,[])
 else (if (zbn b (bdyR v).1 (minP most)).1≠0/\(zbn b (bdyR v).1 (minP most)).1≠2 then 4 else (zbn b (bdyR v).1 (minP most)).1,(zbn b (bdyR v).1 (minP most)).2.map zh6)
def zfg(a:List zas)(b:ByteArray)(most:Nat):Int × List Pair:=
 match getL a ctB with
 | []=>(0,[])
 |v::_=>zrA v.data.toList b.data.toList most
def ofP(t:ByteArray)(a:List zas)(b:ByteArray)(most:Nat):Int × List Pair × List Pair:=
 let f:=zcU (Lib.cut t.data.toList [63]).2.1
 if most<f.length then (2,[],[])
 else if (zfg a b (most-f.length)).1≠0 then ((zfg a b (most-f.length)).1,[],[])
 else if most<(zci (getL a ckB)).length then (2,[],[])
 else (0,f++(zfg a b (most-f.length)).2,zci (getL a ckB))
theorem zhW{b:jE}(most:Int)(N:Nat)(a:most<=N):∀(f:Nat) (s:jE) (out:List zht),out.length<=N->(zgS f s b most out).2.length<=N
 |0,_,_,_=>Qn _
 |f+1,s,out,c=>by
  rw[zgS]
  split
  ·exact c
  split
  ·exact Qn _
  split
  ·exact Qn _
  split
  ·exact Qn _
  ·exact zhW most N a f _ _ (by rw[Qb,QH];omega)
theorem znG(s b:jE)(most:Int)(N:Nat)(a:most<=N):(zbn s b most).2.length<=N:=by
 unfold zbn
 split
 ·exact Qn _
 split
 ·exact Qn _
 split
 ·exact Qn _
 ·exact zhW most N a _ _ _ (Qn _)
theorem zsx(v b:jE)(most:Nat):(zrA v b most).2.length<=most+20:=by
 unfold zrA
 split
 ·split
  ·exact Qn _
  ·show (zcU b).length<=_;omega
 split
 ·exact Qn _
 ·show ((zbn b (bdyR v).1 (minP most)).2.map zh6).length<=_
  rw[Qk];have:=znG b (bdyR v).1 (minP most) 20 (by unfold minP;split <;> omega);omega
theorem zlq(a:List zas)(b:ByteArray)(most:Nat):(zfg a b most).2.length<=most+20:=by
 unfold zfg
 split
 ·exact Qn _
 ·exact zsx _ _ _
theorem zzP{v:jE}(h:(bdyR v).2=true):zbW (bdyR v).1=true:=by
 unfold bdyR at h ⊢
 split at h
 ·cases h
 ·rename_i c1
  split at h
  ·cases h
  ·rename_i c2
   rw[Qf c1,Qf c2];dsimp only;cases a:zbW (unqR (za5 (zaI (Lib.cut v [59]).2.1) bdL).1)with
   |true=>rfl
   |false=>exact absurd a c2
def zb3(F:Int × List Pair)(w:World)(e:Ending)(w':World):Prop:=
 ∃v,e=jC (.tuple #[v,jA F.1])/\OwnA w' w.heap.size v F.2/\w w'
def zk9(m t b:ByteArray)(a:List zas)(A:Option Addr)(c:Nat)(w d:World):Prop:=
 ∀W,Below (w.heap.size+1) d W->(W.cell? w.heap.size=some (.string m)/\W.cell? ⟨w.heap.size,1,none⟩=some (.string t)/\W.cell? ⟨w.heap.size,2,none⟩=some (.slice A a.length c)/\W.cell? ⟨w.heap.size,3,none⟩=some (.string b))/\w W/\Sl W W.heap.size 2 A a.length (a.flatMap zaJ)/\LibOk W
theorem zln{v:Value}{base n:Nat}{V:ByteArray}{r:List ByteArray}{W:World}(m:(V::r).length=n)(h:OwnS W base v (V::r)):∃g i,v=.slice (some ⟨g,0,none⟩) n i/\g<W.heap.size/\∀W',W W'->W'.cell? ⟨g,0,none⟩=some (.string V):=by
 obtain⟨q,c1,e,b⟩:=h.form;obtain⟨g,c,f,d,k⟩:=b.src (by simp)
 have o:c=0:=by
  rcases h.2 with j|⟨s,cap,l,h1,_⟩
  ·cases j.2
  ·rw[e,f]at h1
   injection h1 with h1 _ _
   injection h1 with h1
   injection h1
 subst o;subst f
 have a:=k 0 (by simp);refine⟨g,c1,by rw[e,m],d,λW' hb=>?_⟩;rw[hb.cell (p:=⟨g,0,none⟩) d]
 simpa using a
theorem zvj(m t b:ByteArray)(h:List zas)(A:Option Addr)(c:Nat)(most:Nat)(w a:World)(g:Hid (zk9 m t b h A c w a))(j:Hid (w.alloc (.cells #[.string m,.string t,.slice A h.length c,.string b] 53)=a))(i:w.heap.size+1<=a.heap.size)(f:Hid (Calls prog 115 #[.agg #[.string m,.string t,.slice A h.length c],.string ctB] a (zgr [] a))):
 Calls prog 156 #[.agg #[.string m,.string t,.slice A h.length c,.string b],jA (most:Int)] w (zb3 (0,[]) w):=by
 obtain⟨F,n⟩:∃F:Int × List Pair,Hid (F=(0,[])):=⟨_,rfl⟩
 rw[<-n.out];have ⟨⟨u,q,x,r⟩,_⟩:=g.out a (Qi _ _)
 go_in
 go_upto_region 1 with fail
 rw[j.out];go_wp2_with (go_at_call 115;apply Hid.out);refine WhM f ?_;rintro e l ⟨v,rfl,d,k⟩;obtain⟨s,c1,rfl,_⟩:=d.form;have o:Hid (zb3 F w (jC (.tuple #[jD 0 0,jA 0])) l):=by rw[n.out];exact⟨_,rfl,OwnA.nil _ _,(g.out l (k.mono i)).2.1⟩
 clear d;go_wp2;exact zad o.out
theorem ztd(m t b:ByteArray)(C:List zas)(A:Option Addr)(c:Nat)(most:Nat)(w l:World)(k:Hid (zk9 m t b C A c w l))(H:Hid (w.alloc (.cells #[.string m,.string t,.slice A C.length c,.string b] 53)=l))(h:w.heap.size+1<=l.heap.size)(V:ByteArray)(r:List ByteArray)(n:Nat)(hn:(V::r).length=n)(h4:0<n)(y:Hid (Calls prog 115 #[.agg #[.string m,.string t,.slice A C.length c],.string ctB] l (zgr (V::r) l)))(T S Q cb:ByteArray)(Y:Bool)
 (z:Hid (∀W,LibOk W->Calls prog 73 #[.string V,.string (.mk #[59])] W λe w'=>e=jC (.tuple #[.string T,.string cb,.bool Y])/\W w')) (I:Hid (∀W,Calls prog 78 #[.string T] W λe w'=>e=jC (.string S)/\w'=W)) (J:Hid (∀W,Calls prog 116 #[.string S] W (zbJ Q W)))
 (h0:(Q.toList==[97,112,112,108,105,99,97,116,105,111,110,47,120,45,119,119,119,45,102,111,114,109,45,117,114,108,101,110,99,111,100,101,100])=true)
 (K:Hid (∀W,LibOk W->Calls prog 154 #[.string b,jA (most:Int)] W (zel most b.data.toList W))):
 Calls prog 156 #[.agg #[.string m,.string t,.slice A C.length c,.string b],jA (most:Int)] w (zb3 (if most<(zcU b.data.toList).length then (2,[])else (0,zcU b.data.toList)) w):=by
 obtain⟨F,G⟩:∃F:Int × List Pair,Hid (F=(if most<(zcU b.data.toList).length then (2,[])else (0,zcU b.data.toList))):=⟨_,rfl⟩
 rw[<-G.out];have ⟨⟨b0,X,b2,b3⟩,_⟩:=k.out l (Qi _ _)
 go_in
 go_upto_region 1 with fail
 rw[H.out];go_wp2_with (go_at_call 115;apply Hid.out);refine WhM y ?_;rintro e D ⟨v1,rfl,q,f⟩;obtain⟨g1,c1,rfl,h3,d⟩:=zln hn q;have x0:=d D (Qi _ _);have f:=f.mono h;have o:=(k.out D f).2.2.2;have N:=hIx (z.out D o);clear q d;go_wp2_with (go_at_call 73;apply Hid.out);refine WhM N ?_;rintro e w2 ⟨rfl,g⟩;have g:=f.trans (g.mono (Ql h f.size));go_wp2_with fail;refine(I.out w2).mono ?_;rintro e w3 ⟨rfl,u⟩;rw[u];clear u;go_wp2_with fail;refine(J.out w2).mono ?_;rintro e P ⟨rfl,j⟩;have j:=g.trans (j.mono (Ql h g.size));have ⟨⟨_,_,_,d3⟩,a,_,x⟩:=k.out P j;have L:=hIx (K.out P x);clear b0 X b2 b3;go_wp2_with (go_at_call 154;apply Hid.out);refine WhM L ?_;rintro e U E
 rcases E with ⟨B,Z,rfl,s,i⟩|⟨v,rfl,i⟩
 ·have O:Hid (zb3 F w (jC (.tuple #[Z,jA 0])) U):=by
   rw[G.out,Qf (by simpa using B)];exact⟨_,rfl,s.low a.size,a.trans (i.mono a.size)⟩
  clear s B;go_wp2;exact zad O.out
 ·have O:Hid (zb3 F w (jC (.tuple #[jD 0 0,jA 2])) U):=by
   rw[G.out,Qj (by simpa using v)];exact⟨_,rfl,OwnA.nil _ _,a.trans (i.mono a.size)⟩
  clear v;go_wp2;exact zad O.out
theorem ztg(m t b:ByteArray)(U:List zas)(A:Option Addr)(c:Nat)(most:Nat)(w v:World)(j:Hid (zk9 m t b U A c w v))(h7:Hid (w.alloc (.cells #[.string m,.string t,.slice A U.length c,.string b] 53)=v))(h:w.heap.size+1<=v.heap.size)(V:ByteArray)(r:List ByteArray)(n:Nat)(hn:(V::r).length=n)(hc:0<n)(O:Hid (Calls prog 115 #[.agg #[.string m,.string t,.slice A U.length c],.string ctB] v (zgr (V::r) v)))(T0 T1 Q cb:ByteArray)(cc:Bool)
 (J:Hid (∀W,LibOk W->Calls prog 73 #[.string V,.string (.mk #[59])] W λe w'=>e=jC (.tuple #[.string T0,.string cb,.bool cc])/\W w')) (h6:Hid (∀W,Calls prog 78 #[.string T0] W λe w'=>e=jC (.string T1)/\w'=W)) (h0:Hid (∀W,Calls prog 116 #[.string T1] W (zbJ Q W)))
 (h9:(Q.toList==[97,112,112,108,105,99,97,116,105,111,110,47,120,45,119,119,119,45,102,111,114,109,45,117,114,108,101,110,99,111,100,101,100])=false)
 (d:jE) (y:Bool) (hb:b.size<=4194304) (h4:y=true->d.length<=70)
 (Z:Hid (∀W,LibOk W->Calls prog 186 #[.string V] W λe w'=>e=jC (.tuple #[.string (bs d),.bool y])/\W w')):
 Calls prog 156 #[.agg #[.string m,.string t,.slice A U.length c,.string b],jA (most:Int)] w (zb3 (if y=false then (0,[])else (if (zbn b.data.toList d (minP most)).1≠0/\(zbn b.data.toList d (minP most)).1≠2 then 4 else (zbn b.data.toList d (minP most)).1,(zbn b.data.toList d (minP most)).2.map zh6)) w):=by
 obtain⟨F,z⟩:∃F:Int × List Pair,Hid (F=(if y=false then (0,[])else (if (zbn b.data.toList d (minP most)).1≠0/\(zbn b.data.toList d (minP most)).1≠2 then 4 else (zbn b.data.toList d (minP most)).1,(zbn b.data.toList d (minP most)).2.map zh6))):=⟨_,rfl⟩
 rw[<-z.out];have ⟨⟨b0,b1,b2,b3⟩,_⟩:=j.out v (Qi _ _)
 go_in
 go_upto_region 1 with fail
 rw[h7.out];go_wp2_with (go_at_call 115;apply Hid.out);refine WhM O ?_;rintro e w1 ⟨v1,rfl,G,S⟩;obtain⟨g1,c1,rfl,ha,a⟩:=zln hn G;have x0:=a w1 (Qi _ _);have f:=S.mono h;have L:=(j.out w1 f).2.2.2;have h3:=hIx (J.out w1 L);have o:=hIx a;clear G a S;go_wp2_with (go_at_call 73;apply Hid.out);refine WhM h3 ?_;rintro e w2 ⟨rfl,g⟩;have C:=f.trans (g.mono (Ql h f.size));go_wp2_with fail;refine(h6.out w2).mono ?_;rintro e w3 ⟨rfl,H⟩;rw[H];clear H;go_wp2_with fail;refine(h0.out w2).mono ?_;rintro e w4 ⟨rfl,l⟩;have s:=C.trans (l.mono (Ql h C.size));have x4:=o.out w4 (g.trans (l.mono g.size));have I:=(j.out w4 s).2.2.2;have h8:=hIx (Z.out w4 I);clear x0 b0 b1 b2 b3;go_wp2_with (go_at_call 186;apply Hid.out);refine WhM h8 ?_;rintro e T ⟨rfl,q⟩;have q:=s.trans (q.mono (Ql h s.size));have ⟨⟨_,_,_,d3⟩,i,_,k⟩:=j.out T q;clear x4;cases y with
 |false=>
  have u:Hid (zb3 F w (jC (.tuple #[jD 0 0,jA 0])) T):=by
   rw[z.out,Qj rfl];exact⟨_,rfl,OwnA.nil _ _,i⟩
  go_wp2;exact zad u.out
 |true=>
  have K:=h4 rfl
  have P:Hid (∀M,M=minP most->Calls prog 187 #[.string b,.string (bs d),jA M] T (zfG (zbn b.data.toList d (minP most)) T)):=λM hM=>by
   subst hM;have:=zqI b (bs d) (minP most) T (by unfold maxLen;omega) (by rw[zah];unfold maxLen;omega) k;rw[zam]at this;exact this
  rw[Qf (by decide)]at z;generalize zbn b.data.toList d (minP most)=Y at *;generalize bs d=BB at *;clear k K;go_wp2_with (go_at_call 187;(with_reducible refine(P.out _ ?_).mono ?_))
  ·show (_:Int)=minP most
   unfold minP
   first|rfl|(split <;> simp_all <;> omega)|(simp;omega)
  clear P;rintro e w6 ⟨v6,rfl,N,h5⟩
  have u:Hid (∀E,E=(if Y.1≠0/\Y.1≠2 then 4 else Y.1)->zb3 F w (jC (.tuple #[v6,jA E])) w6):=λE hE=>by
   rw[z.out];exact⟨_,by rw[hE],N.low i.size,i.trans (h5.mono i.size)⟩
  clear N z;obtain⟨B,P2⟩:=Y;dsimp only at u
  by_cases x:B=0
  ·have n0:(B != 0)=false:=bne_eq_false_iff_eq.2 x
   have D:=hIx (u.out 0 (by rw[x,Qf (by decide)]));subst x;go_wp2;exact zad D.out
  ·have n0:(B != 0)=true:=Q6.2 x
   by_cases X:B=2
   ·have D:=hIx (u.out 2 (by rw[X,Qf (by decide)]))
    subst X;go_wp2;exact zad D.out
   ·have n2:(B != 2)=true:=Q6.2 X
    have D:=hIx (u.out 4 (by rw[Qj ⟨x,X⟩]));clear u;go_wp2;exact zad D.out
theorem zvV(m t b:ByteArray)(a:List zas)(A:Option Addr)(c:Nat)(most:Nat)(w:World)(n:Sl w w.heap.size 2 A a.length (a.flatMap zaJ))(z:∀f∈a,f.1.size<=maxLen/\f.2.size<=4194304)(hl:a.length<=4194304)(hb:b.size<=4194304)(l:LibOk w):
 Calls prog 156 #[.agg #[.string m,.string t,.slice A a.length c,.string b],jA (most:Int)] w (zb3 (zfg a b most) w):=by
 have i:Hid (zk9 m t b a A c w (w.alloc (.cells #[.string m,.string t,.slice A a.length c,.string b] 53))):=λW hb=>by
  obtain⟨h1,h2⟩:=zbB hb;exact⟨⟨h1 0,h1 1,h1 2,h1 3⟩,h2,(n.below h2).more h2.size,l.below h2⟩
 have k:w.heap.size+1<=(w.alloc (.cells #[.string m,.string t,.slice A a.length c,.string b] 53)).heap.size:=by simp
 have d:=hIx (zhI m t A a.length c a ctB _ rfl (i.out _ (Qi _ _)).2.2.1 (λf n=>(z f n).1) (by decide) (by omega))
 have B:∀x∈getL a ctB,x.size<=4194304:=λx G=>by
  obtain⟨f,n,rfl⟩:=QS.1 G;exact(z f (Xg.1 n).1).2
 have D:zfg a b most=match getL a ctB with | []=>(0,[])|v::_=>zrA v.data.toList b.data.toList most:=rfl
 rw[D];cases s:getL a ctB with
 |nil=>
  rw[s]at d;exact zvj m t b a A c most w _ i rfl k d
 |cons V r=>
  rw[s]at d B;have H:=B V Zk;have I:=zcP V.data.toList [59];have F:V.data.toList.length=V.size:=by simp
  have C:=zhN (Lib.cut V.data.toList [59]).1;have j:Hid (∀W,LibOk W->Calls prog 73 #[.string V,.string (.mk #[59])] W λe w'=>e=jC (.tuple #[.string (bs (Lib.cut V.data.toList [59]).1),.string (bs (Lib.cut V.data.toList [59]).2.1),.bool (Lib.cut V.data.toList [59]).2.2])/\W w'):=λW g=>zhP V (ByteArray.mk #[59]) W (by omega) g rfl
  have y:Hid (∀W,LibOk W->Calls prog 186 #[.string V] W λe w'=>e=jC (.tuple #[.string (bs (bdyR V.data.toList).1),.bool (bdyR V.data.toList).2])/\W w'):=λW g=>zlW V W (by omega) g
  have o:Hid (∀W,Calls prog 78 #[.string (bs (Lib.cut V.data.toList [59]).1)] W λe w'=>e=jC (.string (bs (zaI (Lib.cut V.data.toList [59]).1)))/\w'=W):=λW=>by
   have:=zdG (bs (Lib.cut V.data.toList [59]).1) W (by rw[zah];unfold maxLen;omega);rw[zam]at this;exact this
  have q:Hid (∀W,Calls prog 116 #[.string (bs (zaI (Lib.cut V.data.toList [59]).1))] W (zbJ (bs (zaB (zaI (Lib.cut V.data.toList [59]).1))) W)):=λW=>by
   have:=zbg (bs (zaI (Lib.cut V.data.toList [59]).1)) W (by rw[zah];unfold maxLen;omega);rw[zam]at this;exact this
  have E:zrA V.data.toList b.data.toList most=if zaB (zaI (Lib.cut V.data.toList [59]).1)=ufL then (if most<(zcU b.data.toList).length then (2,[])else (0,zcU b.data.toList))else if (bdyR V.data.toList).2=false then (0,[])else (if (zbn b.data.toList (bdyR V.data.toList).1 (minP most)).1≠0/\(zbn b.data.toList (bdyR V.data.toList).1 (minP most)).1≠2 then 4 else (zbn b.data.toList (bdyR V.data.toList).1 (minP most)).1,(zbn b.data.toList (bdyR V.data.toList).1 (minP most)).2.map zh6):=rfl;dsimp only;rw[E]
  by_cases u:zaB (zaI (Lib.cut V.data.toList [59]).1)=ufL
  ·rw[Qj u]
   exact ztd m t b a A c most w _ i rfl k V r _ rfl (by simp) d _ _ _ _ _ j o q (by rw[zgk,u];rfl) λW g=>zoI b most W g hb
  ·rw[Qf u]
   exact ztg m t b a A c most w _ i rfl k V r _ rfl (by simp) d _ _ _ _ _ j o q (by rw[zgk];exact Qc.2 u) (bdyR V.data.toList).1 (bdyR V.data.toList).2 hb (λh=>(zh2 (zzP h)).2) y
def zk8(t:ByteArray)(a:List zas)(b:ByteArray)(most:Nat)(w:World)(e:Ending)(w':World):Prop:=
 ∃v u,e=jC (.tuple #[v,u,jA (ofP t a b most).1])/\OwnA w' w.heap.size v (ofP t a b most).2.1/\OwnA w' w.heap.size u (ofP t a b most).2.2/\w w'
theorem zyA(m t b:ByteArray)(a:List zas)(A:Option Addr)(c:Nat)(cl:Int)(most:Nat)(w:World)(hf:Sl w w.heap.size 2 A a.length (a.flatMap zaJ))(hs:∀f∈a,f.1.size<=maxLen/\f.2.size<=4194304)(hl:a.length<=4194304)(ht:t.size<=4194304)(hb:b.size<=4194304)(hm:most<=4194304)(S:LibOk w):
 Calls prog 119 #[.agg #[.string m,.string t,.slice A a.length c,.string b],.int .u32 cl,jA (most:Int)] w (zk8 t a b most w):=by
 have h8:∀W,Below (w.heap.size+1) (w.alloc (.cells #[.string m,.string t,.slice A a.length c,.string b] 53)) W->(W.cell? w.heap.size=some (.string m)/\W.cell? ⟨w.heap.size,1,none⟩=some (.string t)/\W.cell? ⟨w.heap.size,2,none⟩=some (.slice A a.length c)/\W.cell? ⟨w.heap.size,3,none⟩=some (.string b))/\w W/\Sl W W.heap.size 2 A a.length (a.flatMap zaJ)/\LibOk W:=λW hb=>by
  obtain⟨h1,h2⟩:=zbB hb;exact⟨⟨h1 0,h1 1,h1 2,h1 3⟩,h2,(hf.below h2).more h2.size,S.below h2⟩
 have d:=hIx h8;obtain⟨B,N⟩:∃B,w.alloc (.cells #[.string m,.string t,.slice A a.length c,.string b] 53)=B:=⟨_,rfl⟩
 have y:w.heap.size+1<=B.heap.size:=by rw[<-N];simp
 rw[N]at d;have hH:=hIx N
 have he:(Lib.cut t.data.toList [63]).2.1.length<=4194304:=by
  have h1:=(zcP t.data.toList [63]).2;have h2:t.data.toList.length=t.size:=by simp
  omega
 have hd:Hid (Calls prog 155 #[.string t] B λe w'=>e=jC (.string (bs (Lib.cut t.data.toList [63]).2.1))/\B w'):=zmi t B (d.out B (Qi _ _)).2.2.2 ht
 have L:Hid (∀W,Below (w.heap.size+1) B W->Calls prog 154 #[.string (bs (Lib.cut t.data.toList [63]).2.1),jA (most:Int)] W (zel most (Lib.cut t.data.toList [63]).2.1 W)):=λW o=>by
  have:=zoI (bs (Lib.cut t.data.toList [63]).2.1) most W (d.out W o).2.2.2 (by rw[zah];exact he);rw[zam]at this;exact this
 have h9:Hid (∀(k:Nat) W,k<=most->Below (w.heap.size+1) B W->Calls prog 156 #[.agg #[.string m,.string t,.slice A a.length c,.string b],jA (k:Int)] W (zb3 (zfg a b k) W)):=λk W hk o=>
  zvV m t b a A c k W (d.out W o).2.2.1 hs hl hb (d.out W o).2.2.2
 have V:Hid (∀W,Below (w.heap.size+1) B W->Calls prog 115 #[.agg #[.string m,.string t,.slice A a.length c],.string ckB] W (zgr (getL a ckB) W)):=λW o=>
  zhI m t A a.length c a ckB W rfl (d.out W o).2.2.1 (λf hf=>(hs f hf).1) (by decide) (by omega)
 have hv:∀x∈getL a ckB,x.size<=4194304:=λx hx=>by
  obtain⟨f,hf,rfl⟩:=QS.1 hx;exact(hs f (Xg.1 hf).1).2
 have hN:=zfz a ckB
 have P:Hid (∀A1 c1 W,Below (w.heap.size+1) B W->Sl W W.heap.size 1 A1 (getL a ckB).length ((getL a ckB).map Value.string)->Calls prog 157 #[.slice A1 (getL a ckB).length c1,jA (most:Int)] W (zfJ most (getL a ckB) W)):=λA1 c1 W o ho=>
  zm5 (getL a ckB) A1 c1 most W ho hv (by omega) (by omega) (d.out W o).2.2.2
 have HF:Hid (ofP t a b most=if most<(zcU (Lib.cut t.data.toList [63]).2.1).length then (2,[],[])else if (zfg a b (most-(zcU (Lib.cut t.data.toList [63]).2.1).length)).1≠0 then ((zfg a b (most-(zcU (Lib.cut t.data.toList [63]).2.1).length)).1,[],[])else if most<(zci (getL a ckB)).length then (2,[],[])else (0,zcU (Lib.cut t.data.toList [63]).2.1++(zfg a b (most-(zcU (Lib.cut t.data.toList [63]).2.1).length)).2,zci (getL a ckB))):=rfl;have ⟨⟨b0,b1,b2,b3⟩,_⟩:=d.out B (Qi _ _);unfold zk8;unfold zel zpg at L;unfold zfJ at P;have hu:(most:Int).toNat=most:=by omega
 rw[hu]at L P;have hq:=λk=>hIx (zlq a b k)
 generalize ofP t a b most=R at *;generalize getL a ckB=ts at *;generalize zci ts=Z at *;generalize (Lib.cut t.data.toList [63]).2.1=QL at *;generalize zcU QL=j at *;generalize bs QL=QB at *;have hQ:((0:Int)>(most:Int))=False:=by simp
 have hL:decide ((0:Int)>(most:Int))=false:=by simp
 have D:Hid (∀E W,R=(E,[],[])->w W->∃v u,jC (.tuple #[jD 0 0,jD 0 0,jA E])=jC (.tuple #[v,u,jA R.1])/\OwnA W w.heap.size v R.2.1/\OwnA W w.heap.size u R.2.2/\w W):=λE W h hb=>by
  subst h;exact⟨_,_,rfl,OwnA.nil _ _,OwnA.nil _ _,hb⟩
 clear h8 N hf hs S hv he
 go_in
 go_upto_region 2 with fail
 rw[hH.out];go_wp2_with (go_at_call 155;apply Hid.out);refine WhM hd ?_;rintro e w1 ⟨rfl,r⟩;have r:=r.mono y;have h5:=hIx (L.out w1 r);go_wp2_with (go_at_call 154;apply Hid.out);refine WhM h5 ?_;rintro e w2 hB;have X:=Ql y r.size
 rcases hB with ⟨hP,v2,rfl,F,i⟩|⟨H,rfl,i⟩
 rotate_left
 ·have HP:=hIx (D.out 2 w2 (by rw[HF.out,Qj H]) (d.out w2 (r.trans (i.mono X))).2.1)
  clear H;go_wp2;exact zad HP.out
 ·have Q:Hid (R=if (zfg a b (most-j.length)).1≠0 then ((zfg a b (most-j.length)).1,[],[])else if most<Z.length then (2,[],[])else (0,j++(zfg a b (most-j.length)).2,Z)):=by unfold Hid;rw[HF.out,Qf (by omega)]
  have i:=r.trans (i.mono X);have hC:=Ql y i.size;have F:=F.low (show w.heap.size+1<=w1.heap.size from X);have s:=hIx (h9.out (most-j.length) w2 (by omega) i);have hy:=(hq (most-j.length)).out;have i5:IntKind.i64.wrap ((most:Int)-(j.length:Int))=((most-j.length:Nat):Int):=by rw[Qz _ (by omega)];omega
  have i6:(most:Int)-(j.length:Int)=((most-j.length:Nat):Int):=by omega
  generalize most-j.length=K at *;generalize zfg a b K=BD at *;obtain⟨BE,BL⟩:=BD;unfold zb3 at s;dsimp only at Q s hy;obtain⟨A2,c2,rfl,_⟩:=F.form;have ⟨⟨d0,d1,d2,d3⟩,_⟩:=d.out w2 i;have ha:=hIx F;clear b0 b1 b2 b3 HF F h9 L hd h5;go_wp2_with (go_at_call 156;apply Hid.out);refine WhM s ?_;rintro e w3 ⟨v3,rfl,O,l⟩;have z:=i.trans (l.mono hC);have hj:=Ql y z.size
  by_cases hE:BE=0
  rotate_left
  ·have n0:(BE != 0)=true:=Q6.2 hE
   have HP:=hIx (D.out BE w3 (by rw[Q.out,Qj hE]) (d.out w3 z).2.1);clear O hE;go_wp2;exact zad HP.out
  ·subst hE
   have h0:Hid (R=if most<Z.length then (2,[],[])else (0,j++BL,Z)):=by unfold Hid;rw[Q.out,Qf (by decide)]
   have hi:=hIx (V.out w3 z);have ⟨⟨e0,e1,e2,e3⟩,_⟩:=d.out w3 z;obtain⟨A3,c3,rfl,_⟩:=O.form;have hJ:=hIx O;clear d0 d1 d2 d3 O Q s;go_wp2_with (go_at_call 115;apply Hid.out);refine WhM hi ?_;rintro e w4 ⟨v4,rfl,hc,n⟩;have I:=z.trans (n.mono hj);have hh:=Ql y I.size;obtain⟨A4,c4,rfl,T⟩:=hc.form;have h7:=hIx (P.out A4 c4 w4 I T);clear hc T e0 e1 e2 e3;go_wp2_with (go_at_call 157;apply Hid.out);refine WhM h7 ?_;rintro e w5 hF
   rcases hF with ⟨h6,v5,rfl,J,q⟩|⟨H,rfl,q⟩
   rotate_left
   ·have HP:=hIx (D.out 2 w5 (by rw[h0.out,Qj H]) (d.out w5 (I.trans (q.mono hh))).2.1)
    clear H;go_wp2;exact zad HP.out
   ·have HR:Hid (R=(0,j++BL,Z)):=by unfold Hid;rw[h0.out,Qf (by omega)]
    have Y:=I.trans (q.mono hh);have G:=n.trans (q.mono n.size);have C:=l.trans (G.mono l.size);have hz:OwnA w5 (w.heap.size+1) (.slice A2 j.length c2) j:=ha.out.below C;have hw:OwnA w5 w2.heap.size (.slice A3 BL.length c3) BL:=hJ.out.below G;have hp:w.heap.size+1<=w5.heap.size:=Ql y Y.size;have hK:=C.size
    have U:Hid (∀g,v5.ownBlock=some g->g<w5.heap.size/\(Value.slice A2 j.length c2).ownBlock≠some g):=λg hg=>by
     have h1:=QE J g hg;refine⟨h1.2,λe=>?_⟩;have h2:=QE ha.out g e;have h3:=l.size;have h4:=n.size;omega
    have hn:=hIx J;have hI:=hIx (d.out w5 Y).2.1;obtain⟨A5,c5,rfl,_⟩:=J.form;have hD:w.heap.size<=w4.heap.size:=by omega
    clear J h6 G C n q l Y I z i r h7 hi P V h0;go_wp2_with (at_builtin;refine zcC rfl (.tmp 50) (.tmp 51) rfl (w.heap.size+1) w2.heap.size (.slice A2 j.length c2) (.slice A3 BL.length c3) j BL rfl rfl (by exact hz) (by exact hw) (by exact hp) (by omega) ?_;intro v6 w6 hG hA hr hO);refine QD (v:=.tuple #[v6,.slice A5 Z.length c5,jA 0]) (by simp[results,results119,go_sem]) rfl ⟨v6,.slice A5 Z.length c5,by rw[HR.out],?_,?_,hI.out.trans (hA.mono (Zd _))⟩
    ·rw[HR.out];exact hG.low (Zd _)
    ·rw[HR.out];exact(hn.out.keep λg hg=>hr g (U.out g hg).1 (U.out g hg).2).low hD
noncomputable def runG(r:zfy)(m t b:ByteArray)(a:List zas)(c:Nat)(most:Nat):Int × RunS:=
 if za1 argC r≠0 then (za1 argC r,run0)else if (ofP t a b most).1≠0 then ((ofP t a b most).1,run0)
 else (0,runS (λd x=>isR x m t b a c d (ofP t a b most).2.1 (ofP t a b most).2.2) r)
def verV(s:RunS)(a:Value):Value:=.agg #[jA s.st,jA s.who,jA s.sc,a]
def zhc(F:Int × RunS)(w:World)(e:Ending)(w':World):Prop:=
 ∃a,e=jC (.tuple #[verV F.2 a,jA F.1])/\OwnG rowZ w' w.heap.size a F.2.mt/\w w'
structure Built(B1:Nat)(l:List RuM)(w1:World)(gs:List Nat)(v:Value)(wr:World):Prop where
 len:gs.length<=l.length
 own:OwnG rowP wr B1 v gs
 below:Below B1 w1 wr
 box:∀j (h:j<gs.length) (h2:j<l.length),RBox gs[j] (zhY l[j]) 0 0 .nilFunc wr
 at1:∀g∈gs,B1<=g/\g<wr.heap.size
 nodup:gs.Nodup
theorem Built.nil{b:Nat}{l:List RuM}{a:World}:Built b l a [] (jD 0 0) a:=
 ⟨Qn _,OwnG.nil _ _ _,Qi _ _,λj h=>(by cases h),λg c=>(by cases c),List.nodup_nil⟩
theorem zgg{b:Nat}{a:List Nat}{v:Value}{w:World}{g:Nat}{r:zcr}{d m:Int}{t:Value}(h:OwnG rowP w b v a)(hb:RBox g r d m t w):v.ownBlock≠some g:=zbl h hb (by decide)
theorem Built.push{n:Nat}{l:List RuM}{s:World}{i:List Nat}{v v':Value}{wr w2 w3:World}{g:Nat}(h:Built n l s i v wr)(u:i.length<l.length)(y:n<=wr.heap.size)(B:wr.heap.size<=g)(h2:wr w2)(c:RBox g (zhY (l[i.length]'u)) 0 0 .nilFunc w2)
 (w:OwnG rowP w3 n v' (i++[g])) (hb:Below n w2 w3) (f:∀k,k<w2.heap.size->v.ownBlock≠some k->w3.heap[k]? = w2.heap[k]?):Built n l s (i++[g]) v' w3:=by
 have d:OwnG rowP w2 n v i:=h.own.below h2;refine⟨by rw[Qb,QH];omega,w,(h.below.trans (h2.mono y)).trans hb,λj z r=>?_,λx q=>?_,?_⟩
 ·rw[Qb,QH]at z
  by_cases t:j<i.length
  ·rw[Zy t]
   have o:=h.box j t r;have m:RBox i[j] (zhY l[j]) 0 0 .nilFunc w2:=o.keep (h2.block _ o.lt);exact m.keep (f _ m.lt (zgg d m))
  ·have e:j=i.length:=by omega
   subst e;rw[ZW (Qd _)];simp only[Z8,List.getElem_cons_zero];exact c.keep (f _ c.lt (zgg d c))
 ·rcases QY.1 q with q|q
  ·have:=h.at1 x q
   have:=h2.size;have:=hb.size;omega
  ·rw[QF.1 q]
   have:=c.lt;have:=hb.size;omega
 ·rw[List.nodup_append]
  refine⟨h.nodup,by simp,λa A b hb=>?_⟩;rw[QF.1 hb];have:=(h.at1 a A).2;omega
theorem zff:∀(a:List Nat) (b:List RuM),a.length=b.length->(a.zip b).map (·.1)=a
 | [],[],_=>rfl
 |x::a,y::b,h=>by rw[List.zip_cons_cons,Q8,zff a b (by simpa using h)]
theorem zhA:∀(a:List Nat) (b:List RuM),a.length=b.length->(a.zip b).map (·.2)=b
 | [],[],_=>rfl
 |x::a,y::b,h=>by rw[List.zip_cons_cons,Q8,zhA a b (by simpa using h)]
theorem zlc{a:List Nat}{b:List RuM}{p:RuB}(h:p∈a.zip b):∃j,∃(h1:j<a.length) (h2:j<b.length),p.1=a[j]/\p.2=b[j]:=by
 obtain⟨j,c,e⟩:=List.mem_iff_getElem.1 h;have hl:=List.length_zip (l₁:=a) (l₂:=b);refine⟨j,by omega,by omega,?_,?_⟩
 ·rw[<-e];simp
 ·rw[<-e];simp
theorem znk{a:zcL}(h:actC a=0):0<=a.n/\a.n<=1000:=by
 unfold actC at h
 split at h
 ·cases h
 ·rename_i b
  have h1:0<=loA a.k:=by unfold loA;split <;> (try split) <;> omega
  have h2:hiA a.k<=1000:=by
   unfold hiA
   split
   ·omega
   split
   ·omega
   split <;> omega
  omega
theorem zyE{a:RuArg}{w g:World}{h u:Nat}{e:List Nat}{v:Value}{w3:World}{q:RunQ}(hl:RuLies w w.heap.size a)(F:zb9 a)(s:za1 argC a.set=0)(o:Built h a.l w3 e v g)(z:e.length=a.l.length)(E:w.heap.size<=u/\u<h)(y:h<=g.heap.size)(D:w g)
 (I:∀W,Apart (GU u (e.zip a.l)) w.heap.size g W->ValIn q.m q.t q.b q.fs q.A q.list q.Al q.cook q.Ac W) (C:∀k:Int,0<=k->k<=1000000->znj q.t q.fs q.list q.cook q.cl k):zgU w.heap.size u (e.zip a.l) q g:=by
 have n:=zlF s;have i:=(zly s).2
 have c:∀p∈e.zip a.l,p.2∈a.l/\p.1∈e:=λp d=>by
  obtain⟨j,h1,h2,H,B⟩:=zlc d;rw[H,B];exact⟨QC h2,QC h1⟩
 have f:∀p∈e.zip a.l,p.2.r∈a.set.list:=λp d=>QS.2 ⟨p.2,(c p d).1,rfl⟩
 refine⟨by rw[zff e a.l z];exact o.nodup,λp d=>?_,⟨E.1,by omega⟩,λp d=>?_,λp d=>F.all _ (c p d).1,λp d=>zu6 (n.one _ (f p d)),λp d x G=>znk ((i _ (f p d)).acts x G),I,C⟩
 ·have:=o.at1 p.1 (c p d).2
  omega
 ·exact(hl.all _ (c p d).1).keep D (Qd _)
theorem zyC{a:RuArg}{w c:World}{g u:Nat}{d:List Nat}{v:Value}{w3:World}{q:RunQ}(i:Built g a.l w3 d v c)(_:d.length=a.l.length)(b:UBox u q.uc run0 (jD 0 0) c):RunAt w.heap.size u (d.zip a.l) q c run0 (jD 0 0) c:=by
 refine⟨Apart.refl _ _ _,b,OwnG.nil _ _ _,λp f=>.inl ?_⟩;obtain⟨j,h1,h2,h,e⟩:=zlc f;rw[h,e];exact i.box j h1 h2
theorem zyI{a:RuArg}{B:Nat}{m:World}{o u:Nat}{b:List Nat}{A:Option Addr}{c:Nat}{w3:World}(i:Built o a.l w3 b (.slice A b.length c) m)(q:b.length=a.l.length)(y:u<o)(W:World)(h:Apart (GU u (b.zip a.l)) B m W):Sl W W.heap.size 1 A (b.zip a.l).length ((b.zip a.l).map λp=>ptrV p.1):=by
 have h2:=i.own.keep (w':=W) λg d=>h.keep g (i.own.lt g d).2 λt=>by
  rcases t with e|⟨p,s,e⟩
  ·have:=(i.own.lt g d).1;omega
  ·obtain⟨j,h1,h2,k,n⟩:=zlc s
   have:=zgg i.own (i.box j h1 h2);rw[<-k,e]at this;exact this d
 obtain⟨x,w,r,f⟩:=h2.form;injection r with k _ _
 have n:b.flatMap rowP.cells=(b.zip a.l).map λp=>ptrV p.1:=by
  rw[zlZ];have:=zff b a.l q;rw[show (b.zip a.l).map (λp=>ptrV p.1)=((b.zip a.l).map (·.1)).map ptrV by rw[Xn];rfl,this]
 rw[<-k,n]at f;have v:(b.zip a.l).length=b.length:=by rw[List.length_zip];omega
 rw[v];exact f
theorem zsr(a:RuArg)(b:List Nat)(c:b.length=a.l.length):(b.zip a.l).map (λp=>p.2.r)=a.set.list:=by
 rw[show (b.zip a.l).map (λp=>p.2.r)=((b.zip a.l).map (·.2)).map RuM.r by rw[Xn];rfl,zhA b a.l c]
 rfl
def znB(b:UInt8):List jE->List jE
 | []=>[[b]]
 |x::r=>(b::x)::r
def spl2:jE->List jE
 | []=>[[]]
 | [b]=>[[b]]
 |b::c::l=>if b=13/\c=10 then []::spl2 l else znB b (spl2 (c::l))
theorem zwa(b:UInt8)(l:List jE):znB b l≠[]:=by cases l <;> simp[znB]
theorem zkt(l:jE):spl2 l≠[]:=by
 match l with
 | []=>simp[spl2]
 | [b]=>simp[spl2]
 |b::c::l=>
  rw[spl2]
  split
  ·simp
  ·exact zwa _ _
theorem zoc(r:jE):spl2 (13::10::r)=[]::spl2 r:=by rw[spl2,Qj ⟨rfl,rfl⟩]
theorem zlu(b:UInt8){x:List jE}(a:x≠[])(y:List jE):znB b (x++y)=znB b x++y:=by
 cases x with
 |nil=>exact absurd rfl a
 |cons z x=>rfl
theorem ze6:∀(a r:jE),spl2 (a++13::10::r)=spl2 a++spl2 r
 | [],r=>zoc r
 | [b],r=>by
  show spl2 (b::13::10::r)=_
  have e:spl2 (b::13::10::r)=znB b (spl2 (13::10::r)):=by
   conv=>lhs;unfold spl2
   exact Qf (λh=>absurd h.2 (by decide))
  rw[e,zoc]
  rfl
 |b::c::a,r=>by
  show spl2 (b::c::(a++13::10::r))=_
  rw[spl2,spl2]
  split
  ·rw[ze6 a r];rfl
  ·have ih:=ze6 (c::a) r
   rw[List.cons_append]at ih;rw[ih,zlu b (zkt _)]
theorem zhb:∀(l:jE),(spl2 l).length<=l.length+1
 | []=>by simp[spl2]
 | [b]=>by simp[spl2]
 |b::c::l=>by
  rw[spl2]
  split
  ·have:=zhb l
   simp only[Qq];omega
  ·have h:=zhb (c::l)
   cases a:spl2 (c::l)with
   |nil=>exact absurd a (zkt _)
   |cons x r=>rw[a]at h;simp only[znB,Qq]at h ⊢;omega
theorem zf9:∀(l:jE),∀x∈spl2 l,x.length<=l.length
 | [],x,h=>by simp[spl2]at h;subst h;simp
 | [b],x,h=>by simp[spl2]at h;subst h;simp
 |b::c::l,x,h=>by
  rw[spl2]at h
  split at h
  ·rcases QN.1 h with e|e
   ·subst e;simp
   ·have:=zf9 l x e;simp only[Qq];omega
  ·have ih:=zf9 (c::l)
   cases a:spl2 (c::l)with
   |nil=>exact absurd a (zkt _)
   |cons y r=>
    rw[a]at h ih
    rcases QN.1 h with e|e
    ·subst e;have:=ih y (by simp);simp only[Qq]at this ⊢;omega
    ·have:=ih x (by simp[e]);simp only[Qq]at this ⊢;omega
theorem ziG:∀(l:jE),(∀j,j<=l.length->Lib.occAt l [13,10] j=false)->spl2 l=[l]
 | [],_=>rfl
 | [b],_=>rfl
 |b::c::l,h=>by
  have d:=h 0 (Qn _)
  rw[spl2,Qf,ziG (c::l) λj a=>by
   have:=h (j+1) (by simp only[Qq]at a ⊢;omega);exact this]
  ·rfl
  ·rintro⟨rfl,rfl⟩
   simp[Lib.occAt,List.isPrefixOf]at d
theorem zyN:∀(a r:jE),(∀j,j<a.length->Lib.occAt (a++13::10::r) [13,10] j=false)->spl2 (a++13::10::r)=a::spl2 r:=by
 intro a r h;rw[ze6,ziG a]
 ·rfl
 ·intro j d
  by_cases b:j<a.length
  ·have:=h j b
   unfold Lib.occAt at this ⊢;rw[Z0 (by omega)]at this;cases c:a.drop j with
   |nil=>rfl
   |cons x q=>
    rw[c]at this;cases q with
    |nil=>simp[List.isPrefixOf]
    |cons y q=>simpa[List.isPrefixOf]using this
  ·unfold Lib.occAt
   rw[QM (by omega)]
   rfl
theorem zpP:∀(n:Nat) (l:jE),l.length<=n->Lib.splitK [13,10] 0 (Lib.count l [13,10]) l=spl2 l:=by
 intro n
 induction n with
 |zero=>
  intro l h;have:l=[]:=QA (by omega);subst this;rw[Lib.count_miss (by simp[Lib.index])]
  rfl
 |succ n ih=>
  intro l h
  rcases Lib.index_spec l [13,10]with ⟨h1,h2⟩|⟨i,h1,h2,c,k⟩
  ·rw[Lib.count_miss h1,ziG l h2]
   rfl
  ·rw[Lib.count_hit (by simp) h1,Nat.add_comm,Lib.splitK,Qf (by rw[h1,Zn];omega),h1]
   unfold Lib.occAt at c;rw[Zg]at c;obtain⟨r,d⟩:=c;have o:((i:Int)).toNat=i:=by omega
   have e:l=l.take i++13::10::r:=by
    have m:(13:UInt8)::10::r=l.drop i:=d;rw[m,Zt]
   have g:(l.take i).length=i:=by rw[QK];omega
   have f:l.drop (i+2)=r:=by
    rw[<-Zw,<-d];rfl
   have b:r.length<=n:=by
    have:=Zm List.length e;simp only[Qb,Qq]at this;omega
   rw[o,XH,show ([13,10]:jE).length=2 from rfl,f,ih r b];have a:∀j,j<(l.take i).length->Lib.occAt (l.take i++13::10::r) [13,10] j=false:=λj q=>by rw[<-e];exact k j (by omega)
   have:=zyN (l.take i) r a;rw[<-e]at this;exact this.symm
theorem zqZ(s:ByteArray):(Lib.splitB ⟨#[13,10]⟩ 0 (Lib.countB s ⟨#[13,10]⟩) s).map (·.data.toList)=spl2 s.data.toList:=by
 rw[Lib.splitB_data];exact zpP _ _ (Qd _)
def zif(b:UInt8):Bool:=!(decide (b.toNat<33)||decide (126<b.toNat))
def zea(l:jE):Bool:=l.all zif
def valB(b:UInt8):Bool:=!(decide (b.toNat<32)&&!(b.toNat==9)||b.toNat==127)
def zeW(l:jE):Bool:=l.all valB&&(zaI l==l)
def zcf(f:zas):Int:=
 if (zec f.1.data.toList&&zeW f.2.data.toList)=false then 4 else if 1000<f.1.size+f.2.size then 5 else 0
def zbk:List zas->Int
 | []=>0
 |f::r=>if zcf f=0 then zbk r else zcf f
structure zbR where
 m:ByteArray
 t:ByteArray
 fs:List zas
def zfi(m t:jE):Bool:=zec m&&decide (m.length<=20)&&!t.isEmpty&&zea t
def zal(h:zbR):Int:=
 if zfi h.m.data.toList h.t.data.toList=false then 4 else if 1000<h.t.size\/30<h.fs.length then 5 else zbk h.fs
def verL:jE:=[72,84,84,80,47,49,46,49]
def zp1(f:zas):jE:=f.1.data.toList++58::32::f.2.data.toList
def zhS(h:zbR):jE:=h.m.data.toList++32::h.t.data.toList++32::verL
def zdn(h:zbR):jE:=zhS h++[13,10]++h.fs.flatMap (λf=>zp1 f++[13,10])++[13,10]
def zes(x:jE):Bool:=!x.isEmpty&&(!x.contains 13&&!x.contains 10)
def endL:jE:=[13,10,13,10]
def zdY(l:jE):Option (List jE):=
 if Lib.hasSuffix l endL=true then (if (spl2 (l.take (l.length-4))).all zes=true then some (spl2 (l.take (l.length-4)))else none)else none
def cutF(x:jE):zas:=(bs (Lib.cut x [58]).1,bs (zaI (Lib.cut x [58]).2.1))
def zlS(x:jE):Bool:=(Lib.cut x [58]).2.2
def zds(d:List jE):Except Int zbR:=
 match splL 32 (d.headD [])with
 | [a,b,c]=>if c=verL then (if d.tail.all zlS=true then (if zal ⟨bs a,bs b,d.tail.map cutF⟩=0 then .ok ⟨bs a,bs b,d.tail.map cutF⟩else .error (zal ⟨bs a,bs b,d.tail.map cutF⟩))else .error 4)else .error 4
 |_=>.error 4
def zbz(l:jE):Except Int zbR:=
 if 4096<l.length then .error 5 else match zdY l with
 |none=>.error 4
 |some a=>zds a
theorem zmd(f:zas):zcf f=0\/zcf f=4\/zcf f=5:=by
 unfold zcf
 split
 ·exact .inr (.inl rfl)
 ·split
  ·exact .inr (.inr rfl)
  ·exact .inl rfl
theorem zfn:∀l:List zas,zbk l=0\/zbk l=4\/zbk l=5
 | []=>.inl rfl
 |f::r=>by
  unfold zbk
  split
  ·exact zfn r
  ·exact zmd f
theorem zlN(h:zbR):zal h=0\/zal h=4\/zal h=5:=by
 unfold zal
 split
 ·exact .inr (.inl rfl)
 ·split
  ·exact .inr (.inr rfl)
  ·exact zfn _
theorem zj4:∀{l:List zas},zbk l=0->∀f∈l,zcf f=0
 | [],_,f,h=>by cases h
 |x::r,h,f,a=>by
  unfold zbk at h
  split at h
  ·rename_i h1
   rcases QN.1 a with e|e
   ·subst e;exact h1
   ·exact zj4 h f e
  ·rename_i h1;exact absurd h h1
structure zh3(h:zbR):Prop where
 tok:zec h.m.data.toList=true
 short:h.m.size<=20
 some_:h.t.data.toList≠[]
 plain:zea h.t.data.toList=true
 line:h.t.size<=1000
 few:h.fs.length<=30
 names:∀f∈h.fs,zec f.1.data.toList=true
 vals:∀f∈h.fs,zeW f.2.data.toList=true
 lens:∀f∈h.fs,f.1.size+f.2.size<=1000
theorem zhu{f:zas}(h:zcf f=0):zec f.1.data.toList=true/\zeW f.2.data.toList=true/\f.1.size+f.2.size<=1000:=by
 unfold zcf at h
 split at h
 ·cases h
 ·rename_i h1
  split at h
  ·cases h
  ·rename_i h2
   rw[Bool.not_eq_false,Q3]at h1;exact⟨h1.1,h1.2,by omega⟩
theorem zhV{h:zbR}(a:zal h=0):zh3 h:=by
 unfold zal at a
 split at a
 ·cases a
 ·rename_i h1
  split at a
  ·cases a
  ·rename_i h2
   unfold zfi at h1;rw[Bool.not_eq_false]at h1;simp only[Q3,QX]at h1;obtain⟨⟨⟨e,i⟩,g⟩,d⟩:=h1;have hl:h.m.data.toList.length=h.m.size:=by simp
   have c:=zj4 a;exact⟨e,by omega,by simpa using g,d,by omega,by omega,λf b=>(zhu (c f b)).1,λf b=>(zhu (c f b)).2.1,λf b=>(zhu (c f b)).2.2⟩
theorem zuJ(a:jE):(a++endL).take ((a++endL).length-4)=a:=by
 rw[Qb,show endL.length=4 from rfl,Nat.add_sub_cancel,List.take_left]
theorem zfC(l:jE):(zaI l).length<=l.length:=by
 unfold zaI zc4;rw[List.length_reverse];refine Ql (XI _).length_le ?_;rw[List.length_reverse];exact(XI _).length_le
theorem zr8{l:jE}(h:4096<l.length):zbz l=.error 5:=by unfold zbz;rw[Qj h]
theorem zpk{l:jE}{h:zbR}(a:zbz l=.ok h):l.length<=4096/\zal h=0/\∃b,zdY l=some b/\zds b=.ok h:=by
 unfold zbz at a
 split at a
 ·cases a
 ·rename_i h1
  split at a
  ·cases a
  ·rename_i b c
   refine⟨by omega,?_,b,c,a⟩;unfold zds at a
   split at a
   ·split at a
    ·split at a
     ·split at a
      ·rename_i d
       cases a;exact d
      ·cases a
     ·cases a
    ·cases a
   ·cases a
theorem zlz{l:jE}{e:Int}(a:zbz l=.error e):e=4\/e=5:=by
 unfold zbz at a
 split at a
 ·cases a;exact .inr rfl
 ·split at a
  ·cases a;exact .inl rfl
  ·unfold zds at a
   split at a
   ·split at a
    ·split at a
     ·split at a
      ·cases a
      ·rename_i b
       cases a;exact(zlN _).resolve_left b
     ·cases a;exact .inl rfl
    ·cases a;exact .inl rfl
   ·cases a;exact .inl rfl
theorem zp5{l:jE}{b:List jE}(h:zdY l=some b):∃a,l=a++endL/\spl2 a=b/\b.all zes=true:=by
 unfold zdY at h
 split at h
 ·rename_i h1
  split at h
  ·rename_i h2
   cases h;obtain⟨a,c⟩:=(by unfold Lib.hasSuffix at h1;rw[List.isSuffixOf_iff_suffix]at h1;exact h1:endL <:+l)
   refine⟨a,c.symm,?_,h2⟩;rw[<-c,zuJ]
  ·cases h
 ·cases h
def zj9(p:UInt8->Bool)(s:ByteArray)(i:Value):Prop:=∃k:Nat,k<=s.size/\i=jA k/\s.data.toList.all p=(s.data.toList.drop k).all p
theorem zq5{p:UInt8->Bool}{s:ByteArray}{k:Nat}(h:s.size<=k):(s.data.toList.drop k).all p=true:=by
 rw[QM (by simpa using h)];rfl
theorem ztf(s:ByteArray)(w:World)(m:s.size<=maxLen):
 Calls prog 113 #[.string s] w λe w'=>e=jC (.bool (zea s.data.toList))/\w'=w:=by
 unfold maxLen at m
 go_in
 go_wp2_with fail
 go_loop [6] (λi=>zj9 zif s i) (λi=>s.size-(intOf i).toNat)
 case atStart=>exact⟨0,Qn _,rfl,rfl⟩
 case round=>
  obtain⟨k,n,rfl,f⟩:=hrel;have b:=hIx f;clear f
  by_cases c:k<s.size
  ·have d:=hIx (zaH s k c)
   have g:=s[k].toNat_lt
   by_cases c1:s[k].toNat<33
   ·have a:Hid (zea s.data.toList=false):=by unfold Hid zea;rw[b.out,d.out,ZM];simp[zif,c1]
    have j:decide ((s[k].toNat:Int)<33)=true:=Qx (by omega);clear c1;go_wp2;go_ret;exact⟨zaQ a.out.symm,rfl⟩
   ·have j:decide ((s[k].toNat:Int)<33)=false:=Qt (by omega)
    by_cases c2:126<s[k].toNat
    ·have a:Hid (zea s.data.toList=false):=by unfold Hid zea;rw[b.out,d.out,ZM];simp[zif,c2]
     have h:decide ((126:Int)<(s[k].toNat:Int))=true:=Qx (by omega);clear c1 c2;go_wp2;go_ret;exact⟨zaQ a.out.symm,rfl⟩
    ·have h:decide ((126:Int)<(s[k].toNat:Int))=false:=Qt (by omega)
     have l:Hid (s.data.toList.all zif=(s.data.toList.drop (k+1)).all zif):=by unfold Hid;rw[b.out,d.out,ZM];simp[zif,c1,c2]
     clear c1 c2;go_wp2_with fail
     go_round
     case rel=>exact⟨k+1,by omega,by go_num,l.out⟩
     case measure=>simp[intOf] <;> omega
  ·have a:Hid (zea s.data.toList=true):=by unfold Hid zea;rw[b.out,zq5 (by omega)]
   obtain rfl:k=s.size:=by omega
   go_wp2;go_ret;exact⟨zaQ a.out.symm,rfl⟩
theorem zsq(s:ByteArray)(w:World)(n:s.size<=maxLen):
 Calls prog 114 #[.string s] w λe w'=>e=jC (.bool (zeW s.data.toList))/\w'=w:=by
 have f:=n;unfold maxLen at n
 go_in
 go_wp2_with fail
 go_loop [7] (λi=>zj9 valB s i) (λi=>s.size-(intOf i).toNat)
 case atStart=>exact⟨0,Qn _,rfl,rfl⟩
 case round=>
  obtain⟨k,u,rfl,m⟩:=hrel;have g:=hIx m;clear m
  by_cases d:k<s.size
  ·have o:=hIx (zaH s k d)
   have q:=s[k].toNat_lt;have b:Hid (valB s[k]=false->zeW s.data.toList=false):=λh=>by unfold zeW;rw[g.out,o.out,ZM,h];rfl
   have a:Hid (valB s[k]=true->s.data.toList.all valB=(s.data.toList.drop (k+1)).all valB):=λh=>by rw[g.out,o.out,ZM,h];rfl
   by_cases c1:s[k].toNat<32
   ·have t:decide ((s[k].toNat:Int)<32)=true:=Qx (by omega)
    by_cases c2:s[k].toNat=9
    ·have r:((s[k].toNat:Int) != 9)=false:=by rw[bne_eq_false_iff_eq];omega
     have l:((s[k].toNat:Int)==127)=false:=by rw[Qc];omega
     have j:=hIx (a.out (by unfold valB;simp[c2]));clear c1 c2;go_wp2_with fail
     go_round
     case rel=>exact⟨k+1,by omega,by go_num,j.out⟩
     case measure=>simp[intOf] <;> omega
    ·have r:((s[k].toNat:Int) != 9)=true:=by rw[Q6];omega
     have c:=hIx (b.out (by unfold valB;simp[c1,c2]));clear c1 c2;go_wp2;go_ret;exact⟨zaQ c.out.symm,rfl⟩
   ·have t:decide ((s[k].toNat:Int)<32)=false:=Qt (by omega)
    by_cases c3:s[k].toNat=127
    ·have l:((s[k].toNat:Int)==127)=true:=by rw[Zn];omega
     have c:=hIx (b.out (by unfold valB;simp[c3]));clear c1 c3;go_wp2;go_ret;exact⟨zaQ c.out.symm,rfl⟩
    ·have l:((s[k].toNat:Int)==127)=false:=by rw[Qc];omega
     have j:=hIx (a.out (by unfold valB;simp[c1,c3]));clear c1 c3;go_wp2_with fail
     go_round
     case rel=>exact⟨k+1,by omega,by go_num,j.out⟩
     case measure=>simp[intOf] <;> omega
  ·have c:Hid (zeW s.data.toList=(zaI s.data.toList==s.data.toList)):=by unfold Hid zeW;rw[g.out,zq5 (by omega)];rfl
   obtain rfl:k=s.size:=by omega
   go_wp2_with (go_at_call 78;refine(zdG _ _ f).mono ?_;rintro e w' ⟨rfl,rfl⟩);go_ret;exact⟨zaQ (by rw[c.out,QU]),rfl⟩
theorem zh1{s:ByteArray}{w:World}(a:s.size<=maxLen){b:Bool}(h:zec s.data.toList=b):Calls prog 112 #[.string s] w λe w'=>e=jC (.bool b)/\w'=w:=by
 rw[<-h];exact ztH s w a
theorem zfu{s:ByteArray}{w:World}(a:s.size<=maxLen){b:Bool}(h:zea s.data.toList=b):Calls prog 113 #[.string s] w λe w'=>e=jC (.bool b)/\w'=w:=by
 rw[<-h];exact ztf s w a
theorem zl6{s:ByteArray}{w:World}(a:s.size<=maxLen){b:Bool}(h:zeW s.data.toList=b):Calls prog 114 #[.string s] w λe w'=>e=jC (.bool b)/\w'=w:=by
 rw[<-h];exact zsq s w a
def zpB(h:zbR)(w:World)(i:Value)(wr:World):Prop:=
 ∃k:Nat,k<=h.fs.length/\i=jA k/\Hid (zbk h.fs=zbk (h.fs.drop k))/\w wr
theorem zm4{f:zas}{r:List zas}(h:zcf f≠0):zbk (f::r)=zcf f:=by rw[zbk,Qf h]
theorem zmE{f:zas}{r:List zas}(h:zcf f=0):zbk (f::r)=zbk r:=by rw[zbk,Qj h]
theorem zeA(h:zbR)(A:Option Addr)(c:Nat)(w:World)(hf:Sl w w.heap.size 2 A h.fs.length (h.fs.flatMap zaJ))(Q:h.m.size<=maxLen)(X:h.t.size<=maxLen)
 (hs:∀f∈h.fs,f.1.size<=maxLen/\f.2.size<=maxLen) (hl:h.fs.length<=4398046511104):
 Calls prog 79 #[.agg #[.string h.m,.string h.t,.slice A h.fs.length c]] w λe w'=>e=jC (jA (zal h))/\w w':=by
 have G:h.m.data.toList.length=h.m.size:=by simp
 have u:∀o,w (w.alloc o):=λo=>(Qi _ _).alloc (Qd _) o
 have g:=hIx u;clear u
 by_cases r:zfi h.m.data.toList h.t.data.toList=false
 ·have s:Hid (zal h=4):=by unfold Hid zal;rw[Qj r]
  cases h1:zec h.m.data.toList with
  |false=>
   have d:=λW=>hIx (zh1 (w:=W) Q h1)
   clear r h1
   go_in
   go_wp2_with (go_at_call 112;refine(d _).out.mono ?_;rintro e w' ⟨rfl,rfl⟩);go_ret;exact⟨zae s.out.symm,g.out _⟩
  |true=>
   have d:=λW=>hIx (zh1 (w:=W) Q h1)
   by_cases h2:20<h.m.size
   ·have V:decide ((20:Int)<(h.m.size:Int))=true:=Qx (by omega)
    clear r h1 h2
    go_in
    go_wp2_with (go_at_call 112;refine(d _).out.mono ?_;rintro e w' ⟨rfl,rfl⟩);go_ret;exact⟨zae s.out.symm,g.out _⟩
   ·have V:decide ((20:Int)<(h.m.size:Int))=false:=Qt (by omega)
    cases z:h.t.data.toList.isEmpty with
    |true=>
     have Z:h.t.toList.isEmpty=true:=by rw[QU];exact z
     clear r h1 h2 z
     go_in
     go_wp2_with (go_at_call 112;refine(d _).out.mono ?_;rintro e w' ⟨rfl,rfl⟩);go_ret;exact⟨zae s.out.symm,g.out _⟩
    |false=>
     have Z:h.t.toList.isEmpty=false:=by rw[QU];exact z
     have F:zea h.t.data.toList=false:=by
      unfold zfi at r;rw[h1,z,G,Qx (by omega:h.m.size<=20)]at r
      simpa using r
     have J:=λW=>hIx (zfu (w:=W) X F)
     clear r h1 h2 z F
     go_in
     go_wp2_with (first|(go_at_call 112;refine(d _).out.mono ?_;rintro e w' ⟨rfl,rfl⟩)|(go_at_call 113;refine(J _).out.mono ?_;rintro e w' ⟨rfl,rfl⟩));go_ret;exact⟨zae s.out.symm,g.out _⟩
 ·rw[Bool.not_eq_false]at r
  have C:=r;unfold zfi at C;simp only[Q3,QX,Bool.not_eq_true',G]at C;obtain⟨⟨⟨h1,h2⟩,z⟩,F⟩:=C;have d:=λW=>hIx (zh1 (w:=W) Q h1)
  have J:=λW=>hIx (zfu (w:=W) X F)
  have V:decide ((20:Int)<(h.m.size:Int))=false:=Qt (by omega);have Z:h.t.toList.isEmpty=false:=by rw[QU];exact z
  have s:Hid (zal h=if 1000<h.t.size\/30<h.fs.length then 5 else zbk h.fs):=by unfold Hid zal;rw[Qf (by rw[r];decide)]
  clear r h1 h2 z F
  by_cases K:1000<h.t.size
  ·have d5:decide ((1000:Int)<(h.t.size:Int))=true:=Qx (by omega)
   have j:Hid (zal h=5):=by unfold Hid;rw[s.out,Qj (.inl K)]
   clear K s
   go_in
   go_wp2_with (first|(go_at_call 112;refine(d _).out.mono ?_;rintro e w' ⟨rfl,rfl⟩)|(go_at_call 113;refine(J _).out.mono ?_;rintro e w' ⟨rfl,rfl⟩));go_ret;exact⟨zae j.out.symm,g.out _⟩
  ·have d5:decide ((1000:Int)<(h.t.size:Int))=false:=Qt (by omega)
   by_cases S:30<h.fs.length
   ·have d6:decide ((30:Int)<(h.fs.length:Int))=true:=Qx (by omega)
    have j:Hid (zal h=5):=by unfold Hid;rw[s.out,Qj (.inr S)]
    clear K S s
    go_in
    go_wp2_with (first|(go_at_call 112;refine(d _).out.mono ?_;rintro e w' ⟨rfl,rfl⟩)|(go_at_call 113;refine(J _).out.mono ?_;rintro e w' ⟨rfl,rfl⟩));go_ret;exact⟨zae j.out.symm,g.out _⟩
   ·have d6:decide ((30:Int)<(h.fs.length:Int))=false:=Qt (by omega)
    have j:Hid (zal h=zbk h.fs):=by unfold Hid;rw[s.out,Qf (by omega)]
    have u:=g.out (.cells #[.string h.m,.string h.t,.slice A h.fs.length c] 51);have h7:h.fs.length<=30:=by omega
    clear K S s
    go_in
    go_wp2_with (first|(go_at_call 112;refine(d _).out.mono ?_;rintro e w' ⟨rfl,rfl⟩)|(go_at_call 113;refine(J _).out.mono ?_;rintro e w' ⟨rfl,rfl⟩))
    go_loopw [41] (λi wr=>zpB h w i wr) (λi _=>h.fs.length-(intOf i).toNat)
    case atStart=>exact⟨0,Qn _,rfl,by unfold Hid;rw[List.drop_zero],u⟩
    case round=>
     obtain⟨k,hk,rfl,U,hb⟩:=hrel;clear u
     by_cases B:k<h.fs.length
     ·have d1:decide ((k:Int)<(h.fs.length:Int))=true:=Qx (by omega)
      have i7:IntKind.i64.wrap ((k:Int)+1)=(k:Int)+1:=Qz _ (by omega);obtain⟨b,h0,rfl,h8,N,P⟩:=zoz (hf.below hb) k B;have D:=hs _ (QC B);have E:Hid (h.fs.drop k=h.fs[k]::h.fs.drop (k+1)):=Zb B;have HB:=hIx hb;have H:w (wr.alloc (.cells #[.string h.fs[k].1,.string h.fs[k].2] 162)):=hb.alloc hb.size _;have l:=hIx H;generalize h.fs[k]=f at *;obtain⟨n,v⟩:=f;dsimp only at N P D l;have O:=D.1;have T:=D.2;unfold maxLen at O T;clear hb hf H hs;have a:Hid (∀e,zcf (n,v)=e->e≠0->zal h=e):=λe h1 h2=>by rw[j.out,U.out,E.out,zm4 (by rw[h1];exact h2),h1]
      cases q:zec n.data.toList with
      |false=>
       have d:=λW=>hIx (zh1 (w:=W) D.1 q)
       have y:=hIx (a.out 4 (by unfold zcf;rw[Qj];dsimp only;rw[q];rfl) (by decide));clear q a;go_wp2_with (first|(go_at_call 112;refine(d _).out.mono ?_;rintro e w' ⟨rfl,rfl⟩));go_ret;exact⟨zae y.out.symm,l.out⟩
      |true=>
       have d:=λW=>hIx (zh1 (w:=W) D.1 q)
       cases x:zeW v.data.toList with
       |false=>
        have I:=λW=>hIx (zl6 (w:=W) D.2 x)
        have y:=hIx (a.out 4 (by unfold zcf;rw[Qj];dsimp only;rw[q,x];rfl) (by decide));clear q x a;go_wp2_with (first|(go_at_call 112;refine(d _).out.mono ?_;rintro e w' ⟨rfl,rfl⟩)|(go_at_call 114;refine(I _).out.mono ?_;rintro e w' ⟨rfl,rfl⟩));go_ret;exact⟨zae y.out.symm,l.out⟩
       |true=>
        have I:=λW=>hIx (zl6 (w:=W) D.2 x)
        by_cases L:1000<n.size
        ·have d3:decide ((1000:Int)<(n.size:Int))=true:=Qx (by omega)
         have y:=hIx (a.out 5 (by unfold zcf;rw[Qf (by dsimp only;rw[q,x];decide),Qj (by dsimp only;omega)]) (by decide));clear q x L a;go_wp2_with (first|(go_at_call 112;refine(d _).out.mono ?_;rintro e w' ⟨rfl,rfl⟩)|(go_at_call 114;refine(I _).out.mono ?_;rintro e w' ⟨rfl,rfl⟩));go_ret;exact⟨zae y.out.symm,l.out⟩
        ·have d3:decide ((1000:Int)<(n.size:Int))=false:=Qt (by omega)
         have i8:IntKind.i64.wrap (1000-(n.size:Int))=1000-(n.size:Int):=Qz _ (by omega)
         by_cases Y:1000<n.size+v.size
         ·have d4:decide ((1000:Int)-(n.size:Int)<(v.size:Int))=true:=Qx (by omega)
          have y:=hIx (a.out 5 (by unfold zcf;rw[Qf (by dsimp only;rw[q,x];decide),Qj (by dsimp only;omega)]) (by decide));clear q x L Y a;go_wp2_with (first|(go_at_call 112;refine(d _).out.mono ?_;rintro e w' ⟨rfl,rfl⟩)|(go_at_call 114;refine(I _).out.mono ?_;rintro e w' ⟨rfl,rfl⟩));go_ret;exact⟨zae y.out.symm,l.out⟩
         ·have d4:decide ((1000:Int)-(n.size:Int)<(v.size:Int))=false:=Qt (by omega)
          have HN:Hid (zbk h.fs=zbk (h.fs.drop (k+1))):=by
           unfold Hid;rw[U.out,E.out,zmE];unfold zcf;rw[Qf (by dsimp only;rw[q,x];decide),Qf (by dsimp only;omega)]
          clear q x L Y a;go_wp2_with (first|(go_at_call 112;refine(d _).out.mono ?_;rintro e w' ⟨rfl,rfl⟩)|(go_at_call 114;refine(I _).out.mono ?_;rintro e w' ⟨rfl,rfl⟩))
          go_roundw
          case rel=>exact⟨k+1,by omega,by go_num,HN,l.out⟩
          case measure=>simp[intOf] <;> omega
     ·obtain rfl:k=h.fs.length:=by omega
      have d1:decide ((h.fs.length:Int)<(h.fs.length:Int))=false:=by simp
      have y:Hid (zal h=0):=by unfold Hid;rw[j.out,U.out,List.drop_length];rfl
      go_wp2;go_ret;exact⟨zae y.out.symm,hb⟩
