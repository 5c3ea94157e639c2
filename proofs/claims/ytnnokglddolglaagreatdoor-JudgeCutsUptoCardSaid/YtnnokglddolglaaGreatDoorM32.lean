/- Lemmas for the last texts. -/
import Derived.Test.YtnnokglddolglaaGreatDoorM29
import Derived.Test.YtnnokglddolglaaGreatDoorM31
set_option maxHeartbeats 3200000
set_option maxRecDepth 100000
namespace Go.Proofs.YtnnokglddolglaaGreatDoor
open Go.RowKit Go.Proofs.Tryz
theorem zmy(a b:ByteArray)(w:World):(binOp .neq 133 (.agg #[.string a,.string b]) (.agg #[.string a,.string b])).run prog w=.ok (.bool false) w:=by
 rw[run_neq_struct,run_equalIn_agg w 9999 133 _ _ (by kernel_rfl) (by kernel_rfl)];have c:(prog.fieldsOf 133).toList.map (λf=>(f.name,f.type,f.offset))=[("Name",9,0),("Value",9,1)]:=by kernel_rfl
 match hq:(prog.fieldsOf 133).toList with
 | [m,l]=>
  rw[hq]at c;simp only[QW,Zu,XS,Prod.mk.injEq,and_true]at c;obtain⟨⟨j,k,e⟩,h,g,i⟩:=c;have d:prog.plainKey 9=true:=by kernel_rfl
  simp only[Op.eqFields,j,h,k,g,e,i,Xf,Sem.run_ite];rw[Qg (by decide)];rw[run_part_plain w d (xs:=#[.string a,.string b]) (off:=0) (v:=.string a) rfl];simp only[Zx];rw[run_part_plain w d (xs:=#[.string a,.string b]) (off:=0) (v:=.string a) rfl];simp only[Zx];rw[run_equalIn_string w 9998 9 a a underlying9];simp only[Zx,beq_self_eq_true];rw[Qe (by decide)];rw[run_part_plain w d (xs:=#[.string a,.string b]) (off:=1) (v:=.string b) rfl];simp only[Zx];rw[run_part_plain w d (xs:=#[.string a,.string b]) (off:=1) (v:=.string b) rfl];simp only[Zx];rw[run_equalIn_string w 9998 9 b b underlying9];simp
 | []=>rw[hq]at c;cases c
 | [_]=>rw[hq]at c;simp at c
 |_::_::_::_=>rw[hq]at c;simp at c
theorem zq0(l:List zal)(h r:Option Addr)(c1 c2:Nat)(w:World)(h1:Sl w w.heap.size 2 h l.length (l.flatMap zaA))(h2:Sl w w.heap.size 2 r l.length (l.flatMap zaA))(hl:l.length<=4398046511104):
 Calls prog 99 #[.slice h l.length c1,.slice r l.length c2] w λe w'=>e=jC (.bool true)/\w w':=by
 have f:=λa b w=>zmy a b w
 generalize o:l.length=n at *;have u:=hIx o;clear o
 go_in
 go_wp2
 go_loopw [13] (λi wr=>∃k:Nat,k<=n/\i=jA k/\w wr) (λi _=>n-(intOf i).toNat)
 case atStart=>exact⟨0,Qm _,rfl,Qj _ _⟩
 case round=>
  obtain⟨k,B,rfl,hb⟩:=hrel
  by_cases c:k<n
  ·have m:k<l.length:=by rw[u.out];exact c
   obtain⟨b,off,rfl,x,s,y⟩:=zjR (h1.below hb) k m;obtain⟨A,g,rfl,j,v,t⟩:=zjR (h2.below hb) k m;generalize l[k]=X at *;obtain⟨p,q⟩:=X;dsimp only at s y v t;have D:(k:Int)<(n:Int):=by omega
   have z:IntKind.i64.wrap ((k:Int)+1)=(k:Int)+1:=Qx _ (by omega);have C:(0:Int)<=(k:Int):=by omega
   have d:=hIx hb;clear hb;go_wp2_with fail
   go_quiet (fail)
   go_wp2;exact⟨⟨k+1,by omega,rfl,below_drewN d.out nq⟩,by dsimp only[intOf];omega⟩
  ·obtain rfl:k=n:=by omega
   go_wp2;go_ret;exact⟨rfl,hb⟩
def ctB:ByteArray:=ByteArray.mk #[99,111,110,116,101,110,116,45,116,121,112,101]
def ckB:ByteArray:=ByteArray.mk #[99,111,111,107,105,101]
def ufL:jE:=[97,112,112,108,105,99,97,116,105,111,110,47,120,45,119,119,119,45,102,111,114,109,45,117,114,108,101,110,99,111,100,101,100]
def minP(most:Nat):Int:=if (20:Int)<(most:Int)then 20 else most
def zrI(v b:jE)(most:Nat):Int × List Pair:=
 if zay (zaG (Lib.cut v [59]).1)=ufL then (if most<(zcP b).length then (2,[])else (0,zcP b))
 else if (bdyR v).2=false then (0,[])
 else (if (zbn b (bdyR v).1 (minP most)).1≠0/\(zbn b (bdyR v).1 (minP most)).1≠2 then 4 else (zbn b (bdyR v).1 (minP most)).1,(zbn b (bdyR v).1 (minP most)).2.map zgW)
def ze4(a:List zal)(b:ByteArray)(most:Nat):Int × List Pair:=
 match getL a ctB with
 | []=>(0,[])
 |v::_=>zrI v.data.toList b.data.toList most
def ofP(t:ByteArray)(a:List zal)(b:ByteArray)(most:Nat):Int × List Pair × List Pair:=
 let f:=zcP (Lib.cut t.data.toList [63]).2.1
 if most<f.length then (2,[],[])
 else if (ze4 a b (most-f.length)).1≠0 then ((ze4 a b (most-f.length)).1,[],[])
 else if most<(zce (getL a ckB)).length then (2,[],[])
 else (0,f++(ze4 a b (most-f.length)).2,zce (getL a ckB))
theorem zhU{b:jE}(most:Int)(N:Nat)(a:most<=N):∀(f:Nat) (s:jE) (out:List zhm),out.length<=N->(zgL f s b most out).2.length<=N
 |0,_,_,_=>Qm _
 |f+1,s,out,c=>by
  rw[zgL]
  split
  ·exact c
  split
  ·exact Qm _
  split
  ·exact Qm _
  split
  ·exact Qm _
  ·exact zhU most N a f _ _ (by rw[Qa,QC];omega)
theorem znT(s b:jE)(most:Int)(N:Nat)(a:most<=N):(zbn s b most).2.length<=N:=by
 unfold zbn
 split
 ·exact Qm _
 split
 ·exact Qm _
 split
 ·exact Qm _
 ·exact zhU most N a _ _ _ (Qm _)
theorem zsF(v b:jE)(most:Nat):(zrI v b most).2.length<=most+20:=by
 unfold zrI
 split
 ·split
  ·exact Qm _
  ·show (zcP b).length<=_;omega
 split
 ·exact Qm _
 ·show ((zbn b (bdyR v).1 (minP most)).2.map zgW).length<=_
  rw[Qh];have:=znT b (bdyR v).1 (minP most) 20 (by unfold minP;split <;> omega);omega
theorem zly(a:List zal)(b:ByteArray)(most:Nat):(ze4 a b most).2.length<=most+20:=by
 unfold ze4
 split
 ·exact Qm _
 ·exact zsF _ _ _
theorem zzF{v:jE}(h:(bdyR v).2=true):zbT (bdyR v).1=true:=by
 unfold bdyR at h ⊢
 split at h
 ·cases h
 ·rename_i c1
  split at h
  ·cases h
  ·rename_i c2
   rw[Qe c1,Qe c2];dsimp only;cases a:zbT (unqR (za2 (zaG (Lib.cut v [59]).2.1) bdL).1)with
   |true=>rfl
   |false=>exact absurd a c2
def zb1(F:Int × List Pair)(w:World)(e:Ending)(w':World):Prop:=
 ∃v,e=jC (.tuple #[v,jA F.1])/\OwnA w' w.heap.size v F.2/\w w'
def zll(m t b:ByteArray)(a:List zal)(A:Option Addr)(c:Nat)(w d:World):Prop:=
 ∀W,Below (w.heap.size+1) d W->(W.cell? w.heap.size=some (.string m)/\W.cell? ⟨w.heap.size,1,none⟩=some (.string t)/\W.cell? ⟨w.heap.size,2,none⟩=some (.slice A a.length c)/\W.cell? ⟨w.heap.size,3,none⟩=some (.string b))/\w W/\Sl W W.heap.size 2 A a.length (a.flatMap zaA)/\LibOk W
theorem zlx{v:Value}{base n:Nat}{V:ByteArray}{r:List ByteArray}{W:World}(l:(V::r).length=n)(h:OwnS W base v (V::r)):∃g f,v=.slice (some ⟨g,0,none⟩) n f/\g<W.heap.size/\∀W',W W'->W'.cell? ⟨g,0,none⟩=some (.string V):=by
 obtain⟨o,c1,e,b⟩:=h.form;obtain⟨g,off,d,c,j⟩:=b.src (by simp)
 have m:off=0:=by
  rcases h.2 with i|⟨q,cap,k,h1,_⟩
  ·cases i.2
  ·rw[e,d]at h1
   injection h1 with h1 _ _
   injection h1 with h1
   injection h1
 subst m;subst d
 have a:=j 0 (by simp);refine⟨g,c1,by rw[e,l],c,λW' hb=>?_⟩;rw[hb.cell (p:=⟨g,0,none⟩) c]
 simpa using a
theorem zvd(m t b:ByteArray)(h:List zal)(A:Option Addr)(c:Nat)(most:Nat)(w a:World)(g:Hid (zll m t b h A c w a))(j:Hid (w.alloc (.cells #[.string m,.string t,.slice A h.length c,.string b] 29)=a))(i:w.heap.size+1<=a.heap.size)(f:Hid (Calls prog 52 #[.agg #[.string m,.string t,.slice A h.length c],.string ctB] a (zgk [] a))):
 Calls prog 50 #[.agg #[.string m,.string t,.slice A h.length c,.string b],jA (most:Int)] w (zb1 (0,[]) w):=by
 obtain⟨F,n⟩:∃F:Int × List Pair,Hid (F=(0,[])):=⟨_,rfl⟩
 rw[<-n.out];have ⟨⟨s,p,x,q⟩,_⟩:=g.out a (Qj _ _)
 go_in
 go_upto_region 1 with fail
 rw[j.out];go_wp2_with (go_at_call 52;apply Hid.out);refine WhM f ?_;rintro e l ⟨u,rfl,d,k⟩;obtain⟨r,c1,rfl,_⟩:=d.form;have o:Hid (zb1 F w (jC (.tuple #[jD 0 0,jA 0])) l):=by rw[n.out];exact⟨_,rfl,OwnA.nil _ _,(g.out l (k.mono i)).2.1⟩
 clear d;go_wp2;exact Qi (v:=.tuple #[jD 0 0,jA 0]) (by simp[results,results50,go_sem]) rfl o.out
theorem ztf(m t b:ByteArray)(C:List zal)(A:Option Addr)(c:Nat)(most:Nat)(w l:World)(k:Hid (zll m t b C A c w l))(H:Hid (w.alloc (.cells #[.string m,.string t,.slice A C.length c,.string b] 29)=l))(h:w.heap.size+1<=l.heap.size)(V:ByteArray)(r:List ByteArray)(n:Nat)(hn:(V::r).length=n)(h4:0<n)(y:Hid (Calls prog 52 #[.agg #[.string m,.string t,.slice A C.length c],.string ctB] l (zgk (V::r) l)))(U T Q cb:ByteArray)(Z:Bool)
 (z:Hid (∀W,LibOk W->Calls prog 78 #[.string V,.string (.mk #[59])] W λe w'=>e=jC (.tuple #[.string U,.string cb,.bool Z])/\W w')) (I:Hid (∀W,Calls prog 80 #[.string U] W λe w'=>e=jC (.string T)/\w'=W)) (J:Hid (∀W,Calls prog 64 #[.string T] W (zbJ Q W)))
 (h0:(Q.toList==[97,112,112,108,105,99,97,116,105,111,110,47,120,45,119,119,119,45,102,111,114,109,45,117,114,108,101,110,99,111,100,101,100])=true)
 (K:Hid (∀W,LibOk W->Calls prog 48 #[.string b,jA (most:Int)] W (zed most b.data.toList W))):
 Calls prog 50 #[.agg #[.string m,.string t,.slice A C.length c,.string b],jA (most:Int)] w (zb1 (if most<(zcP b.data.toList).length then (2,[])else (0,zcP b.data.toList)) w):=by
 obtain⟨F,G⟩:∃F:Int × List Pair,Hid (F=(if most<(zcP b.data.toList).length then (2,[])else (0,zcP b.data.toList))):=⟨_,rfl⟩
 rw[<-G.out];have ⟨⟨b0,Y,b2,b3⟩,_⟩:=k.out l (Qj _ _)
 go_in
 go_upto_region 1 with fail
 rw[H.out];go_wp2_with (go_at_call 52;apply Hid.out);refine WhM y ?_;rintro e D ⟨v1,rfl,p,f⟩;obtain⟨g1,c1,rfl,h3,d⟩:=zlx hn p;have x0:=d D (Qj _ _);have f:=f.mono h;have o:=(k.out D f).2.2.2;have N:=hIx (z.out D o);clear p d;go_wp2_with (go_at_call 78;apply Hid.out);refine WhM N ?_;rintro e w2 ⟨rfl,g⟩;have g:=f.trans (g.mono (Ql h f.size));go_wp2_with fail;refine(I.out w2).mono ?_;rintro e w3 ⟨rfl,s⟩;rw[s];clear s;go_wp2_with fail;refine(J.out w2).mono ?_;rintro e P ⟨rfl,j⟩;have j:=g.trans (j.mono (Ql h g.size));have ⟨⟨_,_,_,d3⟩,a,_,x⟩:=k.out P j;have L:=hIx (K.out P x);clear b0 Y b2 b3;go_wp2_with (go_at_call 48;apply Hid.out);refine WhM L ?_;rintro e X E
 rcases E with ⟨B,S,rfl,q,i⟩|⟨u,rfl,i⟩
 ·have O:Hid (zb1 F w (jC (.tuple #[S,jA 0])) X):=by
   rw[G.out,Qe (by simpa using B)];exact⟨_,rfl,q.low a.size,a.trans (i.mono a.size)⟩
  clear q B;go_wp2;exact Qi (v:=.tuple #[S,jA 0]) (by simp[results,results50,go_sem]) rfl O.out
 ·have O:Hid (zb1 F w (jC (.tuple #[jD 0 0,jA 2])) X):=by
   rw[G.out,Qg (by simpa using u)];exact⟨_,rfl,OwnA.nil _ _,a.trans (i.mono a.size)⟩
  clear u;go_wp2;exact Qi (v:=.tuple #[jD 0 0,jA 2]) (by simp[results,results50,go_sem]) rfl O.out
theorem zti(m t b:ByteArray)(X:List zal)(A:Option Addr)(c:Nat)(most:Nat)(w u:World)(j:Hid (zll m t b X A c w u))(h8:Hid (w.alloc (.cells #[.string m,.string t,.slice A X.length c,.string b] 29)=u))(h:w.heap.size+1<=u.heap.size)(V:ByteArray)(r:List ByteArray)(n:Nat)(hn:(V::r).length=n)(hd:0<n)(O:Hid (Calls prog 52 #[.agg #[.string m,.string t,.slice A X.length c],.string ctB] u (zgk (V::r) u)))(T0 T1 Q cb:ByteArray)(cc:Bool)
 (J:Hid (∀W,LibOk W->Calls prog 78 #[.string V,.string (.mk #[59])] W λe w'=>e=jC (.tuple #[.string T0,.string cb,.bool cc])/\W w')) (h7:Hid (∀W,Calls prog 80 #[.string T0] W λe w'=>e=jC (.string T1)/\w'=W)) (h3:Hid (∀W,Calls prog 64 #[.string T1] W (zbJ Q W)))
 (ha:(Q.toList==[97,112,112,108,105,99,97,116,105,111,110,47,120,45,119,119,119,45,102,111,114,109,45,117,114,108,101,110,99,111,100,101,100])=false)
 (d:jE) (y:Bool) (hb:b.size<=4194304) (h5:y=true->d.length<=70)
 (h0:Hid (∀W,LibOk W->Calls prog 81 #[.string V] W λe w'=>e=jC (.tuple #[.string (bs d),.bool y])/\W w')):
 Calls prog 50 #[.agg #[.string m,.string t,.slice A X.length c,.string b],jA (most:Int)] w (zb1 (if y=false then (0,[])else (if (zbn b.data.toList d (minP most)).1≠0/\(zbn b.data.toList d (minP most)).1≠2 then 4 else (zbn b.data.toList d (minP most)).1,(zbn b.data.toList d (minP most)).2.map zgW)) w):=by
 obtain⟨F,z⟩:∃F:Int × List Pair,Hid (F=(if y=false then (0,[])else (if (zbn b.data.toList d (minP most)).1≠0/\(zbn b.data.toList d (minP most)).1≠2 then 4 else (zbn b.data.toList d (minP most)).1,(zbn b.data.toList d (minP most)).2.map zgW))):=⟨_,rfl⟩
 rw[<-z.out];have ⟨⟨b0,b1,b2,b3⟩,_⟩:=j.out u (Qj _ _)
 go_in
 go_upto_region 1 with fail
 rw[h8.out];go_wp2_with (go_at_call 52;apply Hid.out);refine WhM O ?_;rintro e w1 ⟨v1,rfl,G,S⟩;obtain⟨g1,c1,rfl,hc,a⟩:=zlx hn G;have x0:=a w1 (Qj _ _);have f:=S.mono h;have L:=(j.out w1 f).2.2.2;have h4:=hIx (J.out w1 L);have o:=hIx a;clear G a S;go_wp2_with (go_at_call 78;apply Hid.out);refine WhM h4 ?_;rintro e w2 ⟨rfl,g⟩;have C:=f.trans (g.mono (Ql h f.size));go_wp2_with fail;refine(h7.out w2).mono ?_;rintro e w3 ⟨rfl,H⟩;rw[H];clear H;go_wp2_with fail;refine(h3.out w2).mono ?_;rintro e w4 ⟨rfl,l⟩;have q:=C.trans (l.mono (Ql h C.size));have x4:=o.out w4 (g.trans (l.mono g.size));have I:=(j.out w4 q).2.2.2;have h9:=hIx (h0.out w4 I);clear x0 b0 b1 b2 b3;go_wp2_with (go_at_call 81;apply Hid.out);refine WhM h9 ?_;rintro e T ⟨rfl,p⟩;have p:=q.trans (p.mono (Ql h q.size));have ⟨⟨_,_,_,d3⟩,i,_,k⟩:=j.out T p;clear x4;cases y with
 |false=>
  have s:Hid (zb1 F w (jC (.tuple #[jD 0 0,jA 0])) T):=by
   rw[z.out,Qg rfl];exact⟨_,rfl,OwnA.nil _ _,i⟩
  go_wp2;exact Qi (v:=.tuple #[jD 0 0,jA 0]) (by simp[results,results50,go_sem]) rfl s.out
 |true=>
  have K:=h5 rfl
  have P:Hid (∀M,M=minP most->Calls prog 82 #[.string b,.string (bs d),jA M] T (zfv (zbn b.data.toList d (minP most)) T)):=λM hM=>by
   subst hM;have:=zqQ b (bs d) (minP most) T (by unfold maxLen;omega) (by rw[zae];unfold maxLen;omega) k;rw[zah]at this;exact this
  rw[Qe (by decide)]at z;generalize zbn b.data.toList d (minP most)=Z at *;generalize bs d=BB at *;clear k K;go_wp2_with (go_at_call 82;(with_reducible refine(P.out _ ?_).mono ?_))
  ·show (_:Int)=minP most
   unfold minP
   first|rfl|(split <;> simp_all <;> omega)|(simp;omega)
  clear P;rintro e w6 ⟨U,rfl,N,h6⟩
  have s:Hid (∀E,E=(if Z.1≠0/\Z.1≠2 then 4 else Z.1)->zb1 F w (jC (.tuple #[U,jA E])) w6):=λE hE=>by
   rw[z.out];exact⟨_,by rw[hE],N.low i.size,i.trans (h6.mono i.size)⟩
  clear N z;obtain⟨B,P2⟩:=Z;dsimp only at s
  by_cases x:B=0
  ·have n0:(B != 0)=false:=bne_eq_false_iff_eq.2 x
   have D:=hIx (s.out 0 (by rw[x,Qe (by decide)]));subst x;go_wp2;exact Qi (v:=.tuple #[U,jA 0]) (by simp[results,results50,go_sem]) rfl D.out
  ·have n0:(B != 0)=true:=Q7.2 x
   by_cases Y:B=2
   ·have D:=hIx (s.out 2 (by rw[Y,Qe (by decide)]))
    subst Y;go_wp2;exact Qi (v:=.tuple #[U,jA 2]) (by simp[results,results50,go_sem]) rfl D.out
   ·have n2:(B != 2)=true:=Q7.2 Y
    have D:=hIx (s.out 4 (by rw[Qg ⟨x,Y⟩]));clear s;go_wp2;exact Qi (v:=.tuple #[U,jA 4]) (by simp[results,results50,go_sem]) rfl D.out
theorem zvS(m t b:ByteArray)(a:List zal)(A:Option Addr)(c:Nat)(most:Nat)(w:World)(n:Sl w w.heap.size 2 A a.length (a.flatMap zaA))(y:∀f∈a,f.1.size<=maxLen/\f.2.size<=4194304)(hl:a.length<=4194304)(hb:b.size<=4194304)(l:LibOk w):
 Calls prog 50 #[.agg #[.string m,.string t,.slice A a.length c,.string b],jA (most:Int)] w (zb1 (ze4 a b most) w):=by
 have i:Hid (zll m t b a A c w (w.alloc (.cells #[.string m,.string t,.slice A a.length c,.string b] 29))):=λW hb=>by
  obtain⟨h1,h2⟩:=zbs hb;exact⟨⟨h1 0,h1 1,h1 2,h1 3⟩,h2,(n.below h2).more h2.size,l.below h2⟩
 have k:w.heap.size+1<=(w.alloc (.cells #[.string m,.string t,.slice A a.length c,.string b] 29)).heap.size:=by simp
 have d:=hIx (zhF m t A a.length c a ctB _ rfl (i.out _ (Qj _ _)).2.2.1 (λf n=>(y f n).1) (by decide) (by omega))
 have z:∀x∈getL a ctB,x.size<=4194304:=λx F=>by
  obtain⟨f,n,rfl⟩:=QR.1 F;exact(y f (ZE.1 n).1).2
 have C:ze4 a b most=match getL a ctB with | []=>(0,[])|v::_=>zrI v.data.toList b.data.toList most:=rfl
 rw[C];cases q:getL a ctB with
 |nil=>
  rw[q]at d;exact zvd m t b a A c most w _ i rfl k d
 |cons V r=>
  rw[q]at d z;have G:=z V Zg;have H:=zcM V.data.toList [59];have E:V.data.toList.length=V.size:=by simp
  have B:=zhL (Lib.cut V.data.toList [59]).1;have j:Hid (∀W,LibOk W->Calls prog 78 #[.string V,.string (.mk #[59])] W λe w'=>e=jC (.tuple #[.string (bs (Lib.cut V.data.toList [59]).1),.string (bs (Lib.cut V.data.toList [59]).2.1),.bool (Lib.cut V.data.toList [59]).2.2])/\W w'):=λW g=>zhN V (ByteArray.mk #[59]) W (by omega) g rfl
  have u:Hid (∀W,LibOk W->Calls prog 81 #[.string V] W λe w'=>e=jC (.tuple #[.string (bs (bdyR V.data.toList).1),.bool (bdyR V.data.toList).2])/\W w'):=λW g=>zl0 V W (by omega) g
  have o:Hid (∀W,Calls prog 80 #[.string (bs (Lib.cut V.data.toList [59]).1)] W λe w'=>e=jC (.string (bs (zaG (Lib.cut V.data.toList [59]).1)))/\w'=W):=λW=>by
   have:=zdE (bs (Lib.cut V.data.toList [59]).1) W (by rw[zae];unfold maxLen;omega);rw[zah]at this;exact this
  have p:Hid (∀W,Calls prog 64 #[.string (bs (zaG (Lib.cut V.data.toList [59]).1))] W (zbJ (bs (zay (zaG (Lib.cut V.data.toList [59]).1))) W)):=λW=>by
   have:=zbd (bs (zaG (Lib.cut V.data.toList [59]).1)) W (by rw[zae];unfold maxLen;omega);rw[zah]at this;exact this
  have D:zrI V.data.toList b.data.toList most=if zay (zaG (Lib.cut V.data.toList [59]).1)=ufL then (if most<(zcP b.data.toList).length then (2,[])else (0,zcP b.data.toList))else if (bdyR V.data.toList).2=false then (0,[])else (if (zbn b.data.toList (bdyR V.data.toList).1 (minP most)).1≠0/\(zbn b.data.toList (bdyR V.data.toList).1 (minP most)).1≠2 then 4 else (zbn b.data.toList (bdyR V.data.toList).1 (minP most)).1,(zbn b.data.toList (bdyR V.data.toList).1 (minP most)).2.map zgW):=rfl;dsimp only;rw[D]
  by_cases s:zay (zaG (Lib.cut V.data.toList [59]).1)=ufL
  ·rw[Qg s]
   exact ztf m t b a A c most w _ i rfl k V r _ rfl (by simp) d _ _ _ _ _ j o p (by rw[zge,s];rfl) λW g=>zoV b most W g hb
  ·rw[Qe s]
   exact zti m t b a A c most w _ i rfl k V r _ rfl (by simp) d _ _ _ _ _ j o p (by rw[zge];exact Qb.2 s) (bdyR V.data.toList).1 (bdyR V.data.toList).2 hb (λh=>(zh1 (zzF h)).2) u
def zlk(t:ByteArray)(a:List zal)(b:ByteArray)(most:Nat)(w:World)(e:Ending)(w':World):Prop:=
 ∃v u,e=jC (.tuple #[v,u,jA (ofP t a b most).1])/\OwnA w' w.heap.size v (ofP t a b most).2.1/\OwnA w' w.heap.size u (ofP t a b most).2.2/\w w'
theorem zyr(m t b:ByteArray)(a:List zal)(A:Option Addr)(c:Nat)(cl:Int)(most:Nat)(w:World)(hf:Sl w w.heap.size 2 A a.length (a.flatMap zaA))(hs:∀f∈a,f.1.size<=maxLen/\f.2.size<=4194304)(hl:a.length<=4194304)(ht:t.size<=4194304)(hb:b.size<=4194304)(hm:most<=4194304)(Q:LibOk w):
 Calls prog 28 #[.agg #[.string m,.string t,.slice A a.length c,.string b],.int .u32 cl,jA (most:Int)] w (zlk t a b most w):=by
 have h7:∀W,Below (w.heap.size+1) (w.alloc (.cells #[.string m,.string t,.slice A a.length c,.string b] 29)) W->(W.cell? w.heap.size=some (.string m)/\W.cell? ⟨w.heap.size,1,none⟩=some (.string t)/\W.cell? ⟨w.heap.size,2,none⟩=some (.slice A a.length c)/\W.cell? ⟨w.heap.size,3,none⟩=some (.string b))/\w W/\Sl W W.heap.size 2 A a.length (a.flatMap zaA)/\LibOk W:=λW hb=>by
  obtain⟨h1,h2⟩:=zbs hb;exact⟨⟨h1 0,h1 1,h1 2,h1 3⟩,h2,(hf.below h2).more h2.size,Q.below h2⟩
 have d:=hIx h7;obtain⟨z,L⟩:∃z,w.alloc (.cells #[.string m,.string t,.slice A a.length c,.string b] 29)=z:=⟨_,rfl⟩
 have s:w.heap.size+1<=z.heap.size:=by rw[<-L];simp
 rw[L]at d;have hG:=hIx L
 have hd:(Lib.cut t.data.toList [63]).2.1.length<=4194304:=by
  have h1:=(zcM t.data.toList [63]).2;have h2:t.data.toList.length=t.size:=by simp
  omega
 have hc:Hid (Calls prog 49 #[.string t] z λe w'=>e=jC (.string (bs (Lib.cut t.data.toList [63]).2.1))/\z w'):=zmm t z (d.out z (Qj _ _)).2.2.2 ht
 have J:Hid (∀W,Below (w.heap.size+1) z W->Calls prog 48 #[.string (bs (Lib.cut t.data.toList [63]).2.1),jA (most:Int)] W (zed most (Lib.cut t.data.toList [63]).2.1 W)):=λW o=>by
  have:=zoV (bs (Lib.cut t.data.toList [63]).2.1) most W (d.out W o).2.2.2 (by rw[zae];exact hd);rw[zah]at this;exact this
 have h8:Hid (∀(k:Nat) W,k<=most->Below (w.heap.size+1) z W->Calls prog 50 #[.agg #[.string m,.string t,.slice A a.length c,.string b],jA (k:Int)] W (zb1 (ze4 a b k) W)):=λk W hk o=>
  zvS m t b a A c k W (d.out W o).2.2.1 hs hl hb (d.out W o).2.2.2
 have U:Hid (∀W,Below (w.heap.size+1) z W->Calls prog 52 #[.agg #[.string m,.string t,.slice A a.length c],.string ckB] W (zgk (getL a ckB) W)):=λW o=>
  zhF m t A a.length c a ckB W rfl (d.out W o).2.2.1 (λf hf=>(hs f hf).1) (by decide) (by omega)
 have hv:∀x∈getL a ckB,x.size<=4194304:=λx hx=>by
  obtain⟨f,hf,rfl⟩:=QR.1 hx;exact(hs f (ZE.1 hf).1).2
 have hL:=zfo a ckB
 have O:Hid (∀A1 c1 W,Below (w.heap.size+1) z W->Sl W W.heap.size 1 A1 (getL a ckB).length ((getL a ckB).map Value.string)->Calls prog 51 #[.slice A1 (getL a ckB).length c1,jA (most:Int)] W (zfx most (getL a ckB) W)):=λA1 c1 W o hn=>
  zni (getL a ckB) A1 c1 most W hn hv (by omega) (by omega) (d.out W o).2.2.2
 have HF:Hid (ofP t a b most=if most<(zcP (Lib.cut t.data.toList [63]).2.1).length then (2,[],[])else if (ze4 a b (most-(zcP (Lib.cut t.data.toList [63]).2.1).length)).1≠0 then ((ze4 a b (most-(zcP (Lib.cut t.data.toList [63]).2.1).length)).1,[],[])else if most<(zce (getL a ckB)).length then (2,[],[])else (0,zcP (Lib.cut t.data.toList [63]).2.1++(ze4 a b (most-(zcP (Lib.cut t.data.toList [63]).2.1).length)).2,zce (getL a ckB))):=rfl;have ⟨⟨b0,b1,b2,b3⟩,_⟩:=d.out z (Qj _ _);unfold zlk;unfold zed zpw at J;unfold zfx at O;have hr:(most:Int).toNat=most:=by omega
 rw[hr]at J O;have hp:=λk=>hIx (zly a b k)
 generalize ofP t a b most=R at *;generalize getL a ckB=ts at *;generalize zce ts=Y at *;generalize (Lib.cut t.data.toList [63]).2.1=QL at *;generalize zcP QL=j at *;generalize bs QL=QB at *;have hP:((0:Int)>(most:Int))=False:=by simp
 have hK:decide ((0:Int)>(most:Int))=false:=by simp
 have C:Hid (∀E W,R=(E,[],[])->w W->∃v u,jC (.tuple #[jD 0 0,jD 0 0,jA E])=jC (.tuple #[v,u,jA R.1])/\OwnA W w.heap.size v R.2.1/\OwnA W w.heap.size u R.2.2/\w W):=λE W h hb=>by
  subst h;exact⟨_,_,rfl,OwnA.nil _ _,OwnA.nil _ _,hb⟩
 clear h7 L hf hs Q hv hd
 go_in
 go_upto_region 2 with fail
 rw[hG.out];go_wp2_with (go_at_call 49;apply Hid.out);refine WhM hc ?_;rintro e w1 ⟨rfl,q⟩;have q:=q.mono s;have h0:=hIx (J.out w1 q);go_wp2_with (go_at_call 48;apply Hid.out);refine WhM h0 ?_;rintro e w2 hA;have V:=Ql s q.size
 rcases hA with ⟨hO,v2,rfl,D,i⟩|⟨G,rfl,i⟩
 rotate_left
 ·have HP:=hIx (C.out 2 w2 (by rw[HF.out,Qg G]) (d.out w2 (q.trans (i.mono V))).2.1)
  clear G;go_wp2;exact Qi (v:=.tuple #[jD 0 0,jD 0 0,jA 2]) (by simp[results,results28,go_sem]) rfl HP.out
 ·have P:Hid (R=if (ze4 a b (most-j.length)).1≠0 then ((ze4 a b (most-j.length)).1,[],[])else if most<Y.length then (2,[],[])else (0,j++(ze4 a b (most-j.length)).2,Y)):=by unfold Hid;rw[HF.out,Qe (by omega)]
  have i:=q.trans (i.mono V);have hB:=Ql s i.size;have D:=D.low (show w.heap.size+1<=w1.heap.size from V);have r:=hIx (h8.out (most-j.length) w2 (by omega) i);have hw:=(hp (most-j.length)).out;have i5:IntKind.i64.wrap ((most:Int)-(j.length:Int))=((most-j.length:Nat):Int):=by rw[Qx _ (by omega)];omega
  have i6:(most:Int)-(j.length:Int)=((most-j.length:Nat):Int):=by omega
  generalize most-j.length=K at *;generalize ze4 a b K=BD at *;obtain⟨BE,BL⟩:=BD;unfold zb1 at r;dsimp only at P r hw;obtain⟨A2,c2,rfl,_⟩:=D.form;have ⟨⟨d0,d1,d2,d3⟩,_⟩:=d.out w2 i;have h9:=hIx D;clear b0 b1 b2 b3 HF D h8 J hc h0;go_wp2_with (go_at_call 50;apply Hid.out);refine WhM r ?_;rintro e w3 ⟨v3,rfl,N,l⟩;have y:=i.trans (l.mono hB);have hi:=Ql s y.size
  by_cases hE:BE=0
  rotate_left
  ·have n0:(BE != 0)=true:=Q7.2 hE
   have HP:=hIx (C.out BE w3 (by rw[P.out,Qg hE]) (d.out w3 y).2.1);clear N hE;go_wp2;exact Qi (v:=.tuple #[jD 0 0,jD 0 0,jA BE]) (by simp[results,results28,go_sem]) rfl HP.out
  ·subst hE
   have Z:Hid (R=if most<Y.length then (2,[],[])else (0,j++BL,Y)):=by unfold Hid;rw[P.out,Qe (by decide)]
   have hh:=hIx (U.out w3 y);have ⟨⟨e0,e1,e2,e3⟩,_⟩:=d.out w3 y;obtain⟨A3,c3,rfl,_⟩:=N.form;have hI:=hIx N;clear d0 d1 d2 d3 N P r;go_wp2_with (go_at_call 52;apply Hid.out);refine WhM hh ?_;rintro e w4 ⟨v4,rfl,ha,n⟩;have H:=y.trans (n.mono hi);have he:=Ql s H.size;obtain⟨A4,c4,rfl,S⟩:=ha.form;have h6:=hIx (O.out A4 c4 w4 H S);clear ha S e0 e1 e2 e3;go_wp2_with (go_at_call 51;apply Hid.out);refine WhM h6 ?_;rintro e w5 hD
   rcases hD with ⟨h5,v5,rfl,I,p⟩|⟨G,rfl,p⟩
   rotate_left
   ·have HP:=hIx (C.out 2 w5 (by rw[Z.out,Qg G]) (d.out w5 (H.trans (p.mono he))).2.1)
    clear G;go_wp2;exact Qi (v:=.tuple #[jD 0 0,jD 0 0,jA 2]) (by simp[results,results28,go_sem]) rfl HP.out
   ·have HR:Hid (R=(0,j++BL,Y)):=by unfold Hid;rw[Z.out,Qe (by omega)]
    have X:=H.trans (p.mono he);have F:=n.trans (p.mono n.size);have B:=l.trans (F.mono l.size);have hy:OwnA w5 (w.heap.size+1) (.slice A2 j.length c2) j:=h9.out.below B;have hu:OwnA w5 w2.heap.size (.slice A3 BL.length c3) BL:=hI.out.below F;have ho:w.heap.size+1<=w5.heap.size:=Ql s X.size;have hJ:=B.size
    have T:Hid (∀g,v5.ownBlock=some g->g<w5.heap.size/\(Value.slice A2 j.length c2).ownBlock≠some g):=λg hg=>by
     have h1:=QK I g hg;refine⟨h1.2,λe=>?_⟩;have h2:=QK h9.out g e;have h3:=l.size;have h4:=n.size;omega
    have hj:=hIx I;have hH:=hIx (d.out w5 X).2.1;obtain⟨A5,c5,rfl,_⟩:=I.form;have hC:w.heap.size<=w4.heap.size:=by omega
    clear I h5 F B n p l X H y i q h6 hh O U Z;go_wp2_with (at_builtin;refine zcx rfl (.tmp 50) (.tmp 51) rfl (w.heap.size+1) w2.heap.size (.slice A2 j.length c2) (.slice A3 BL.length c3) j BL rfl rfl (by exact hy) (by exact hu) (by exact ho) (by omega) ?_;intro v6 w6 hF hz hq hN);refine Qi (v:=.tuple #[v6,.slice A5 Y.length c5,jA 0]) (by simp[results,results28,go_sem]) rfl ⟨v6,.slice A5 Y.length c5,by rw[HR.out],?_,?_,hH.out.trans (hz.mono (Zc _))⟩
    ·rw[HR.out];exact hF.low (Zc _)
    ·rw[HR.out];exact(hj.out.keep λg hg=>hq g (T.out g hg).1 (T.out g hg).2).low hC
noncomputable def runG(r:zeG)(m t b:ByteArray)(a:List zal)(c:Nat)(most:Nat):Int × RunS:=
 if zbf argC r≠0 then (zbf argC r,run0)else if (ofP t a b most).1≠0 then ((ofP t a b most).1,run0)
 else (0,runS (λd x=>isR x m t b a c d (ofP t a b most).2.1 (ofP t a b most).2.2) r)
def verV(s:RunS)(a:Value):Value:=.agg #[jA s.st,jA s.who,jA s.sc,a]
def zg7(F:Int × RunS)(w:World)(e:Ending)(w':World):Prop:=
 ∃a,e=jC (.tuple #[verV F.2 a,jA F.1])/\OwnG rowZ w' w.heap.size a F.2.mt/\w w'
structure Built(B1:Nat)(l:List RuM)(w1:World)(gs:List Nat)(v:Value)(wr:World):Prop where
 len:gs.length<=l.length
 own:OwnG rowP wr B1 v gs
 below:Below B1 w1 wr
 box:∀j (h:j<gs.length) (h2:j<l.length),RBox gs[j] (zhW l[j]) 0 0 .nilFunc wr
 at1:∀g∈gs,B1<=g/\g<wr.heap.size
 nodup:gs.Nodup
theorem Built.nil{b:Nat}{l:List RuM}{a:World}:Built b l a [] (jD 0 0) a:=
 ⟨Qm _,OwnG.nil _ _ _,Qj _ _,λj h=>(by cases h),λg c=>(by cases c),List.nodup_nil⟩
theorem zga{b:Nat}{a:List Nat}{v:Value}{w:World}{g:Nat}{r:zco}{d m:Int}{t:Value}(h:OwnG rowP w b v a)(hb:RBox g r d m t w):v.ownBlock≠some g:=zbx h hb (by decide)
theorem Built.push{n:Nat}{l:List RuM}{r:World}{i:List Nat}{v v':Value}{wr w2 w3:World}{g:Nat}(h:Built n l r i v wr)(t:i.length<l.length)(w:n<=wr.heap.size)(A:wr.heap.size<=g)(h2:wr w2)(c:RBox g (zhW (l[i.length]'t)) 0 0 .nilFunc w2)
 (u:OwnG rowP w3 n v' (i++[g])) (hb:Below n w2 w3) (f:∀k,k<w2.heap.size->v.ownBlock≠some k->w3.heap[k]? = w2.heap[k]?):Built n l r (i++[g]) v' w3:=by
 have d:OwnG rowP w2 n v i:=h.own.below h2;refine⟨by rw[Qa,QC];omega,u,(h.below.trans (h2.mono w)).trans hb,λj y q=>?_,λx p=>?_,?_⟩
 ·rw[Qa,QC]at y
  by_cases s:j<i.length
  ·rw[Zw s]
   have o:=h.box j s q;have m:RBox i[j] (zhW l[j]) 0 0 .nilFunc w2:=o.keep (h2.block _ o.lt);exact m.keep (f _ m.lt (zga d m))
  ·have e:j=i.length:=by omega
   subst e;rw[ZO (Qc _)];simp only[Xg,List.getElem_cons_zero];exact c.keep (f _ c.lt (zga d c))
 ·rcases QO.1 p with p|p
  ·have:=h.at1 x p
   have:=h2.size;have:=hb.size;omega
  ·rw[Qy.1 p]
   have:=c.lt;have:=hb.size;omega
 ·rw[List.nodup_append]
  refine⟨h.nodup,by simp,λa z b hb=>?_⟩;rw[Qy.1 hb];have:=(h.at1 a z).2;omega
theorem ze3:∀(a:List Nat) (b:List RuM),a.length=b.length->(a.zip b).map (·.1)=a
 | [],[],_=>rfl
 |x::a,y::b,h=>by rw[List.zip_cons_cons,QW,ze3 a b (by simpa using h)]
theorem zht:∀(a:List Nat) (b:List RuM),a.length=b.length->(a.zip b).map (·.2)=b
 | [],[],_=>rfl
 |x::a,y::b,h=>by rw[List.zip_cons_cons,QW,zht a b (by simpa using h)]
theorem zln{a:List Nat}{b:List RuM}{p:RuB}(h:p∈a.zip b):∃j,∃(h1:j<a.length) (h2:j<b.length),p.1=a[j]/\p.2=b[j]:=by
 obtain⟨j,c,e⟩:=List.mem_iff_getElem.1 h;have hl:=List.length_zip (l₁:=a) (l₂:=b);refine⟨j,by omega,by omega,?_,?_⟩
 ·rw[<-e];simp
 ·rw[<-e];simp
theorem zhS{a:zcZ}(h:actC a=0):0<=a.n/\a.n<=1000:=by
 unfold actC at h
 split at h
 ·cases h
 ·rename_i b
  have h1:0<=loA a.k:=by unfold loA;split <;> (try split) <;> omega
  have h2:hiA a.k<=1000:=by
   unfold hiA
   split
   ·omega
   split
   ·omega
   split <;> omega
  omega
theorem zyu{a:RuArg}{w g:World}{h u:Nat}{e:List Nat}{v:Value}{w3:World}{q:RunQ}(hl:RuLies w w.heap.size a)(F:zdb a)(s:zbf argC a.set=0)(o:Built h a.l w3 e v g)(z:e.length=a.l.length)(E:w.heap.size<=u/\u<h)(y:h<=g.heap.size)(D:w g)
 (I:∀W,Apart (GU u (e.zip a.l)) w.heap.size g W->ValIn q.m q.t q.b q.fs q.A q.list q.Al q.cook q.Ac W) (C:∀k:Int,0<=k->k<=1000000->znw q.t q.fs q.list q.cook q.cl k):zgN w.heap.size u (e.zip a.l) q g:=by
 have n:=zhu s;have i:=(zfc s).2
 have c:∀p∈e.zip a.l,p.2∈a.l/\p.1∈e:=λp d=>by
  obtain⟨j,h1,h2,H,B⟩:=zln d;rw[H,B];exact⟨Qz h2,Qz h1⟩
 have f:∀p∈e.zip a.l,p.2.r∈a.set.list:=λp d=>QR.2 ⟨p.2,(c p d).1,rfl⟩
 refine⟨by rw[ze3 e a.l z];exact o.nodup,λp d=>?_,⟨E.1,by omega⟩,λp d=>?_,λp d=>F.all _ (c p d).1,λp d=>zuY (n.one _ (f p d)),λp d x G=>zhS ((i _ (f p d)).acts x G),I,C⟩
 ·have:=o.at1 p.1 (c p d).2
  omega
 ·exact(hl.all _ (c p d).1).keep D (Qc _)
theorem zys{a:RuArg}{w c:World}{g u:Nat}{d:List Nat}{v:Value}{w3:World}{q:RunQ}(i:Built g a.l w3 d v c)(_:d.length=a.l.length)(b:UBox u q.uc run0 (jD 0 0) c):RunAt w.heap.size u (d.zip a.l) q c run0 (jD 0 0) c:=by
 refine⟨Apart.refl _ _ _,b,OwnG.nil _ _ _,λp f=>.inl ?_⟩;obtain⟨j,h1,h2,h,e⟩:=zln f;rw[h,e];exact i.box j h1 h2
theorem zyy{a:RuArg}{B:Nat}{m:World}{o u:Nat}{b:List Nat}{A:Option Addr}{c:Nat}{w3:World}(i:Built o a.l w3 b (.slice A b.length c) m)(q:b.length=a.l.length)(y:u<o)(W:World)(h:Apart (GU u (b.zip a.l)) B m W):Sl W W.heap.size 1 A (b.zip a.l).length ((b.zip a.l).map λp=>ptrV p.1):=by
 have h2:=i.own.keep (w':=W) λg d=>h.keep g (i.own.lt g d).2 λt=>by
  rcases t with e|⟨p,s,e⟩
  ·have:=(i.own.lt g d).1;omega
  ·obtain⟨j,h1,h2,k,n⟩:=zln s
   have:=zga i.own (i.box j h1 h2);rw[<-k,e]at this;exact this d
 obtain⟨x,w,r,f⟩:=h2.form;injection r with k _ _
 have n:b.flatMap rowP.cells=(b.zip a.l).map λp=>ptrV p.1:=by
  rw[zl2];have:=ze3 b a.l q;rw[show (b.zip a.l).map (λp=>ptrV p.1)=((b.zip a.l).map (·.1)).map ptrV by rw[Xr];rfl,this]
 rw[<-k,n]at f;have v:(b.zip a.l).length=b.length:=by rw[List.length_zip];omega
 rw[v];exact f
theorem zsz(a:RuArg)(b:List Nat)(c:b.length=a.l.length):(b.zip a.l).map (λp=>p.2.r)=a.set.list:=by
 rw[show (b.zip a.l).map (λp=>p.2.r)=((b.zip a.l).map (·.2)).map RuM.r by rw[Xr];rfl,zht b a.l c]
 rfl
def zjk(b:UInt8):List jE->List jE
 | []=>[[b]]
 |x::r=>(b::x)::r
def spl2:jE->List jE
 | []=>[[]]
 | [b]=>[[b]]
 |b::c::l=>if b=13/\c=10 then []::spl2 l else zjk b (spl2 (c::l))
theorem zwa(b:UInt8)(l:List jE):zjk b l≠[]:=by cases l <;> simp[zjk]
theorem zhx(l:jE):spl2 l≠[]:=by
 match l with
 | []=>simp[spl2]
 | [b]=>simp[spl2]
 |b::c::l=>
  rw[spl2]
  split
  ·simp
  ·exact zwa _ _
theorem zkr(r:jE):spl2 (13::10::r)=[]::spl2 r:=by rw[spl2,Qg ⟨rfl,rfl⟩]
theorem zlD(b:UInt8){x:List jE}(a:x≠[])(y:List jE):zjk b (x++y)=zjk b x++y:=by
 cases x with
 |nil=>exact absurd rfl a
 |cons z x=>rfl
theorem zbP:∀(a r:jE),spl2 (a++13::10::r)=spl2 a++spl2 r
 | [],r=>zkr r
 | [b],r=>by
  show spl2 (b::13::10::r)=_
  have e:spl2 (b::13::10::r)=zjk b (spl2 (13::10::r)):=by
   conv=>lhs;unfold spl2
   exact Qe (λh=>absurd h.2 (by decide))
  rw[e,zkr]
  rfl
 |b::c::a,r=>by
  show spl2 (b::c::(a++13::10::r))=_
  rw[spl2,spl2]
  split
  ·rw[zbP a r];rfl
  ·have ih:=zbP (c::a) r
   rw[ZQ]at ih;rw[ih,zlD b (zhx _)]
theorem zfM:∀(l:jE),(13:UInt8) ∉ l->spl2 l=[l]
 | [],_=>rfl
 | [b],_=>rfl
 |b::c::l,h=>by
  rw[spl2,Qe (λe=>h (by simp[e.1])),zfM (c::l) (λe=>h (by simp only[QI]at e ⊢;exact .inr e))]
  rfl
theorem zg6:∀(l:jE),(spl2 l).length<=l.length+1
 | []=>by simp[spl2]
 | [b]=>by simp[spl2]
 |b::c::l=>by
  rw[spl2]
  split
  ·have:=zg6 l
   simp only[Qn];omega
  ·have h:=zg6 (c::l)
   cases a:spl2 (c::l)with
   |nil=>exact absurd a (zhx _)
   |cons x r=>rw[a]at h;simp only[zjk,Qn]at h ⊢;omega
theorem zf1:∀(l:jE),∀x∈spl2 l,x.length<=l.length
 | [],x,h=>by simp[spl2]at h;subst h;simp
 | [b],x,h=>by simp[spl2]at h;subst h;simp
 |b::c::l,x,h=>by
  rw[spl2]at h
  split at h
  ·rcases QI.1 h with e|e
   ·subst e;simp
   ·have:=zf1 l x e;simp only[Qn];omega
  ·have ih:=zf1 (c::l)
   cases a:spl2 (c::l)with
   |nil=>exact absurd a (zhx _)
   |cons y r=>
    rw[a]at h ih
    rcases QI.1 h with e|e
    ·subst e;have:=ih y (by simp);simp only[Qn]at this ⊢;omega
    ·have:=ih x (by simp[e]);simp only[Qn]at this ⊢;omega
theorem ziF:∀(l:jE),(∀j,j<=l.length->Lib.occAt l [13,10] j=false)->spl2 l=[l]
 | [],_=>rfl
 | [b],_=>rfl
 |b::c::l,h=>by
  have d:=h 0 (Qm _)
  rw[spl2,Qe,ziF (c::l) λj a=>by
   have:=h (j+1) (by simp only[Qn]at a ⊢;omega);exact this]
  ·rfl
  ·rintro⟨rfl,rfl⟩
   simp[Lib.occAt,List.isPrefixOf]at d
theorem zyE:∀(a r:jE),(∀j,j<a.length->Lib.occAt (a++13::10::r) [13,10] j=false)->spl2 (a++13::10::r)=a::spl2 r:=by
 intro a r h;rw[zbP,ziF a]
 ·rfl
 ·intro j d
  by_cases b:j<a.length
  ·have:=h j b
   unfold Lib.occAt at this ⊢;rw[Z3 (by omega)]at this;cases c:a.drop j with
   |nil=>rfl
   |cons x q=>
    rw[c]at this;cases q with
    |nil=>simp[List.isPrefixOf]
    |cons y q=>simpa[List.isPrefixOf]using this
  ·unfold Lib.occAt
   rw[QN (by omega)]
   rfl
theorem zp6:∀(n:Nat) (l:jE),l.length<=n->Lib.splitK [13,10] 0 (Lib.count l [13,10]) l=spl2 l:=by
 intro n
 induction n with
 |zero=>
  intro l h;have:l=[]:=QA (by omega);subst this;rw[Lib.count_miss (by simp[Lib.index])]
  rfl
 |succ n ih=>
  intro l h
  rcases Lib.index_spec l [13,10]with ⟨h1,h2⟩|⟨i,h1,h2,c,k⟩
  ·rw[Lib.count_miss h1,ziF l h2]
   rfl
  ·rw[Lib.count_hit (by simp) h1,Nat.add_comm,Lib.splitK,Qe (by rw[h1,Zo];omega),h1]
   unfold Lib.occAt at c;rw[Zd]at c;obtain⟨r,d⟩:=c;have o:((i:Int)).toNat=i:=by omega
   have e:l=l.take i++13::10::r:=by
    have m:(13:UInt8)::10::r=l.drop i:=d;rw[m,Zp]
   have g:(l.take i).length=i:=by rw[QJ];omega
   have f:l.drop (i+2)=r:=by
    rw[<-Zz,<-d];rfl
   have b:r.length<=n:=by
    have:=Zi List.length e;simp only[Qa,Qn]at this;omega
   rw[o,XI,show ([13,10]:jE).length=2 from rfl,f,ih r b];have a:∀j,j<(l.take i).length->Lib.occAt (l.take i++13::10::r) [13,10] j=false:=λj p=>by rw[<-e];exact k j (by omega)
   have:=zyE (l.take i) r a;rw[<-e]at this;exact this.symm
theorem zq6(s:ByteArray):(Lib.splitB ⟨#[13,10]⟩ 0 (Lib.countB s ⟨#[13,10]⟩) s).map (·.data.toList)=spl2 s.data.toList:=by
 rw[Lib.splitB_data];exact zp6 _ _ (Qc _)
