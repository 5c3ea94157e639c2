/- Lemmas for the last texts. -/
import Derived.Test.YtnnokglddolglaaGreatDoorM28
import Derived.Test.YtnnokglddolglaaGreatDoorM30
set_option maxHeartbeats 3200000
set_option maxRecDepth 100000
namespace Go.Proofs.YtnnokglddolglaaGreatDoor
open Go.RowKit Go.Proofs.Tryz
def ctB:ByteArray:=ByteArray.mk #[99,111,110,116,101,110,116,45,116,121,112,101]
def ckB:ByteArray:=ByteArray.mk #[99,111,111,107,105,101]
def ufL:List UInt8:=[97,112,112,108,105,99,97,116,105,111,110,47,120,45,119,119,119,45,102,111,114,109,45,117,114,108,101,110,99,111,100,101,100]
def minP(most:Nat):Int:=if (20:Int)<(most:Int)then 20 else most
def zsq(v b:List UInt8)(most:Nat):Int × List Pair:=
 if zav (zaF (Lib.cut v [59]).1)=ufL then (if most<(zcU b).length then (2,[])else (0,zcU b))
 else if (bdyR v).2=false then (0,[])
 else (if (zbs b (bdyR v).1 (minP most)).1≠0/\(zbs b (bdyR v).1 (minP most)).1≠2 then 4 else (zbs b (bdyR v).1 (minP most)).1,(zbs b (bdyR v).1 (minP most)).2.map zhg)
def zfj(a:List zao)(b:ByteArray)(most:Nat):Int × List Pair:=
 match getL a ctB with
 | []=>(0,[])
 |v::_=>zsq v.data.toList b.data.toList most
def ofP(t:ByteArray)(a:List zao)(b:ByteArray)(most:Nat):Int × List Pair × List Pair:=
 let f:=zcU (Lib.cut t.data.toList [63]).2.1
 if most<f.length then (2,[],[])
 else if (zfj a b (most-f.length)).1≠0 then ((zfj a b (most-f.length)).1,[],[])
 else if most<(zcf (getL a ckB)).length then (2,[],[])
 else (0,f++(zfj a b (most-f.length)).2,zcf (getL a ckB))
theorem zh5{b:List UInt8}(most:Int)(N:Nat)(a:most<=N):∀(f:Nat) (s:List UInt8) (out:List zhE),out.length<=N->(zg2 f s b most out).2.length<=N
 |0,_,_,_=>Qm _
 |f+1,s,out,c=>by
  rw[zg2]
  split
  ·exact c
  split
  ·exact Qm _
  split
  ·exact Qm _
  split
  ·exact Qm _
  ·exact zh5 most N a f _ _ (by rw[Qa,QG];omega)
theorem zop(s b:List UInt8)(most:Int)(N:Nat)(a:most<=N):(zbs s b most).2.length<=N:=by
 unfold zbs
 split
 ·exact Qm _
 split
 ·exact Qm _
 split
 ·exact Qm _
 ·exact zh5 most N a _ _ _ (Qm _)
theorem ztl(v b:List UInt8)(most:Nat):(zsq v b most).2.length<=most+20:=by
 unfold zsq
 split
 ·split
  ·exact Qm _
  ·show (zcU b).length<=_;omega
 split
 ·exact Qm _
 ·show ((zbs b (bdyR v).1 (minP most)).2.map zhg).length<=_
  rw[Qh];have:=zop b (bdyR v).1 (minP most) 20 (by unfold minP;split <;> omega);omega
theorem zl4(a:List zao)(b:ByteArray)(most:Nat):(zfj a b most).2.length<=most+20:=by
 unfold zfj
 split
 ·exact Qm _
 ·exact ztl _ _ _
theorem zAb{v:List UInt8}(h:(bdyR v).2=true):zbX (bdyR v).1=true:=by
 unfold bdyR at h ⊢
 split at h
 ·cases h
 ·rename_i c1
  split at h
  ·cases h
  ·rename_i c2
   rw[Qe c1,Qe c2];dsimp only;cases a:zbX (unqR (za7 (zaF (Lib.cut v [59]).2.1) bdL).1)with
   |true=>rfl
   |false=>exact absurd a c2
def zb4(F:Int × List Pair)(w:World)(e:Ending)(w':World):Prop:=
 ∃v,e=.returned (.tuple #[v,.int .i64 F.1])/\OwnA w' w.heap.size v F.2/\Below w.heap.size w w'
def zlM(m t b:ByteArray)(a:List zao)(A:Option Addr)(c:Nat)(w d:World):Prop:=
 ∀W,Below (w.heap.size+1) d W->(W.cell? ⟨w.heap.size,0,none⟩=some (.string m)/\W.cell? ⟨w.heap.size,1,none⟩=some (.string t)/\W.cell? ⟨w.heap.size,2,none⟩=some (.slice A a.length c)/\W.cell? ⟨w.heap.size,3,none⟩=some (.string b))/\Below w.heap.size w W/\Sl W W.heap.size 2 A a.length (a.flatMap zaL)/\LibOk W
theorem zl2{v:Value}{base n:Nat}{V:ByteArray}{r:List ByteArray}{W:World}(m:(V::r).length=n)(h:OwnS W base v (V::r)):∃g i,v=.slice (some ⟨g,0,none⟩) n i/\g<W.heap.size/\∀W',Below W.heap.size W W'->W'.cell? ⟨g,0,none⟩=some (.string V):=by
 obtain⟨q,c1,e,b⟩:=h.form;obtain⟨g,c,f,d,k⟩:=b.src (by simp)
 have o:c=0:=by
  rcases h.2 with j|⟨s,cap,l,h1,_⟩
  ·cases j.2
  ·rw[e,f]at h1
   injection h1 with h1 _ _
   injection h1 with h1
   injection h1
 subst o;subst f
 have a:=k 0 (by simp);refine⟨g,c1,by rw[e,m],d,λW' hb=>?_⟩;rw[hb.cell (p:=⟨g,0,none⟩) d]
 simpa using a
theorem zv5(m t b:ByteArray)(h:List zao)(A:Option Addr)(c:Nat)(most:Nat)(w a:World)(g:Hid (zlM m t b h A c w a))(j:Hid (w.alloc (.cells #[.string m,.string t,.slice A h.length c,.string b] 29)=a))(i:w.heap.size+1<=a.heap.size)(f:Hid (Calls prog 52 #[.agg #[.string m,.string t,.slice A h.length c],.string ctB] a (zgz [] a))):
 Calls prog 50 #[.agg #[.string m,.string t,.slice A h.length c,.string b],.int .i64 (most:Int)] w (zb4 (0,[]) w):=by
 obtain⟨F,n⟩:∃F:Int × List Pair,Hid (F=(0,[])):=⟨_,rfl⟩
 rw[<-n.out];have ⟨⟨s,p,x,q⟩,_⟩:=g.out a (Qg _ _)
 go_in
 go_upto_region 1 with fail
 rw[j.out];go_wp2_with (go_at_call 52;apply Hid.out);refine WhM f ?_;rintro e l ⟨u,rfl,d,k⟩;obtain⟨r,c1,rfl,_⟩:=d.form;have o:Hid (zb4 F w (.returned (.tuple #[.slice none 0 0,.int .i64 0])) l):=by rw[n.out];exact⟨_,rfl,OwnA.nil _ _,(g.out l (k.mono i)).2.1⟩
 clear d;go_wp2;exact Qj (v:=.tuple #[.slice none 0 0,.int .i64 0]) (by simp[results,results50,go_sem]) rfl o.out
theorem ztX(m t b:ByteArray)(C:List zao)(A:Option Addr)(c:Nat)(most:Nat)(w l:World)(k:Hid (zlM m t b C A c w l))(H:Hid (w.alloc (.cells #[.string m,.string t,.slice A C.length c,.string b] 29)=l))(h:w.heap.size+1<=l.heap.size)(V:ByteArray)(r:List ByteArray)(n:Nat)(hn:(V::r).length=n)(h4:0<n)(y:Hid (Calls prog 52 #[.agg #[.string m,.string t,.slice A C.length c],.string ctB] l (zgz (V::r) l)))(U T Q cb:ByteArray)(Z:Bool)
 (z:Hid (∀W,LibOk W->Calls prog 78 #[.string V,.string (.mk #[59])] W λe w'=>e=.returned (.tuple #[.string U,.string cb,.bool Z])/\Below W.heap.size W w')) (I:Hid (∀W,Calls prog 80 #[.string U] W λe w'=>e=.returned (.string T)/\w'=W)) (J:Hid (∀W,Calls prog 64 #[.string T] W (zbN Q W)))
 (h0:(Q.toList==[97,112,112,108,105,99,97,116,105,111,110,47,120,45,119,119,119,45,102,111,114,109,45,117,114,108,101,110,99,111,100,101,100])=true)
 (K:Hid (∀W,LibOk W->Calls prog 48 #[.string b,.int .i64 (most:Int)] W (zet most b.data.toList W))):
 Calls prog 50 #[.agg #[.string m,.string t,.slice A C.length c,.string b],.int .i64 (most:Int)] w (zb4 (if most<(zcU b.data.toList).length then (2,[])else (0,zcU b.data.toList)) w):=by
 obtain⟨F,G⟩:∃F:Int × List Pair,Hid (F=(if most<(zcU b.data.toList).length then (2,[])else (0,zcU b.data.toList))):=⟨_,rfl⟩
 rw[<-G.out];have ⟨⟨b0,Y,b2,b3⟩,_⟩:=k.out l (Qg _ _)
 go_in
 go_upto_region 1 with fail
 rw[H.out];go_wp2_with (go_at_call 52;apply Hid.out);refine WhM y ?_;rintro e D ⟨v1,rfl,p,f⟩;obtain⟨g1,c1,rfl,h3,d⟩:=zl2 hn p;have x0:=d D (Qg _ _);have f:=f.mono h;have o:=(k.out D f).2.2.2;have N:=hIx (z.out D o);clear p d;go_wp2_with (go_at_call 78;apply Hid.out);refine WhM N ?_;rintro e w2 ⟨rfl,g⟩;have g:=f.trans (g.mono (Qn h f.size));go_wp2_with fail;refine(I.out w2).mono ?_;rintro e w3 ⟨rfl,s⟩;rw[s];clear s;go_wp2_with fail;refine(J.out w2).mono ?_;rintro e P ⟨rfl,j⟩;have j:=g.trans (j.mono (Qn h g.size));have ⟨⟨_,_,_,d3⟩,a,_,x⟩:=k.out P j;have L:=hIx (K.out P x);clear b0 Y b2 b3;go_wp2_with (go_at_call 48;apply Hid.out);refine WhM L ?_;rintro e X E
 rcases E with ⟨B,S,rfl,q,i⟩|⟨u,rfl,i⟩
 ·have O:Hid (zb4 F w (.returned (.tuple #[S,.int .i64 0])) X):=by
   rw[G.out,Qe (by simpa using B)];exact⟨_,rfl,q.low a.size,a.trans (i.mono a.size)⟩
  clear q B;go_wp2;exact Qj (v:=.tuple #[S,.int .i64 0]) (by simp[results,results50,go_sem]) rfl O.out
 ·have O:Hid (zb4 F w (.returned (.tuple #[.slice none 0 0,.int .i64 2])) X):=by
   rw[G.out,Qi (by simpa using u)];exact⟨_,rfl,OwnA.nil _ _,a.trans (i.mono a.size)⟩
  clear u;go_wp2;exact Qj (v:=.tuple #[.slice none 0 0,.int .i64 2]) (by simp[results,results50,go_sem]) rfl O.out
theorem zt0(m t b:ByteArray)(X:List zao)(A:Option Addr)(c:Nat)(most:Nat)(w u:World)(j:Hid (zlM m t b X A c w u))(h8:Hid (w.alloc (.cells #[.string m,.string t,.slice A X.length c,.string b] 29)=u))(h:w.heap.size+1<=u.heap.size)(V:ByteArray)(r:List ByteArray)(n:Nat)(hn:(V::r).length=n)(hd:0<n)(O:Hid (Calls prog 52 #[.agg #[.string m,.string t,.slice A X.length c],.string ctB] u (zgz (V::r) u)))(T0 T1 Q cb:ByteArray)(cc:Bool)
 (J:Hid (∀W,LibOk W->Calls prog 78 #[.string V,.string (.mk #[59])] W λe w'=>e=.returned (.tuple #[.string T0,.string cb,.bool cc])/\Below W.heap.size W w')) (h7:Hid (∀W,Calls prog 80 #[.string T0] W λe w'=>e=.returned (.string T1)/\w'=W)) (h3:Hid (∀W,Calls prog 64 #[.string T1] W (zbN Q W)))
 (ha:(Q.toList==[97,112,112,108,105,99,97,116,105,111,110,47,120,45,119,119,119,45,102,111,114,109,45,117,114,108,101,110,99,111,100,101,100])=false)
 (d:List UInt8) (y:Bool) (hb:b.size<=4194304) (h5:y=true->d.length<=70)
 (h0:Hid (∀W,LibOk W->Calls prog 81 #[.string V] W λe w'=>e=.returned (.tuple #[.string (bs d),.bool y])/\Below W.heap.size W w')):
 Calls prog 50 #[.agg #[.string m,.string t,.slice A X.length c,.string b],.int .i64 (most:Int)] w (zb4 (if y=false then (0,[])else (if (zbs b.data.toList d (minP most)).1≠0/\(zbs b.data.toList d (minP most)).1≠2 then 4 else (zbs b.data.toList d (minP most)).1,(zbs b.data.toList d (minP most)).2.map zhg)) w):=by
 obtain⟨F,z⟩:∃F:Int × List Pair,Hid (F=(if y=false then (0,[])else (if (zbs b.data.toList d (minP most)).1≠0/\(zbs b.data.toList d (minP most)).1≠2 then 4 else (zbs b.data.toList d (minP most)).1,(zbs b.data.toList d (minP most)).2.map zhg))):=⟨_,rfl⟩
 rw[<-z.out];have ⟨⟨b0,b1,b2,b3⟩,_⟩:=j.out u (Qg _ _)
 go_in
 go_upto_region 1 with fail
 rw[h8.out];go_wp2_with (go_at_call 52;apply Hid.out);refine WhM O ?_;rintro e w1 ⟨v1,rfl,G,S⟩;obtain⟨g1,c1,rfl,hc,a⟩:=zl2 hn G;have x0:=a w1 (Qg _ _);have f:=S.mono h;have L:=(j.out w1 f).2.2.2;have h4:=hIx (J.out w1 L);have o:=hIx a;clear G a S;go_wp2_with (go_at_call 78;apply Hid.out);refine WhM h4 ?_;rintro e w2 ⟨rfl,g⟩;have C:=f.trans (g.mono (Qn h f.size));go_wp2_with fail;refine(h7.out w2).mono ?_;rintro e w3 ⟨rfl,H⟩;rw[H];clear H;go_wp2_with fail;refine(h3.out w2).mono ?_;rintro e w4 ⟨rfl,l⟩;have q:=C.trans (l.mono (Qn h C.size));have x4:=o.out w4 (g.trans (l.mono g.size));have I:=(j.out w4 q).2.2.2;have h9:=hIx (h0.out w4 I);clear x0 b0 b1 b2 b3;go_wp2_with (go_at_call 81;apply Hid.out);refine WhM h9 ?_;rintro e T ⟨rfl,p⟩;have p:=q.trans (p.mono (Qn h q.size));have ⟨⟨_,_,_,d3⟩,i,_,k⟩:=j.out T p;clear x4;cases y with
 |false=>
  have s:Hid (zb4 F w (.returned (.tuple #[.slice none 0 0,.int .i64 0])) T):=by
   rw[z.out,Qi rfl];exact⟨_,rfl,OwnA.nil _ _,i⟩
  go_wp2;exact Qj (v:=.tuple #[.slice none 0 0,.int .i64 0]) (by simp[results,results50,go_sem]) rfl s.out
 |true=>
  have K:=h5 rfl
  have P:Hid (∀M,M=minP most->Calls prog 82 #[.string b,.string (bs d),.int .i64 M] T (zfH (zbs b.data.toList d (minP most)) T)):=λM hM=>by
   subst hM;have:=zrs b (bs d) (minP most) T (by unfold maxLen;omega) (by rw[zaj];unfold maxLen;omega) k;rw[zae]at this;exact this
  rw[Qe (by decide)]at z;generalize zbs b.data.toList d (minP most)=Z at *;generalize bs d=BB at *;clear k K;go_wp2_with (go_at_call 82;(with_reducible refine(P.out _ ?_).mono ?_))
  ·show (_:Int)=minP most
   unfold minP
   first|rfl|(split <;> simp_all <;> omega)|(simp;omega)
  clear P;rintro e w6 ⟨U,rfl,N,h6⟩
  have s:Hid (∀E,E=(if Z.1≠0/\Z.1≠2 then 4 else Z.1)->zb4 F w (.returned (.tuple #[U,.int .i64 E])) w6):=λE hE=>by
   rw[z.out];exact⟨_,by rw[hE],N.low i.size,i.trans (h6.mono i.size)⟩
  clear N z;obtain⟨B,P2⟩:=Z;dsimp only at s
  by_cases x:B=0
  ·have n0:(B != 0)=false:=bne_eq_false_iff_eq.2 x
   have D:=hIx (s.out 0 (by rw[x,Qe (by decide)]));subst x;go_wp2;exact Qj (v:=.tuple #[U,.int .i64 0]) (by simp[results,results50,go_sem]) rfl D.out
  ·have n0:(B != 0)=true:=Q6.2 x
   by_cases Y:B=2
   ·have D:=hIx (s.out 2 (by rw[Y,Qe (by decide)]))
    subst Y;go_wp2;exact Qj (v:=.tuple #[U,.int .i64 2]) (by simp[results,results50,go_sem]) rfl D.out
   ·have n2:(B != 2)=true:=Q6.2 Y
    have D:=hIx (s.out 4 (by rw[Qi ⟨x,Y⟩]));clear s;go_wp2;exact Qj (v:=.tuple #[U,.int .i64 4]) (by simp[results,results50,go_sem]) rfl D.out
theorem zwF(m t b:ByteArray)(a:List zao)(A:Option Addr)(c:Nat)(most:Nat)(w:World)(n:Sl w w.heap.size 2 A a.length (a.flatMap zaL))(y:∀f∈a,f.1.size<=maxLen/\f.2.size<=4194304)(hl:a.length<=4194304)(hb:b.size<=4194304)(l:LibOk w):
 Calls prog 50 #[.agg #[.string m,.string t,.slice A a.length c,.string b],.int .i64 (most:Int)] w (zb4 (zfj a b most) w):=by
 have i:Hid (zlM m t b a A c w (w.alloc (.cells #[.string m,.string t,.slice A a.length c,.string b] 29))):=λW hb=>by
  obtain⟨h1,h2⟩:=zbH hb;exact⟨⟨h1 0,h1 1,h1 2,h1 3⟩,h2,(n.below h2).more h2.size,l.below h2⟩
 have k:w.heap.size+1<=(w.alloc (.cells #[.string m,.string t,.slice A a.length c,.string b] 29)).heap.size:=by simp
 have d:=hIx (zhV m t A a.length c a ctB _ rfl (i.out _ (Qg _ _)).2.2.1 (λf n=>(y f n).1) (by decide) (by omega))
 have z:∀x∈getL a ctB,x.size<=4194304:=λx F=>by
  obtain⟨f,n,rfl⟩:=QO.1 F;exact(y f (ZB.1 n).1).2
 have C:zfj a b most=match getL a ctB with | []=>(0,[])|v::_=>zsq v.data.toList b.data.toList most:=rfl
 rw[C];cases q:getL a ctB with
 |nil=>
  rw[q]at d;exact zv5 m t b a A c most w _ i rfl k d
 |cons V r=>
  rw[q]at d z;have G:=z V Q7;have H:=zcQ V.data.toList [59];have E:V.data.toList.length=V.size:=by simp
  have B:=zhY (Lib.cut V.data.toList [59]).1;have j:Hid (∀W,LibOk W->Calls prog 78 #[.string V,.string (.mk #[59])] W λe w'=>e=.returned (.tuple #[.string (bs (Lib.cut V.data.toList [59]).1),.string (bs (Lib.cut V.data.toList [59]).2.1),.bool (Lib.cut V.data.toList [59]).2.2])/\Below W.heap.size W w'):=λW g=>zh0 V (ByteArray.mk #[59]) W (by omega) g rfl
  have u:Hid (∀W,LibOk W->Calls prog 81 #[.string V] W λe w'=>e=.returned (.tuple #[.string (bs (bdyR V.data.toList).1),.bool (bdyR V.data.toList).2])/\Below W.heap.size W w'):=λW g=>zmz V W (by omega) g
  have o:Hid (∀W,Calls prog 80 #[.string (bs (Lib.cut V.data.toList [59]).1)] W λe w'=>e=.returned (.string (bs (zaF (Lib.cut V.data.toList [59]).1)))/\w'=W):=λW=>by
   have:=zdK (bs (Lib.cut V.data.toList [59]).1) W (by rw[zaj];unfold maxLen;omega);rw[zae]at this;exact this
  have p:Hid (∀W,Calls prog 64 #[.string (bs (zaF (Lib.cut V.data.toList [59]).1))] W (zbN (bs (zav (zaF (Lib.cut V.data.toList [59]).1))) W)):=λW=>by
   have:=zbg (bs (zaF (Lib.cut V.data.toList [59]).1)) W (by rw[zaj];unfold maxLen;omega);rw[zae]at this;exact this
  have D:zsq V.data.toList b.data.toList most=if zav (zaF (Lib.cut V.data.toList [59]).1)=ufL then (if most<(zcU b.data.toList).length then (2,[])else (0,zcU b.data.toList))else if (bdyR V.data.toList).2=false then (0,[])else (if (zbs b.data.toList (bdyR V.data.toList).1 (minP most)).1≠0/\(zbs b.data.toList (bdyR V.data.toList).1 (minP most)).1≠2 then 4 else (zbs b.data.toList (bdyR V.data.toList).1 (minP most)).1,(zbs b.data.toList (bdyR V.data.toList).1 (minP most)).2.map zhg):=rfl;dsimp only;rw[D]
  by_cases s:zav (zaF (Lib.cut V.data.toList [59]).1)=ufL
  ·rw[Qi s]
   exact ztX m t b a A c most w _ i rfl k V r _ rfl (by simp) d _ _ _ _ _ j o p (by rw[zgs,s];rfl) λW g=>zpu b most W g hb
  ·rw[Qe s]
   exact zt0 m t b a A c most w _ i rfl k V r _ rfl (by simp) d _ _ _ _ _ j o p (by rw[zgs];exact Qb.2 s) (bdyR V.data.toList).1 (bdyR V.data.toList).2 hb (λh=>(zid (zAb h)).2) u
def zlL(t:ByteArray)(a:List zao)(b:ByteArray)(most:Nat)(w:World)(e:Ending)(w':World):Prop:=
 ∃v u,e=.returned (.tuple #[v,u,.int .i64 (ofP t a b most).1])/\OwnA w' w.heap.size v (ofP t a b most).2.1/\OwnA w' w.heap.size u (ofP t a b most).2.2/\Below w.heap.size w w'
theorem zy3(m t b:ByteArray)(a:List zao)(A:Option Addr)(c:Nat)(cl:Int)(most:Nat)(w:World)(hf:Sl w w.heap.size 2 A a.length (a.flatMap zaL))(hs:∀f∈a,f.1.size<=maxLen/\f.2.size<=4194304)(hl:a.length<=4194304)(ht:t.size<=4194304)(hb:b.size<=4194304)(hm:most<=4194304)(Q:LibOk w):
 Calls prog 28 #[.agg #[.string m,.string t,.slice A a.length c,.string b],.int .u32 cl,.int .i64 (most:Int)] w (zlL t a b most w):=by
 have h7:∀W,Below (w.heap.size+1) (w.alloc (.cells #[.string m,.string t,.slice A a.length c,.string b] 29)) W->(W.cell? ⟨w.heap.size,0,none⟩=some (.string m)/\W.cell? ⟨w.heap.size,1,none⟩=some (.string t)/\W.cell? ⟨w.heap.size,2,none⟩=some (.slice A a.length c)/\W.cell? ⟨w.heap.size,3,none⟩=some (.string b))/\Below w.heap.size w W/\Sl W W.heap.size 2 A a.length (a.flatMap zaL)/\LibOk W:=λW hb=>by
  obtain⟨h1,h2⟩:=zbH hb;exact⟨⟨h1 0,h1 1,h1 2,h1 3⟩,h2,(hf.below h2).more h2.size,Q.below h2⟩
 have d:=hIx h7;obtain⟨z,L⟩:∃z,w.alloc (.cells #[.string m,.string t,.slice A a.length c,.string b] 29)=z:=⟨_,rfl⟩
 have s:w.heap.size+1<=z.heap.size:=by rw[<-L];simp
 rw[L]at d;have hG:=hIx L
 have hd:(Lib.cut t.data.toList [63]).2.1.length<=4194304:=by
  have h1:=(zcQ t.data.toList [63]).2;have h2:t.data.toList.length=t.size:=by simp
  omega
 have hc:Hid (Calls prog 49 #[.string t] z λe w'=>e=.returned (.string (bs (Lib.cut t.data.toList [63]).2.1))/\Below z.heap.size z w'):=zmW t z (d.out z (Qg _ _)).2.2.2 ht
 have J:Hid (∀W,Below (w.heap.size+1) z W->Calls prog 48 #[.string (bs (Lib.cut t.data.toList [63]).2.1),.int .i64 (most:Int)] W (zet most (Lib.cut t.data.toList [63]).2.1 W)):=λW o=>by
  have:=zpu (bs (Lib.cut t.data.toList [63]).2.1) most W (d.out W o).2.2.2 (by rw[zaj];exact hd);rw[zae]at this;exact this
 have h8:Hid (∀(k:Nat) W,k<=most->Below (w.heap.size+1) z W->Calls prog 50 #[.agg #[.string m,.string t,.slice A a.length c,.string b],.int .i64 (k:Int)] W (zb4 (zfj a b k) W)):=λk W hk o=>
  zwF m t b a A c k W (d.out W o).2.2.1 hs hl hb (d.out W o).2.2.2
 have U:Hid (∀W,Below (w.heap.size+1) z W->Calls prog 52 #[.agg #[.string m,.string t,.slice A a.length c],.string ckB] W (zgz (getL a ckB) W)):=λW o=>
  zhV m t A a.length c a ckB W rfl (d.out W o).2.2.1 (λf hf=>(hs f hf).1) (by decide) (by omega)
 have hv:∀x∈getL a ckB,x.size<=4194304:=λx hx=>by
  obtain⟨f,hf,rfl⟩:=QO.1 hx;exact(hs f (ZB.1 hf).1).2
 have hL:=zfB a ckB
 have O:Hid (∀A1 c1 W,Below (w.heap.size+1) z W->Sl W W.heap.size 1 A1 (getL a ckB).length ((getL a ckB).map Value.string)->Calls prog 51 #[.slice A1 (getL a ckB).length c1,.int .i64 (most:Int)] W (zfL most (getL a ckB) W)):=λA1 c1 W o hn=>
  znS (getL a ckB) A1 c1 most W hn hv (by omega) (by omega) (d.out W o).2.2.2
 have HF:Hid (ofP t a b most=if most<(zcU (Lib.cut t.data.toList [63]).2.1).length then (2,[],[])else if (zfj a b (most-(zcU (Lib.cut t.data.toList [63]).2.1).length)).1≠0 then ((zfj a b (most-(zcU (Lib.cut t.data.toList [63]).2.1).length)).1,[],[])else if most<(zcf (getL a ckB)).length then (2,[],[])else (0,zcU (Lib.cut t.data.toList [63]).2.1++(zfj a b (most-(zcU (Lib.cut t.data.toList [63]).2.1).length)).2,zcf (getL a ckB))):=rfl;have ⟨⟨b0,b1,b2,b3⟩,_⟩:=d.out z (Qg _ _);unfold zlL;unfold zet zp2 at J;unfold zfL at O;have hr:(most:Int).toNat=most:=by omega
 rw[hr]at J O;have hp:=λk=>hIx (zl4 a b k)
 generalize ofP t a b most=R at *;generalize getL a ckB=ts at *;generalize zcf ts=Y at *;generalize (Lib.cut t.data.toList [63]).2.1=QL at *;generalize zcU QL=j at *;generalize bs QL=QB at *;have hP:((0:Int)>(most:Int))=False:=by simp
 have hK:decide ((0:Int)>(most:Int))=false:=by simp
 have C:Hid (∀E W,R=(E,[],[])->Below w.heap.size w W->∃v u,Ending.returned (.tuple #[.slice none 0 0,.slice none 0 0,.int .i64 E])=.returned (.tuple #[v,u,.int .i64 R.1])/\OwnA W w.heap.size v R.2.1/\OwnA W w.heap.size u R.2.2/\Below w.heap.size w W):=λE W h hb=>by
  subst h;exact⟨_,_,rfl,OwnA.nil _ _,OwnA.nil _ _,hb⟩
 clear h7 L hf hs Q hv hd
 go_in
 go_upto_region 2 with fail
 rw[hG.out];go_wp2_with (go_at_call 49;apply Hid.out);refine WhM hc ?_;rintro e w1 ⟨rfl,q⟩;have q:=q.mono s;have h0:=hIx (J.out w1 q);go_wp2_with (go_at_call 48;apply Hid.out);refine WhM h0 ?_;rintro e w2 hA;have V:=Qn s q.size
 rcases hA with ⟨hO,v2,rfl,D,i⟩|⟨G,rfl,i⟩
 rotate_left
 ·have HP:=hIx (C.out 2 w2 (by rw[HF.out,Qi G]) (d.out w2 (q.trans (i.mono V))).2.1)
  clear G;go_wp2;exact Qj (v:=.tuple #[.slice none 0 0,.slice none 0 0,.int .i64 2]) (by simp[results,results28,go_sem]) rfl HP.out
 ·have P:Hid (R=if (zfj a b (most-j.length)).1≠0 then ((zfj a b (most-j.length)).1,[],[])else if most<Y.length then (2,[],[])else (0,j++(zfj a b (most-j.length)).2,Y)):=by unfold Hid;rw[HF.out,Qe (by omega)]
  have i:=q.trans (i.mono V);have hB:=Qn s i.size;have D:=D.low (show w.heap.size+1<=w1.heap.size from V);have r:=hIx (h8.out (most-j.length) w2 (by omega) i);have hw:=(hp (most-j.length)).out;have i5:IntKind.i64.wrap ((most:Int)-(j.length:Int))=((most-j.length:Nat):Int):=by rw[Qx _ (by omega)];omega
  have i6:(most:Int)-(j.length:Int)=((most-j.length:Nat):Int):=by omega
  generalize most-j.length=K at *;generalize zfj a b K=BD at *;obtain⟨BE,BL⟩:=BD;unfold zb4 at r;dsimp only at P r hw;obtain⟨A2,c2,rfl,_⟩:=D.form;have ⟨⟨d0,d1,d2,d3⟩,_⟩:=d.out w2 i;have h9:=hIx D;clear b0 b1 b2 b3 HF D h8 J hc h0;go_wp2_with (go_at_call 50;apply Hid.out);refine WhM r ?_;rintro e w3 ⟨v3,rfl,N,l⟩;have y:=i.trans (l.mono hB);have hi:=Qn s y.size
  by_cases hE:BE=0
  rotate_left
  ·have n0:(BE != 0)=true:=Q6.2 hE
   have HP:=hIx (C.out BE w3 (by rw[P.out,Qi hE]) (d.out w3 y).2.1);clear N hE;go_wp2;exact Qj (v:=.tuple #[.slice none 0 0,.slice none 0 0,.int .i64 BE]) (by simp[results,results28,go_sem]) rfl HP.out
  ·subst hE
   have Z:Hid (R=if most<Y.length then (2,[],[])else (0,j++BL,Y)):=by unfold Hid;rw[P.out,Qe (by decide)]
   have hh:=hIx (U.out w3 y);have ⟨⟨e0,e1,e2,e3⟩,_⟩:=d.out w3 y;obtain⟨A3,c3,rfl,_⟩:=N.form;have hI:=hIx N;clear d0 d1 d2 d3 N P r;go_wp2_with (go_at_call 52;apply Hid.out);refine WhM hh ?_;rintro e w4 ⟨v4,rfl,ha,n⟩;have H:=y.trans (n.mono hi);have he:=Qn s H.size;obtain⟨A4,c4,rfl,S⟩:=ha.form;have h6:=hIx (O.out A4 c4 w4 H S);clear ha S e0 e1 e2 e3;go_wp2_with (go_at_call 51;apply Hid.out);refine WhM h6 ?_;rintro e w5 hD
   rcases hD with ⟨h5,v5,rfl,I,p⟩|⟨G,rfl,p⟩
   rotate_left
   ·have HP:=hIx (C.out 2 w5 (by rw[Z.out,Qi G]) (d.out w5 (H.trans (p.mono he))).2.1)
    clear G;go_wp2;exact Qj (v:=.tuple #[.slice none 0 0,.slice none 0 0,.int .i64 2]) (by simp[results,results28,go_sem]) rfl HP.out
   ·have HR:Hid (R=(0,j++BL,Y)):=by unfold Hid;rw[Z.out,Qe (by omega)]
    have X:=H.trans (p.mono he);have F:=n.trans (p.mono n.size);have B:=l.trans (F.mono l.size);have hy:OwnA w5 (w.heap.size+1) (.slice A2 j.length c2) j:=h9.out.below B;have hu:OwnA w5 w2.heap.size (.slice A3 BL.length c3) BL:=hI.out.below F;have ho:w.heap.size+1<=w5.heap.size:=Qn s X.size;have hJ:=B.size
    have T:Hid (∀g,v5.ownBlock=some g->g<w5.heap.size/\(Value.slice A2 j.length c2).ownBlock≠some g):=λg hg=>by
     have h1:=QK I g hg;refine⟨h1.2,λe=>?_⟩;have h2:=QK h9.out g e;have h3:=l.size;have h4:=n.size;omega
    have hj:=hIx I;have hH:=hIx (d.out w5 X).2.1;obtain⟨A5,c5,rfl,_⟩:=I.form;have hC:w.heap.size<=w4.heap.size:=by omega
    clear I h5 F B n p l X H y i q h6 hh O U Z;go_wp2_with (at_builtin;refine zcA rfl (.tmp 50) (.tmp 51) rfl (w.heap.size+1) w2.heap.size (.slice A2 j.length c2) (.slice A3 BL.length c3) j BL rfl rfl (by exact hy) (by exact hu) (by exact ho) (by omega) ?_;intro v6 w6 hF hz hq hN);refine Qj (v:=.tuple #[v6,.slice A5 Y.length c5,.int .i64 0]) (by simp[results,results28,go_sem]) rfl ⟨v6,.slice A5 Y.length c5,by rw[HR.out],?_,?_,hH.out.trans (hz.mono (Zg _))⟩
    ·rw[HR.out];exact hF.low (Zg _)
    ·rw[HR.out];exact(hj.out.keep λg hg=>hq g (T.out g hg).1 (T.out g hg).2).low hC
noncomputable def runG(r:zd4)(m t b:ByteArray)(a:List zao)(c:Nat)(most:Nat):Int × RunS:=
 if zaZ argC r≠0 then (zaZ argC r,run0)else if (ofP t a b most).1≠0 then ((ofP t a b most).1,run0)
 else (0,runS (λd x=>isR x m t b a c d (ofP t a b most).2.1 (ofP t a b most).2.2) r)
def verV(s:RunS)(a:Value):Value:=.agg #[.int .i64 s.st,.int .i64 s.who,.int .i64 s.sc,a]
def zdf(F:Int × RunS)(w:World)(e:Ending)(w':World):Prop:=
 ∃a,e=.returned (.tuple #[verV F.2 a,.int .i64 F.1])/\OwnG rowZ w' w.heap.size a F.2.mt/\Below w.heap.size w w'
structure Built(B1:Nat)(l:List RuM)(w1:World)(gs:List Nat)(v:Value)(wr:World):Prop where
 len:gs.length<=l.length
 own:OwnG rowP wr B1 v gs
 below:Below B1 w1 wr
 box:∀j (h:j<gs.length) (h2:j<l.length),RBox gs[j] (zh8 l[j]) 0 0 .nilFunc wr
 at1:∀g∈gs,B1<=g/\g<wr.heap.size
 nodup:gs.Nodup
theorem Built.nil{b:Nat}{l:List RuM}{a:World}:Built b l a [] (.slice none 0 0) a:=
 ⟨Qm _,OwnG.nil _ _ _,Qg _ _,λj h=>(by cases h),λg c=>(by cases c),List.nodup_nil⟩
theorem zgo{b:Nat}{a:List Nat}{v:Value}{w:World}{g:Nat}{r:zcq}{d m:Int}{t:Value}(h:OwnG rowP w b v a)(hb:RBox g r d m t w):v.ownBlock≠some g:=zbA h hb (by decide)
theorem Built.push{n:Nat}{l:List RuM}{r:World}{i:List Nat}{v v':Value}{wr w2 w3:World}{g:Nat}(h:Built n l r i v wr)(t:i.length<l.length)(w:n<=wr.heap.size)(A:wr.heap.size<=g)(h2:Below wr.heap.size wr w2)(c:RBox g (zh8 (l[i.length]'t)) 0 0 .nilFunc w2)
 (u:OwnG rowP w3 n v' (i++[g])) (hb:Below n w2 w3) (f:∀k,k<w2.heap.size->v.ownBlock≠some k->w3.heap[k]? = w2.heap[k]?):Built n l r (i++[g]) v' w3:=by
 have d:OwnG rowP w2 n v i:=h.own.below h2;refine⟨by rw[Qa,QG];omega,u,(h.below.trans (h2.mono w)).trans hb,λj y q=>?_,λx p=>?_,?_⟩
 ·rw[Qa,QG]at y
  by_cases s:j<i.length
  ·rw[ZA s]
   have o:=h.box j s q;have m:RBox i[j] (zh8 l[j]) 0 0 .nilFunc w2:=o.keep (h2.block _ o.lt);exact m.keep (f _ m.lt (zgo d m))
  ·have e:j=i.length:=by omega
   subst e;rw[Z3 (Qd _)];simp only[Xh,List.getElem_cons_zero];exact c.keep (f _ c.lt (zgo d c))
 ·rcases QN.1 p with p|p
  ·have:=h.at1 x p
   have:=h2.size;have:=hb.size;omega
  ·rw[QE.1 p]
   have:=c.lt;have:=hb.size;omega
 ·rw[List.nodup_append]
  refine⟨h.nodup,by simp,λa z b hb=>?_⟩;rw[QE.1 hb];have:=(h.at1 a z).2;omega
theorem zfi:∀(a:List Nat) (b:List RuM),a.length=b.length->(a.zip b).map (·.1)=a
 | [],[],_=>rfl
 |x::a,y::b,h=>by rw[List.zip_cons_cons,QX,zfi a b (by simpa using h)]
theorem zhL:∀(a:List Nat) (b:List RuM),a.length=b.length->(a.zip b).map (·.2)=b
 | [],[],_=>rfl
 |x::a,y::b,h=>by rw[List.zip_cons_cons,QX,zhL a b (by simpa using h)]
theorem zlO{a:List Nat}{b:List RuM}{p:RuB}(h:p∈a.zip b):∃j,∃(h1:j<a.length) (h2:j<b.length),p.1=a[j]/\p.2=b[j]:=by
 obtain⟨j,c,e⟩:=List.mem_iff_getElem.1 h;have hl:=List.length_zip (l₁:=a) (l₂:=b);refine⟨j,by omega,by omega,?_,?_⟩
 ·rw[<-e];simp
 ·rw[<-e];simp
theorem zh3{a:zbV}(h:actC a=0):0<=a.n/\a.n<=1000:=by
 unfold actC at h
 split at h
 ·cases h
 ·rename_i b
  have h1:0<=loA a.k:=by unfold loA;split <;> (try split) <;> omega
  have h2:hiA a.k<=1000:=by
   unfold hiA
   split
   ·omega
   split
   ·omega
   split <;> omega
  omega
theorem zy6{a:RuArg}{w g:World}{h u:Nat}{e:List Nat}{v:Value}{w3:World}{q:RunQ}(hl:RuLies w w.heap.size a)(F:zcx a)(s:zaZ argC a.set=0)(o:Built h a.l w3 e v g)(z:e.length=a.l.length)(E:w.heap.size<=u/\u<h)(y:h<=g.heap.size)(D:Below w.heap.size w g)
 (I:∀W,Apart (GU u (e.zip a.l)) w.heap.size g W->ValIn q.m q.t q.b q.fs q.A q.list q.Al q.cook q.Ac W) (C:∀k:Int,0<=k->k<=1000000->zn6 q.t q.fs q.list q.cook q.cl k):zg4 w.heap.size u (e.zip a.l) q g:=by
 have n:=zeg s;have i:=(zec s).2
 have c:∀p∈e.zip a.l,p.2∈a.l/\p.1∈e:=λp d=>by
  obtain⟨j,h1,h2,H,B⟩:=zlO d;rw[H,B];exact⟨Qy h2,Qy h1⟩
 have f:∀p∈e.zip a.l,p.2.r∈a.set.list:=λp d=>QO.2 ⟨p.2,(c p d).1,rfl⟩
 refine⟨by rw[zfi e a.l z];exact o.nodup,λp d=>?_,⟨E.1,by omega⟩,λp d=>?_,λp d=>F.all _ (c p d).1,λp d=>zvL (n.one _ (f p d)),λp d x G=>zh3 ((i _ (f p d)).acts x G),I,C⟩
 ·have:=o.at1 p.1 (c p d).2
  omega
 ·exact(hl.all _ (c p d).1).keep D (Qd _)
theorem zy4{a:RuArg}{w c:World}{g u:Nat}{d:List Nat}{v:Value}{w3:World}{q:RunQ}(i:Built g a.l w3 d v c)(_:d.length=a.l.length)(b:UBox u q.uc run0 (.slice none 0 0) c):RunAt w.heap.size u (d.zip a.l) q c run0 (.slice none 0 0) c:=by
 refine⟨Apart.refl _ _ _,b,OwnG.nil _ _ _,λp f=>.inl ?_⟩;obtain⟨j,h1,h2,h,e⟩:=zlO f;rw[h,e];exact i.box j h1 h2
theorem zy9{a:RuArg}{B:Nat}{m:World}{o u:Nat}{b:List Nat}{A:Option Addr}{c:Nat}{w3:World}(i:Built o a.l w3 b (.slice A b.length c) m)(q:b.length=a.l.length)(y:u<o)(W:World)(h:Apart (GU u (b.zip a.l)) B m W):Sl W W.heap.size 1 A (b.zip a.l).length ((b.zip a.l).map λp=>ptrV p.1):=by
 have h2:=i.own.keep (w':=W) λg d=>h.keep g (i.own.lt g d).2 λt=>by
  rcases t with e|⟨p,s,e⟩
  ·have:=(i.own.lt g d).1;omega
  ·obtain⟨j,h1,h2,k,n⟩:=zlO s
   have:=zgo i.own (i.box j h1 h2);rw[<-k,e]at this;exact this d
 obtain⟨x,w,r,f⟩:=h2.form;injection r with k _ _
 have n:b.flatMap rowP.cells=(b.zip a.l).map λp=>ptrV p.1:=by
  rw[zmC];have:=zfi b a.l q;rw[show (b.zip a.l).map (λp=>ptrV p.1)=((b.zip a.l).map (·.1)).map ptrV by rw[Xu];rfl,this]
 rw[<-k,n]at f;have v:(b.zip a.l).length=b.length:=by rw[List.length_zip];omega
 rw[v];exact f
theorem ztg(a:RuArg)(b:List Nat)(c:b.length=a.l.length):(b.zip a.l).map (λp=>p.2.r)=a.set.list:=by
 rw[show (b.zip a.l).map (λp=>p.2.r)=((b.zip a.l).map (·.2)).map RuM.r by rw[Xu];rfl,zhL b a.l c]
 rfl
