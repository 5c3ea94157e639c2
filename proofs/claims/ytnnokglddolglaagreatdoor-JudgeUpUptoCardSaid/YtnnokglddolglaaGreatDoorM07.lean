/- Lemmas for the last texts. -/
import Derived.Test.YtnnokglddolglaaGreatDoorM06
import Derived.Laws.Bits64
set_option maxHeartbeats 6400000
set_option maxRecDepth 100000
namespace Go.Proofs.YtnnokglddolglaaGreatDoor
open Go.RowKit Go.Proofs.Tryz
def setA(s:Set4):Value:=.agg #[.int .u64 s.a,.int .u64 s.b,.int .u64 s.c,.int .u64 s.d]
def FourW(w:World)(g:Nat)(s:Set4):Prop:=w.heap[g]? = some (.cells #[.int .u64 s.a,.int .u64 s.b,.int .u64 s.c,.int .u64 s.d] 182 (0,0))
section
variable {w w':World} {g:Nat} {s:Set4}
theorem FourW.cells(h:FourW w g s):w.cell? ⟨g,0,none⟩=some (.int .u64 s.a)/\w.cell? ⟨g,1,none⟩=some (.int .u64 s.b)/\w.cell? ⟨g,2,none⟩=some (.int .u64 s.c)/\w.cell? ⟨g,3,none⟩=some (.int .u64 s.d):=
 ⟨Qf w g 0 _ _ (0,0) h,Qf w g 1 _ _ (0,0) h,Qf w g 2 _ _ (0,0) h,Qf w g 3 _ _ (0,0) h⟩
theorem FourW.cell(h:FourW w g s)(j:Nat)(a:j<4):w.cell? ⟨g,j,none⟩=some (.int .u64 (s.word j)):=by
 obtain⟨b,h1,h2,c⟩:=h.cells
 match j,a with
 |0,_=>exact b
 |1,_=>exact h1
 |2,_=>exact h2
 |3,_=>exact c
theorem FourW.free(h:FourW w g s)(j:Nat):w.frozen? ⟨g,j,none⟩=false:=by unfold FourW at h;simp[World.frozen?, h]
theorem FourW.far(h:FourW w g s){k:Nat}(a:g≠k)(j:Nat)(u:Value):FourW (w.setCell ⟨k,j,none⟩ u) g s:=(Ql w ⟨k,j,none⟩ u g a).trans h
theorem FourW.lt(h:FourW w g s):g<w.heap.size:=by
 unfold FourW at h;rw[Q1]at h;exact h.1
theorem FourW.drew(h:FourW w g s):FourW w.drew g s:=h
theorem FourW.below{B:Nat}(h:FourW w g s)(hb:Below B w w')(a:g<B):FourW w' g s:=(hb.block g a).trans h
def putW(s:Set4)(j:Nat)(u:Int):Set4:=if j=0 then ⟨u,s.b,s.c,s.d⟩else if j=1 then ⟨s.a,u,s.c,s.d⟩else if j=2 then ⟨s.a,s.b,u,s.d⟩else ⟨s.a,s.b,s.c,u⟩
theorem FourW.put(h:FourW w g s)(j:Nat)(a:j<4)(u:Int):FourW (w.setCell ⟨g,j,none⟩ (.int .u64 u)) g (putW s j u):=by
 unfold FourW at h ⊢
 match j,a with
 |0,_=>simp[World.setCell,Q8,h,putW]
 |1,_=>simp[World.setCell,Q8,h,putW]
 |2,_=>simp[World.setCell,Q8,h,putW]
 |3,_=>simp[World.setCell,Q8,h,putW]
theorem FourW.fill(h:FourW w g s)(t:Set4):FourW ((((w.setCell ⟨g,0,none⟩ (.int .u64 t.a)).setCell ⟨g,1,none⟩ (.int .u64 t.b)).setCell ⟨g,2,none⟩ (.int .u64 t.c)).setCell ⟨g,3,none⟩ (.int .u64 t.d)) g t:=by unfold FourW at h ⊢;simp[World.setCell,Q8,h]
theorem FourW.new(w:World):FourW (w.alloc (.cells #[.int .u64 0,.int .u64 0,.int .u64 0,.int .u64 0] 182)) w.heap.size (setF λ_=>false):=by rw[ziz];exact Qp w _
end
theorem zvn(f:Nat->Bool)(k:Nat)(d:k<256):putW (setF f) (k / 64) ((wdF f (k / 64)|||2 ^ (k % 64):Nat):Int)=setF (λx=>f x||decide (x=k)):=by
 have c:k / 64<4:=by omega
 rw[zyV];have a:=zs6 f k;generalize b:k / 64=j at *;unfold putW setF
 match j,c with
 |0,_=>simp[a 1 (by decide),a 2 (by decide),a 3 (by decide)]
 |1,_=>simp[a 0 (by decide),a 2 (by decide),a 3 (by decide)]
 |2,_=>simp[a 0 (by decide),a 1 (by decide),a 3 (by decide)]
 |3,_=>simp[a 0 (by decide),a 1 (by decide),a 2 (by decide)]
theorem zz9(f:Nat->Bool)(k:Nat):bits .or .u64 ((wdF f (k / 64):Nat):Int) (IntKind.u64.wrap (2 ^ (k % 64)))=((wdF f (k / 64)|||2 ^ (k % 64):Nat):Int):=by
 have h1:2 ^ (k % 64)<18446744073709551616:=by have h:=Nat.pow_lt_pow_right (a:=2) (by decide) (XT k (show 64>0 by decide));exact h
 have:=bits_or_u64_nat (wdF f (k / 64)) (2 ^ (k % 64)) (zi5 _ _) h1
 have h2:IntKind.u64.wrap (2 ^ (k % 64))=((2 ^ (k % 64):Nat):Int):=by
  rw[IntKind.wrap_u64,show (2:Int) ^ (k % 64)=((2 ^ (k % 64):Nat):Int)by rw[Int.natCast_pow];rfl];generalize 2 ^ (k % 64)=q at h1;omega
 rw[<-this,h2]
def zb3(s:Set4)(w:World)(e:Ending)(w':World):Prop:=e=.returned (setA s)/\Below w.heap.size w w'
theorem zzh(k:Nat)(a:k<256):bits .and .i64 (k:Int) 63=((k % 64:Nat):Int):=by
 have h:∀k:Fin 256,bits .and .i64 ((k.val:Nat):Int) 63=((k.val % 64:Nat):Int):=by decide+kernel
 exact h ⟨k,a⟩
def zAk(a c:Nat)(w:World)(b:Value)(wr:World):Prop:=
 ∃k:Nat,a<=k/\k<=c+1/\b=.int .i64 k/\FourW wr (w.heap.size+1) (setF λx=>decide (a<=x)&&decide (x<k))/\FourW wr w.heap.size (setF λ_=>false)/\Below w.heap.size w wr
theorem zcv(h f:Nat)(h1:h<=f)(h2:f<256)(w:World):
 Calls prog 148 #[.int .i64 h,.int .i64 f] w (zb3 (setF λx=>decide (h<=x)&&decide (x<=f)) w):=by
 have F:∀W,W=(w.alloc (.cells #[.int .u64 0,.int .u64 0,.int .u64 0,.int .u64 0] 182)).alloc (.cells #[.int .u64 0,.int .u64 0,.int .u64 0,.int .u64 0] 182)->FourW W (w.heap.size+1) (setF λx=>decide (h<=x)&&decide (x<h))/\FourW W w.heap.size (setF λ_=>false)/\Below w.heap.size w W:=λW u=>by
  have hb:Below w.heap.size w W:=by rw[u];exact WaL.alloc (by simp) _
  refine⟨?_,?_,hb⟩
  ·have:=FourW.new (w.alloc (.cells #[.int .u64 0,.int .u64 0,.int .u64 0,.int .u64 0] 182))
   rw[Qr]at this;rw[u,zb0 (g:=λ_=>false) (λk _=>by simp)];exact this
  ·rw[u]
   exact(Qt _ _ _ (by simp)).trans (FourW.new w)
 have H:=hIx F;clear F
 go_in
 go_wp2
 go_loopw [6] (λb wr=>zAk h f w b wr) (λb _=>256-(intOf b).toNat)
 case atStart=>exact⟨h,Qd _,by omega,rfl,H.out _ rfl⟩
 case round=>
  obtain⟨k,s,I,rfl,l,j,hb⟩:=hrel
  by_cases G:k<=f
  ·have K:decide ((k:Int)<=(f:Int))=true:=by simp;omega
   have m:Hid ((λx=>(decide (h<=x)&&decide (x<k))||decide (x=k))=λx=>decide (h<=x)&&decide (x<k+1)):=by
    unfold Hid
    funext x
    by_cases e:x=k
    ·subst e;simp[s]
    ·by_cases h2:x<k
     ·simp[h2,e,Nat.lt_succ_of_lt h2]
     ·have:¬x<k+1:=by omega
      simp[h2,e,this]
   have i:=l.cell (k / 64) (by omega);rw[zdA _ _ (by omega)]at i;have r:=l.free (k / 64);have n:=hIx (zvn (λx=>decide (h<=x)&&decide (x<k)) k (by omega));have O:=zz9 (λx=>decide (h<=x)&&decide (x<k)) k;have N:=zzh k (by omega);rw[m.out]at n;generalize wdF (λx=>decide (h<=x)&&decide (x<k)) (k / 64)=q at *;have A:=hIx l;have y:=hIx j;have B:=hIx hb;clear l j hb;go_wp2_with fail
   go_region
   have o:=A.out.put (k / 64) (by omega) ((q|||2 ^ (k % 64):Nat):Int);rw[n.out]at o;have t:=y.out.far (k:=w.heap.size+1) (by omega) (k / 64) (.int .u64 ((q|||2 ^ (k % 64):Nat):Int));have E:=B.out.setCell (p:=⟨w.heap.size+1,k / 64,none⟩) (Zg _) (.int .u64 ((q|||2 ^ (k % 64):Nat):Int));clear i r;generalize wr.setCell ⟨w.heap.size+1,k / 64,none⟩ (.int .u64 ((q|||2 ^ (k % 64):Nat):Int))=w3 at *;go_wp2_with fail
   go_roundw
   case rel=>exact⟨k+1,by omega,by omega,by go_num,o.drew,t.drew,E.drew⟩
   case measure=>simp[intOf] <;> omega
  ·obtain rfl:k=f+1:=by omega
   have K:decide (((f+1:Nat):Int)<=(f:Int))=false:=by simp;omega
   have m:Hid (setF (λx=>decide (h<=x)&&decide (x<f+1))=setF λx=>decide (h<=x)&&decide (x<=f)):=zb0 λx hx=>by
    rw[show decide (x<f+1)=decide (x<=f)from decide_eq_decide.2 Nat.lt_succ_iff]
   rw[m.out]at l;obtain⟨S,D⟩:∃S,S=setF λx=>decide (h<=x)&&decide (x<=f):=⟨_,rfl⟩
   rw[<-D]at l;have Q:=hIx D;clear D;have ⟨c0,c1,c2,c3⟩:=l.cells;have ⟨z0,Y,V,z3⟩:=j.cells;have y0:=j.free 0;have U:=j.free 1;have y2:=j.free 2;have X:=j.free 3;go_wp2_with fail;have C:=j.fill S;have z:=(((hb.setCell (p:=⟨w.heap.size,0,none⟩) (Qd _) (.int .u64 S.a)).setCell (p:=⟨w.heap.size,1,none⟩) (Qd _) (.int .u64 S.b)).setCell (p:=⟨w.heap.size,2,none⟩) (Qd _) (.int .u64 S.c)).setCell (p:=⟨w.heap.size,3,none⟩) (Qd _) (.int .u64 S.d);generalize ((((wr.setCell ⟨w.heap.size,0,none⟩ (.int .u64 S.a)).setCell ⟨w.heap.size,1,none⟩ (.int .u64 S.b)).setCell ⟨w.heap.size,2,none⟩ (.int .u64 S.c)).setCell ⟨w.heap.size,3,none⟩ (.int .u64 S.d))=Z at *;obtain⟨L,P,J,T⟩:=C.cells;exact Qj (v:=setA S) (by simp[results,results148,go_sem,L,P,J,T,setA]) rfl ⟨by rw[Q.out],z⟩
theorem zpp(f h:Nat->Bool)(k j:Nat):wdF (λx=>if x / 64=k then h x else f x) j=if j=k then wdF h j else wdF f j:=by
 have e:∀i,i<64->(64*j+i) / 64=j:=λi b=>by omega
 by_cases a:j=k
 ·rw[Qi a]
  refine ZF λi=>?_
  rw[za6,za6]
  by_cases b:i<64
  ·rw[e i b,Qi a]
  ·simp[b]
 ·rw[Qe a]
  refine ZF λi=>?_
  rw[za6,za6]
  by_cases b:i<64
  ·rw[e i b,Qe a]
  ·simp[b]
theorem zyo(f h:Nat->Bool)(k:Nat)(a:k<4):putW (setF f) k ((wdF h k:Nat):Int)=setF (λx=>if x / 64=k then h x else f x):=by
 unfold setF;rw[zpp,zpp,zpp,zpp];have:k=0\/k=1\/k=2\/k=3:=by omega
 rcases this with rfl|rfl|rfl|rfl <;> rfl
def upW(f h:Nat->Bool)(k:Nat)(x:Nat):Bool:=if x / 64<k then h x else f x
theorem zo7(f h:Nat->Bool)(k:Nat)(b:k<4):putW (setF (upW f h k)) k ((wdF h k:Nat):Int)=setF (upW f h (k+1)):=by
 rw[zyo _ _ _ b];refine zb0 λx _=>?_
 unfold upW
 by_cases e:x / 64=k
 ·rw[Qi e,Qi (by omega)]
 ·rw[Qe e]
  by_cases a:x / 64<k
  ·rw[Qi a,Qi (by omega)]
  ·rw[Qe a,Qe (by omega)]
theorem zpb(f h:Nat->Bool)(k:Nat):wdF (upW f h k) k=wdF f k:=by
 refine ZF λi=>?_
 rw[za6,za6]
 by_cases a:i<64
 ·unfold upW;rw[Qe (by omega)]
 ·simp[a]
theorem zpz(f h:Nat->Bool):setF (upW f h 0)=setF f:=zb0 λx _=>by unfold upW;rw[Qe (by omega)]
theorem zuO(f h:Nat->Bool):setF (upW f h 4)=setF h:=zb0 λx a=>by unfold upW;rw[Qi (by omega)]
theorem zvp(f h:Nat->Bool)(j:Nat):bits .or .u64 ((wdF f j:Nat):Int) ((wdF h j:Nat):Int)=((wdF (λx=>f x||h x) j:Nat):Int):=by
 rw[bits_or_u64_nat (wdF f j) (wdF h j) (zi5 _ _) (zi5 _ _),zxz]
def zzo(f h:Nat->Bool)(w:World)(i:Value)(wr:World):Prop:=
 ∃k:Nat,k<=4/\i=.int .i64 k/\FourW wr w.heap.size (setF (upW f (λx=>f x||h x) k))/\FourW wr (w.heap.size+1) (setF h)/\FourW wr (w.heap.size+2) (setF λ_=>false)/\Below w.heap.size w wr
theorem zdx(f h:Nat->Bool)(w:World):
 Calls prog 306 #[setA (setF f),setA (setF h)] w (zb3 (setF λx=>f x||h x) w):=by
 have D:∀W,W=((w.alloc (.cells #[.int .u64 (setF f).a,.int .u64 (setF f).b,.int .u64 (setF f).c,.int .u64 (setF f).d] 182)).alloc (.cells #[.int .u64 (setF h).a,.int .u64 (setF h).b,.int .u64 (setF h).c,.int .u64 (setF h).d] 182)).alloc (.cells #[.int .u64 0,.int .u64 0,.int .u64 0,.int .u64 0] 182)->zzo f h w (.int .i64 0) W:=λW t=>by
  refine⟨0,by omega,rfl,?_,?_,?_,?_⟩
  ·rw[zpz,t]
   exact(Qt _ _ _ (by simp;omega)).trans ((Qt _ _ _ (by simp)).trans (Qp w _))
  ·rw[t]
   have:=Qp (w.alloc (.cells #[.int .u64 (setF f).a,.int .u64 (setF f).b,.int .u64 (setF f).c,.int .u64 (setF f).d] 182)) (.cells #[.int .u64 (setF h).a,.int .u64 (setF h).b,.int .u64 (setF h).c,.int .u64 (setF h).d] 182);rw[Qr]at this;exact(Qt _ _ _ (by simp)).trans this
  ·have:=FourW.new ((w.alloc (.cells #[.int .u64 (setF f).a,.int .u64 (setF f).b,.int .u64 (setF f).c,.int .u64 (setF f).d] 182)).alloc (.cells #[.int .u64 (setF h).a,.int .u64 (setF h).b,.int .u64 (setF h).c,.int .u64 (setF h).d] 182))
   rw[Qr,Qr]at this;rw[t];exact this
  ·rw[t]
   exact(WaL.alloc (by simp) _).alloc (by simp;omega) _
 have A:=hIx D;clear D;have C:Hid (setF (upW f (λx=>f x||h x) 4)=setF λx=>f x||h x):=zuO _ _;unfold setA
 go_in
 go_wp2
 go_loopw [5,6] (λ_ i wr=>zzo f h w i wr) (λ_ i _=>4-(intOf i).toNat)
 case atStart=>exact A.out _ rfl
 case round=>
  obtain⟨k,U,rfl,l,u,g,hb⟩:=hrel
  by_cases e:k<4
  ·have I:decide ((k:Int)<4)=true:=by simp;omega
   have Y:IntKind.i64.wrap ((k:Int)+1)=(k:Int)+1:=Qx _ (by omega);have m:=l.cell k e;have r:=u.cell k e;rw[zdA _ _ e]at m r;rw[zpb]at m;have B:=l.free k;have K:=zvp f h k;have n:=hIx (zo7 f (λx=>f x||h x) k e);have j:=l.put k e ((wdF (λx=>f x||h x) k:Nat):Int);rw[n.out]at j;have o:=u.far (k:=w.heap.size) (by omega) k (.int .u64 ((wdF (λx=>f x||h x) k:Nat):Int));have q:=g.far (k:=w.heap.size) (by omega) k (.int .u64 ((wdF (λx=>f x||h x) k:Nat):Int));have s:=hb.setCell (p:=⟨w.heap.size,k,none⟩) (Qd _) (.int .u64 ((wdF (λx=>f x||h x) k:Nat):Int));generalize wdF (λx=>f x||h x) k=G at *;generalize wdF f k=Q at *;generalize wdF h k=w2 at *;have y:=hIx (And.intro j (And.intro o (And.intro q s)));clear l u g hb j o q s n C A;go_wp2_with fail
   go_region
   generalize z:wr.setCell ⟨w.heap.size,k,none⟩ (.int .u64 (G:Int))=w3 at *;clear z m r B;go_wp2;exact⟨⟨k+1,by omega,rfl,y.out.1.drew,y.out.2.1.drew,y.out.2.2.1.drew,y.out.2.2.2.drew⟩,by dsimp only[intOf];omega⟩
  ·obtain rfl:k=4:=by omega
   have I:decide (((4:Nat):Int)<4)=false:=by decide
   rw[C.out]at l;generalize E:setF (λx=>f x||h x)=S at *;have N:=hIx E;clear E;have ⟨c0,c1,c2,c3⟩:=l.cells;have ⟨z0,Z,X,z3⟩:=g.cells;have y0:=g.free 0;have T:=g.free 1;have y2:=g.free 2;have V:=g.free 3;have P:=hIx (g.fill S);have F:=hIx ((((hb.setCell (p:=⟨w.heap.size+2,0,none⟩) (by show w.heap.size<=w.heap.size+2;omega) (.int .u64 S.a)).setCell (p:=⟨w.heap.size+2,1,none⟩) (by show w.heap.size<=w.heap.size+2;omega) (.int .u64 S.b)).setCell (p:=⟨w.heap.size+2,2,none⟩) (by show w.heap.size<=w.heap.size+2;omega) (.int .u64 S.c)).setCell (p:=⟨w.heap.size+2,3,none⟩) (by show w.heap.size<=w.heap.size+2;omega) (.int .u64 S.d));clear l u g hb C A;go_wp2_with fail;have ⟨J,L,H,O⟩:=P.out.cells;exact Qj (v:=setA S) (by simp[results,results306,go_sem,J,L,H,O,setA]) rfl ⟨by rw[N.out],F.out⟩
theorem zwQ(f:Nat->Bool)(j:Nat):bits .xor .u64 (if IntKind.u64.signed=true then -1 else IntKind.u64.max) ((wdF f j:Nat):Int)=((wdF (λx=>!f x) j:Nat):Int):=by
 have e:(if IntKind.u64.signed=true then -1 else IntKind.u64.max)=((18446744073709551615:Nat):Int):=rfl;rw[e,bits_xor_u64_nat _ _ (by decide) (zi5 _ _)]
 congr 1
 refine ZF λi=>?_
 rw[Nat.testBit_xor,show (18446744073709551615:Nat)=2 ^ 64-1 from rfl,Nat.testBit_two_pow_sub_one,za6,za6]
 by_cases a:i<64
 ·simp[a]
 ·simp[a]
def zAf(f:Nat->Bool)(w:World)(i:Value)(wr:World):Prop:=
 ∃k:Nat,k<=4/\i=.int .i64 k/\FourW wr w.heap.size (setF (upW f (λx=>!f x) k))/\FourW wr (w.heap.size+1) (setF λ_=>false)/\Below w.heap.size w wr
theorem zlh(f:Nat->Bool)(w:World):
 Calls prog 286 #[setA (setF f)] w (zb3 (setF λx=>!f x) w):=by
 have u:∀W,W=(w.alloc (.cells #[.int .u64 (setF f).a,.int .u64 (setF f).b,.int .u64 (setF f).c,.int .u64 (setF f).d] 182)).alloc (.cells #[.int .u64 0,.int .u64 0,.int .u64 0,.int .u64 0] 182)->zAf f w (.int .i64 0) W:=λW q=>by
  refine⟨0,by omega,rfl,?_,?_,?_⟩
  ·rw[zpz,q]
   exact(Qt _ _ _ (by simp)).trans (Qp w _)
  ·have:=FourW.new (w.alloc (.cells #[.int .u64 (setF f).a,.int .u64 (setF f).b,.int .u64 (setF f).c,.int .u64 (setF f).d] 182))
   rw[Qr]at this;rw[q];exact this
  ·rw[q]
   exact WaL.alloc (by simp) _
 have o:=hIx u;clear u;have r:Hid (setF (upW f (λx=>!f x) 4)=setF λx=>!f x):=zuO _ _;unfold setA
 go_in
 go_wp2
 go_loopw [3,4] (λ_ i wr=>zAf f w i wr) (λ_ i _=>4-(intOf i).toNat)
 case atStart=>exact o.out _ rfl
 case round=>
  obtain⟨k,L,rfl,j,g,hb⟩:=hrel
  by_cases e:k<4
  ·have C:decide ((k:Int)<4)=true:=by simp;omega
   have Q:IntKind.i64.wrap ((k:Int)+1)=(k:Int)+1:=Qx _ (by omega);have s:=j.cell k e;rw[zdA _ _ e,zpb]at s;have z:=j.free k;have E:=zwQ f k;have n:=hIx (zo7 f (λx=>!f x) k e);have h:=j.put k e ((wdF (λx=>!f x) k:Nat):Int);rw[n.out]at h;have l:=g.far (k:=w.heap.size) (by omega) k (.int .u64 ((wdF (λx=>!f x) k:Nat):Int));have m:=hb.setCell (p:=⟨w.heap.size,k,none⟩) (Qd _) (.int .u64 ((wdF (λx=>!f x) k:Nat):Int));generalize wdF (λx=>!f x) k=P at *;generalize wdF f k=J at *;have t:=hIx (And.intro h (And.intro l m));clear j g hb h l m n r o;go_wp2;exact⟨⟨k+1,by omega,rfl,t.out.1,t.out.2.1,t.out.2.2⟩,by dsimp only[intOf];omega⟩
  ·obtain rfl:k=4:=by omega
   have C:decide (((4:Nat):Int)<4)=false:=by decide
   rw[r.out]at j;generalize y:setF (λx=>!f x)=S at *;have G:=hIx y;clear y;have ⟨c0,c1,c2,c3⟩:=j.cells;have ⟨V,T,O,U⟩:=g.cells;have X:=g.free 0;have K:=g.free 1;have Y:=g.free 2;have N:=g.free 3;have I:=hIx (g.fill S);have A:=hIx ((((hb.setCell (p:=⟨w.heap.size+1,0,none⟩) (by show w.heap.size<=w.heap.size+1;omega) (.int .u64 S.a)).setCell (p:=⟨w.heap.size+1,1,none⟩) (by show w.heap.size<=w.heap.size+1;omega) (.int .u64 S.b)).setCell (p:=⟨w.heap.size+1,2,none⟩) (by show w.heap.size<=w.heap.size+1;omega) (.int .u64 S.c)).setCell (p:=⟨w.heap.size+1,3,none⟩) (by show w.heap.size<=w.heap.size+1;omega) (.int .u64 S.d));clear j g hb r o;go_wp2_with fail;have ⟨D,F,B,H⟩:=I.out.cells;exact Qj (v:=setA S) (by simp[results,results286,go_sem,D,F,B,H,setA]) rfl ⟨by rw[G.out],A.out⟩
theorem zci{a w w':World}{row:Option Nat}(h:a.grownBy w row)(hb:Below a.heap.size w w'):a.grownBy w' row:=
 ⟨hb.os.trans h.os,hb.tape.trans h.tape,hb.output.trans h.output,Qn h.size hb.size,λi c b=>(hb.block i c).trans (h.block i c b)⟩
theorem zfy{g:Nat}{s:ByteArray}{r:RS}{w W:World}(h:RdAt g s r w)(hb:Below w.heap.size w W):RdEnd g s r w W:=⟨h.below hb,zci (zaU w _) hb⟩
theorem RdEnd.low{g:Nat}{s:ByteArray}{r:RS}{w W W':World}(a:g<w.heap.size)(h:RdEnd g s r w W)(hb:Below w.heap.size W W'):RdEnd g s r w W':=⟨(hb.block g a).trans h.1,zci h.2 hb⟩
def zcz(W:World)(k:Nat)(S:Set4):World:=(((W.setCell ⟨k,0,none⟩ (.int .u64 S.a)).setCell ⟨k,1,none⟩ (.int .u64 S.b)).setCell ⟨k,2,none⟩ (.int .u64 S.c)).setCell ⟨k,3,none⟩ (.int .u64 S.d)
theorem zbd{W w:World}{B k:Nat}(h:Below B w W)(a:B<=k)(S:Set4):Below B w (zcz W k S):=
 (((h.setCell (p:=⟨k,0,none⟩) a _).setCell (p:=⟨k,1,none⟩) a _).setCell (p:=⟨k,2,none⟩) a _).setCell (p:=⟨k,3,none⟩) a _
theorem zbv{W:World}{k:Nat}{Z:Set4}(h:FourW W k Z)(S:Set4):FourW (zcz W k S) k S:=h.fill S
def rgF(a b:Nat):Nat->Bool:=λx=>decide (a<=x)&&decide (x<=b)
def zwW:Nat->Bool:=λx=>(rgF 97 122 x||rgF 65 90 x)||(rgF 48 57 x||rgF 95 95 x)
def spcF:Nat->Bool:=λx=>rgF 9 13 x||rgF 32 32 x
def zns(b:UInt8):Option (Nat->Bool):=if b=100 then some (rgF 48 57)else if b=119 then some zwW else if b=115 then some spcF else none
def za8(s:List UInt8)(r:RS):Option (Nat->Bool) × RS:=
 if zad s r=92 then match s[r.pos+1]? with
  |none=>(none,r)
  |some b=>match zns b with
   |none=>(none,r)
   |some f=>(some f,{r with pos:=r.pos+2})
 else (none,r)
def zsC(g:Nat)(s:ByteArray)(R:Option (Nat->Bool) × RS)(w:World)(e:Ending)(w':World):Prop:=
 e=.returned (.tuple #[setA (match R.1 with|some f=>setF f|none=>.zero),.bool R.1.isSome])/\RdEnd g s R.2 w w'
theorem zdu(g:Nat)(s:ByteArray)(r:RS)(w:World)(h:RdAt g s r w)(hp:r.pos<=s.size)(hs:s.size<=4096):
 Calls prog 289 #[.pointer (some ⟨g,0,none⟩)] w (zsC g s (za8 s.data.toList r) w):=by
 have hD:=zdr (s:=s.data.toList) (r:=r);have hC:s.data.toList.length=s.size:=by simp
 have hw:0<=zad s.data.toList r->r.pos<s.size:=λh=>by have:=(zaQ rfl h).1;omega
 obtain⟨W0,hi⟩:∃W0,w.alloc (.cells #[.int .u64 0,.int .u64 0,.int .u64 0,.int .u64 0] 182)=W0:=⟨_,rfl⟩
 have hz:FourW W0 w.heap.size .zero:=by rw[<-hi];have:=FourW.new w;rw[ziz]at this;exact this
 have ho:Below w.heap.size w W0:=by rw[<-hi];exact WaL
 have h0:RdAt g s r W0:=h.below ho;have HN:Hid (∀n,Calls prog 218 #[.pointer (some ⟨g,0,none⟩)] (W0.drewN n) λe w'=>e=.returned (.int .i64 (zad s.data.toList r))/\∃m,w'=(W0.drewN n).drewN m):=λn=>zgc g s r _ (h0.drew n) hp
 have h4:Hid (za8 s.data.toList r=if zad s.data.toList r=92 then match s.data.toList[r.pos+1]? with
  |none=>(none,r)
  |some b=>match zns b with
   |none=>(none,r)
   |some f=>(some f,{r with pos:=r.pos+2})
 else (none,r)):=rfl
 generalize za8 s.data.toList r=R at *;generalize zad s.data.toList r=N at *;have ⟨c0,c1,c2,c3⟩:=h0.cells;have i7:IntKind.i64.wrap ((r.pos:Int)+1)=((r.pos+1:Nat):Int):=Qx _ (by omega);have hv:=hIx hi;have H:=hIx (And.intro h (And.intro h0 (And.intro hz ho)));clear hi h h0 hz ho
 go_in
 go_upto_region 1 with fail
 rw[hv.out]
 by_cases q0:N=92
 rotate_left
 ·have d0:(N != 92)=true:=Q6.2 q0
  have HD:Hid (R=(none,r)):=by unfold Hid;rw[h4.out,Qe q0]
  clear h4 q0
  go_quiet ((go_at_call 218;exact Calls.quiet_of (HN.out _)))
  obtain⟨i,F⟩:∃i,W0.drewN nq=i:=⟨_,rfl⟩
  have G:FourW i w.heap.size .zero/\Below w.heap.size w i:=by rw[<-F];exact⟨H.out.2.2.1,below_drewN H.out.2.2.2 nq⟩
  rw[F];have HZ:=hIx (zbv G.1 .zero);have HE:=hIx (zfy H.out.1 (zbd G.2 (Qd _) .zero));have ⟨z0,z1,z2,z3⟩:=G.1.cells;have y0:=G.1.free 0;have y1:=G.1.free 1;have y2:=G.1.free 2;have y3:=G.1.free 3;clear F G H c0 c1 c2 c3;go_wp2_with fail;have ⟨P,U,X,V⟩:=HZ.out.cells;unfold zcz Set4.zero at P U X V;exact Qj (v:=.tuple #[setA .zero,.bool false]) (by simp[results,results289,go_sem,P,U,X,V,setA,Set4.zero]) rfl (by rw[HD.out];exact⟨rfl,HE.out⟩)
 ·subst q0
  have hB:=hw (by omega)
  by_cases hk:r.pos+1=s.size
  ·have d1:(((r.pos+1:Nat):Int)==(s.size:Int))=true:=by rw[Zk];omega
   have HD:Hid (R=(none,r)):=by unfold Hid;rw[h4.out,Qi rfl,List.getElem?_eq_none (by omega)]
   clear h4 hk
   go_quiet ((go_at_call 218;exact Calls.quiet_of (HN.out _)))
   obtain⟨i,F⟩:∃i,W0.drewN nq=i:=⟨_,rfl⟩
   have G:FourW i w.heap.size .zero/\Below w.heap.size w i:=by rw[<-F];exact⟨H.out.2.2.1,below_drewN H.out.2.2.2 nq⟩
   rw[F];have HZ:=hIx (zbv G.1 .zero);have HE:=hIx (zfy H.out.1 (zbd G.2 (Qd _) .zero));have ⟨z0,z1,z2,z3⟩:=G.1.cells;have y0:=G.1.free 0;have y1:=G.1.free 1;have y2:=G.1.free 2;have y3:=G.1.free 3;clear F G H c0 c1 c2 c3;go_wp2_with fail;have ⟨P,U,X,V⟩:=HZ.out.cells;unfold zcz Set4.zero at P U X V;exact Qj (v:=.tuple #[setA .zero,.bool false]) (by simp[results,results289,go_sem,P,U,X,V,setA,Set4.zero]) rfl (by rw[HD.out];exact⟨rfl,HE.out⟩)
  ·have hA:r.pos+1<s.size:=by omega
   have d1:(((r.pos+1:Nat):Int)==(s.size:Int))=false:=by rw[Qb];omega
   have J:Hid (R=match zns s[r.pos+1]with
    |none=>(none,r)
    |some f=>(some f,{r with pos:=r.pos+2})):=by unfold Hid;rw[h4.out,Qi rfl,XL s (r.pos+1) hA]
   clear h4 hk
   go_quiet ((go_at_call 218;exact Calls.quiet_of (HN.out _)))
   obtain⟨i,F⟩:∃i,W0.drewN nq=i:=⟨_,rfl⟩
   have G:FourW i w.heap.size .zero/\Below w.heap.size w i/\RdAt g s r i/\w.heap.size<i.heap.size:=by
    have hz:w.heap.size<W0.heap.size:=by rw[<-hv.out];simp
    rw[<-F];exact⟨H.out.2.2.1,below_drewN H.out.2.2.2 nq,H.out.2.1.drew nq,hz⟩
   rw[F];obtain⟨hy,hx,hm,L⟩:=G;have ⟨c0,c1,c2,c3⟩:=hm.cells;clear F HN;generalize hb:s[r.pos+1]=b at *;obtain⟨W1,hh⟩:∃W1,i.alloc (.cells #[.int .u64 0,.int .u64 0,.int .u64 0,.int .u64 0] 182)=W1:=⟨_,rfl⟩
   have hg:Below i.heap.size i W1:=by rw[<-hh];exact WaL
   have Z:FourW W1 i.heap.size .zero:=by rw[<-hh];have:=FourW.new i;rw[ziz]at this;exact this
   have y:FourW W1 w.heap.size .zero:=hy.below hg L;have O:RdAt g s r W1:=hm.below hg;have hu:=hIx hh;clear hh;go_upto_region 4 with fail
   rw[hu.out];have hE:((r.pos+1:Nat):Int).toNat=r.pos+1:=by omega
   have ⟨c0,c1,c2,c3⟩:=O.cells
   go_quiet (fail)
   obtain⟨wr,ht⟩:∃wr,W1.drewN nq=wr:=⟨_,rfl⟩
   have hr:FourW wr i.heap.size .zero/\FourW wr w.heap.size .zero/\RdAt g s r wr/\Below w.heap.size w wr/\i.heap.size<wr.heap.size:=by
    have hz:i.heap.size<W1.heap.size:=by rw[<-hu.out];simp
    rw[<-ht];exact⟨Z,y,O.drew nq,below_drewN (hx.trans (hg.mono (Q5 L))) nq,hz⟩
   rw[ht];clear ht hu hg Z y O hy hx hm c0 c1 c2 c3 hv;obtain⟨Z,y,O,h5,h3⟩:=hr;have hn:=h5.size;have u:=Qg wr.heap.size wr;have H1:Hid (∀W,Calls prog 148 #[.int .i64 48,.int .i64 57] W (zb3 (setF (rgF 48 57)) W)):=λW=>zcv 48 57 (by decide) (by decide) W
   have H2:Hid (∀W,Calls prog 148 #[.int .i64 97,.int .i64 122] W (zb3 (setF (rgF 97 122)) W)):=λW=>zcv 97 122 (by decide) (by decide) W
   have H3:Hid (∀W,Calls prog 148 #[.int .i64 65,.int .i64 90] W (zb3 (setF (rgF 65 90)) W)):=λW=>zcv 65 90 (by decide) (by decide) W
   have H4:Hid (∀W,Calls prog 148 #[.int .i64 95,.int .i64 95] W (zb3 (setF (rgF 95 95)) W)):=λW=>zcv 95 95 (by decide) (by decide) W
   have H5:Hid (∀W,Calls prog 148 #[.int .i64 9,.int .i64 13] W (zb3 (setF (rgF 9 13)) W)):=λW=>zcv 9 13 (by decide) (by decide) W
   have H6:Hid (∀W,Calls prog 148 #[.int .i64 32,.int .i64 32] W (zb3 (setF (rgF 32 32)) W)):=λW=>zcv 32 32 (by decide) (by decide) W
   by_cases b1:b=100
   ·subst b1
    have q1:(((100:UInt8).toNat:Int)==100)=true:=rfl;go_wp2_with (go_at_call 148;apply Hid.out);unfold Hid;refine(H1.out wr).mono ?_;rintro e wa ⟨rfl,p⟩;have l:=u.trans (p.mono u.size);clear p;have o:FourW wa i.heap.size .zero:=(l.block _ h3).trans Z;have I:FourW wa w.heap.size .zero:=(l.block _ (ZD L h3)).trans y;have hf:RdAt g s r wa:=O.below l;have ⟨x0,x1,x2,x3⟩:=o.cells;have v0:=o.free 0;have v1:=o.free 1;have v2:=o.free 2;have v3:=o.free 3;obtain⟨S,hS⟩:∃S,setF (rgF 48 57)=S:=⟨_,rfl⟩
    have HS:=hIx hS;have HD:Hid (R=(some (rgF 48 57),{r with pos:=r.pos+2})):=by unfold Hid;rw[J.out];rfl
    rw[show setA (setF (rgF 48 57))=setA S from by rw[hS]];unfold setA;have Y:=h5.trans (l.mono hn);have Q:FourW (zcz wa i.heap.size S) i.heap.size S:=zbv o S;have T:FourW (zcz wa i.heap.size S) w.heap.size .zero:=(((I.far (by omega) 0 _).far (by omega) 1 _).far (by omega) 2 _).far (by omega) 3 _;have K:Below w.heap.size w (zcz wa i.heap.size S):=zbd Y (Q5 L) S;clear hS o I hf Y J l;go_upto_region 12 with fail
    rw[show (((wa.setCell ⟨i.heap.size,0,none⟩ (.int .u64 S.a)).setCell ⟨i.heap.size,1,none⟩ (.int .u64 S.b)).setCell ⟨i.heap.size,2,none⟩ (.int .u64 S.c)).setCell ⟨i.heap.size,3,none⟩ (.int .u64 S.d)=zcz wa i.heap.size S from rfl];generalize zcz wa i.heap.size S=X1 at *;have q:=zfy H.out.1 K;have ⟨c0,c1,c2,c3⟩:=q.1.cells;have f1:=q.1.free 1;have B:RdEnd g s {r with pos:=r.pos+2} w (X1.setCell ⟨g,1,none⟩ (.int .i64 ((r.pos+2:Nat):Int))):=⟨q.1.setPos _,zan q.2 1 _⟩
    have A:=Q.far (k:=g) (by have:=H.out.1.lt;omega) 1 (.int .i64 ((r.pos+2:Nat):Int));have j:=T.far (k:=g) (by have:=H.out.1.lt;omega) 1 (.int .i64 ((r.pos+2:Nat):Int));have i2:IntKind.i64.wrap ((r.pos:Int)+2)=(r.pos:Int)+2:=Qx _ (by omega);have e2:((r.pos+2:Nat):Int)=(r.pos:Int)+2:=by omega
    rw[e2]at B A j;clear e2;clear Q T K q x0 x1 x2 x3 v0 v1 v2 v3;go_upto_region 13 with fail
    generalize X1.setCell ⟨g,1,none⟩ (.int .i64 ((r.pos:Int)+2))=X2 at *;have ⟨x0,x1,x2,x3⟩:=A.cells;have ⟨z0,z1,z2,z3⟩:=j.cells;have y0:=j.free 0;have y1:=j.free 1;have y2:=j.free 2;have y3:=j.free 3;have HZ:=hIx (zbv j S);have HE:=hIx (RdEnd.low H.out.1.lt B (zbd (Qg _ X2) (Qd _) S));clear A j B c0 c1 c2 c3 f1;go_wp2_with fail;have ⟨P,U,X,V⟩:=HZ.out.cells;unfold zcz at P U X V;exact Qj (v:=.tuple #[setA S,.bool true]) (by simp[results,results289,go_sem,P,U,X,V,setA]) rfl (by rw[HD.out];exact⟨by show _=Ending.returned (.tuple #[setA (setF (rgF 48 57)),.bool true]);rw[HS.out],HE.out⟩)
   by_cases b2:b=119
   ·subst b2
    have q0:(((119:UInt8).toNat:Int)==100)=false:=rfl;have q1:(((119:UInt8).toNat:Int)==119)=true:=rfl;go_wp2_with (go_at_call 148;apply Hid.out);unfold Hid;refine(H2.out wr).mono ?_;rintro e wa ⟨rfl,p⟩;have l:=u.trans (p.mono u.size);clear p;go_wp2_with (go_at_call 148;apply Hid.out);unfold Hid;refine(H3.out wa).mono ?_;rintro e wb ⟨rfl,z⟩;have C:=l.trans (z.mono l.size);clear z;go_wp2_with (go_at_call 306;apply Hid.out);unfold Hid;refine(zdx (rgF 97 122) (rgF 65 90) wb).mono ?_;rintro e wc ⟨rfl,E⟩;have t:=C.trans (E.mono C.size);clear E;go_wp2_with (go_at_call 148;apply Hid.out);unfold Hid;refine(H1.out wc).mono ?_;rintro e wd ⟨rfl,h7⟩;have h8:=t.trans (h7.mono t.size);clear h7;go_wp2_with (go_at_call 148;apply Hid.out);unfold Hid;refine(H4.out wd).mono ?_;rintro e we ⟨rfl,ha⟩;have he:=h8.trans (ha.mono h8.size);clear ha;go_wp2_with (go_at_call 306;apply Hid.out);unfold Hid;refine(zdx (rgF 48 57) (rgF 95 95) we).mono ?_;rintro e wf ⟨rfl,h9⟩;have hd:=he.trans (h9.mono he.size);clear h9;go_wp2_with (go_at_call 306;apply Hid.out);unfold Hid;refine(zdx (λx=>rgF 97 122 x||rgF 65 90 x) (λx=>rgF 48 57 x||rgF 95 95 x) wf).mono ?_;rintro e wg ⟨rfl,h6⟩;have D:=hd.trans (h6.mono hd.size);clear h6
    have o:FourW wg i.heap.size .zero:=(D.block _ h3).trans Z;have I:FourW wg w.heap.size .zero:=(D.block _ (ZD L h3)).trans y;have hf:RdAt g s r wg:=O.below D;have ⟨x0,x1,x2,x3⟩:=o.cells;have v0:=o.free 0;have v1:=o.free 1;have v2:=o.free 2;have v3:=o.free 3;obtain⟨S,hS⟩:∃S,setF (zwW)=S:=⟨_,rfl⟩
    have HS:=hIx hS;have HD:Hid (R=(some (zwW),{r with pos:=r.pos+2})):=by unfold Hid;rw[J.out];rfl
    rw[show setA (setF (λx=>(rgF 97 122 x||rgF 65 90 x)||(rgF 48 57 x||rgF 95 95 x)))=setA S from by rw[<-hS];rfl];unfold setA;have Y:=h5.trans (D.mono hn);have Q:FourW (zcz wg i.heap.size S) i.heap.size S:=zbv o S;have T:FourW (zcz wg i.heap.size S) w.heap.size .zero:=(((I.far (by omega) 0 _).far (by omega) 1 _).far (by omega) 2 _).far (by omega) 3 _;have K:Below w.heap.size w (zcz wg i.heap.size S):=zbd Y (Q5 L) S;clear hS o I hf Y J D;go_upto_region 12 with fail
    rw[show (((wg.setCell ⟨i.heap.size,0,none⟩ (.int .u64 S.a)).setCell ⟨i.heap.size,1,none⟩ (.int .u64 S.b)).setCell ⟨i.heap.size,2,none⟩ (.int .u64 S.c)).setCell ⟨i.heap.size,3,none⟩ (.int .u64 S.d)=zcz wg i.heap.size S from rfl];generalize zcz wg i.heap.size S=X1 at *;have q:=zfy H.out.1 K;have ⟨c0,c1,c2,c3⟩:=q.1.cells;have f1:=q.1.free 1;have B:RdEnd g s {r with pos:=r.pos+2} w (X1.setCell ⟨g,1,none⟩ (.int .i64 ((r.pos+2:Nat):Int))):=⟨q.1.setPos _,zan q.2 1 _⟩
    have A:=Q.far (k:=g) (by have:=H.out.1.lt;omega) 1 (.int .i64 ((r.pos+2:Nat):Int));have j:=T.far (k:=g) (by have:=H.out.1.lt;omega) 1 (.int .i64 ((r.pos+2:Nat):Int));have i2:IntKind.i64.wrap ((r.pos:Int)+2)=(r.pos:Int)+2:=Qx _ (by omega);have e2:((r.pos+2:Nat):Int)=(r.pos:Int)+2:=by omega
    rw[e2]at B A j;clear e2;clear Q T K q x0 x1 x2 x3 v0 v1 v2 v3;go_upto_region 13 with fail
    generalize X1.setCell ⟨g,1,none⟩ (.int .i64 ((r.pos:Int)+2))=X2 at *;have ⟨x0,x1,x2,x3⟩:=A.cells;have ⟨z0,z1,z2,z3⟩:=j.cells;have y0:=j.free 0;have y1:=j.free 1;have y2:=j.free 2;have y3:=j.free 3;have HZ:=hIx (zbv j S);have HE:=hIx (RdEnd.low H.out.1.lt B (zbd (Qg _ X2) (Qd _) S));clear A j B c0 c1 c2 c3 f1;go_wp2_with fail;have ⟨P,U,X,V⟩:=HZ.out.cells;unfold zcz at P U X V;exact Qj (v:=.tuple #[setA S,.bool true]) (by simp[results,results289,go_sem,P,U,X,V,setA]) rfl (by rw[HD.out];exact⟨by show _=Ending.returned (.tuple #[setA (setF (zwW)),.bool true]);rw[HS.out],HE.out⟩)
   by_cases b3:b=115
   ·subst b3
    have q0:(((115:UInt8).toNat:Int)==100)=false:=rfl;have q1:(((115:UInt8).toNat:Int)==119)=false:=rfl;have q2:(((115:UInt8).toNat:Int)==115)=true:=rfl;go_wp2_with (go_at_call 148;apply Hid.out);unfold Hid;refine(H5.out wr).mono ?_;rintro e wa ⟨rfl,p⟩;have l:=u.trans (p.mono u.size);clear p;go_wp2_with (go_at_call 148;apply Hid.out);unfold Hid;refine(H6.out wa).mono ?_;rintro e wb ⟨rfl,z⟩;have C:=l.trans (z.mono l.size);clear z;go_wp2_with (go_at_call 306;apply Hid.out);unfold Hid;refine(zdx (rgF 9 13) (rgF 32 32) wb).mono ?_;rintro e wc ⟨rfl,E⟩;have t:=C.trans (E.mono C.size);clear E;have o:FourW wc i.heap.size .zero:=(t.block _ h3).trans Z;have I:FourW wc w.heap.size .zero:=(t.block _ (ZD L h3)).trans y;have hf:RdAt g s r wc:=O.below t;have ⟨x0,x1,x2,x3⟩:=o.cells;have v0:=o.free 0;have v1:=o.free 1;have v2:=o.free 2;have v3:=o.free 3;obtain⟨S,hS⟩:∃S,setF (spcF)=S:=⟨_,rfl⟩
    have HS:=hIx hS;have HD:Hid (R=(some (spcF),{r with pos:=r.pos+2})):=by unfold Hid;rw[J.out];rfl
    rw[show setA (setF (λx=>rgF 9 13 x||rgF 32 32 x))=setA S from by rw[<-hS];rfl];unfold setA;have Y:=h5.trans (t.mono hn);have Q:FourW (zcz wc i.heap.size S) i.heap.size S:=zbv o S;have T:FourW (zcz wc i.heap.size S) w.heap.size .zero:=(((I.far (by omega) 0 _).far (by omega) 1 _).far (by omega) 2 _).far (by omega) 3 _;have K:Below w.heap.size w (zcz wc i.heap.size S):=zbd Y (Q5 L) S;clear hS o I hf Y J t;go_upto_region 12 with fail
    rw[show (((wc.setCell ⟨i.heap.size,0,none⟩ (.int .u64 S.a)).setCell ⟨i.heap.size,1,none⟩ (.int .u64 S.b)).setCell ⟨i.heap.size,2,none⟩ (.int .u64 S.c)).setCell ⟨i.heap.size,3,none⟩ (.int .u64 S.d)=zcz wc i.heap.size S from rfl];generalize zcz wc i.heap.size S=X1 at *;have q:=zfy H.out.1 K;have ⟨c0,c1,c2,c3⟩:=q.1.cells;have f1:=q.1.free 1;have B:RdEnd g s {r with pos:=r.pos+2} w (X1.setCell ⟨g,1,none⟩ (.int .i64 ((r.pos+2:Nat):Int))):=⟨q.1.setPos _,zan q.2 1 _⟩
    have A:=Q.far (k:=g) (by have:=H.out.1.lt;omega) 1 (.int .i64 ((r.pos+2:Nat):Int));have j:=T.far (k:=g) (by have:=H.out.1.lt;omega) 1 (.int .i64 ((r.pos+2:Nat):Int));have i2:IntKind.i64.wrap ((r.pos:Int)+2)=(r.pos:Int)+2:=Qx _ (by omega);have e2:((r.pos+2:Nat):Int)=(r.pos:Int)+2:=by omega
    rw[e2]at B A j;clear e2;clear Q T K q x0 x1 x2 x3 v0 v1 v2 v3;go_upto_region 13 with fail
    generalize X1.setCell ⟨g,1,none⟩ (.int .i64 ((r.pos:Int)+2))=X2 at *;have ⟨x0,x1,x2,x3⟩:=A.cells;have ⟨z0,z1,z2,z3⟩:=j.cells;have y0:=j.free 0;have y1:=j.free 1;have y2:=j.free 2;have y3:=j.free 3;have HZ:=hIx (zbv j S);have HE:=hIx (RdEnd.low H.out.1.lt B (zbd (Qg _ X2) (Qd _) S));clear A j B c0 c1 c2 c3 f1;go_wp2_with fail;have ⟨P,U,X,V⟩:=HZ.out.cells;unfold zcz at P U X V;exact Qj (v:=.tuple #[setA S,.bool true]) (by simp[results,results289,go_sem,P,U,X,V,setA]) rfl (by rw[HD.out];exact⟨by show _=Ending.returned (.tuple #[setA (setF (spcF)),.bool true]);rw[HS.out],HE.out⟩)
   have hj:∀c:UInt8,b≠c->((b.toNat:Int)==(c.toNat:Int))=false:=λc hc=>Qb.2 λe=>hc (Zu.1 (by omega))
   have q0:((b.toNat:Int)==100)=false:=hj 100 b1;have q1:((b.toNat:Int)==119)=false:=hj 119 b2;have q2:((b.toNat:Int)==115)=false:=hj 115 b3;have HD:Hid (R=(none,r)):=by unfold Hid;rw[J.out];unfold zns;rw[Qe b1,Qe b2,Qe b3]
   have HZ:=hIx (zbv y .zero);have HE:=hIx (zfy H.out.1 (zbd h5 (Qd _) .zero));have ⟨z0,z1,z2,z3⟩:=y.cells;have y0:=y.free 0;have y1:=y.free 1;have y2:=y.free 2;have y3:=y.free 3;clear H H1 H2 H3 H4 H5 H6 J hj b1 b2 b3 Z y O h5 u;go_wp2_with fail;have ⟨P,U,X,V⟩:=HZ.out.cells;unfold zcz Set4.zero at P U X V;exact Qj (v:=.tuple #[setA .zero,.bool false]) (by simp[results,results289,go_sem,P,U,X,V,setA,Set4.zero]) rfl (by rw[HD.out];exact⟨rfl,HE.out⟩)
theorem zbU(r:RS)(x:Int)(a:x≠0):(zaA r x).pos=r.pos/\(zaA r x).op=r.op/\(zaA r x).e≠0:=by
 unfold zaA
 by_cases h:r.e=0
 ·rw[Qi h];exact⟨rfl,rfl,a⟩
 ·rw[Qe h];exact⟨rfl,rfl,h⟩
structure Step(s:List UInt8)(r r':RS):Prop where
 inn:r'.pos<=s.length
 le:r.pos<=r'.pos
 op:r'.op=r.op
 keep:r.e≠0->r'.e≠0
theorem Step.refl{s:List UInt8}{r:RS}(h:r.pos<=s.length):Step s r r:=⟨h,Qd _,rfl,id⟩
theorem Step.trans{s:List UInt8}{a b c:RS}(h:Step s a b)(k:Step s b c):Step s a c:=⟨k.inn,Qn h.le k.le,k.op.trans h.op,λe=>k.keep (h.keep e)⟩
theorem zdy{s:List UInt8}{r:RS}(h:r.pos<=s.length)(x:Int)(b:x≠0):Step s r (zaA r x):=by
 obtain⟨h1,h2,a⟩:=zbU r x b;exact⟨by omega,by omega,h2,λ_=>a⟩
theorem zfa{s:List UInt8}{r:RS}(h:r.pos<s.length):Step s r {r with pos:=r.pos+1}:=⟨h,Zg _,rfl,id⟩
theorem zcV{s:List UInt8}{r:RS}(h:r.pos<=s.length){b:Int}(hb:0<=b):Step s r (zaH s r b).2/\((zaH s r b).1=true->r.pos<(zaH s r b).2.pos/\r.e=0):=by
 unfold zaH
 by_cases a:zad s r=b
 ·rw[Qi a]
  have:=zaQ a hb;exact⟨zfa this.1,λ_=>⟨Xr _,this.2⟩⟩
 ·rw[Qe a]
  exact⟨Step.refl h,λh=>by cases h⟩
theorem znY{l:List UInt8}{b:UInt8}:Lib.indexByte l b<0\/Lib.indexByte l b<l.length:=by
 rcases Int.lt_or_le (Lib.indexByte l b) 0 with h|h
 ·exact .inl h
 ·obtain⟨o,a⟩:∃o:Nat,Lib.indexByte l b=o:=⟨(Lib.indexByte l b).toNat,by omega⟩
  have:=(Qw.1 (Lib.indexByte_some a).1).1;exact .inr (by omega)
theorem zkd{s:List UInt8}{r:RS}(h:r.pos<=s.length):Step s r (zaN s r).2/\0<=(zaN s r).1/\(zaN s r).1<=15:=by
 unfold zaN
 by_cases h1:zad s r<0
 ·rw[Qi h1]
  exact⟨zdy h 3 (by decide),Zw _,by show (0:Int)<=15;decide⟩
 rw[Qe h1]
 by_cases h2:Lib.indexByte hexL (zad s r).toNat.toUInt8<0
 ·rw[Qi h2]
  exact⟨zdy h 3 (by decide),Zw _,by show (0:Int)<=15;decide⟩
 rw[Qe h2];refine⟨zfa (zaQ rfl (by omega)).1,by show 0<=Lib.indexByte hexL _;omega,?_⟩
 rcases znY (l:=hexL) (b:=(zad s r).toNat.toUInt8)with a|a
 ·exact absurd a h2
 ·have e:((hexL.length:Nat):Int)=16:=rfl
  rw[e]at a;show Lib.indexByte hexL _<=15
  omega
theorem zcw{s:List UInt8}{r:RS}(h:r.pos<=s.length):Step s r (zbi s r).2/\(r.pos<(zbi s r).2.pos\/(zbi s r).2.e≠0)/\0<=(zbi s r).1/\(zbi s r).1<=255:=by
 have p:∀q:RS,q.pos<=s.length->Step s q (zaA q 3)/\(zaA q 3).e≠0:=λq j=>⟨zdy j 3 (by decide),(zbU q 3 (by decide)).2.2⟩
 have z:(0:Int)<=255:=by decide
 unfold zbi
 by_cases i:zad s r=92
 ·rw[Qi i]
  have g:=(zaQ i (by decide)).1;have d:=zfa g;generalize j:({r with pos:=r.pos+1}:RS)=q at *;have A:q.pos=r.pos+1:=by rw[<-j]
  have f:q.pos<=s.length:=d.inn
  have c:∀v:Int,0<=zad s q->0<=v->v<=255->Step s r {q with pos:=q.pos+1}/\(r.pos<({q with pos:=q.pos+1}:RS).pos\/({q with pos:=q.pos+1}:RS).e≠0)/\0<=v/\v<=255:=λv x h1 h2=>
   ⟨d.trans (zfa (zaQ rfl x).1),.inl (by show r.pos<q.pos+1;omega),h1,h2⟩
  unfold escR
  by_cases h1:zad s q=110
  ·rw[Qi h1];exact c 10 (by omega) (by decide) (by decide)
  rw[Qe h1]
  by_cases h2:zad s q=116
  ·rw[Qi h2];exact c 9 (by omega) (by decide) (by decide)
  rw[Qe h2]
  by_cases b:zad s q=114
  ·rw[Qi b];exact c 13 (by omega) (by decide) (by decide)
  rw[Qe b]
  by_cases k:zad s q=120
  ·rw[Qi k]
   have n:=zfa (zaQ k (by decide)).1;obtain⟨l,D,E⟩:=zkd n.inn;obtain⟨m,B,C⟩:=zkd l.inn;have u:=l.le;have w:=m.le;have y:r.pos<({q with pos:=q.pos+1}:RS).pos:=by show r.pos<q.pos+1;omega
   exact⟨d.trans (n.trans (l.trans m)),.inl (Qv y (Qn u w)),by dsimp only;omega,by dsimp only;omega⟩
  rw[Qe k];have fl:=p q f;have a:Step s r (zaA q 3)/\(r.pos<(zaA q 3).pos\/(zaA q 3).e≠0)/\(0:Int)<=0/\(0:Int)<=255:=⟨d.trans fl.1,.inr fl.2,Zw _,z⟩
  by_cases o:zad s q<0
  ·rw[Qi o];exact a
  rw[Qe o]
  by_cases t:zfS (zad s q)=true
  ·rw[Qi t];exact c _ (by omega) (by omega) (zdr (s:=s) (r:=q)).2
  ·rw[Qe t];exact a
 ·rw[Qe i]
  have fl:=p r h;have a:Step s r (zaA r 3)/\(r.pos<(zaA r 3).pos\/(zaA r 3).e≠0)/\(0:Int)<=0/\(0:Int)<=255:=⟨fl.1,.inr fl.2,Zw _,z⟩
  unfold zxx
  by_cases h1:zad s r<33
  ·rw[Qi h1];exact a
  rw[Qe h1]
  by_cases h2:126<zad s r
  ·rw[Qi h2];exact a
  rw[Qe h2]
  by_cases b:zfS (zad s r)=true
  ·rw[Qi b];exact a
  rw[Qe b];exact⟨zfa (zaQ rfl (by omega)).1,.inl (Xr _),by dsimp only;omega,by dsimp only;omega⟩
theorem zdw{s:List UInt8}{r:RS}(h:r.pos<=s.length):Step s r (za8 s r).2/\((za8 s r).1=none->(za8 s r).2=r)/\∀f,(za8 s r).1=some f->r.pos<(za8 s r).2.pos/\r.e=0:=by
 have c:Step s r ((none,r):Option (Nat->Bool) × RS).2/\(((none,r):Option (Nat->Bool) × RS).1=none->((none,r):Option (Nat->Bool) × RS).2=r)/\∀f,((none,r):Option (Nat->Bool) × RS).1=some f->r.pos<((none,r):Option (Nat->Bool) × RS).2.pos/\r.e=0:=
  ⟨Step.refl h,λ_=>rfl,λf d=>by cases d⟩
 unfold za8
 by_cases a:zad s r=92
 ·rw[Qi a]
  have h1:=zaQ a (by decide);cases g:s[r.pos+1]? with
  |none=>exact c
  |some b=>
   dsimp only;have h2:=(Qw.1 g).1;cases zns b with
   |none=>exact c
   |some f=>
    dsimp only;exact⟨⟨h2,by show r.pos<=r.pos+2;omega,rfl,λe=>e⟩,λe=>absurd e (by simp),λ_ _=>⟨by show r.pos<r.pos+2;omega,h1.2⟩⟩
 ·rw[Qe a];exact c
