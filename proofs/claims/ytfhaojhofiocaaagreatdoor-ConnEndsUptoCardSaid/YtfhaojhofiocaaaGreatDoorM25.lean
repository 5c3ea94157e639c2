/- Lemmas for the last texts. -/
import Derived.Test.YtfhaojhofiocaaaGreatDoorM24
set_option maxHeartbeats 6400000
set_option maxRecDepth 100000
namespace Go.Proofs.YtfhaojhofiocaaaGreatDoor
open Go.RowKit Go.Proofs.Tryz
def atOf(g:Nat)(w:World):Nat:=match w.cell? ⟨g,1,none⟩with|some (.int _ n)=>n.toNat|_=>0
theorem Rd.atOf{w:World}{g B:Nat}{s:ByteArray}{a m:Int}{v:Value}{b:jE}(h:Rd w g B s a m v b):atOf g w=a.toNat:=by
 unfold Go.Proofs.YtfhaojhofiocaaaGreatDoor.atOf;rw[h.c1]
def zrF(w:World)(g B:Nat)(s:ByteArray)(k:Nat)(m:Int)(v:Value)(a:jE)(wr:World):Prop:=
 ∃p:Nat,k<=p/\p<=k+7/\p<=s.size/\Rd wr g B s (p:Int) m v a/\Below B w wr/\digN 7 (s.data.toList.drop k)=(p-k)+digN (k+7-p) (s.data.toList.drop p)
theorem zuO{f:Nat}{b:UInt8}{r:jE}(h:0<=zaA b):digN (f+1) (b::r)=digN f r+1:=by
 rw[digN,Qj h]
theorem zvY{f:Nat}{b:UInt8}{r:jE}(h:¬0<=zaA b):digN (f+1) (b::r)=0:=by
 rw[digN,Qf h]
theorem zlf(s:ByteArray)(k p:Nat)(h1:k<p)(h2:p<=k+7)(c:p<=s.size)(h:digN 7 (s.data.toList.drop k)=p-k)(W:World):
 Calls prog 184 #[.string (s.extract k p)] W λe w'=>e=jC (.tuple #[jA (hexV ((s.data.toList.drop k).take (p-k))),jA 0])/\w'=W:=by
 have e:(s.extract k p).data.toList=(s.data.toList.drop k).take (p-k):=ZL _ _ _;have a:=(ztn 7 (s.data.toList.drop k)).2.2;rw[h]at a
 have hl:((s.data.toList.drop k).take (p-k)).length=p-k:=by
  rw[QK,QJ,ZC];show min (p-k) (s.size-k)=p-k;omega
 have b:(s.extract k p).size<=maxLen:=by rw[Xb];unfold maxLen;omega
 have:=ztQ (s.extract k p) W b;rw[e,ztT _ a (by omega) (by omega)]at this;exact this
def zcw(w:World)(g B:Nat)(s:ByteArray)(k:Nat)(m:Int)(v:Value)(a:jE)(p:zvF)(e:Ending)(w':World):Prop:=
 e=jC (.tuple #[jA p.n,jA p.e])/\Rd w' g B s ((k+p.c:Nat):Int) m v a/\Below B w w'
theorem zlI(w:World)(g B:Nat)(s:ByteArray)(k:Nat)(m:Int)(v:Value)(l:jE)(h:Rd w g B s (k:Int) m v l)(X:s.size<=4611686018427387904)(T:k<=s.size)(I:B<=w.heap.size):
 Calls prog 152 #[.pointer g] w (zcw w g B s k m v l (zaE (s.data.toList.drop k))):=by
 have y:s.size<=maxLen:=by unfold maxLen;omega
 have h1:=h.c1;have W:IntKind.i64.wrap ((k:Int)+7)=(k:Int)+7:=Qz _ (by omega)
 go_in
 go_wp2
 go_loopw [] (λwr=>zrF w g B s k m v l wr) (λwr=>s.size-atOf g wr)
 case atStart=>exact⟨k,Qd _,by omega,T,h,Qi _ _,by simp⟩
 case round=>
  obtain⟨p,S,x,j,i,d,J⟩:=hrel;clear h1;have C:=i.atOf;have t:=i.c0;have h1:=i.c1;have E:=i.free 1;have H:=hIx J;clear J
  by_cases c0:p<s.size
  ·have V:(p:Int)<(s.size:Int):=by omega
   have D:=hIx (zaH s p c0)
   by_cases c1:p<k+7
   ·have U:(p:Int)<(k:Int)+7:=by omega
    by_cases c2:0<=zaA s[p]
    ·go_wp2_with fail
     go_quiet ((go_at_call 183;exact Za (zdi _ _)))
     go_wp2_with fail;have a:=(i.drewN nq).at_ ((p:Int)+1);exact⟨⟨p+1,by omega,by omega,by omega,a.eq (by omega),(below_drewN d nq).setCell i.hB _,by rw[H.out,D.out,show k+7-p=(k+7-(p+1))+1 by omega,zuO c2];omega⟩,by rw[a.atOf,C];omega⟩
    ·have u:Hid (digN 7 (s.data.toList.drop k)=p-k):=by unfold Hid;rw[H.out,D.out,show k+7-p=(k+7-(p+1))+1 by omega,zvY c2];omega
     by_cases o:k<p
     ·have G:((p:Int)==(k:Int))=false:=Qc.2 (by omega)
      have F:=zlf s k p o x j u.out
      have r:Hid (zaE (s.data.toList.drop k)=⟨hexV ((s.data.toList.drop k).take (p-k)),(zau (s.data.toList.drop p)).1,p-k+(zau (s.data.toList.drop p)).2,[]⟩):=by
       unfold Hid zaE;rw[u.out,Qf (by omega),Zw,show k+(p-k)=p by omega]
      have Q:(k:Int)<=(p:Int):=by omega
      have N:(p:Int)<=(s.size:Int):=by omega
      have L:0<=(p:Int):=by omega
      have P:0<=(k:Int):=by omega
      go_wp2_with fail
      go_quiet ((go_at_call 183;exact Za (zdi _ _)))
      have a:=i.drewN nq;have b:=below_drewN d nq;generalize wr.drewN nq=A at *;clear t h1 E C i d;have t:=a.c0;have h1:=a.c1;go_wp2_with fail
      go_quiet ((go_at_call 184;exact Za (F _)))
      have q:=a.drewN nq;have c:=below_drewN b nq;generalize A.drewN nq=O at *;go_wp2_with (go_at_call 153;refine(zhd _ g B s p m v l q y j (Ql I c.size)).mono ?_;rintro e K ⟨rfl,n,f⟩)
      go_ret2
      unfold zcw;rw[r.out];exact⟨rfl,n.eq (by show ((p+_:Nat):Int)=((k+(p-k+_):Nat):Int);omega),c.trans f⟩
     ·have G:((p:Int)==(k:Int))=true:=Zn.2 (by omega)
      have r:Hid (zaE (s.data.toList.drop k)=⟨0,if (s.data.toList.drop k).length=0 then 7 else 4,0,[]⟩):=by unfold Hid zaE;rw[u.out,Qj (by omega)]
      have z:(s.data.toList.drop k).length=s.size-k:=by rw[QJ,ZC];rfl
      have qs:((p:Int)==(s.size:Int))=false:=Qc.2 (by omega);rw[Qf (by omega)]at r;clear z;go_wp2_with fail
      go_quiet ((go_at_call 183;exact Za (zdi _ _)))
      have a:=i.drewN nq;have b:=below_drewN d nq;generalize wr.drewN nq=A at *;clear t h1 E C i d;have t:=a.c0;have h1:=a.c1;go_wp2_with fail
      go_quiet (fail)
      go_wp2
      go_ret2
      unfold zcw;rw[r.out];exact⟨rfl,(a.drewN nq).eq (by show (p:Int)=((k+0:Nat):Int);omega),below_drewN b nq⟩
   ·have U:decide ((p:Int)<(k:Int)+7)=false:=Qt (by omega)
    have u:Hid (digN 7 (s.data.toList.drop k)=p-k):=by unfold Hid;rw[H.out,show k+7-p=0 by omega,digN];omega
    by_cases o:k<p
    ·have G:((p:Int)==(k:Int))=false:=Qc.2 (by omega)
     have F:=zlf s k p o x j u.out
     have r:Hid (zaE (s.data.toList.drop k)=⟨hexV ((s.data.toList.drop k).take (p-k)),(zau (s.data.toList.drop p)).1,p-k+(zau (s.data.toList.drop p)).2,[]⟩):=by
      unfold Hid zaE;rw[u.out,Qf (by omega),Zw,show k+(p-k)=p by omega]
     have Q:(k:Int)<=(p:Int):=by omega
     have N:(p:Int)<=(s.size:Int):=by omega
     have L:0<=(p:Int):=by omega
     have P:0<=(k:Int):=by omega
     go_wp2_with fail
     go_quiet (fail)
     have a:=i.drewN nq;have b:=below_drewN d nq;generalize wr.drewN nq=A at *;clear t h1 E C i d;have t:=a.c0;have h1:=a.c1;go_wp2_with fail
     go_quiet ((go_at_call 184;exact Za (F _)))
     have q:=a.drewN nq;have c:=below_drewN b nq;generalize A.drewN nq=O at *;go_wp2_with (go_at_call 153;refine(zhd _ g B s p m v l q y j (Ql I c.size)).mono ?_;rintro e K ⟨rfl,n,f⟩)
     go_ret2
     unfold zcw;rw[r.out];exact⟨rfl,n.eq (by show ((p+_:Nat):Int)=((k+(p-k+_):Nat):Int);omega),c.trans f⟩
    ·omega
  ·have u:Hid (digN 7 (s.data.toList.drop k)=p-k):=by unfold Hid;rw[H.out,zkm s p (by omega)];cases k+7-p <;> simp[digN]
   by_cases o:k<p
   ·have G:((p:Int)==(k:Int))=false:=Qc.2 (by omega)
    have F:=zlf s k p o x j u.out
    have r:Hid (zaE (s.data.toList.drop k)=⟨hexV ((s.data.toList.drop k).take (p-k)),(zau (s.data.toList.drop p)).1,p-k+(zau (s.data.toList.drop p)).2,[]⟩):=by
     unfold Hid zaE;rw[u.out,Qf (by omega),Zw,show k+(p-k)=p by omega]
    have Q:(k:Int)<=(p:Int):=by omega
    have N:(p:Int)<=(s.size:Int):=by omega
    have L:0<=(p:Int):=by omega
    have P:0<=(k:Int):=by omega
    go_wp2_with fail
    go_quiet (fail)
    have a:=i.drewN nq;have b:=below_drewN d nq;generalize wr.drewN nq=A at *;clear t h1 E C i d;have t:=a.c0;have h1:=a.c1;go_wp2_with fail
    go_quiet ((go_at_call 184;exact Za (F _)))
    have q:=a.drewN nq;have c:=below_drewN b nq;generalize A.drewN nq=O at *;go_wp2_with (go_at_call 153;refine(zhd _ g B s p m v l q y j (Ql I c.size)).mono ?_;rintro e K ⟨rfl,n,f⟩)
    go_ret2
    unfold zcw;rw[r.out];exact⟨rfl,n.eq (by show ((p+_:Nat):Int)=((k+(p-k+_):Nat):Int);omega),c.trans f⟩
   ·have G:((p:Int)==(k:Int))=true:=Zn.2 (by omega)
    have r:Hid (zaE (s.data.toList.drop k)=⟨0,if (s.data.toList.drop k).length=0 then 7 else 4,0,[]⟩):=by unfold Hid zaE;rw[u.out,Qj (by omega)]
    have z:(s.data.toList.drop k).length=s.size-k:=by rw[QJ,ZC];rfl
    have qs:((p:Int)==(s.size:Int))=true:=Zn.2 (by omega);rw[Qj (by omega)]at r;clear z;go_wp2_with fail
    go_quiet (fail)
    have a:=i.drewN nq;have b:=below_drewN d nq;generalize wr.drewN nq=A at *;clear t h1 E C i d;have t:=a.c0;have h1:=a.c1;go_wp2_with fail
    go_quiet (fail)
    go_wp2
    go_ret2
    unfold zcw;rw[r.out];exact⟨rfl,(a.drewN nq).eq (by show (p:Int)=((k+0:Nat):Int);omega),below_drewN b nq⟩
section
variable {ops:Array Oper} {rest:List Oper} {o:Oper} {a:Act} {Q:Exit->Act->World->Prop} {w:World}
theorem zkQ{K:Act->World->Prop}(sl x:Operand)(u:o.op=.call {callee:=.builtin .append,args:=#[sl,x],argTypes:=#[176,9]})
 (base:Nat) (v:Value) (l:jE) (z:a.eval sl=v) (d:OwnB w base v l) (b:base<=w.heap.size) (t:ByteArray) (B:a.eval x=.string t)
 (c:l.length+t.size<=140737488355328)
 (h:∀v' w',OwnB w' base v' (l++t.data.toList)->Below base w w'->(∀g,g<w.heap.size->v.ownBlock≠some g->w'.heap[g]? = w.heap[g]?)->K (a.put o.dst v') w'):
 o.wp prog a w K Q:=by
 obtain⟨s,A,i,m,n⟩:=ZG znW
 obtain⟨v',w',y,h2,q,C⟩:=Lib.run_append_own_string (P:=prog) w base 176 9 o.type 5 s underlying176 underlying9 A i m n v l.length (l.map zd1) d t
  (by unfold maxLen;omega) c b
 have hl:(l++t.data.toList).length=l.length+t.size:=by rw[Qb,ZC];rfl
 have j:=h v' w' (by unfold OwnB;rw[hl,Q2];exact h2) ((Qi _ _).grown q b (λk j=>(d.lt k j).1)) (λg r f=>q.block g r (λe=>f e.symm));unfold Oper.wp execOp;simp only[u,resolve,invoke,builtin,Xj,Sem.run_pure,ZY,List.map_toArray,Q8,ZE,z,B,y];exact j
theorem zh5{K:Act->World->Prop}{E:Prop}(e:o.guard=none)(sl x:Operand)(i:o.op=.call {callee:=.builtin .append,args:=#[sl,x],argTypes:=#[176,9]})
 (base:Nat) (v:Value) (l:jE) (j:a.eval sl=v) (d:OwnB w base v l) (c:base<=w.heap.size) (t:ByteArray) (k:a.eval x=.string t)
 (b:l.length+t.size<=140737488355328)
 (h:∀v' w',OwnB w' base v' (l++t.data.toList)->Below base w w'->(∀g,g<w.heap.size->v.ownBlock≠some g->w'.heap[g]? = w.heap[g]?)->K (a.put o.dst v') w'):
 if Region.wanted o (yielded ops a.tmps)=true then Oper.wp prog o a w K Q else E:=by
 have f:Region.wanted o (yielded ops a.tmps)=true:=by simp[Region.wanted,e]
 rw[Qj f];exact zkQ sl x i base v l j d c t k b h
end
theorem zwG{l:jE}(h:(zaE l).e=0):(zaE l).c<=l.length/\0<=(zaE l).n/\(zaE l).n<268435456:=by
 obtain⟨a,r,o⟩:=zsQ h;rw[o.e,zfA a r o.dig o.lo o.hi];refine⟨?_,zfZ a⟩;rw[Qb,Qq,Qq];show a.length+2<=_;omega
theorem OwnB.form{w:World}{B:Nat}{v:Value}{l:jE}(h:OwnB w B v l):∃A c L,v=.slice A L c:=by
 rcases h.2 with ⟨h1,h2⟩|⟨b,cap,a,h1,_⟩
 ·exact⟨none,0,0,h1⟩
 ·exact⟨_,_,_,h1⟩
theorem Rd.drew{w:World}{g B:Nat}{s:ByteArray}{a m:Int}{v:Value}{b:jE}(h:Rd w g B s a m v b):Rd w.drew g B s a m v b:=⟨h.blk,h.own,h.hB⟩
theorem Rd.freeAfter{w w':World}{g B:Nat}{s:ByteArray}{a m:Int}{v:Value}{b:jE}(h:Rd w g B s a m v b)(c:∀q,q<w.heap.size->v.ownBlock≠some q->w'.heap[q]? = w.heap[q]?):w'.frozen? ⟨g,3,none⟩=false:=by
 simp[World.frozen?, (c g h.lt h.apart).trans h.blk]
theorem Rd.afters{w w':World}{g B:Nat}{s:ByteArray}{a m:Int}{v:Value}{b:jE}(h:Rd w g B s a m v b)(c:∀q,q<w.heap.size->v.ownBlock≠some q->w'.heap[q]? = w.heap[q]?):w'.cell? ⟨g,1,none⟩=some (jA a)/\w'.frozen? ⟨g,1,none⟩=false:=
 ⟨Qo w' g 1 _ _ (0,0) ((c g h.lt h.apart).trans h.blk),by simp[World.frozen?, (c g h.lt h.apart).trans h.blk]⟩
theorem Rd.cellAfter{w w':World}{g B:Nat}{s:ByteArray}{a m:Int}{v:Value}{b:jE}(h:Rd w g B s a m v b)(c:∀q,q<w.heap.size->v.ownBlock≠some q->w'.heap[q]? = w.heap[q]?):w'.cell? ⟨g,3,none⟩=some v:=
 Qo w' g 3 _ _ (0,0) ((c g h.lt h.apart).trans h.blk)
theorem Rd.form{w:World}{g B:Nat}{s:ByteArray}{a m:Int}{v:Value}{b:jE}(h:Rd w g B s a m v b):∃A c,v=.slice A b.length c:=by
 rcases h.own.2 with ⟨h1,h2⟩|⟨e,cap,d,h1,_⟩
 ·exact⟨none,0,by rw[h1,h2]⟩
 ·exact⟨_,_,h1⟩
theorem Rd.grown{w w':World}{g B:Nat}{s:ByteArray}{a m:Int}{v v':Value}{f l:jE}(h:Rd w g B s a m v f)(b:OwnB w' B v' l)(j:∀q,q<w.heap.size->v.ownBlock≠some q->w'.heap[q]? = w.heap[q]?):
 Rd (w'.setCell ⟨g,3,none⟩ v') g B s a m v' l:=by
 have hb:w'.heap[g]? = some (.cells #[.string s,jA a,jA m,v] 204 (0,0)):=(j g h.lt h.apart).trans h.blk
 have e:v'.ownBlock≠some g:=by
  intro k;obtain⟨c,n,d⟩:=Xo b g k;rw[hb]at d;injection d with d
  injection d with _ i
  exact absurd i (by decide)
 refine⟨?_,ownsRow_setCell_other b e _,h.hB⟩;simp[World.setCell,Q5,hb]
theorem zn8(l:jE)(room:Int):zan l room=if (zaE l).e≠0 then ⟨0,(zaE l).e,(zaE l).c,[]⟩
 else if room<(zaE l).n then ⟨0,6,(zaE l).c,[]⟩
 else if (l.length:Int)-(zaE l).c<(zaE l).n then ⟨0,7,(zaE l).c,[]⟩
 else ⟨(zaE l).n,(zau (l.drop ((zaE l).c+(zaE l).n.toNat))).1,(zaE l).c+(zaE l).n.toNat+(zau (l.drop ((zaE l).c+(zaE l).n.toNat))).2,(l.drop (zaE l).c).take (zaE l).n.toNat⟩:=rfl
def zdk(w:World)(g B:Nat)(s:ByteArray)(k:Nat)(m:Int)(a:jE)(p:zvF)(e:Ending)(w':World):Prop:=
 e=jC (.tuple #[jA p.n,jA p.e])/\(∃v',Rd w' g B s ((k+p.c:Nat):Int) m v' (a++p.d))/\Below B w w'
theorem zrw(w:World)(g B:Nat)(s:ByteArray)(k:Nat)(m:Int)(v:Value)(a:jE)(h:Rd w g B s (k:Int) m v a)(N:s.size<=4611686018427387904)(hk:k<=s.size)(V:B<=w.heap.size)
 (h5:0<=m) (hi:m<=9223372036854775807) (Z:a.length<=k) (r:(a.length:Int)+(zan (s.data.toList.drop k) (m-a.length)).n<=140737488355328):
 Calls prog 118 #[.pointer g] w (zdk w g B s k m a (zan (s.data.toList.drop k) (m-a.length))):=by
 have r:=hIx r;have L:s.size<=maxLen:=by unfold maxLen;omega
 obtain⟨A,cp,rfl⟩:=h.form;have u:(s.data.toList.drop k).length=s.size-k:=by rw[QJ,ZC];rfl
 have l:=zlI w g B s k m _ a h N hk V;have d:=hIx (zn8 (s.data.toList.drop k) (m-a.length))
 by_cases c0:(zaE (s.data.toList.drop k)).e≠0
 ·rw[Qj c0]at d
  obtain⟨n,C⟩:∃n,(zaE (s.data.toList.drop k)).n=n:=⟨_,rfl⟩
  obtain⟨e,z⟩:∃e,(zaE (s.data.toList.drop k)).e=e:=⟨_,rfl⟩
  have qe:(e != 0)=true:=Q6.2 (by rw[<-z];exact c0);unfold zcw at l;rw[C,z]at l;have HE:=hIx z;clear z C c0 u
  go_in
  go_wp2_with (go_at_call 152;refine l.mono ?_;rintro O G ⟨rfl,b,f⟩)
  go_ret2
  unfold zdk;rw[d.out];exact⟨by rw[HE.out];rfl,⟨_,by rw[QO];exact b⟩,f⟩
 ·have z:(zaE (s.data.toList.drop k)).e=0:=ZZ.1 c0
  rw[Qf c0]at d;have I:=zwG z;obtain⟨n,C⟩:∃n,(zaE (s.data.toList.drop k)).n=n:=⟨_,rfl⟩
  obtain⟨c,K⟩:∃c,(zaE (s.data.toList.drop k)).c=c:=⟨_,rfl⟩
  rw[C,K,u]at I;obtain⟨l1,l2,l3⟩:=I;obtain⟨n,rfl⟩:=Zs l2;obtain⟨p,X⟩:∃p,k+c=p:=⟨_,rfl⟩
  unfold zcw at l;rw[C,z,K,X]at l;rw[C,K,u]at d;have h8:p<=s.size:=by omega
  have i4:IntKind.i64.wrap (m-(a.length:Int))=m-(a.length:Int):=Qz _ (by omega);have i5:IntKind.i64.wrap ((s.size:Int)-(p:Int))=(s.size:Int)-(p:Int):=Qz _ (by omega);clear C K z c0 u
  by_cases c1:m-(a.length:Int)<(n:Int)
  ·rw[Qj c1]at d
   go_in
   go_wp2_with (go_at_call 152;refine l.mono ?_;rintro O G ⟨rfl,b,f⟩);have h2:=b.c2;have D:=b.c3
   go_quiet (fail)
   go_wp2
   go_ret2
   unfold zdk;rw[d.out];exact⟨rfl,⟨_,by rw[QO];exact(b.drewN nq).eq (by show (p:Int)=((k+c:Nat):Int);omega)⟩,below_drewN f nq⟩
  ·rw[Qf c1]at d
   have d1:decide (m-(a.length:Int)<(n:Int))=false:=Qt c1
   by_cases c2:(s.size:Int)-(p:Int)<(n:Int)
   ·rw[Qj (by omega)]at d
    clear c1
    go_in
    go_wp2_with (go_at_call 152;refine l.mono ?_;rintro O G ⟨rfl,b,f⟩);have h2:=b.c2;have D:=b.c3
    go_quiet (fail)
    have j:=b.drewN nq;have o:=below_drewN f nq;generalize G.drewN nq=W at *;clear h2 D b f;have Q:=j.c0;have h1:=j.c1;go_wp2_with fail
    go_quiet (fail)
    go_wp2
    go_ret2
    unfold zdk;rw[d.out];exact⟨rfl,⟨_,by rw[QO];exact(j.drewN nq).eq (by show (p:Int)=((k+c:Nat):Int);omega)⟩,below_drewN o nq⟩
   ·rw[Qf (by omega)]at d
    have d2:decide ((s.size:Int)-(p:Int)<(n:Int))=false:=Qt c2;have T:p+n<=s.size:=by omega
    have d:Hid (zan (s.data.toList.drop k) (m-a.length)=⟨n,(zau (s.data.toList.drop (p+n))).1,c+n+(zau (s.data.toList.drop (p+n))).2,(s.extract p (p+n)).data.toList⟩):=by
     unfold Hid;rw[d.out,Q9,Zw,Zw,ZL,show k+(c+n)=p+n by omega,X,show p+n-p=n by omega]
    have U:a.length+n<=140737488355328:=by have q:=r.out;rw[d.out]at q;dsimp only at q;omega
    have i6:IntKind.i64.wrap ((p:Int)+(n:Int))=(p:Int)+(n:Int):=Qz _ (by omega);have i7:(p:Int)<=(p:Int)+(n:Int):=by omega
    have i8:(p:Int)+(n:Int)<=(s.size:Int):=by omega
    have i9:0<=(p:Int):=by omega
    have hd:0<=(p:Int)+(n:Int):=by omega
    have h4:((p:Int)+(n:Int)).toNat=p+n:=by omega
    clear c1 c2
    go_in
    go_wp2_with (go_at_call 152;refine l.mono ?_;rintro O G ⟨rfl,b,f⟩);have h2:=b.c2;have D:=b.c3
    go_quiet (fail)
    have j:=b.drewN nq;have o:=below_drewN f nq;generalize G.drewN nq=W at *;clear h2 D b f;have Q:=j.c0;have h1:=j.c1;go_wp2_with fail
    go_quiet (fail)
    have i:=j.drewN nq;have y:=below_drewN o nq;generalize W.drewN nq=Y at *;clear Q h1 j o;have Q:=i.c0;have h1:=i.c1;have D:=i.c3;have hf:=i.free 3;have ha:=i.apart;have E:B<=Y.heap.size:=Ql V y.size;have S:(s.extract p (p+n)).size=n:=by rw[Xb];omega
    go_wp2_with fail;have J:=i.hB
    go_region_law ((refine zh5 rfl (.tmp 45) (.tmp 60) rfl B (.slice A a.length cp) a rfl (by exact i.own) (by exact E) (s.extract p (p+n)) rfl (by rw[S];omega) ?_);intro v' w4 t H x;obtain⟨A',hg,L',rfl⟩:=t.form;have h6:=Rd.freeAfter i.drew x;have h7:=Rd.cellAfter i.drew x;have ⟨h9,hh⟩:=Rd.afters i.drew x)
    all_goals
     go_wp2_with (go_at_call 153;refine(zhd _ g B s (p+n) m _ _ (((i.drew.grown t x).at_ _).eq (by omega)) L T (Ql E (by have:=H.size;simp at this ⊢;omega))).mono ?_;rintro e w6 ⟨rfl,P,F⟩)
     go_ret2
     unfold zdk;rw[d.out];exact⟨rfl,⟨_,P.eq (by show ((p+n+_:Nat):Int)=((k+(c+n+_):Nat):Int);omega)⟩,(((y.drew.trans H).setCell (p:=⟨g,3,none⟩) J _).setCell (p:=⟨g,1,none⟩) J _).trans F⟩
def zzS(w:World)(s:ByteArray)(m:Int)(wr:World):Prop:=
 ∃(k:Nat) (v:Value) (a:jE),k<=s.size/\a.length<=k/\(a.length:Int)<=m/\Rd wr w.heap.size w.heap.size s (k:Int) m v a/\w wr/\
  zbj s.data.toList m=preT a k (zbj (s.data.toList.drop k) (m-a.length))
theorem ztM{l:jE}{room:Int}(h:(zan l room).e=0):0<=(zan l room).n/\(zan l room).n<=l.length:=by
 obtain⟨a,d,r,o⟩:=zeM h;have e:=zdv a d r room o.dig o.lo o.hi o.n o.room;rw[<-o.e]at e;have f:=(zkV h).2.2.1;have h1:=(zkV h).1;have b:(zan l room).d.length<=(zan l room).c:=by rw[e];show d.length<=a.length+2+d.length+2;omega
 omega
theorem zuZ{l:jE}{room:Int}(h:(zan l room).e=0):(zan l room).d.length<=(zan l room).c:=by
 obtain⟨a,d,r,o⟩:=zeM h;have e:=zdv a d r room o.dig o.lo o.hi o.n o.room;rw[<-o.e]at e;rw[e];show d.length<=a.length+2+d.length+2
 omega
theorem zoN(l:jE)(room:Int):(zan l room).n=0\/(0<=(zan l room).n/\(zan l room).n<=room/\(zan l room).n<=l.length):=by
 rw[zn8]
 by_cases c0:(zaE l).e≠0
 ·rw[Qj c0];exact .inl rfl
 ·rw[Qf c0]
  have a:=zwG (ZZ.1 c0)
  by_cases c1:room<(zaE l).n
  ·rw[Qj c1];exact .inl rfl
  ·rw[Qf c1]
   by_cases c2:(l.length:Int)-(zaE l).c<(zaE l).n
   ·rw[Qj c2];exact .inl rfl
   ·rw[Qf c2];right;dsimp only;omega
def zzF(s:ByteArray)(m:Int):Prop:=(s.size<=140737488355328\/∃t k,zbj s.data.toList m=.inr (t,k)/\t.length<=140737488355328)\/m<=140737488355328
theorem ztZ{s:ByteArray}{m:Int}(h:zzF s m){k:Nat}{a:jE}(C:k<=s.size)(A:a.length<=k)(x:(a.length:Int)<=m)
 (f:zbj s.data.toList m=preT a k (zbj (s.data.toList.drop k) (m-a.length))):
 (a.length:Int)+(zan (s.data.toList.drop k) (m-a.length)).n<=140737488355328:=by
 have hl:(s.data.toList.drop k).length=s.size-k:=by rw[QJ,ZC];rfl
 rcases h with (h|⟨t,D,w,y⟩)|h
 ·by_cases o:(zan (s.data.toList.drop k) (m-a.length)).e=0
  ·have h1:=ztM o
   rw[hl]at h1;omega
  ·rcases zoN (s.data.toList.drop k) (m-a.length)with g|⟨g,h1,h2⟩
   ·rw[g];omega
   ·rw[hl]at h2;omega
 ·rw[w]at f
  cases b:zbj (s.data.toList.drop k) (m-a.length)with
  |inl e=>rw[b]at f;cases f
  |inr p=>
   obtain⟨q,E⟩:=p;rw[b]at f;injection f with f
   injection f with j z
   have o:(zan (s.data.toList.drop k) (m-a.length)).e=0:=by
    refine Classical.byContradiction λl=>?_
    rw[ziH _ _ l]at b;cases b
   have B:=(zkV o).2.2.1
   by_cases l:(zan (s.data.toList.drop k) (m-a.length)).n=0
   ·rw[l]
    have:t.length=a.length+q.length:=by rw[j,Qb]
    omega
   ·rw[zgM _ _ o l]at b
    cases i:zbj ((s.data.toList.drop k).drop (zan (s.data.toList.drop k) (m-a.length)).c) (m-a.length-(zan (s.data.toList.drop k) (m-a.length)).n)with
    |inl e=>rw[i]at b;cases b
    |inr u=>
     rw[i]at b;injection b with b
     injection b with r v
     have h1:t.length=a.length+q.length:=by rw[j,Qb]
     have h2:q.length=(zan (s.data.toList.drop k) (m-a.length)).d.length+u.1.length:=by rw[<-r,Qb]
     omega
 ·rcases zoN (s.data.toList.drop k) (m-a.length)with g|⟨g,h1,h2⟩
  ·rw[g];omega
  ·omega
def zlH:Told->Value
 |.inl e=>.tuple #[.string (bs []),jA 0,jA e]
 |.inr (t,k)=>.tuple #[.string (bs t),jA (k:Int),jA 0]
theorem zqP(w:World)(s:ByteArray)(m:Int)(U:s.size<=4611686018427387904)(t:zzF s (max m 0))(T:m<=9223372036854775807):
 Calls prog 81 #[.string s,jA m] w (ze1 (zlH (zbj s.data.toList (max m 0))) w):=by
 have t:=hIx t;have A:0<=max m 0:=by omega
 have F:max m 0<=9223372036854775807:=by omega
 go_in
 go_wp2
 go_loopw [] (λwr=>zzS w s (max m 0) wr) (λwr=>s.size-atOf w.heap.size wr)
 case atStart=>
  refine⟨0,jD 0 0,[],Qn _,Qd _,A,⟨Qv w _,OwnB.nil _ _,Qd _⟩,WaL,?_⟩;cases h:zbj s.data.toList (max m 0)with
  |inl e=>simp[h,preT]
  |inr p=>simp[h,preT]
 case round=>
  obtain⟨k,v,g,L,C,D,H,x,J⟩:=hrel;have j:=zrw wr w.heap.size w.heap.size s k (max m 0) v g H U L x.size A F C (ztZ t.out L C D J);have E:=H.atOf;have G:=hIx J;clear J;obtain⟨P,Q⟩:∃P,zan (s.data.toList.drop k) (max m 0-g.length)=P:=⟨_,rfl⟩
  have f:=ziH (s.data.toList.drop k) (max m 0-g.length);have b:=znT (s.data.toList.drop k) (max m 0-g.length);have a:=zgM (s.data.toList.drop k) (max m 0-g.length);have o:=λh=>zkV (l:=s.data.toList.drop k) (room:=max m 0-g.length) h
  have r:=λh=>zuZ (l:=s.data.toList.drop k) (room:=max m 0-g.length) h
  rw[Q]at j f b a o r;clear Q H;obtain⟨n,e,c,d⟩:=P;dsimp only at f b a o r;unfold zdk at j;dsimp only at j
  by_cases y:e≠0
  ·have X:(e != 0)=true:=Q6.2 y
   have z:=hIx (f y);clear f b a o y r;go_wp2_with (go_at_call 118;refine j.mono ?_;rintro O K ⟨rfl,⟨v',i⟩,u⟩)
   go_ret3
   exact⟨by rw[G.out,z.out];rfl,x.trans u⟩
  ·have y:=ZZ.1 y
   subst y;have ⟨c1,c2,c3,c4⟩:=o rfl;have c5:=r rfl;rw[QJ,ZC]at c1;have c1:c<=s.size-k:=c1
   by_cases B:n=0
   ·have z:=hIx (b rfl B)
    have I:d=[]:=QA (by omega);subst I;have S:(n==0)=true:=Zn.2 B;rw[QO]at j;clear f b a o B c3 c4 c5 r;go_wp2_with (go_at_call 118;refine j.mono ?_;rintro O K ⟨rfl,⟨v',i⟩,u⟩);have h1:=i.c1;have W:=i.c3;have V:=λq=>(i.drewN q).own.string
    have N:=i.own.string
    go_quiet (fail)
    go_wp2
    go_ret3
    exact⟨by rw[G.out,z.out];simp[preT,zlH],x.trans (below_drewN u nq)⟩
   ·have z:=hIx (a rfl B)
    have S:(n==0)=false:=Qc.2 B;clear f b a o r;go_wp2_with (go_at_call 118;refine j.mono ?_;rintro O K ⟨rfl,⟨v',i⟩,u⟩)
    exact⟨⟨k+c,v',g++d,by omega,by rw[Qb];omega,by rw[Qb];omega,i,x.trans u,
     by rw[G.out,z.out,zts,Zw,Qb];congr 2;omega⟩,by rw[i.atOf,E];omega⟩
def bndE(H B A:Int):Int:=if zbG H B A=true then 0 else 1
theorem zgx(H B A:Int)(w:World):
 Calls prog 17 #[.agg #[jA H,jA B,jA A]] w λe w'=>e=jC (jA (bndE H B A))/\w w':=by
 have hb:w (w.alloc (.cells #[jA H,jA B,jA A] 26)):=WaL;have a:zbG H B A=false->bndE H B A=1:=λh=>by unfold bndE;rw[h];rfl
 by_cases c1:H<30
 ·have b:=hIx (a (by unfold zbG;rw[Qt (by omega:¬30<=H)];rfl))
  have g:decide (H<30)=true:=Qx c1;clear a c1
  go_in
  go_wp2;go_ret;exact⟨zae b.out.symm,hb⟩
 have g:decide (H<30)=false:=Qt c1
 by_cases c2:4096<H
 ·have b:=hIx (a (by unfold zbG;rw[Qt (by omega:¬H<=4096)];simp))
  have d:decide (4096<H)=true:=Qx c2;clear a c1 c2
  go_in
  go_wp2;go_ret;exact⟨zae b.out.symm,hb⟩
 have d:decide (4096<H)=false:=Qt c2
 by_cases c3:B<0
 ·have b:=hIx (a (by unfold zbG;rw[Qt (by omega:¬0<=B)];simp))
  have f:decide (B<0)=true:=Qx c3;clear a c1 c2 c3
  go_in
  go_wp2;go_ret;exact⟨zae b.out.symm,hb⟩
 have f:decide (B<0)=false:=Qt c3
 by_cases c4:4096<B
 ·have b:=hIx (a (by unfold zbG;rw[Qt (by omega:¬B<=4096)];simp))
  have k:decide (4096<B)=true:=Qx c4;clear a c1 c2 c3 c4
  go_in
  go_wp2;go_ret;exact⟨zae b.out.symm,hb⟩
 have k:decide (4096<B)=false:=Qt c4
 by_cases c5:A<1
 ·have b:=hIx (a (by unfold zbG;rw[Qt (by omega:¬1<=A)];simp))
  have j:decide (A<1)=true:=Qx c5;clear a c1 c2 c3 c4 c5
  go_in
  go_wp2;go_ret;exact⟨zae b.out.symm,hb⟩
 have j:decide (A<1)=false:=Qt c5
 by_cases c:40<A
 ·have b:=hIx (a (by unfold zbG;rw[Qt (by omega:¬A<=40)];simp))
  have i:decide (40<A)=true:=Qx c;clear a c1 c2 c3 c4 c5 c
  go_in
  go_wp2;go_ret;exact⟨zae b.out.symm,hb⟩
 have i:decide (40<A)=false:=Qt c
 have b:Hid (bndE H B A=0):=by
  unfold Hid bndE;rw[Qj];unfold zbG;simp only[Q3,QX];omega
 clear a c1 c2 c3 c4 c5 c
 go_in
 go_wp2;go_ret;exact⟨zae b.out.symm,hb⟩
theorem zku(N B:Int)(l:jE):zcx (2,N,0) l B=if B<N then .inl 6 else if (l.length:Int)<N then .inl 7 else .inr (l.take N.toNat,N.toNat):=by
 unfold zcx;rw[Qf (λh=>h rfl),Qf (show ¬(2:Int)=1 by decide),Qf (show ¬(2:Int)=3 by decide)]
theorem zq4(h:zbR)(A:Option Addr)(c:Nat)(s:ByteArray)(B:Int)(w:World)(u:Sl w w.heap.size 2 A h.fs.length (h.fs.flatMap zaJ))
 (D:∀f∈h.fs,f.1.size<=maxLen/\f.2.size<=maxLen) (hl:h.fs.length<=4398046511104) (z:s.size<=4611686018427387904) (Q:B<=140737488355328):
 Calls prog 55 #[.agg #[.string h.m,.string h.t,.slice A h.fs.length c],.string s,jA B] w λe w'=>e=jC (zlH (zcx (zaK h) s.data.toList B))/\w w':=by
 have o:w (w.alloc (.cells #[.string h.m,.string h.t,.slice A h.fs.length c] 51)):=WaL;have d:=hIx (zwQ h.m h.t A h.fs.length c h.fs (w.alloc (.cells #[.string h.m,.string h.t,.slice A h.fs.length c] 51)) rfl ((u.below o).more o.size) (λf u=>(D f u).1) (λf u=>(D f u).2) hl);have H:=zlK (getL h.fs clen) (getL h.fs tenc);have q:Hid (zaK h=ofL (getL h.fs clen) (getL h.fs tenc)):=rfl;unfold zo8 at d;generalize ofL (getL h.fs clen) (getL h.fs tenc)=r at *;have j:s.data.toList.length=s.size:=by simp
 have n:=λW=>hIx (zqP W s B z (.inr (by omega)) (by omega))
 obtain⟨K,N,E⟩:=r;dsimp only at H;have i:=hIx o;clear u D hl o z
 rcases H with rfl|⟨rfl,rfl|rfl|⟨rfl,h1,h2⟩⟩
 ·have l:Hid (zcx (zaK h) s.data.toList B=.inl 4):=by unfold Hid zcx;rw[q.out];rfl
  unfold ofV at d;dsimp only at d;clear n j
  go_in
  go_wp2_with fail;refine d.out.mono ?_;rintro e v ⟨rfl,a⟩;have b:=a.alloc a.size (.cells #[jA K,jA N] 165);have g:=i.out.trans (b.mono i.out.size);clear a b;go_wp2
  go_ret3
  exact⟨by rw[l.out];rfl,g⟩
 ·have l:Hid (zcx (zaK h) s.data.toList B=.inr ([],0)):=by unfold Hid zcx;rw[q.out];rfl
  unfold ofV at d;dsimp only at d;clear n j
  go_in
  go_wp2_with fail;refine d.out.mono ?_;rintro e v ⟨rfl,a⟩;have b:=a.alloc a.size (.cells #[jA 1,jA N] 165);have g:=i.out.trans (b.mono i.out.size);clear a b;go_wp2
  go_ret3
  exact⟨by rw[l.out];rfl,g⟩
 ·have l:Hid (zcx (zaK h) s.data.toList B=zbj s.data.toList (max B 0)):=by unfold Hid zcx;rw[q.out];rfl
  unfold ofV at d;dsimp only at d;clear j
  go_in
  go_wp2_with fail;refine d.out.mono ?_;rintro e v ⟨rfl,a⟩;have b:=a.alloc a.size (.cells #[jA 3,jA N] 165);have g:=i.out.trans (b.mono i.out.size);clear a b;go_wp2_with fail;refine(n _).out.mono ?_;rintro e w2 ⟨rfl,C⟩;have y:=g.trans (C.mono g.size);clear g C;rw[<-l.out];cases F:zcx (zaK h) s.data.toList B with
  |inl x=>
   unfold zlH;go_wp2
   go_ret3
   exact⟨by rw[F];rfl,y⟩
  |inr p=>
   obtain⟨t,k⟩:=p;unfold zlH;go_wp2
   go_ret3
   exact⟨by rw[F];rfl,y⟩
 ·unfold ofV at d
  dsimp only at d;clear n
  by_cases c1:B<N
  ·have l:Hid (zcx (zaK h) s.data.toList B=.inl 6):=by unfold Hid;rw[q.out,zku,Qj c1]
   have J:decide (B<N)=true:=Qx c1;clear c1 j
   go_in
   go_wp2_with fail;refine d.out.mono ?_;rintro e v ⟨rfl,a⟩;have b:=a.alloc a.size (.cells #[jA 2,jA N] 165);have g:=i.out.trans (b.mono i.out.size);clear a b;go_wp2
   go_ret3
   exact⟨by rw[l.out];rfl,g⟩
  have J:decide (B<N)=false:=Qt c1
  by_cases c2:(s.size:Int)<N
  ·have l:Hid (zcx (zaK h) s.data.toList B=.inl 7):=by unfold Hid;rw[q.out,zku,Qf c1,Qj (by omega)]
   have I:decide ((s.size:Int)<N)=true:=Qx c2;clear c1 c2 j
   go_in
   go_wp2_with fail;refine d.out.mono ?_;rintro e v ⟨rfl,a⟩;have b:=a.alloc a.size (.cells #[jA 2,jA N] 165);have g:=i.out.trans (b.mono i.out.size);clear a b;go_wp2
   go_ret3
   exact⟨by rw[l.out];rfl,g⟩
  have I:decide ((s.size:Int)<N)=false:=Qt c2;obtain⟨k,rfl⟩:=Zs h1;have l:Hid (zcx (zaK h) s.data.toList B=.inr (s.data.toList.take k,k)):=by unfold Hid;rw[q.out,zku,Qf c1,Qf (by omega)];rfl
  have G:s.extract 0 k=bs (s.data.toList.take k):=ziI (by rw[ZL];simp);have P:(k:Int)<=(s.size:Int):=by omega
  have O:(0:Int)<=(k:Int):=by omega
  have L:=hIx G;clear c1 c2 j h1 h2 G
  go_in
  go_wp2_with fail;refine d.out.mono ?_;rintro e v ⟨rfl,a⟩;have b:=a.alloc a.size (.cells #[jA 2,jA (k:Int)] 165);have g:=i.out.trans (b.mono i.out.size);clear a b;go_wp2_with fail
  go_quiet (fail)
  go_wp2
  go_ret3
  exact⟨by rw[l.out,L.out];rfl,below_drewN g nq⟩
attribute [go_sem] results39
def zReq:Value:=.agg #[.string (.mk #[]),.string (.mk #[]),jD 0 0,.string (.mk #[])]
def reqV(q:ReqV)(A:Option Addr)(c:Nat):Value:=.agg #[.string q.h.m,.string q.h.t,.slice A q.h.fs.length c,.string (bs q.b)]
def zgp(l:jE)(H B:Int)(w:World)(e:Ending)(w':World):Prop:=
 (∃x,oneR l H B=.error x/\e=jC (.tuple #[zReq,jA 0,jA x])/\w w')\/
 ∃q n A c,oneR l H B=.ok (q,n)/\e=jC (.tuple #[reqV q A c,jA (n:Int),jA 0])/\OwnV w' w.heap.size (.slice A q.h.fs.length c) q.h.fs/\w w'
theorem zdK{w:World}{g:Nat}{i h f j:Value}(x y z u:Value)(d:w.cell? g=some i)(h1:w.cell? ⟨g,1,none⟩=some h)(h2:w.cell? ⟨g,2,none⟩=some f)(m:w.cell? ⟨g,3,none⟩=some j):
 ((((w.setCell g x).setCell ⟨g,1,none⟩ y).setCell ⟨g,2,none⟩ z).setCell ⟨g,3,none⟩ u).cell? g=some x/\((((w.setCell g x).setCell ⟨g,1,none⟩ y).setCell ⟨g,2,none⟩ z).setCell ⟨g,3,none⟩ u).cell? ⟨g,1,none⟩=some y/\
 ((((w.setCell g x).setCell ⟨g,1,none⟩ y).setCell ⟨g,2,none⟩ z).setCell ⟨g,3,none⟩ u).cell? ⟨g,2,none⟩=some z/\((((w.setCell g x).setCell ⟨g,1,none⟩ y).setCell ⟨g,2,none⟩ z).setCell ⟨g,3,none⟩ u).cell? ⟨g,3,none⟩=some u:=by
 have a:(⟨g,3,none⟩:Addr)≠⟨g,0,none⟩:=by intro e;cases e
 have b:(⟨g,3,none⟩:Addr)≠⟨g,1,none⟩:=by intro e;cases e
 have n2:(⟨g,3,none⟩:Addr)≠⟨g,2,none⟩:=by intro e;cases e
 have ⟨k,l,c⟩:=zbx x y z d h1 h2;refine⟨?_,?_,?_,?_⟩
 ·rw[QQ _ _ _ _ a];exact k
 ·rw[QQ _ _ _ _ b];exact l
 ·rw[QQ _ _ _ _ n2];exact c
 ·exact Zx _ _ _ ((QQ _ _ _ _ (Xk n2)).trans ((QQ _ _ _ _ (Xk b)).trans ((QQ _ _ _ _ (Xk a)).trans m)))
def ReqAt(R:Nat)(w:World):Prop:=w.heap[R]? = some (.cells #[.string (.mk #[]),.string (.mk #[]),jD 0 0,.string (.mk #[])] 53 (0,0))
theorem ReqAt.cells{R:Nat}{w:World}(h:ReqAt R w):w.cell? R=some (.string (.mk #[]))/\w.cell? ⟨R,1,none⟩=some (.string (.mk #[]))/\w.cell? ⟨R,2,none⟩=some (jD 0 0)/\w.cell? ⟨R,3,none⟩=some (.string (.mk #[])):=
 ⟨Qo w _ 0 _ _ _ h,Qo w _ 1 _ _ _ h,Qo w _ 2 _ _ _ h,Qo w _ 3 _ _ _ h⟩
theorem ReqAt.free{R:Nat}{w:World}(h:ReqAt R w)(j:Nat):w.frozen? ⟨R,j,none⟩=false:=by
 unfold ReqAt at h;simp[World.frozen?, h]
theorem ReqAt.below{R B:Nat}{w w':World}(h:ReqAt R w)(hb:Below B w w')(a:R<B):ReqAt R w':=(hb.block R a).trans h
def zjN(w:World)(R:Nat)(x y z u:Value):World:=(((w.setCell R x).setCell ⟨R,1,none⟩ y).setCell ⟨R,2,none⟩ z).setCell ⟨R,3,none⟩ u
theorem zc7{b w:World}{B R:Nat}(hb:Below B b w)(a:B<=R)(x y z u:Value):Below B b (zjN w R x y z u):=
 (((hb.setCell (p:=⟨R,0,none⟩) a _).setCell (p:=⟨R,1,none⟩) a _).setCell (p:=⟨R,2,none⟩) a _).setCell (p:=⟨R,3,none⟩) a _
theorem zhD{w:World}{R g:Nat}(a:g≠R)(x y z u:Value):(zjN w R x y z u).heap[g]? = w.heap[g]? := by
 unfold zjN;rw[Qm _ _ _ _ a,Qm _ _ _ _ a,Qm _ _ _ _ a,Qm _ _ _ _ a]
theorem zmT(s:ByteArray)(H B A0:Int)(w:World)(hH:0<=H/\H<=4096)(hB:0<=B/\B<=4096)(h6:LibOk w)(hs:s.size<=4611686018427387904):
 Calls prog 39 #[.string s,.agg #[jA H,jA B,jA A0]] w (zgp s.data.toList H B w):=by
 have V:s.data.toList.length=s.size:=by simp
 obtain⟨D,T⟩:∃D,(w.alloc (.cells #[jA H,jA B,jA A0] 26)).alloc (.cells #[.string (.mk #[]),.string (.mk #[]),jD 0 0,.string (.mk #[])] 53)=D:=⟨_,rfl⟩
 have J:Below (w.heap.size+1) (w.alloc (.cells #[jA H,jA B,jA A0] 26)) D:=by rw[<-T];exact(Qi _ _).alloc (by simp) _
 have hC:ReqAt (w.heap.size+1) D:=by
  rw[<-T];have:=Qv (w.alloc (.cells #[jA H,jA B,jA A0] 26)) (.cells #[.string (.mk #[]),.string (.mk #[]),jD 0 0,.string (.mk #[])] 53);rw[Qp]at this;exact this
 have K:w.heap.size+2<=D.heap.size:=by rw[<-T];simp
 have X:∀W,Below (w.heap.size+2) D W->(W.cell? w.heap.size=some (jA H)/\W.cell? ⟨w.heap.size,1,none⟩=some (jA B))/\ReqAt (w.heap.size+1) W/\w W:=λW hb=>by
  obtain⟨h1,h2⟩:=zbB (J.trans (hb.mono (Zd _)));exact⟨⟨h1 0,h1 1⟩,hC.below hb (Zu _),h2⟩
 have L:=hIx X;have ht:Hid (∀W,w W->LibOk W):=λW hb=>h6.below hb
 have j:Hid (∀x W,oneR s.data.toList H B=.error x->Below (w.heap.size+2) D W->zgp s.data.toList H B w (jC (.tuple #[.agg #[.string (.mk #[]),.string (.mk #[]),jD 0 0,.string (.mk #[])],jA 0,jA x]))
  ((((W.setCell (w.heap.size+1:) (.string (.mk #[]))).setCell ⟨w.heap.size+1,1,none⟩ (.string (.mk #[]))).setCell ⟨w.heap.size+1,2,none⟩ (jD 0 0)).setCell ⟨w.heap.size+1,3,none⟩ (.string (.mk #[])))):=λx W h hb=>
  .inl ⟨x,h,rfl,zc7 (X W hb).2.2 (Zd _) _ _ _ _⟩
 have r:Below (w.heap.size+2) D D:=Qi _ _;have ⟨⟨b0,b1⟩,I,hD⟩:=X D r;obtain⟨m0,hw⟩:=ht.out D hD;obtain⟨p,hp⟩:∃p:Nat,min (s.size:Int) H=(p:Int):=⟨(min (s.size:Int) H).toNat,by omega⟩
 have hcut:(s.extract 0 p).data.toList=zfc s.data.toList H:=by
  unfold zfc;rw[ZL,V,hp];simp
 have hG:(s.extract 0 p).size<=4096:=by rw[Xb];omega
 have y:=strings_Index (s.extract 0 p) (ByteArray.mk #[13,10,13,10]) m0 D (by omega) hw;rw[hcut,show (ByteArray.mk #[13,10,13,10]).data.toList=endL from rfl]at y;have S:=Lib.index_ge (zfc s.data.toList H) endL;have hd:=hIx T;have hL:(0:Int)<=(p:Int):=by omega
 have hN:(p:Int)<=(s.size:Int):=by omega
 clear T J X hC h6 hw hD hcut hG
 by_cases z:Lib.index (zfc s.data.toList H) endL<0
 ·have hj:Lib.index (zfc s.data.toList H) endL=-1:=by omega
  rw[hj]at y;have Z:=hIx y;have r0:=I.cells.1;have r1:=I.cells.2.1;have r2:=I.cells.2.2.1;have r3:=I.cells.2.2.2;have f0:=I.free
  by_cases v:H<=(s.size:Int)
  ·have U:=hIx (j.out 5 D (by unfold oneR;rw[Qj z,Qj (by omega)]) r)
   have d1:decide (H<=(s.size:Int))=true:=Qx v;clear y S z hj v I j V hH hB
   go_in
   go_upto_region 1 with fail
   rw[hd.out];go_wp2_with fail;refine Z.out.mono ?_;rintro e w1 ⟨rfl,rfl⟩;go_wp2_with fail;have t:=zdK (.string (.mk #[])) (.string (.mk #[])) (jD 0 0) (.string (.mk #[])) r0 r1 r2 r3;exact zad U.out
  ·have U:=hIx (j.out 7 D (by unfold oneR;rw[Qj z,Qf (by omega)]) r)
   have d1:decide (H<=(s.size:Int))=false:=Qt v;clear y S z hj v I j V hH hB
   go_in
   go_upto_region 1 with fail
   rw[hd.out];go_wp2_with fail;refine Z.out.mono ?_;rintro e w1 ⟨rfl,rfl⟩;go_wp2_with fail;have t:=zdK (.string (.mk #[])) (.string (.mk #[])) (jD 0 0) (.string (.mk #[])) r0 r1 r2 r3;exact zad U.out
 ·obtain⟨i,hi⟩:∃i:Nat,Lib.index (zfc s.data.toList H) endL=(i:Int):=⟨(Lib.index (zfc s.data.toList H) endL).toNat,by omega⟩
  have he:=(ze7 hH.1).1 hi;have h8:=hIx (zwz (B:=B) hH.1 he);have hn:=he.len;have hJ:=he.fits;rw[V]at hn;rw[hi]at y;have Z:=hIx y;have hF:(s.extract 0 (i+4)).data.toList=s.data.toList.take (i+4):=by rw[ZL];simp
  have hk:(s.extract (i+4) s.size).data.toList=s.data.toList.drop (i+4):=Lib.extract_to_end s (i+4);have hy:(s.extract (i+4) s.size).size<=4611686018427387904:=by rw[Xb];omega
  have k1:(0:Int)<=(i:Int):=by omega
  have k2:((i+4:Nat):Int)=(i:Int)+4:=by omega
  have k3:(i:Int)+4<=(s.size:Int):=by omega
  have k4:((i:Int)+4).toNat=i+4:=by rw[<-k2];exact Q9 _
  have d0:decide ((i:Int)<0)=false:=Qt (by omega);have i7:IntKind.i64.wrap ((i:Int)+4)=(i:Int)+4:=Qz _ (by omega);have h4:=zpF (s.extract 0 (i+4)) D (ht.out D (L.out D r).2.2);rw[hF]at h4;unfold zdp zwl at h4;rw[<-hk]at h8;have hI:=hIx h4;clear y S z hi h4 hF hk
  go_in
  go_upto_region 1 with fail
  rw[hd.out];go_wp2_with fail;refine Z.out.mono ?_;rintro e w1 ⟨rfl,rfl⟩;go_wp2_with fail;refine hI.out.mono ?_;rintro e w2 (⟨x,hx,rfl,C⟩|⟨h,A,c,hx,rfl,h7,C⟩)
  ·have E:=(r.trans (C.mono K)).alloc (o:=.cells #[.string (.mk #[]),.string (.mk #[]),jD 0 0] 51) (Ql K C.size)
   have U:=hIx (j.out x _ (by rw[h8.out,hx]) E);have ⟨_,d,_⟩:=L.out _ E;have q0:(x != 0)=true:=by rcases zlz hx with h|h <;> rw[h] <;> decide
   have r0:=d.cells.1;have r1:=d.cells.2.1;have r2:=d.cells.2.2.1;have r3:=d.cells.2.2.2;have f0:=d.free;clear hx C E d;go_wp2_with fail;have t:=zdK (.string (.mk #[])) (.string (.mk #[])) (jD 0 0) (.string (.mk #[])) r0 r1 r2 r3;exact zad U.out
  ·have hu:=(zpk hx).2.1
   have ho:=zhV hu;have E:=(r.trans (C.mono K)).alloc (o:=.cells #[.string h.m,.string h.t,.slice A h.fs.length c] 51) (Ql K C.size);have J:w2 (w2.alloc (.cells #[.string h.m,.string h.t,.slice A h.fs.length c] 51)):=WaL;have ha:=h7.below J;have Q:HdAt w2.heap.size h.m h.t (.slice A h.fs.length c) (w2.alloc (.cells #[.string h.m,.string h.t,.slice A h.fs.length c] 51)):=Qv w2 _;have hE:w.heap.size+2<=w2.heap.size:=Ql K C.size
   have u:Hid (∀W,w2 W->OwnV W w1.heap.size (.slice A h.fs.length c) h.fs->Calls prog 55 #[.agg #[.string h.m,.string h.t,.slice A h.fs.length c],.string (s.extract (i+4) s.size),jA B] W λe w'=>e=jC (zlH (zcx (zaK h) (s.extract (i+4) s.size).data.toList B))/\W w'):=λW _ hO=>
    zq4 h A c (s.extract (i+4) s.size) B W hO.sl (λf hf=>by have:=ho.lens f hf;unfold maxLen;omega) (by have:=ho.few;omega) hy (by omega)
   have l:Hid (oneR s.data.toList H B=match zcx (zaK h) (s.extract (i+4) s.size).data.toList B with
    |.inl e=>.error e
    |.inr (t,k)=>.ok (⟨h,t⟩,i+4+k)):=by unfold Hid;rw[h8.out,hx];dsimp only;cases zcx (zaK h) (s.extract (i+4) s.size).data.toList B <;> rfl
   have hz:∀t k,zcx (zaK h) (s.extract (i+4) s.size).data.toList B=.inr (t,k)->k<=s.size:=λt k O=>by
    have:=(zpd hB.1 O).2;simp only[ZC,ByteArray.size_data,Xb]at this;omega
   have h9:=hIx hz;have hm:∀x,zcx (zaK h) (s.extract (i+4) s.size).data.toList B=.inl x->(x != 0)=true:=λx O=>Q6.2 (zrW O)
   have hc:=hIx hm
   have h5:Hid (∀q n W,oneR s.data.toList H B=.ok (q,n)->Below (w.heap.size+2) w1 W->OwnV W w1.heap.size (.slice A q.h.fs.length c) q.h.fs->zgp s.data.toList H B w (jC (.tuple #[.agg #[.string q.h.m,.string q.h.t,.slice A q.h.fs.length c,.string (bs q.b)],jA (n:Int),jA 0]))
    ((((W.setCell (w.heap.size+1:) (.string q.h.m)).setCell ⟨w.heap.size+1,1,none⟩ (.string q.h.t)).setCell ⟨w.heap.size+1,2,none⟩ (.slice A q.h.fs.length c)).setCell ⟨w.heap.size+1,3,none⟩ (.string (bs q.b)))):=λq n W O hb hO=>by
    refine .inr ⟨q,n,A,c,O,rfl,?_,zc7 (L.out W hb).2.2 (Zd _) _ _ _ _⟩;refine(hO.keep λg hg=>?_).low (QZ (Qw (Nat.lt_succ_of_lt (Zu _)) K));exact zhD (λe=>by have:=(QE hO g hg).1;omega) _ _ _ _
   obtain⟨m,t,Y⟩:=h;dsimp only at h7 ha Q u;clear b0 b1;go_wp2_with fail;generalize w2.alloc (.cells #[.string m,.string t,.slice A Y.length c] 51)=W3 at *;have ⟨h0,h1,h2⟩:=Q.cells;have ⟨⟨b3,b4⟩,_,_⟩:=L.out W3 E;have hA:=hIx E;have hK:=hIx Q;have hh:=hIx ha;have h3:=hIx J
   have hr:w2.heap.size<W3.heap.size:=by
    have:=Q;unfold HdAt at this;rw[QI]at this;exact this.1
   have kk:(i:Int)+4<=(s.size:Int):=k3;have kz:(0:Int)<=(i:Int)+4:=by omega
   clear h7 C E hu ho hx ha Q J hz hm;cases O:zcx (zaK ⟨m,t,Y⟩) (s.extract (i+4) s.size).data.toList B with
   |inl x=>
    rw[O]at u l;have q0:=hc.out x O;unfold zlH at u;dsimp only at u l;clear O h5 h9 hc
    go_region_held3 (λw'=>w'.cell? w2.heap.size=some (.string m)/\w'.cell? ⟨w2.heap.size,1,none⟩=some (.string t)/\w'.cell? ⟨w2.heap.size,2,none⟩=some (.slice A Y.length c)/\w'.cell? ⟨w.heap.size,1,none⟩=some (jA B))
     (first|exact P|go_keep)
     (first|(go_at_call 55;(with_reducible refine(u.out _ ?_ ?_).mono ?_);(first|exact h3.out|exact h3.out.drew);(first|exact hh.out);rintro e N ⟨rfl,G⟩;have a:W3 N:=(by first|exact G|exact undrew G);have P:N.cell? w2.heap.size=some (.string m)/\N.cell? ⟨w2.heap.size,1,none⟩=some (.string t)/\N.cell? ⟨w2.heap.size,2,none⟩=some (.slice A Y.length c)/\N.cell? ⟨w.heap.size,1,none⟩=some (jA B):=⟨zaa a h0,zaa a h1,zaa a h2,zaa a b4⟩))
    have F:=hA.out.trans (a.mono (Ql (Ql hE (QZ hr)) (Qd _)));have U:=hIx (j.out x _ l.out F);have ⟨_,d,_⟩:=L.out _ F;have r0:=d.cells.1;have r1:=d.cells.2.1;have r2:=d.cells.2.2.1;have r3:=d.cells.2.2.2;have f0:=d.free;clear h0 h1 h2 b3 b4 P G a F d;go_wp2_with fail;have t:=zdK (.string (.mk #[])) (.string (.mk #[])) (jD 0 0) (.string (.mk #[])) r0 r1 r2 r3;exact zad U.out
   |inr p=>
    obtain⟨tt,k⟩:=p;rw[O]at u l;have hP:=h9.out tt k O;unfold zlH at u;dsimp only at u l;have ia:IntKind.i64.wrap ((i:Int)+4+(k:Int))=(i:Int)+4+(k:Int):=Qz _ (by omega);have ib:((i+4+k:Nat):Int)=(i:Int)+4+(k:Int):=by omega
    clear O h9 hc j
    go_region_held3 (λw'=>w'.cell? w2.heap.size=some (.string m)/\w'.cell? ⟨w2.heap.size,1,none⟩=some (.string t)/\w'.cell? ⟨w2.heap.size,2,none⟩=some (.slice A Y.length c)/\w'.cell? ⟨w.heap.size,1,none⟩=some (jA B))
     (first|exact P|go_keep)
     (first|(go_at_call 55;(with_reducible refine(u.out _ ?_ ?_).mono ?_);(first|exact h3.out|exact h3.out.drew);(first|exact hh.out);rintro e N ⟨rfl,G⟩;have a:W3 N:=(by first|exact G|exact undrew G);have P:N.cell? w2.heap.size=some (.string m)/\N.cell? ⟨w2.heap.size,1,none⟩=some (.string t)/\N.cell? ⟨w2.heap.size,2,none⟩=some (.slice A Y.length c)/\N.cell? ⟨w.heap.size,1,none⟩=some (jA B):=⟨zaa a h0,zaa a h1,zaa a h2,zaa a b4⟩))
    have F:=hA.out.trans (a.mono (Ql (Ql hE (QZ hr)) (Qd _)));have hv:OwnV N w1.heap.size (.slice A Y.length c) Y:=hh.out.below a;have U:=hIx (h5.out _ _ N l.out F hv);dsimp only at U;rw[ib]at U;have ⟨_,d,_⟩:=L.out _ F;have r0:=d.cells.1;have r1:=d.cells.2.1;have r2:=d.cells.2.2.1;have r3:=d.cells.2.2.2;have f0:=d.free;obtain⟨g0,g1,g2,_⟩:=P;clear h0 h1 h2 b3 b4 G a F d hv;go_wp2_with fail;have t':=zdK (.string m) (.string t) (.slice A Y.length c) (.string (bs tt)) r0 r1 r2 r3;exact zad U.out
attribute [go_sem] results26 results6
theorem zfo{H B A0:Int}(hb:zbG H B A0=true):(30<=H/\H<=4096)/\(0<=B/\B<=4096):=by
 unfold zbG at hb;simp only[Q3,QX]at hb;exact⟨hb.1.1,hb.1.2⟩
theorem zxt(s:ByteArray)(H B A0:Int)(w:World)(hb:zbG H B A0=true)(r:LibOk w)(S:s.size<=4611686018427387904):
 Calls prog 26 #[.string s,.agg #[jA H,jA B,jA A0]] w (zgp s.data.toList H B w):=by
 obtain⟨Q,T⟩:=zfo hb;obtain⟨o,i⟩:∃o,(w.alloc (.cells #[jA H,jA B,jA A0] 26)).alloc (.cells #[.string (.mk #[]),.string (.mk #[]),jD 0 0,.string (.mk #[])] 53)=o:=⟨_,rfl⟩
 have I:Below (w.heap.size+1) (w.alloc (.cells #[jA H,jA B,jA A0] 26)) o:=by rw[<-i];exact(Qi _ _).alloc (by simp) _
 have C:ReqAt (w.heap.size+1) o:=by
  rw[<-i];have:=Qv (w.alloc (.cells #[jA H,jA B,jA A0] 26)) (.cells #[.string (.mk #[]),.string (.mk #[]),jD 0 0,.string (.mk #[])] 53);rw[Qp]at this;exact this
 have y:w.heap.size+2<=o.heap.size:=by rw[<-i];simp
 have u:∀W,Below (w.heap.size+2) o W->(W.cell? w.heap.size=some (jA H)/\W.cell? ⟨w.heap.size,1,none⟩=some (jA B)/\W.cell? ⟨w.heap.size,2,none⟩=some (jA A0))/\ReqAt (w.heap.size+1) W/\w W:=λW hb=>by
  obtain⟨h1,h2⟩:=zbB (I.trans (hb.mono (Zd _)));exact⟨⟨h1 0,h1 1,h1 2⟩,C.below hb (Zu _),h2⟩
 have v:=hIx u;have ⟨⟨Y,U,b2⟩,_,_⟩:=u o (Qi _ _);have l:=zgx H B A0 o;unfold bndE at l;rw[Qj hb]at l;have Z:=hIx l;have D:Hid (∀W,w W->_):=λW hb=>zmT s H B A0 W ⟨by omega,Q.2⟩ T (r.below hb) S
 have K:=hIx i;clear I i l u C r S hb Q T
 go_in
 go_upto_region 1 with fail
 rw[K.out];go_wp2_with fail;refine Z.out.mono ?_;rintro e J ⟨rfl,d⟩;have d:=d.mono y;have ⟨⟨c0,c1,c2⟩,_,E⟩:=v.out J d;have L:=hIx (D.out J E);have z:w.heap.size+2<=J.heap.size:=Ql y d.size;clear Y U b2 E;go_wp2_with fail;refine L.out.mono ?_;rintro e w2 (⟨x,G,rfl,j⟩|⟨q,n,A,c,G,rfl,O,j⟩)
 ·have k:=d.trans (j.mono z)
  have ⟨_,a,f⟩:=v.out w2 k
  have P:Hid (zgp s.data.toList H B w (jC (.tuple #[.agg #[.string (.mk #[]),.string (.mk #[]),jD 0 0,.string (.mk #[])],jA 0,jA x])) (zjN w2 (w.heap.size+1) (.string (.mk #[])) (.string (.mk #[])) (jD 0 0) (.string (.mk #[])))):=
   .inl ⟨x,G,rfl,zc7 f (Zd _) _ _ _ _⟩
  have N:=a.cells.1;have r1:=a.cells.2.1;have r2:=a.cells.2.2.1;have r3:=a.cells.2.2.2;have X:=a.free;unfold zReq;clear c0 c1 c2 a f d j k G;go_wp2_with fail;have t:=zdK (.string (.mk #[])) (.string (.mk #[])) (jD 0 0) (.string (.mk #[])) N r1 r2 r3;exact zad P.out
 ·have k:=d.trans (j.mono z)
  have ⟨_,a,f⟩:=v.out w2 k
  have F:OwnV (zjN w2 (w.heap.size+1) (.string q.h.m) (.string q.h.t) (.slice A q.h.fs.length c) (.string (bs q.b))) w.heap.size (.slice A q.h.fs.length c) q.h.fs:=by
   refine(O.keep λg V=>?_).low (by omega);exact zhD (λe=>by have:=(QE O g V).1;omega) _ _ _ _
  have P:Hid (zgp s.data.toList H B w (jC (.tuple #[.agg #[.string q.h.m,.string q.h.t,.slice A q.h.fs.length c,.string (bs q.b)],jA (n:Int),jA 0])) (zjN w2 (w.heap.size+1) (.string q.h.m) (.string q.h.t) (.slice A q.h.fs.length c) (.string (bs q.b)))):=
   .inr ⟨q,n,A,c,G,rfl,F,zc7 f (Zd _) _ _ _ _⟩
  have N:=a.cells.1;have r1:=a.cells.2.1;have r2:=a.cells.2.2.1;have r3:=a.cells.2.2.2;have X:=a.free;unfold reqV;clear c0 c1 c2 a f d j k G O F;go_wp2_with fail;have t:=zdK (.string q.h.m) (.string q.h.t) (.slice A q.h.fs.length c) (.string (bs q.b)) N r1 r2 r3;exact zad P.out
theorem zvx(w:World):Calls prog 6 #[] w λe w'=>e=jC (.agg #[jA 4096,jA 4096,jA 40])/\w w':=by
 have hb:w (w.alloc (.cells #[jA 4096,jA 4096,jA 40] 26)):=WaL
 go_in
 go_wp2;exact zad ⟨rfl,hb⟩
