/- Lemmas for the last texts. -/
import Derived.Test.YtfhaojhofiocaaaGreatDoorM16
set_option maxHeartbeats 3200000
set_option maxRecDepth 100000
namespace Go.Proofs.YtfhaojhofiocaaaGreatDoor
open Go.RowKit Go.Proofs.Tryz
def zd0(f:UInt8->UInt8)(k:Nat)(l:jE):jE:=(l.take k).map f++l.drop k
theorem zmD(f:UInt8->UInt8)(k:Nat)(l:jE):(zd0 f k l).length=l.length:=by simp[zd0];omega
theorem zoB(f:UInt8->UInt8)(k:Nat)(l:jE)(h:k<l.length)(a:k<(zd0 f k l).length):(zd0 f k l)[k]=l[k]:=by
 have e:(zd0 f k l)[k]? = l[k]? := by
  unfold zd0;rw[Q1 (by simp;omega)];simp[Nat.min_eq_left (QZ h)]
 rw[Qe a,Qe h]at e;exact QG e
theorem zmc(f:UInt8->UInt8)(k:Nat)(l:jE)(h:k<l.length):(zd0 f k l).set k (f l[k])=zd0 f (k+1) l:=by
 have a:((l.take k).map f).length=k:=by simp;omega
 unfold zd0;rw[ZO k _ (by omega),a,Z8,Zb h,Qg,Qu h,Q2,Q4]
 rfl
theorem zpM(f:UInt8->UInt8)(k:Nat)(l:jE)(h:k<l.length)(e:f l[k]=l[k]):zd0 f k l=zd0 f (k+1) l:=by
 rw[<-zmc f k l h,e];refine(List.ext_getElem (by simp) λi h1 h2=>?_).symm;rw[List.getElem_set]
 split
 ·rename_i a;subst a;rw[zoB f _ _ h]
 ·rfl
theorem zqX(f:UInt8->UInt8)(l:jE):zd0 f 0 l=l:=by simp[zd0]
theorem zsN(f:UInt8->UInt8)(k:Nat)(l:jE)(h:l.length<=k):zd0 f k l=l.map f:=by
 simp[zd0,QR h,QM h]
theorem zym(b:UInt8)(r:jE):dsL (b::r)=if b=32/\(r.head? = some 47\/r.head? = some 40)then dsL r else b::dsL r:=by
 cases r with
 |nil=>rw[Qf (by simp)];rfl
 |cons c r=>rw[dsL];simp
def zyD(l:jE)(w:World)(g:Nat)(i:Value)(wr:World):Prop:=
 ∃k:Nat,k<=l.length/\i=jA k/\BytesAt wr g (zd0 zbV k l)/\w wr
def zyQ(l:jE)(w:World)(v i:Value)(wr:World):Prop:=
 ∃(k:Nat) (a:jE),k<=l.length/\i=jA k/\a.length<=k/\OwnB wr w.heap.size v a/\dsL l=a++dsL (l.drop k)/\w wr
theorem zxI(s:ByteArray)(w:World)(hs:s.size<=140737488351232):
 Calls prog 237 #[.string s] w (zbJ (bs (cmdL s.data.toList)) w):=by
 have N:(outL zgL s.data.toList).length<=s.data.toList.length:=Zh _ _;rw[show s.data.toList.length=s.size by simp]at N;have q:Hid (cmdL s.data.toList=zaB (dsL (zb6 ((outL zgL s.data.toList).map zbV)))):=rfl;obtain⟨y,hy⟩:∃y,outL zgL s.data.toList=y:=⟨_,rfl⟩
 have HY:=hIx hy;rw[hy]at N q;clear hy
 go_in
 go_wp2_with (first|(go_at_call 258;refine(zi1 _ _ _ hs).mono ?_;rintro e w1 ⟨rfl,K⟩;rw[show (ByteArray.mk #[92,34,39,94]).data.toList=zgL from rfl,HY.out])|(refine zek rfl _ 9 176 5 rfl underlying9 underlying176 underlying5 _ rfl ?_;intro c w2 hc t O L));have hg:w.heap.size<=w1.heap.size:=K.size;have D:=K.trans (O.mono hg);rw[zam]at t;have HZ:=hIx L;clear L hc;obtain⟨g,B⟩:∃g,w1.heap.size=g:=⟨_,rfl⟩
 rw[B]at t hg;have hf:=hIx B;simp only[B];clear B O K
 go_loopw [13] (λi wr=>zyD y w g i wr) (λi _=>y.length-(intOf i).toNat)
 case atStart=>exact⟨0,Qn _,rfl,by rw[zqX];exact t,D⟩
 case round=>
  obtain⟨k,hk,rfl,hb,o⟩:=hrel;clear t D;have C:Hid ((zd0 zbV k y).length=y.length):=zmD _ _ _
  by_cases u:k<y.length
  ·have hl:k<(zd0 zbV k y).length:=by rw[C.out];exact u
   have h8:=hb.cell hl;have hj:=hb.free hl;have S:=zoB zbV k y u hl;rw[S]at h8;have HB:=hIx hb;have he:=(y[k]).toNat_lt;clear hb S
   by_cases J:y[k]=44\/y[k]=59
   ·have I:Hid (zbV y[k]=32):=by unfold Hid zbV;rw[Qj J]
    have n:(((y[k].toNat:Int)==44)=true)\/(((y[k].toNat:Int)==44)=false/\((y[k].toNat:Int)==59)=true):=by
     rcases J with h|h
     ·left;rw[h];decide
     ·right;rw[h];exact⟨by decide,by decide⟩
    clear J
    rcases n with Y|⟨Y,q2⟩
    all_goals
     go_wp2
     refine⟨⟨k+1,by omega,by go_num,?_,o.setCell (p:=⟨g,k,none⟩) hg _⟩,by simp[intOf];omega⟩;rw[<-zmc zbV k _ u,I.out];exact HB.out.set hl 32
   ·have I:Hid (zbV y[k]=y[k]):=by unfold Hid zbV;rw[Qf J]
    have Y:((y[k].toNat:Int)==44)=false:=Qc.2 (λh=>J (.inl (Zr.1 (by show y[k].toNat=44;omega))));have q2:((y[k].toNat:Int)==59)=false:=Qc.2 (λh=>J (.inr (Zr.1 (by show y[k].toNat=59;omega))));clear J
    go_wp2
    refine⟨⟨k+1,by omega,by go_num,?_,o⟩,by simp[intOf];omega⟩;rw[<-zpM zbV k _ u I.out];exact HB.out
  ·have h4:=zcW (P:=prog) hb 176 9 5 y.length c (by rw[C.out]) underlying176 underlying5 underlying9
   rw[zsN zbV k y (by omega)]at h4;have H:(y.map zbV).length=y.length:=Qk _;have F:=o.size;clear hb;have h0:(bs (y.map zbV)).size<=140737488351232:=by rw[zah,H];omega
   have G:=zl8 (y.map zbV) false;rw[H]at G;obtain⟨z,V⟩:∃z,bs (zb6 (y.map zbV))=z:=⟨_,rfl⟩
   have Q:z.data.toList=zb6 (y.map zbV):=by rw[<-V];rfl
   have hd:z.size<=y.length:=by rw[<-V,zah];exact G
   rw[<-Q]at q;have h6:=hIx V;have m:Hid (z.data.toList.length=z.size):=by unfold Hid;simp
   clear V G H Q;go_wp2_with (go_at_call 235;refine(zi0 _ _ h0).mono ?_;rintro e w3 ⟨rfl,h5⟩;rw[zam,h6.out])
   go_loopw [6,33] (λv i wr=>zyQ z.data.toList w v i wr) (λ_ i _=>z.size-(intOf i).toNat)
   case atStart=>exact⟨0,[],Qn _,rfl,Qd _,OwnB.nil _ _,rfl,o.trans (h5.mono F)⟩
   case round=>
    obtain⟨a,l,h3,rfl,h9,j,hr,f⟩:=hrel;have b:=f.size;rw[m.out]at h3;have T:=hIx hr;clear hr
    by_cases U:a<z.size
    ·have X:=hIx (zaH z a U)
     have A:=hIx (zym z[a] (z.data.toList.drop (a+1)));have hi:(a:Int)<(z.size:Int):=by omega
     by_cases c1:z[a]=32
     ·have Y:((z[a].toNat:Int)==32)=true:=by rw[c1];decide
      by_cases c2:a+1<z.size
      ·have W:(z.data.toList.drop (a+1)).head? = some z[a+1]:=by rw[List.head?_drop,Xt z _ c2]
       have q2:(a:Int)+1<(z.size:Int):=by omega
       have i3:0<=(a:Int)+1:=by omega
       have i5:((a:Int)+1).toNat=a+1:=by omega
       by_cases c3:z[a+1]=47\/z[a+1]=40
       ·have x:Hid (dsL (z[a]::z.data.toList.drop (a+1))=dsL (z.data.toList.drop (a+1))):=by
         unfold Hid;rw[A.out,W,Qj ⟨c1,by rcases c3 with h|h;exact .inl (by rw[h]);exact .inr (by rw[h])⟩]
        have n:(((z[a+1].toNat:Int)==47)=true)\/(((z[a+1].toNat:Int)==47)=false/\((z[a+1].toNat:Int)==40)=true):=by
         rcases c3 with h|h
         ·left;rw[h];decide
         ·right;rw[h];exact⟨by decide,by decide⟩
        clear c1 c3 W
        rcases n with q3|⟨q3,q4⟩
        all_goals
         go_wp2;exact⟨⟨a+1,l,by rw[m.out];omega,by go_num,by omega,j,by rw[T.out,X.out,x.out],f⟩,by simp[intOf];omega⟩
       ·have x:Hid (dsL (z[a]::z.data.toList.drop (a+1))=z[a]::dsL (z.data.toList.drop (a+1))):=by
         unfold Hid;rw[A.out,W,Qf (by rintro⟨_,h|h⟩;exact c3 (.inl (QG h));exact c3 (.inr (QG h)))]
        have q3:((z[a+1].toNat:Int)==47)=false:=Qc.2 (λh=>c3 (.inl (Zr.1 (by show z[a+1].toNat=47;omega))));have q4:((z[a+1].toNat:Int)==40)=false:=Qc.2 (λh=>c3 (.inr (Zr.1 (by show z[a+1].toNat=40;omega))));clear c1 c3 W;go_wp2_with (at_builtin;refine zag rfl _ _ rfl w.heap.size _ l rfl (by exact j) (by exact b) _ [z[a]] rfl 1 1 rfl rfl (by omega) ?_;intro v' w4 d r E);exact⟨⟨a+1,l++[z[a]],by rw[m.out];omega,by go_num,by simp;omega,d,by rw[T.out,X.out,x.out];simp,f.trans r⟩,by simp[intOf];omega⟩
      ·have x:Hid (dsL (z[a]::z.data.toList.drop (a+1))=z[a]::dsL (z.data.toList.drop (a+1))):=by
        unfold Hid;rw[A.out,Qf (by rw[QM (by rw[m.out];omega)];simp)]
       have q2:(z.size:Int)<=(a:Int)+1:=by omega
       clear c1;go_wp2_with (at_builtin;refine zag rfl _ _ rfl w.heap.size _ l rfl (by exact j) (by exact b) _ [z[a]] rfl 1 1 rfl rfl (by omega) ?_;intro v' w4 d r E);exact⟨⟨a+1,l++[z[a]],by rw[m.out];omega,by go_num,by simp;omega,d,by rw[T.out,X.out,x.out];simp,f.trans r⟩,by simp[intOf];omega⟩
     ·have x:Hid (dsL (z[a]::z.data.toList.drop (a+1))=z[a]::dsL (z.data.toList.drop (a+1))):=by
       unfold Hid;rw[A.out,Qf (λh=>c1 h.1)]
      have Y:((z[a].toNat:Int)==32)=false:=Qc.2 (λh=>c1 (Zr.1 (by show z[a].toNat=32;omega)));clear c1;go_wp2_with (at_builtin;refine zag rfl _ _ rfl w.heap.size _ l rfl (by exact j) (by exact b) _ [z[a]] rfl 1 1 rfl rfl (by omega) ?_;intro v' w4 d r E);exact⟨⟨a+1,l++[z[a]],by rw[m.out];omega,by go_num,by simp;omega,d,by rw[T.out,X.out,x.out];simp,f.trans r⟩,by simp[intOf];omega⟩
    ·have ha:=j.string
     have x:Hid (dsL z.data.toList=l):=by unfold Hid;rw[T.out,QM (by rw[m.out];omega)];simp[dsL]
     have Z:(bs l).size<=maxLen:=by rw[zah];unfold maxLen;omega
     clear j;go_wp2_with (go_at_call 116;refine(zbg _ _ Z).mono ?_;rintro e w5 ⟨rfl,h7⟩;rw[zam]);go_ret;exact⟨by rw[q.out,x.out];rfl,f.trans (h7.mono b)⟩
theorem zya(l:jE):(cmdL l).length<=l.length:=by
 have h1:(outL zgL l).length<=l.length:=Zh _ _;have h2:=zl8 ((outL zgL l).map zbV) false;have a:=zwH (zb6 ((outL zgL l).map zbV));rw[Qk]at h2;unfold cmdL zaB;rw[Qk];unfold zb6 at *;omega
def upP:jE:=[46,46]
def zi8(a:Bool)(left:List jE)(p:jE):List jE:=
 if p=[]\/p=[46]then left else if p=upP then (if left≠[]/\left.getLast? ≠ some upP then left.dropLast else if a=true then left else left++[p])else left++[p]
def zbI(a:Bool)(b:List jE):List jE:=b.foldl (zi8 a) []
def dotP(p:jE):Bool:=decide (p=[]\/p=[46]\/p=upP)
def zk4(left a:List jE):Bool:=decide (left≠[]/\1<a.length)&&dotP (a.getLast?.getD [])
def outP(a:Bool)(left:List jE)(sl:Bool):jE:=(if a=true then [47]else [])++Lib.join left [47]++(if sl=true then [47]else [])
def zta(s:jE):jE:=outP (s.head? == some 47) (zbI (s.head? == some 47) (splL 47 s)) (zk4 (zbI (s.head? == some 47) (splL 47 s)) (splL 47 s))
def wtP(l:List jE):Nat:=(l.map λp=>p.length+1).sum
theorem zjn(a b:List jE):wtP (a++b)=wtP a+wtP b:=by unfold wtP;rw[Q2,List.sum_append]
theorem zxl(c:UInt8)(l:jE):wtP (splL c l)=l.length+1:=by
 induction l with
 |nil=>rfl
 |cons b l ih=>
  rw[splL]
  split
  ·have e:wtP ([]::splL c l)=1+wtP (splL c l):=by unfold wtP;simp
   rw[e,ih,Qq];omega
  ·cases h:splL c l with
   |nil=>exact absurd h (znI c l)
   |cons x r=>
    rw[h]at ih;have a:wtP ((b::x)::r)=x.length+1+1+wtP r:=by unfold wtP;simp
    have d:wtP (x::r)=x.length+1+wtP r:=by unfold wtP;simp
    rw[d]at ih;rw[a,Qq];omega
theorem zwh(l:List jE):wtP l.dropLast<=wtP l:=by
 rcases List.eq_nil_or_concat l with e|⟨a,x,e⟩
 ·subst e;exact Qd _
 ·rw[List.concat_eq_append]at e
  subst e;rw[List.dropLast_concat,zjn];omega
theorem zuo(a:Bool)(l:List jE)(p:jE):wtP (zi8 a l p)<=wtP l+(p.length+1):=by
 have h1:wtP (l++[p])=wtP l+(p.length+1):=by rw[zjn];rfl
 have h2:=zwh l;unfold zi8
 (repeat' split) <;> omega
theorem zou(b:Bool):∀(a l:List jE),wtP (a.foldl (zi8 b) l)<=wtP l+wtP a
 | [],l=>Nat.le_add_right _ _
 |p::a,l=>by
  have h1:=zou b a (zi8 b l p);have h2:=zuo b l p;have c:wtP (p::a)=p.length+1+wtP a:=by unfold wtP;simp
  rw[XK,c];omega
theorem zow(c:UInt8):∀l:List jE,(Lib.join l [c]).length<=wtP l
 | []=>by simp[Lib.join_nil]
 |x::r=>by
  have b:∀r:List jE,(Lib.joinTail [c] r).length=wtP r:=λr=>by
   induction r with
   |nil=>rfl
   |cons y r ih=>
    have a:wtP (y::r)=y.length+1+wtP r:=by unfold wtP;simp
    rw[a,<-ih];simp only[Lib.joinTail,Q8,List.flatten_cons,Qb,Qq,QP];omega
  have a:wtP (x::r)=x.length+1+wtP r:=by unfold wtP;simp
  rw[Lib.join_cons,Qb,b,a];omega
theorem ztu(a:Bool)(s:jE):wtP (zbI a (splL 47 s))<=s.length+1:=by
 have h:=zou a (splL 47 s) [];rw[zxl]at h;have e:wtP ([]:List jE)=0:=rfl;rw[e]at h;unfold zbI;omega
theorem zve(s:jE):(zta s).length<=s.length+3:=by
 have h1:=ztu (s.head? == some 47) s;have h2:=zow 47 (zbI (s.head? == some 47) (splL 47 s));unfold zta outP;rw[Qb,Qb];have a:(if (s.head? == some 47)=true then [(47:UInt8)]else []).length<=1:=by split <;> simp
 have b:(if zk4 (zbI (s.head? == some 47) (splL 47 s)) (splL 47 s)=true then [(47:UInt8)]else []).length<=1:=by split <;> simp
 omega
theorem OwnS.head{w:World}{base:Nat}{v:Value}{l:List ByteArray}(h:OwnS w base v l)(hl:0<l.length):∃g c,v=.slice (some ⟨g,0,none⟩) l.length c/\l.length<=c:=by
 rcases h.2 with ⟨_,h2⟩|⟨g,cap,a,h1,_,_,b,_⟩
 ·omega
 ·exact⟨g,cap,h1,b⟩
theorem OwnS.pop{w:World}{base g c:Nat}{k:ByteArray}{l:List ByteArray}(h:OwnS w base (.slice g (l++[k]).length c) (l++[k])):OwnS w base (.slice g l.length c) l:=by
 unfold OwnS at h ⊢;rw[Qb,QH,Q2]at h;exact ownsRow_pop (by simp) h
theorem OwnS.cell{w:World}{base g c:Nat}{l:List ByteArray}(h:OwnS w base (.slice g l.length c) l)(k:Nat)(a:k<l.length):w.cell? ⟨g,k,none⟩=some (.string l[k]):=by
 have h1:=Zq (g:=g) h (by simp[Value.ownBlock]) k (.string l[k]) (by simp[a]);rw[zbd]at h1;exact h1
theorem zvD{base:Nat}(L:List ByteArray)(v:Value)(c:UInt8)(w:World)(d:OwnS w base v L)(b:(Lib.join (L.map (·.data.toList)) [c]).length<=140737488355328)(i:L.length<=140737488355328):
 Calls prog 250 #[v,.string ⟨#[c]⟩] w λe w'=>e=jC (.string (bs (Lib.join (L.map (·.data.toList)) [c])))/\w w':=by
 rcases Z4 L.length with h|k
 ·have m:L=[]:=QA h
  subst m;obtain⟨n,f,rfl,_⟩:=d.form;exact(strings_Join_none n f ⟨#[c]⟩ w).mono λe w' ⟨h1,h2⟩=>by subst h2;exact⟨h1,Qi _ _⟩
 ·obtain⟨g,f,rfl,a⟩:=d.head k
  refine strings_Join g 0 f L ⟨#[c]⟩ w (λj x l=>?_) (d.lt g (by simp[Value.ownBlock])).2 i a b;obtain⟨h1,h2⟩:=Qy.1 l;rw[Ze,d.cell j h1,h2]
theorem zse(a b:jE):(a==b)=decide (a=b):=by by_cases h:a=b <;> simp[h]
def zzH(c:Bool)(a:List jE)(w b:World)(v i:Value)(wr:World):Prop:=
 ∃(k:Nat) (L:List ByteArray),k<=a.length/\i=jA k/\OwnS wr (w.heap.size+1) v L/\Hid (L.map (·.data.toList)=zbI c (a.take k))/\L.length<=k/\Below (w.heap.size+1) b wr
theorem zu1(s:ByteArray)(w:World)(h7:LibOk w)(hs:s.size<=4194304):Calls prog 234 #[.string s] w λe w'=>e=jC (.string (bs (zta s.data.toList)))/\w w':=by
 obtain⟨m0,hg⟩:=h7;have K:=strings_Split s ⟨#[47]⟩ m0 w (by omega) hg (by decide);have Q:=zb1 47 s;have t:=Z9 ⟨#[47]⟩ (by decide) 0 _ s rfl;generalize Lib.splitB ⟨#[47]⟩ 0 (Lib.countB s ⟨#[47]⟩) s=a at K Q t;generalize Lib.countB s ⟨#[47]⟩=n at K t;rw[<-t]at K;have h6:=strings_HasPrefix s ⟨#[47]⟩ w
 have Z:Lib.hasPrefix s.data.toList [47]=(s.data.toList.head? == some 47):=by
  unfold Lib.hasPrefix;cases s.data.toList with
  |nil=>rfl
  |cons b r=>
   by_cases hb:b=47
   ·subst hb;rfl
   ·simp only[List.isPrefixOf,List.head?_cons,Bool.and_true]
    rw[Qc.2 (Xk hb),Qc.2 (λe=>hb (QG e))]
 rw[show (ByteArray.mk #[47]).data.toList=[47]from rfl,Z]at h6;have hh:zta s.data.toList=outP (s.data.toList.head? == some 47) (zbI (s.data.toList.head? == some 47) (splL 47 s.data.toList)) (zk4 (zbI (s.data.toList.head? == some 47) (splL 47 s.data.toList)) (splL 47 s.data.toList)):=rfl;have hN:=ztu (s.data.toList.head? == some 47) s.data.toList;have hG:s.data.toList.length=s.size:=by simp
 rw[hh];generalize (s.data.toList.head? == some 47)=c at *;obtain⟨X,hX⟩:∃X,bs (outP c (zbI c (splL 47 s.data.toList)) (zk4 (zbI c (splL 47 s.data.toList)) (splL 47 s.data.toList)))=X:=⟨_,rfl⟩
 rw[hX];have HX:=hIx hX;clear hX;have h5:=hIx Q;have h9:=hIx K;have hq:=hIx h6;have hi:Hid (wtP (zbI c (splL 47 s.data.toList))<=4194305):=by unfold Hid;omega
 have hV:a.length<=4194305:=by
  have h1:=Zm List.length Q;have h2:=zdL 47 s.data.toList;rw[Qk]at h1;omega
 clear Q K t h6 Z hh hN hg hG
 go_in
 go_wp2_with fail;refine hq.out.mono ?_;rintro e w0 ⟨rfl,hp⟩;rw[hp];clear hp;go_wp2_with fail;refine h9.out.mono ?_;rintro e w1 ⟨rfl,P⟩
 have hy:∀W,Below (w.heap.size+1) w1 W->∀j (h:j<a.length),W.cell? ⟨w.heap.size,j,none⟩=some (.string a[j]):=λW hb j h=>by
  have hI:Below (w.alloc (.cells (a.map Value.string).toArray 9)).heap.size (w.alloc (.cells (a.map Value.string).toArray 9)) W:=by rw[P]at hb;simpa using hb
  rw[zar hI j];simp[h]
 have N:w1.heap.size=w.heap.size+1:=by rw[P];simp
 have Y:w w1:=by rw[P];exact WaL
 have t:(splL 47 s.data.toList).length=a.length:=by rw[<-h5.out,Qk]
 have hQ:0<a.length:=by rw[<-t];exact List.length_pos_iff.2 (znI 47 _)
 have hv:=hIx hy;have hr:=hIx Y;have d:=hIx t;have hw:w.heap.size+1<=w1.heap.size:=Nat.le_of_eq N.symm;clear hy Y t P N h9 hq;go_wp2
 go_loopw [5,17] (λv i wr=>zzH c (splL 47 s.data.toList) w w1 v i wr) (λ_ i _=>a.length-(intOf i).toNat)
 case atStart=>exact⟨0,[],Qn _,rfl,OwnS.nil _ _,rfl,Qn _,Qi _ _⟩
 case round=>
  obtain⟨k,L,hk,rfl,l,HL,hP,F⟩:=hrel;rw[d.out]at hk;have q:w.heap.size+1<=wr.heap.size:=Ql hw F.size;have HO:=hIx l;have V:=hIx F
  by_cases h3:k<a.length
  ·have d2:decide ((k:Int)<(a.length:Int))=true:=by simp;omega
   have i7:IntKind.i64.wrap ((k:Int)+1)=(k:Int)+1:=Qz _ (by omega);have hc:=hv.out wr F k h3
   have E:Hid (zbI c ((splL 47 s.data.toList).take (k+1))=zi8 c (zbI c ((splL 47 s.data.toList).take k)) a[k].data.toList):=by
    unfold Hid
    have hx:(splL 47 s.data.toList)[k]'(by rw[d.out];exact h3)=a[k].data.toList:=by
     have:=h5.out;simp only[<-this,Zo]
    rw[Qu (by rw[d.out];exact h3),hx];unfold zbI;rw[XM]
    rfl
   generalize a[k]=x at hc E;rw[<-HL.out]at E;have hH:L.length<=4194305:=by omega
   by_cases c0:x.data.toList=[]
   ·have q0:x.toList.isEmpty=true:=by rw[QU,c0];rfl
    have B:Hid (L.map (·.data.toList)=zbI c ((splL 47 s.data.toList).take (k+1))):=by
     unfold Hid;rw[E.out];unfold zi8;rw[Qj (.inl c0)]
    obtain⟨Ao,I,rfl,_⟩:=l.form;clear c0 l F;go_wp2;exact⟨⟨k+1,L,by rw[d.out];omega,rfl,HO.out,B.out,by omega,V.out⟩,by dsimp only[intOf];omega⟩
   ·have q0:x.toList.isEmpty=false:=by rw[QU];cases h:x.data.toList with|nil=>exact absurd h c0|cons _ _=>rfl
    by_cases c1:x.data.toList=[46]
    ·have q1:(x.toList==[46])=true:=by rw[QU,c1];rfl
     have B:Hid (L.map (·.data.toList)=zbI c ((splL 47 s.data.toList).take (k+1))):=by
      unfold Hid;rw[E.out];unfold zi8;rw[Qj (.inr c1)]
     obtain⟨Ao,I,rfl,_⟩:=l.form;clear c0 c1 l F;go_wp2;exact⟨⟨k+1,L,by rw[d.out];omega,rfl,HO.out,B.out,by omega,V.out⟩,by dsimp only[intOf];omega⟩
    ·have q1:(x.toList==[46])=false:=by rw[QU,Qc];exact c1
     by_cases c2:x.data.toList=upP
     ·have q2:(x.toList==[46,46])=true:=by rw[QU,c2];rfl
      have D:¬(x.data.toList=[]\/x.data.toList=[46]):=λe=>e.elim c0 c1
      have u:Hid (zbI c ((splL 47 s.data.toList).take (k+1))=if L.map (·.data.toList)≠[]/\(L.map (·.data.toList)).getLast? ≠ some upP then (L.map (·.data.toList)).dropLast else if c=true then L.map (·.data.toList)else (L++[x]).map (·.data.toList)):=by
       unfold Hid;rw[E.out];unfold zi8;rw[Qf D,Qj c2,Q2];rfl
      rcases List.eq_nil_or_concat L with e|⟨m,y,e⟩
      ·subst e
       cases c with
       |true=>
        have B:Hid (([]:List ByteArray).map (·.data.toList)=zbI true ((splL 47 s.data.toList).take (k+1))):=by
         unfold Hid;rw[u.out,Qf (λh=>h.1 rfl),Qj rfl]
        obtain⟨Ao,I,rfl,_⟩:=l.form;dsimp only[List.length_nil]at *;clear c0 c1 c2 D l F;go_wp2;exact⟨⟨k+1,[],by rw[d.out];omega,rfl,HO.out,B.out,by simp,V.out⟩,by dsimp only[intOf];omega⟩
       |false=>
        have B:Hid ((([]:List ByteArray)++[x]).map (·.data.toList)=zbI false ((splL 47 s.data.toList).take (k+1))):=by
         unfold Hid;rw[u.out,Qf (λh=>h.1 rfl),Qf (by decide)]
        obtain⟨Ao,I,rfl,_⟩:=l.form;dsimp only[List.length_nil]at *;clear c0 c1 c2 D F;go_wp2_with (at_builtin;refine zbw rfl (.tmp 49) (.tmp 51) rfl (w.heap.size+1) (.slice Ao 0 I) [] rfl l q _ [x] rfl 1 1 rfl rfl (by decide) ?_;intro v5 w5 G A hm hf);exact⟨⟨k+1,[]++[x],by rw[d.out];omega,rfl,G,B.out,by simp,V.out.trans A⟩,by dsimp only[intOf];omega⟩
      ·rw[List.concat_eq_append]at e
       subst e;obtain⟨g,I,rfl,h8⟩:=l.head (by simp);have h0:=l.cell m.length (by simp);rw[ZW (Qd _)]at h0;simp only[Z8,List.getElem_cons_zero]at h0;have C:=l.pop;rw[Qb,QH]at h8 hP hH ⊢;have f:((m++[y]).map (·.data.toList)).getLast? = some y.data.toList:=by rw[Q2,List.getLast?_append];rfl
       have j0:decide ((0:Int)<(m.length:Int)+1)=true:=Qx (by omega);have j1:wrap64 (m.length:Int)=(m.length:Int):=IntWalk.wrap64_in _ (by omega);have j3:(m.length:Int)<(m.length:Int)+1:=by omega
       have j5:m.length<=I:=by omega
       by_cases cy:y.data.toList=upP
       ·have q3:(y.toList==[46,46])=true:=by rw[QU,cy];rfl
        have o:¬((m++[y]).map (·.data.toList)≠[]/\((m++[y]).map (·.data.toList)).getLast? ≠ some upP):=λh=>h.2 (by rw[f,cy])
        cases c with
        |true=>
         have B:Hid ((m++[y]).map (·.data.toList)=zbI true ((splL 47 s.data.toList).take (k+1))):=by
          unfold Hid;rw[u.out,Qf o,Qj rfl]
         clear c0 c1 c2 D cy o f l F C;go_wp2;exact⟨⟨k+1,m++[y],by rw[d.out];omega,rfl,by have:=HO.out;simpa using this,B.out,by simp;omega,V.out⟩,by dsimp only[intOf];omega⟩
        |false=>
         have B:Hid ((m++[y]++[x]).map (·.data.toList)=zbI false ((splL 47 s.data.toList).take (k+1))):=by
          unfold Hid;rw[u.out,Qf o,Qf (by decide)]
         have hE:OwnS wr (w.heap.size+1) (.slice g (m.length+1) I) (m++[y]):=by have:=l;simpa using this
         clear c0 c1 c2 D cy o f F C l;go_wp2_with (at_builtin;refine zbw rfl (.tmp 49) (.tmp 51) rfl (w.heap.size+1) (.slice g (m.length+1) I) (m++[y]) rfl hE q _ [x] rfl 1 1 rfl rfl (by simp;omega) ?_;intro v5 w5 G A hm hf);exact⟨⟨k+1,m++[y]++[x],by rw[d.out];omega,rfl,G,B.out,by simp;omega,V.out.trans A⟩,by dsimp only[intOf];omega⟩
       ·have q3:(y.toList==[46,46])=false:=by rw[QU,Qc];exact cy
        have B:Hid (m.map (·.data.toList)=zbI c ((splL 47 s.data.toList).take (k+1))):=by
         unfold Hid;rw[u.out,Qj ⟨by simp,λh=>cy (by rw[f]at h;exact QG h)⟩,Q2];exact(List.dropLast_concat ..).symm
        have hu:=hIx C;clear c0 c1 c2 D cy f l F C;go_wp2;exact⟨⟨k+1,m,by rw[d.out];omega,rfl,hu.out,B.out,by omega,V.out⟩,by dsimp only[intOf];omega⟩
     ·have q2:(x.toList==[46,46])=false:=by rw[QU,Qc];exact c2
      have B:Hid ((L++[x]).map (·.data.toList)=zbI c ((splL 47 s.data.toList).take (k+1))):=by
       unfold Hid;rw[E.out];unfold zi8;rw[Qf (λe=>e.elim c0 c1),Qf c2,Q2];rfl
      obtain⟨Ao,I,rfl,_⟩:=l.form;clear c0 c1 c2 F;go_wp2_with (at_builtin;refine zbw rfl (.tmp 22) (.tmp 24) rfl (w.heap.size+1) (.slice Ao L.length I) L rfl l q _ [x] rfl 1 1 rfl rfl (by omega) ?_;intro v5 w5 G A hm hf);exact⟨⟨k+1,L++[x],by rw[d.out];omega,rfl,G,B.out,by simp;omega,V.out.trans A⟩,by dsimp only[intOf];omega⟩
  ·obtain rfl:k=a.length:=by omega
   have d2:decide ((a.length:Int)<(a.length:Int))=false:=by simp
   have S:L.map (·.data.toList)=zbI c (splL 47 s.data.toList):=by have:=HL.out;rwa[<-d.out,Q0]at this
   have hC:=zow 47 (zbI c (splL 47 s.data.toList));have hj:=zvD L _ 47 wr l (by rw[S];have:=hi.out;omega) (by omega);rw[S]at hj;have hR:(bs (Lib.join (zbI c (splL 47 s.data.toList)) [47])).size<=4194305:=by rw[zah];have:=hi.out;omega
   obtain⟨z,hz,U⟩:∃z,a[a.length-1]? = some z/\Hid (zk4 (zbI c (splL 47 s.data.toList)) (splL 47 s.data.toList)=((decide (0<L.length)&&decide (1<a.length))&&((decide (z.data.toList=[])||decide (z.data.toList=[46]))||decide (z.data.toList=upP)))):=by
    refine⟨a[a.length-1]'(by omega),Qe _,?_⟩
    have hK:(splL 47 s.data.toList).getLast?.getD []=(a[a.length-1]'(by omega)).data.toList:=by
     rw[<-h5.out,List.getLast?_eq_getElem?, Qk,ZP,Qe (by omega)]
     rfl
    have hJ:zbI c (splL 47 s.data.toList)≠[]↔0<L.length:=by
     rw[<-S]
     constructor
     ·intro h;exact List.length_pos_iff.2 (λe=>h (by rw[e];rfl))
     ·intro h e;have:=Zm List.length e;rw[Qk]at this;simp at this;subst this;exact absurd h (by decide)
    unfold Hid zk4 dotP;rw[hK,d.out];simp only[hJ];rw[Bool.decide_and,Bool.decide_or,Bool.decide_or,Bool.or_assoc]
   have HJ:=hIx hj;have hD:=hz;obtain⟨N,ho⟩:=Qy.1 hz;have he:∀W,Below (w.heap.size+1) w1 W->W.cell? ⟨w.heap.size,a.length-1,none⟩=some (.string z):=λW hb=>by rw[hv.out W hb (a.length-1) N,ho]
   have hd:=hIx he;have i8:IntKind.i64.wrap ((a.length:Int)-1)=(a.length:Int)-1:=Qz _ (by omega);have i9:((a.length:Int)-1).toNat=a.length-1:=by omega
   have hU:(0:Int)<=(a.length:Int)-1:=by omega
   have hS:(a.length:Int)-1<(a.length:Int):=by omega
   obtain⟨Ao,I,rfl,_⟩:=l.form
   have h4:Hid (X=(if c=true then ByteArray.mk #[47]else ByteArray.mk #[])++bs (Lib.join (zbI c (splL 47 s.data.toList)) [47])++(if zk4 (zbI c (splL 47 s.data.toList)) (splL 47 s.data.toList)=true then ByteArray.mk #[47]else ByteArray.mk #[])):=by
    unfold Hid;rw[<-HX.out];unfold outP
    apply ByteArray.ext
    cases c <;> cases zk4 _ _ <;> simp[bs]
   clear HX;generalize zk4 (zbI c (splL 47 s.data.toList)) (splL 47 s.data.toList)=T at *;generalize zbI c (splL 47 s.data.toList)=left at *;generalize bs (Lib.join left [47])=J at *;clear l F hz hD N ho he S hC hj HL;go_wp2_with fail;refine HJ.out.mono ?_;rintro e w5 ⟨rfl,A⟩;have hn:Below (w.heap.size+1) w1 w5:=V.out.trans (A.mono q);have ht:=hr.out.trans (hn.mono (Zd _));have hL:=hd.out w5 hn;clear A HJ hd;go_upto_region 20 with fail
   go_cut [3,9,81]from 62 (λs3 s9 hF wx=>s3=.bool c/\s9=.string J/\hF=.bool T/\wx=w5)
   case first=>
    cases H:decide (0<L.length)with
    |false=>
     have e1:T=false:=by rw[U.out,H];rfl
     subst e1;have d3:decide ((0:Int)<(L.length:Int))=false:=by have:=of_decide_eq_false H;exact Qt (by omega)
     go_wp2;go_meet;exact⟨rfl,rfl,rfl,rfl⟩
    |true=>
     have d3:decide ((0:Int)<(L.length:Int))=true:=by have:=Zp H;exact Qx (by omega)
     cases O:decide (1<a.length)with
     |false=>
      have e1:T=false:=by rw[U.out,H,O];rfl
      subst e1;have d4:decide ((1:Int)<(a.length:Int))=false:=by have:=of_decide_eq_false O;exact Qt (by omega)
      go_wp2;go_meet;exact⟨rfl,rfl,rfl,rfl⟩
     |true=>
      have d4:decide ((1:Int)<(a.length:Int))=true:=by have:=Zp O;exact Qx (by omega)
      have ha:Hid (T=((decide (z.data.toList=[])||decide (z.data.toList=[46]))||decide (z.data.toList=upP))):=by unfold Hid;rw[U.out,H,O];rfl
      have q0:z.toList.isEmpty=decide (z.data.toList=[]):=by rw[QU];cases z.data.toList <;> simp
      have q1:(z.toList==[46])=decide (z.data.toList=[46]):=by rw[QU,zse]
      have q2:(z.toList==[46,46])=decide (z.data.toList=upP):=by rw[QU,zse];rfl
      generalize decide (z.data.toList=[])=b0 at *;generalize decide (z.data.toList=[46])=b1 at *;generalize decide (z.data.toList=upP)=b2 at *;have hA:=ha.out;subst hA;clear U ha;cases b0 <;> cases b1 <;> cases b2
      all_goals
       go_wp2;go_meet;exact⟨rfl,rfl,rfl,rfl⟩
   case rest=>
    obtain⟨rfl,rfl,rfl,rfl⟩:=hcut;have hT:(J++ByteArray.mk #[47]).size<=4194306:=by rw[Zi];show J.size+1<=_;omega
    clear hL;cases T <;> cases c
    all_goals
     go_wp2;go_ret;refine⟨Zm (λx:ByteArray=>jC (Value.string x)) (?_:_=X),ht⟩;rw[h4.out]
     apply ByteArray.ext
     simp
def oneP(k:Int)(l:jE):jE:=
 if k=1 then zaB l else if k=2 then zcj l else if k=3 then (zbQ l).getD l else if k=4 then (b64D l).getD l else if k=5 then zco l else if k=6 then zta l
 else if k=7 then zb6 l else if k=8 then outL [0] l else if k=9 then zaI l else if k=10 then Lib.decDigits l.length else cmdL l
def zl9(a:List Int)(l:jE):jE:=a.foldl (λl k=>oneP k l) l
theorem zhr:∀(l:jE) (n b:Nat) (r:jE),zca n b l=some r->r.length<=l.length
 | [],n,b,r,h=>by
  unfold zca at h
  split at h
  ·cases h
  ·cases h;exact Qd _
 |x::l,n,b,r,h=>by
  unfold zca at h
  split at h
  ·cases h
  ·split at h
   ·have:=zhr l _ _ r h
    rw[Qq];omega
   ·cases a:zca ((n*64+(idx x).toNat) % 2 ^ (b-2)) (b-2) l with
    |none=>rw[a]at h;cases h
    |some q=>
     rw[a]at h;have:=zhr l _ _ q a;cases h;rw[Qq,Qq];omega
theorem zmo(l:jE):(zdF l).length<=l.length:=by
 unfold zdF Lib.trimSuffix
 split
 ·rw[QK];exact Nat.min_le_right _ _
 ·exact Qd _
theorem zv9{l r:jE}(h:b64D l=some r):r.length<=l.length:=by
 unfold b64D at h
 split at h
 ·cases h
 ·have h1:=zhr _ _ _ _ h
  have h2:=zmo (zdF l);have a:=zmo l;omega
theorem zu8(k:Int)(l:jE)(hl:l.length<1000000):(oneP k l).length<=l.length+6:=by
 unfold oneP
 split
 ·unfold zaB;rw[Qk];omega
 ·split
  ·have:=zpY l;omega
  ·split
   ·cases h:zbQ l with
    |none=>rw[Xq];omega
    |some r=>have:=zqw _ l r (Qd _) h;rw[Xp];omega
   ·split
    ·cases h:b64D l with
     |none=>rw[Xq];omega
     |some r=>have:=zv9 h;rw[Xp];omega
    ·split
     ·have:=zne l;omega
     ·split
      ·have:=zve l;omega
      ·split
       ·have:=zl8 l false;unfold zb6;omega
       ·split
        ·have:(outL [0] l).length<=l.length:=Zh _ _
         omega
        ·split
         ·have:=zn4 l;omega
         ·split
          ·have:=(ze8 5 l.length (by omega)).2;omega
          ·have:=zya l;omega
theorem zrS(s:ByteArray)(w:World)(d:s.size<=140737488351232):
 Calls prog 230 #[.string s,.func (.func 231) #[] #[]] w λe w'=>e=jC (.string (bs ((zbQ s.data.toList).getD s.data.toList)))/\w w':=by
 have a:=hIx (zkZ s w d);cases b:zbQ s.data.toList with
 |none=>
  rw[b]at a;unfold zjR ze1 at a;dsimp only at a;clear b;rw[Xq,zeT]
  go_in
  go_wp2_with fail;refine a.out.mono ?_;rintro e c ⟨rfl,hb⟩;go_wp2;go_ret;exact⟨rfl,hb⟩
 |some r=>
  rw[b]at a;unfold zjR ze1 at a;dsimp only at a;clear b;rw[Xp]
  go_in
  go_wp2_with fail;refine a.out.mono ?_;rintro e c ⟨rfl,hb⟩;go_wp2;go_ret;exact⟨rfl,hb⟩
theorem zto(s:ByteArray)(w:World)(d:s.size<=140737488351232):
 Calls prog 230 #[.string s,.func (.func 232) #[] #[]] w λe w'=>e=jC (.string (bs ((b64D s.data.toList).getD s.data.toList)))/\w w':=by
 have a:=hIx (zg3 s w d);cases b:b64D s.data.toList with
 |none=>
  rw[b]at a;unfold zjR ze1 at a;dsimp only at a;clear b;rw[Xq,zeT]
  go_in
  go_wp2_with fail;refine a.out.mono ?_;rintro e c ⟨rfl,hb⟩;go_wp2;go_ret;exact⟨rfl,hb⟩
 |some r=>
  rw[b]at a;unfold zjR ze1 at a;dsimp only at a;clear b;rw[Xp]
  go_in
  go_wp2_with fail;refine a.out.mono ?_;rintro e c ⟨rfl,hb⟩;go_wp2;go_ret;exact⟨rfl,hb⟩
theorem zvE(k:Int)(s:ByteArray)(w:World)(h1:1<=k)(h2:k<=11)(t:s.size<=1000000)(c:LibOk w)(b:TabOk w):
 Calls prog 218 #[jA k,.string s] w λe w'=>e=jC (.string (bs (oneP k s.data.toList)))/\w w':=by
 have g:s.size<=maxLen:=by unfold maxLen;omega
 have hb:s.size<=140737488351232:=by omega
 have r:=hIx (zbg s w g);have v:=hIx (zdD s w hb);have m:=hIx (zrS s w hb);have n:=hIx (zto s w hb);have l:=hIx (zjk s w hb);have i:=hIx (zu1 s w c (by omega));have j:=hIx (zi0 s w hb);have o:=hIx (zpS s w hb);have u:=hIx (zdG s w g);have h:=hIx (zfI s.size w (by omega) b);have f:=hIx (zxI s w hb);have d:s.data.toList.length=s.size:=by simp
 unfold oneP;rw[d];clear c b t g hb d;obtain rfl|rfl|rfl|rfl|rfl|rfl|rfl|rfl|rfl|rfl|rfl:k=1\/k=2\/k=3\/k=4\/k=5\/k=6\/k=7\/k=8\/k=9\/k=10\/k=11:=by omega
 all_goals
  simp only[Int.reduceEq,reduceIte]
  go_in
  go_wp2_with fail
 ·refine r.out.mono ?_
  rintro e a ⟨rfl,hb⟩;go_wp2;go_ret;exact⟨rfl,hb⟩
 ·refine v.out.mono ?_
  rintro e a ⟨rfl,hb⟩;go_wp2;go_ret;exact⟨rfl,hb⟩
 ·refine m.out.mono ?_
  rintro e a ⟨rfl,hb⟩;go_wp2;go_ret;exact⟨rfl,hb⟩
 ·refine n.out.mono ?_
  rintro e a ⟨rfl,hb⟩;go_wp2;go_ret;exact⟨rfl,hb⟩
 ·refine l.out.mono ?_
  rintro e a ⟨rfl,hb⟩;go_wp2;go_ret;exact⟨rfl,hb⟩
 ·refine i.out.mono ?_
  rintro e a ⟨rfl,hb⟩;go_wp2;go_ret;exact⟨rfl,hb⟩
 ·refine j.out.mono ?_
  rintro e a ⟨rfl,hb⟩;go_wp2;go_ret;exact⟨rfl,hb⟩
 ·refine o.out.mono ?_
  rintro e a ⟨rfl,hb⟩;go_wp2;go_ret;exact⟨rfl,hb⟩
 ·refine u.out.mono ?_
  rintro e a ⟨rfl,q⟩;rw[q];go_wp2;go_ret;exact⟨rfl,Qi _ _⟩
 ·refine h.out.mono ?_
  rintro e a ⟨rfl,hb⟩;go_wp2;go_ret;exact⟨rfl,hb⟩
 ·refine f.out.mono ?_
  rintro e a ⟨rfl,hb⟩;go_wp2;go_ret;exact⟨rfl,hb⟩
def zeP(a:List Int)(l:jE):Int:=if zbu a≠0 then zbu a else if 8192<l.length then 2 else 0
def runT(a:List Int)(l:jE):jE:=if zeP a l≠0 then []else zl9 a l
def zze(a:List Int)(s:jE)(w:World)(t i:Value)(wr:World):Prop:=
 ∃(k:Nat) (x:ByteArray),k<=a.length/\i=jA k/\t=.string x/\Hid (x.data.toList=zl9 (a.take k) s)/\x.size<=8192+6*k/\w wr
theorem zul{a:List Int}(h:zbu a=0):a.length<=8/\∀k∈a,1<=k/\k<=11:=zrI.1 h
theorem zv1(a:List Int)(A:Option Addr)(c:Nat)(s:ByteArray)(w:World)(h:Sl w w.heap.size 1 A a.length (a.map (Value.int .i64)))(hl:a.length<=4194304)(f:LibOk w)(d:TabOk w):
 Calls prog 206 #[.slice A a.length c,.string s] w λe w'=>e=jC (.tuple #[.string (bs (runT a s.data.toList)),jA (zeP a s.data.toList)])/\w w':=by
 have D:=hIx (ziV a A c w h hl);have u:s.data.toList.length=s.size:=by simp
 by_cases g:zbu a=0
 ·have m:=zul g
  by_cases o:8192<s.size
  ·have n:Hid (zeP a s.data.toList=2/\runT a s.data.toList=[]):=by
    have:zeP a s.data.toList=2:=by unfold zeP;rw[Qf (by rw[g];simp),Qj (by omega)]
    refine⟨this,?_⟩;unfold runT;rw[Qj (by rw[this];decide)]
   have T:decide ((8192:Int)<(s.size:Int))=true:=Qx (by omega);rw[g]at D;rw[n.out.1,n.out.2];clear g m o h f d u
   go_in
   go_wp2_with fail;refine D.out.mono ?_;rintro e L ⟨rfl,hb⟩;go_wp2
   go_ret2
   exact⟨rfl,hb⟩
  ·have n:Hid (zeP a s.data.toList=0/\runT a s.data.toList=zl9 a s.data.toList):=by
    have:zeP a s.data.toList=0:=by unfold zeP;rw[Qf (by rw[g];simp),Qf (by omega)]
    refine⟨this,?_⟩;unfold runT;rw[Qf (by rw[this];decide)]
   have T:decide ((8192:Int)<(s.size:Int))=false:=Qt (by omega);have S:s.size<=8192:=by omega
   rw[g]at D;rw[n.out.1,n.out.2];have K:Hid (∀W,w W->LibOk W/\TabOk W):=λW hb=>⟨f.below hb,d.below hb⟩
   have H:=hIx m;have Q:=m.1;clear g m o f d u
   go_in
   go_wp2_with fail;refine D.out.mono ?_;rintro e L ⟨rfl,hb⟩;go_wp2
   go_loopw [1,19] (λt i wr=>zze a s.data.toList w t i wr) (λ_ i _=>a.length-(intOf i).toNat)
   case atStart=>exact⟨0,s,Qn _,rfl,rfl,by unfold Hid zl9;rw[XD];rfl,by omega,hb⟩
   case round=>
    obtain⟨k,x,hk,rfl,rfl,N,O,l⟩:=hrel;clear hb
    by_cases q:k<a.length
    ·have P:decide ((k:Int)<(a.length:Int))=true:=Qx (by omega)
     have i7:IntKind.i64.wrap ((k:Int)+1)=(k:Int)+1:=Qz _ (by omega);obtain⟨b,U,rfl,Y,y⟩:=(h.below l).src (by rw[Qk];omega);have I:=y k (by rw[Qk];exact q);rw[Zo]at I;have r:=H.out.2 a[k] (QC q)
     have V:Hid (zl9 (a.take (k+1)) s.data.toList=oneP a[k] (zl9 (a.take k) s.data.toList)):=by
      unfold Hid zl9;rw[Qu q,XM]
      rfl
     generalize a[k]=z at *;obtain⟨B,E⟩:=K.out wr l;have Z:=hIx (zvE z x wr r.1 r.2 (by omega) B E);have j:=zu8 z x.data.toList (by simp;omega);rw[show x.data.toList.length=x.size by simp]at j;have v:=hIx j;have F:=hIx l;clear B E y h j l r;go_wp2_with fail;refine Z.out.mono ?_;rintro e w2 ⟨rfl,G⟩;have J:=F.out.trans (G.mono F.out.size);clear G;go_wp2_with fail
     go_roundw
     case rel=>exact⟨k+1,_,by omega,by go_num,rfl,by unfold Hid;rw[zam,V.out,N.out],by rw[zah];have:=v.out;omega,J⟩
     case measure=>simp[intOf] <;> omega
    ·obtain rfl:k=a.length:=by omega
     have P:decide ((a.length:Int)<(a.length:Int))=false:=by simp
     have X:x=bs (zl9 a s.data.toList):=ziI (by rw[N.out,Q0]);clear h;go_wp2
     go_ret2
     exact⟨by rw[<-X];rfl,l⟩
 ·have n:Hid (zeP a s.data.toList=zbu a/\runT a s.data.toList=[]):=by
   have:zeP a s.data.toList=zbu a:=by unfold zeP;rw[Qj g]
   refine⟨this,?_⟩;unfold runT;rw[Qj (by rw[this];exact g)]
  have q0:(zbu a != 0)=true:=Q6.2 g;have q1:(zbu a==0)=false:=Qc.2 g;rw[n.out.1,n.out.2];generalize zbu a=C at *;clear g h f d u
  go_in
  go_wp2_with fail;refine D.out.mono ?_;rintro e L ⟨rfl,hb⟩;go_wp2
  go_ret2
  exact⟨rfl,hb⟩
def hitX(a:List Int)(b:Bool)(f:ByteArray->Bool)(x:Pair):Bool:=
 (zeP a x.2.data.toList==0)&&decide ((bs (runT a x.2.data.toList)).size<=8192)&&(f (bs (runT a x.2.data.toList)) != b)
def StR(F:Nat->Prop)(g:Nat)(r:zcr)(f:ByteArray->Bool)(w:World):Prop:=RBox g r 0 0 .nilFunc w\/Ready F g r f w
section
variable {F:Nat->Prop} {g:Nat} {r:zcr} {f:ByteArray->Bool} {w W:World}
theorem StR.next(h:StR F g r f w)(hb:w W):StR F g r f W:=by
 rcases h with h|h
 ·exact .inl (h.keep (hb.block g h.lt))
 ·exact .inr (h.next hb)
theorem StR.keep(h:StR F g r f w)(c:w.heap.size<=W.heap.size)(a:W.heap[g]? = w.heap[g]?)(b:∀k,k<w.heap.size->¬F k->W.heap[k]? = w.heap[k]?):StR F g r f W:=by
 rcases h with h|h
 ·exact .inl (RBox.keep h a)
 ·exact .inr (h.keep c a b)
theorem StR.more{a:Nat->Prop}(h:StR F g r f w)(b:∀k,a k->F k\/w.heap.size<=k):StR a g r f w:=by
 rcases h with h|h
 ·exact .inl h
 ·exact .inr (h.more b)
theorem Ready.cells(h:Ready F g r f w):w.cell? ⟨g,3,none⟩=some r.ps/\w.cell? ⟨g,4,none⟩=some (.bool r.nt):=by
 obtain⟨t,h⟩:=h.box;exact⟨h.rule.1,h.rule.2.1⟩
theorem StR.cells(h:StR F g r f w):w.cell? ⟨g,3,none⟩=some r.ps/\w.cell? ⟨g,4,none⟩=some (.bool r.nt):=by
 rcases h with h|h
 ·exact⟨h.rule.1,h.rule.2.1⟩
 ·exact h.cells
theorem StR.lt(h:StR F g r f w):g<w.heap.size:=QT w _ h.cells.1
end
theorem zu2{a:Type}(p:a->Bool)(l:List a)(k:Nat)(c:k<l.length)(h:(l.take k).any p=false)(b:p l[k]=false):(l.take (k+1)).any p=false:=by
 rw[Qu c,List.any_append,h,Bool.false_or,List.any_cons,b];rfl
theorem zw8{a:Type}(p:a->Bool)(l:List a)(k:Nat)(c:k<l.length)(b:p l[k]=true):l.any p=true:=List.any_eq_true.2 ⟨l[k],QC c,b⟩
def zw1(B:Nat)(F:Nat->Prop)(g:Nat)(r:zcr)(f:ByteArray->Bool)(p:Pair->Bool)(l:List Pair)(w:World)(v:Value)(wr:World):Prop:=
 ∃k:Nat,k<=l.length/\v=jA k/\StR F g r f wr/\Oth B g w wr/\Hid ((l.take k).any p=false)
theorem zm7(B:Nat)(F:Nat->Prop)(g:Nat)(r:zcr)(a:List Int)(pA:Option Addr)(pc:Nat)(h4:r.ps=.slice pA a.length pc)(hi:a.length<=4194304)(l:List Pair)(hm:l.length<=4398046511104)(A:Option Addr)(c:Nat)(w:World)(hB:B<=g)(hF:∀k,F k->k<w.heap.size)
 (h:StR F g r (tstO r.op r.arg) w) (hp:∀W,Oth B g w W->Sl W W.heap.size 1 pA a.length (a.map (Value.int .i64))) (hl:∀W,Oth B g w W->Sl W W.heap.size 2 A l.length (l.flatMap za6))
 (hL:∀W,Oth B g w W->LibOk W) (V:∀W,Oth B g w W->TabOk W) (h1:1<=r.op) (h2:r.op<=12) (ha:r.arg.size<=1048576) (h0:argC r.op r.arg=0):
 Calls prog 188 #[.pointer g,.slice A l.length c] w λe w'=>e=jC (.bool (l.any (hitX a r.nt (tstO r.op r.arg))))/\StR F g r (tstO r.op r.arg) w'/\Oth B g w w':=by
 have HH:Hid (∀W s,Oth B g w W->StR F g r (tstO r.op r.arg) W->s.size<=8192->Calls prog 207 #[.pointer g,.string s] W (zhk B F g r (tstO r.op r.arg) s W)):=λW s n hs U=>by
  rcases hs with hs|hs
  ·exact zn6 B F g r s W hB (λk hk=>Qw (hF k hk) n.below.size) hs (λW' hd=>hL W' (n.trans hd)) h1 h2 ha h0 U
  ·exact znQ B F g r _ s W hB hs (hL W n) U
 generalize tstO r.op r.arg=f at *
 have L:Hid (∀W (x:ByteArray),Oth B g w W->Calls prog 206 #[.slice pA a.length pc,.string x] W λe w'=>e=jC (.tuple #[.string (bs (runT a x.data.toList)),jA (zeP a x.data.toList)])/\W w'):=
  λW x n=>zv1 a pA pc x W (hp W n) hi (hL W n) (V W n)
 have h8:=hIx hl;obtain⟨i,N⟩:∃i,hitX a r.nt f=i:=⟨_,rfl⟩
 have X:Hid (∀x:Pair,i x=((zeP a x.2.data.toList==0)&&decide ((bs (runT a x.2.data.toList)).size<=8192)&&(f (bs (runT a x.2.data.toList)) != r.nt))):=λx=>by rw[<-N];rfl
 rw[N];have he:=hIx h4;clear h4 hp hl hL V h0 N h1 h2 ha hF
 go_in
 go_wp2
 go_loopw [11] (λv wr=>zw1 B F g r f i l w v wr) (λv _=>l.length-(intOf v).toNat)
 case atStart=>exact⟨0,Qn _,rfl,h,⟨Qi _ _,λ_ _ _=>rfl⟩,rfl⟩
 case round=>
  obtain⟨k,hk,rfl,H,n,D⟩:=hrel
  by_cases S:k<l.length
  ·have d1:decide ((k:Int)<(l.length:Int))=true:=by simp;omega
   obtain⟨b,hj,rfl,hg,a0,a1⟩:=zpa (h8.out wr n) k S;have HN:=hIx D;have HX:=hIx (X.out l[k])
   have Y:Hid (∀q,l[k]=q->(i q=true->l.any i=true)/\(i q=false->(l.take (k+1)).any i=false)):=λq hq=>by
    subst hq;exact⟨zw8 i l k S,zu2 i l k S D.out⟩
   have HQ:=hIx (Y.out _ rfl);generalize l[k]=x at *;obtain⟨x1,o⟩:=x;dsimp only at a0 a1;clear Y X h8;go_upto_region 4 with fail
   obtain⟨K,u⟩:∃K,wr.alloc (.cells #[.string x1,.string o] 279)=K:=⟨_,rfl⟩
   rw[u];have y:wr K:=by rw[<-u];exact WaL
   have U:B<=wr.heap.size:=Ql hB (QZ H.lt);have ob:Oth B g w K:=n.trans (Oth.of y U);have sb:=H.next y;have b1:K.cell? ⟨wr.heap.size,1,none⟩=some (.string o):=by rw[<-u];exact Qo _ _ 1 _ _ _ (Qv wr _)
   have c3:=sb.cells.1;rw[he.out]at c3;have C:=Ql U y.size;have HR:=hIx (L.out K.drew o (ob.trans (Oth.drew C)));have HW:=hIx u;have Z:=hIx ob;have h5:=hIx sb;clear u a0 a1 hg ob sb H n D
   go_region_held3 (λw'=>w'.cell? ⟨g,3,none⟩=some (.slice pA a.length pc)/\w'.cell? ⟨wr.heap.size,1,none⟩=some (.string o))
    (first|exact⟨c3,b1⟩|exact⟨zaa t c3,zaa t b1⟩|go_keep|fail "keep")
    (first|(go_at_call 206;(with_reducible refine HR.out.mono ?_);rintro e O ⟨rfl,J⟩;have t:K O:=undrew J)|fail "arm")
   have h9:Hid (Oth B g w O):=Z.out.trans (Oth.of t C);have h7:Hid (StR F g r f O):=h5.out.next t;have m:Hid (i (x1,o)=((zeP a o.data.toList==0)&&decide ((bs (runT a o.data.toList)).size<=8192)&&(f (bs (runT a o.data.toList)) != r.nt))):=HX.out;have hc:B<=O.heap.size:=Ql C t.size;have c4:=h7.out.cells.2;clear HX HR Z h5 HW J c3 b1 y U C L;generalize zeP a o.data.toList=E at *;generalize bs (runT a o.data.toList)=T at *;generalize i (x1,o)=hit at *
   have HC:Hid (∀W,Oth B g w W->StR F g r f W->hit=false->zw1 B F g r f i l w (jA ((k:Int)+1)) W):=λW h1 h2 h3=>
    ⟨k+1,by omega,rfl,h2,h1,HQ.out.2 h3⟩
   have i7:IntKind.i64.wrap ((k:Int)+1)=(k:Int)+1:=Qz _ (by omega);have j:Hid (Oth B g w O.drew):=h9.out.trans (Oth.drew hc);have Q:Hid (StR F g r f O.drew):=h7.out.next (Qi _ _).drew;cases hE:(E==0)with
   |false=>
    have G:Hid (hit=false):=by unfold Hid;rw[m.out,hE];rfl
    clear m HH;go_wp2_with fail
    go_region
    go_wp2;exact⟨HC.out _ j.out Q.out G.out,by dsimp only[intOf];omega⟩
   |true=>
    by_cases V:T.size<=8192
    ·have d2:decide ((T.size:Int)<=8192)=true:=by simp;omega
     have hh:=hIx (HH.out O.drew T j.out Q.out V);have d:Hid (hit=(f T != r.nt)):=by unfold Hid;rw[m.out,hE,Qx V];rfl
     clear m HH;go_wp2_with fail
     go_region_held3 (λw'=>w'.cell? ⟨g,4,none⟩=some (.bool r.nt))
      (first|exact c4|exact hf|go_keep|fail "keep")
      (first|(go_at_call 207;(with_reducible refine hh.out.mono ?_);rintro e w9 ⟨rfl,P,h6⟩;have hf:=P.cells.2;have I:=hIx P;have z:=hIx h6;clear P h6)|fail "arm")
     generalize f T=v1 at *;generalize r.nt=v2 at *;cases v1 <;> cases v2
     ·have G:Hid (hit=false):=d.out
      clear d;go_wp2;exact⟨HC.out _ (j.out.trans z.out) (.inr I.out) G.out,by dsimp only[intOf];omega⟩
     ·have HA:Hid (l.any i=true):=HQ.out.1 d.out
      clear d;go_wp2;go_ret;exact⟨by rw[HA.out];rfl,.inr I.out,j.out.trans z.out⟩
     ·have HA:Hid (l.any i=true):=HQ.out.1 d.out
      clear d;go_wp2;go_ret;exact⟨by rw[HA.out];rfl,.inr I.out,j.out.trans z.out⟩
     ·have G:Hid (hit=false):=d.out
      clear d;go_wp2;exact⟨HC.out _ (j.out.trans z.out) (.inr I.out) G.out,by dsimp only[intOf];omega⟩
    ·have d2:decide ((T.size:Int)<=8192)=false:=by simp;omega
     have G:Hid (hit=false):=by unfold Hid;rw[m.out,Qt V,Bool.and_false,Bool.false_and]
     clear m HH;go_wp2_with fail
     go_region
     go_wp2;exact⟨HC.out _ j.out Q.out G.out,by dsimp only[intOf];omega⟩
  ·obtain rfl:k=l.length:=by omega
   have d1:decide ((l.length:Int)<(l.length:Int))=false:=by simp
   have G:Hid (l.any i=false):=by have:=D.out;rw[Q0]at this;exact this
   go_wp2;go_ret;exact⟨by rw[G.out];rfl,H,n⟩
theorem zgC{H:Type}:∀{l:List (DataW H)} {d:DataW H},d∈l->Rows.uptoBulk d<=Rows.uptoBulkAll l
 | [],_,h=>by cases h
 |x::r,d,h=>by
  rw[Rows.uptoBulkAll]
  rcases QN.1 h with rfl|h
  ·omega
  ·have:=zgC h;omega
theorem zvL{H:Type}(d:DataW H):1<=Rows.uptoBulk d:=by
 cases d with
 |lit x=>cases x <;> simp[Rows.uptoBulk]
 |_=>simp[Rows.uptoBulk]
theorem zjU{H:Type}:∀l:List (DataW H),l.length<=Rows.uptoBulkAll l
 | []=>by simp[Rows.uptoBulkAll]
 |x::r=>by
  have h1:=zvL x;have h2:=zjU r;rw[Rows.uptoBulkAll,Qq];omega
theorem zdh{H:Type}{l sp:List (DataW H)}:l.length+1<=Rows.uptoBulk (.slice l sp):=by
 have:=zjU l;rw[Rows.uptoBulk];omega
structure zgZ where
 k:Int
 m:Int
 n:ByteArray
structure zcL where
 k:Int
 n:Int
structure zaz where
 id:Int
 phase:Int
 vars:List zgZ
 pipe:List Int
 no:Bool
 op:Int
 arg:ByteArray
 acts:List zcL
 chain:Bool
structure zfy where
 most:Int
 status:Int
 list:List zaz
def zky(b:UInt8):Bool:=(decide (97<=b.toNat)&&decide (b.toNat<=122))||(decide (48<=b.toNat)&&decide (b.toNat<=57))||b==45||b==95
def zfr(l:jE):Bool:=l.all zky&&decide (1<=l.length)&&decide (l.length<=20)
def ofK(k:Int):Bool:=k==6||k==8||k==10
def varC(v:zgZ):Int:=if v.k<1\/12<v.k\/v.m<0\/2<v.m\/(v.n.data.toList≠[]/\(ofK v.k&&zfr v.n.data.toList)=false)then 1 else 0
def loA(k:Int):Int:=if k=2 then 400 else if k=3\/k=4 then 1 else 0
def hiA(k:Int):Int:=if k=2 then 599 else if k=3 then 1000 else if k=4 then 9 else 0
def actC(a:zcL):Int:=if a.k<1\/5<a.k\/a.n<loA a.k\/hiA a.k<a.n then 1 else 0
def zaX{a:Type}(f:a->Int):List a->Int
 | []=>0
 |x::r=>if f x≠0 then f x else zaX f r
theorem zie{b:Type}{f:b->Int}:∀{l:List b},zaX f l=0->∀x∈l,f x=0
 | [],_,x,a=>by cases a
 |y::r,h,x,a=>by
  unfold zaX at h
  split at h
  ·contradiction
  ·rename_i c
   rcases QN.1 a with rfl|a
   ·simpa using c
   ·exact zie h x a
def oneC(argC:Int->ByteArray->Int)(x:zaz):Int:=
 if 8<x.vars.length\/6<x.acts.length then 2 else if x.vars.length=0\/x.acts.length=0 then 1 else if zaX varC x.vars≠0 then zaX varC x.vars else
 if zbu x.pipe≠0 then zbu x.pipe else if x.op<1\/12<x.op then 1 else if argC x.op x.arg≠0 then argC x.op x.arg else zaX actC x.acts
def goC(argC:Int->ByteArray->Int):List zaz->List zaz->Int
 |_,[]=>0
 |done,x::r=>if x.id<1\/9999<x.id\/(x.phase≠1/\x.phase≠2)then 1 else if done.any (λy=>y.id==x.id)=true then 9 else if oneC argC x≠0 then oneC argC x else goC argC (done++[x]) r
def zby:List zaz->Int
 | []=>0
 | [x]=>if x.chain=true then 1 else 0
 |x::y::r=>if x.chain=true/\y.phase≠x.phase then 1 else zby (y::r)
def za1(argC:Int->ByteArray->Int)(r:zfy):Int:=
 if r.most<1\/1000000<r.most\/r.status<400\/599<r.status then 1 else if 40<r.list.length then 2 else if goC argC [] r.list≠0 then goC argC [] r.list else zby r.list
structure zyG(x:zaz):Prop where
 id1:1<=x.id
 id2:x.id<=9999
 ph1:1<=x.phase
 ph2:x.phase<=2
 vars:∀v∈x.vars,varC v=0
 some:x.vars≠[]
 pipe:zbu x.pipe=0
 op1:1<=x.op
 op2:x.op<=12
 acts:∀a∈x.acts,actC a=0
 one:x.acts≠[]
theorem zx7{argC:Int->ByteArray->Int}{x:zaz}(h:oneC argC x=0)(h1:¬(x.id<1\/9999<x.id\/(x.phase≠1/\x.phase≠2))):zyG x:=by
 unfold oneC at h
 split at h
 ·cases h
 split at h
 ·cases h
 rename_i a
 split at h
 ·contradiction
 rename_i c
 split at h
 ·contradiction
 rename_i b
 split at h
 ·cases h
 rename_i d
 split at h
 ·contradiction
 exact⟨by omega,by omega,by omega,by omega,zie (by simpa using c),λe=>a (.inl (by rw[e];rfl)),by simpa using b,by omega,by omega,zie h,λe=>a (.inr (by rw[e];rfl))⟩
theorem zwE{argC:Int->ByteArray->Int}:∀(l done:List zaz),goC argC done l=0->∀x∈l,zyG x
 | [],_,_,x,a=>by cases a
 |y::r,done,h,x,a=>by
  unfold goC at h
  split at h
  ·cases h
  rename_i h1
  split at h
  ·cases h
  split at h
  ·contradiction
  rename_i h2
  rcases QN.1 a with rfl|a
  ·exact zx7 (by simpa using h2) h1
  ·exact zwE r _ h x a
theorem zly{argC:Int->ByteArray->Int}{r:zfy}(h:za1 argC r=0):(1<=r.most/\r.most<=1000000/\400<=r.status/\r.status<=599)/\∀x∈r.list,zyG x:=by
 unfold za1 at h
 split at h
 ·cases h
 rename_i h1
 split at h
 ·cases h
 split at h
 ·contradiction
 rename_i h2;exact⟨by omega,zwE _ _ (by simpa using h2)⟩
