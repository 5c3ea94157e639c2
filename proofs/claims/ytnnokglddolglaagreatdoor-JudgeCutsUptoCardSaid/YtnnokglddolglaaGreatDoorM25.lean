/- Lemmas for the last texts. -/
import Derived.Test.YtnnokglddolglaaGreatDoorM24
set_option maxHeartbeats 3200000
set_option maxRecDepth 100000
namespace Go.Proofs.YtnnokglddolglaaGreatDoor
open Go.RowKit Go.Proofs.Tryz
def wtP(l:List jE):Nat:=(l.map λp=>p.length+1).sum
theorem zjr(a b:List jE):wtP (a++b)=wtP a+wtP b:=by unfold wtP;rw[Q2,List.sum_append]
theorem zxj(c:UInt8)(l:jE):wtP (splL c l)=l.length+1:=by
 induction l with
 |nil=>rfl
 |cons b l ih=>
  rw[splL]
  split
  ·have e:wtP ([]::splL c l)=1+wtP (splL c l):=by unfold wtP;simp
   rw[e,ih,Qn];omega
  ·cases h:splL c l with
   |nil=>exact absurd h (zk9 c l)
   |cons x r=>
    rw[h]at ih;have a:wtP ((b::x)::r)=x.length+1+1+wtP r:=by unfold wtP;simp
    have d:wtP (x::r)=x.length+1+wtP r:=by unfold wtP;simp
    rw[d]at ih;rw[a,Qn];omega
theorem zwh(l:List jE):wtP l.dropLast<=wtP l:=by
 rcases List.eq_nil_or_concat l with e|⟨a,x,e⟩
 ·subst e;exact Qc _
 ·rw[List.concat_eq_append]at e
  subst e;rw[List.dropLast_concat,zjr];omega
theorem zuk(a:Bool)(l:List jE)(p:jE):wtP (zi7 a l p)<=wtP l+(p.length+1):=by
 have h1:wtP (l++[p])=wtP l+(p.length+1):=by rw[zjr];rfl
 have h2:=zwh l;unfold zi7
 (repeat' split) <;> omega
theorem zoI(b:Bool):∀(a l:List jE),wtP (a.foldl (zi7 b) l)<=wtP l+wtP a
 | [],l=>Nat.le_add_right _ _
 |p::a,l=>by
  have h1:=zoI b a (zi7 b l p);have h2:=zuk b l p;have c:wtP (p::a)=p.length+1+wtP a:=by unfold wtP;simp
  rw[List.foldl_cons,c];omega
theorem zoK(c:UInt8):∀l:List jE,(Lib.join l [c]).length<=wtP l
 | []=>by simp[Lib.join_nil]
 |x::r=>by
  have b:∀r:List jE,(Lib.joinTail [c] r).length=wtP r:=λr=>by
   induction r with
   |nil=>rfl
   |cons y r ih=>
    have a:wtP (y::r)=y.length+1+wtP r:=by unfold wtP;simp
    rw[a,<-ih];simp only[Lib.joinTail,QW,List.flatten_cons,Qa,Qn,QS];omega
  have a:wtP (x::r)=x.length+1+wtP r:=by unfold wtP;simp
  rw[Lib.join_cons,Qa,b,a];omega
theorem ztv(a:Bool)(s:jE):wtP (zbI a (splL 47 s))<=s.length+1:=by
 have h:=zoI a (splL 47 s) [];rw[zxj]at h;have e:wtP ([]:List jE)=0:=rfl;rw[e]at h;unfold zbI;omega
theorem zu7(s:jE):(ztc s).length<=s.length+3:=by
 have h1:=ztv (s.head? == some 47) s;have h2:=zoK 47 (zbI (s.head? == some 47) (splL 47 s));unfold ztc outP;rw[Qa,Qa];have a:(if (s.head? == some 47)=true then [(47:UInt8)]else []).length<=1:=by split <;> simp
 have b:(if zlf (zbI (s.head? == some 47) (splL 47 s)) (splL 47 s)=true then [(47:UInt8)]else []).length<=1:=by split <;> simp
 omega
theorem OwnS.head{w:World}{base:Nat}{v:Value}{l:List ByteArray}(h:OwnS w base v l)(hl:0<l.length):∃g c,v=.slice (some ⟨g,0,none⟩) l.length c/\l.length<=c:=by
 rcases h.2 with ⟨_,h2⟩|⟨g,cap,a,h1,_,_,b,_⟩
 ·omega
 ·exact⟨g,cap,h1,b⟩
theorem OwnS.pop{w:World}{base g c:Nat}{k:ByteArray}{l:List ByteArray}(h:OwnS w base (.slice g (l++[k]).length c) (l++[k])):OwnS w base (.slice g l.length c) l:=by
 unfold OwnS at h ⊢;rw[Qa,QC,Q2]at h;exact ownsRow_pop (by simp) h
theorem OwnS.cell{w:World}{base g c:Nat}{l:List ByteArray}(h:OwnS w base (.slice g l.length c) l)(k:Nat)(a:k<l.length):w.cell? ⟨g,k,none⟩=some (.string l[k]):=by
 have h1:=Zq (g:=g) h (by simp[Value.ownBlock]) k (.string l[k]) (by simp[a]);rw[zba]at h1;exact h1
theorem zvz{base:Nat}(L:List ByteArray)(v:Value)(c:UInt8)(w:World)(d:OwnS w base v L)(b:(Lib.join (L.map (·.data.toList)) [c]).length<=140737488355328)(i:L.length<=140737488355328):
 Calls prog 211 #[v,.string ⟨#[c]⟩] w λe w'=>e=jC (.string (bs (Lib.join (L.map (·.data.toList)) [c])))/\w w':=by
 rcases Z7 L.length with h|k
 ·have m:L=[]:=QA h
  subst m;obtain⟨n,f,rfl,_⟩:=d.form;exact(strings_Join_none n f ⟨#[c]⟩ w).mono λe w' ⟨h1,h2⟩=>by subst h2;exact⟨h1,Qj _ _⟩
 ·obtain⟨g,f,rfl,a⟩:=d.head k
  refine strings_Join g 0 f L ⟨#[c]⟩ w (λj x l=>?_) (d.lt g (by simp[Value.ownBlock])).2 i a b;obtain⟨h1,h2⟩:=Qw.1 l;rw[Zh,d.cell j h1,h2]
theorem zsn(a b:jE):(a==b)=decide (a=b):=by by_cases h:a=b <;> simp[h]
def zzu(c:Bool)(a:List jE)(w b:World)(v i:Value)(wr:World):Prop:=
 ∃(k:Nat) (L:List ByteArray),k<=a.length/\i=jA k/\OwnS wr (w.heap.size+1) v L/\Hid (L.map (·.data.toList)=zbI c (a.take k))/\L.length<=k/\Below (w.heap.size+1) b wr
theorem zuT(s:ByteArray)(w:World)(h6:LibOk w)(hs:s.size<=4194304):Calls prog 195 #[.string s] w λe w'=>e=jC (.string (bs (ztc s.data.toList)))/\w w':=by
 obtain⟨m0,hf⟩:=h6;have I:=strings_Split s ⟨#[47]⟩ m0 w (by omega) hf (by decide);have P:=zbZ 47 s;have q:=Xh ⟨#[47]⟩ (by decide) 0 _ s rfl;generalize Lib.splitB ⟨#[47]⟩ 0 (Lib.countB s ⟨#[47]⟩) s=a at I P q;generalize Lib.countB s ⟨#[47]⟩=n at I q;rw[<-q]at I;have h5:=strings_HasPrefix s ⟨#[47]⟩ w
 have Y:Lib.hasPrefix s.data.toList [47]=(s.data.toList.head? == some 47):=by
  unfold Lib.hasPrefix;cases s.data.toList with
  |nil=>rfl
  |cons b r=>
   by_cases hb:b=47
   ·subst hb;rfl
   ·simp only[List.isPrefixOf,List.head?_cons,Bool.and_true]
    rw[Qb.2 (Xv hb),Qb.2 (λe=>hb (QD e))]
 rw[show (ByteArray.mk #[47]).data.toList=[47]from rfl,Y]at h5;have hg:ztc s.data.toList=outP (s.data.toList.head? == some 47) (zbI (s.data.toList.head? == some 47) (splL 47 s.data.toList)) (zlf (zbI (s.data.toList.head? == some 47) (splL 47 s.data.toList)) (splL 47 s.data.toList)):=rfl;have hL:=ztv (s.data.toList.head? == some 47) s.data.toList;have hF:s.data.toList.length=s.size:=by simp
 rw[hg];generalize (s.data.toList.head? == some 47)=c at *;obtain⟨X,hX⟩:∃X,bs (outP c (zbI c (splL 47 s.data.toList)) (zlf (zbI c (splL 47 s.data.toList)) (splL 47 s.data.toList)))=X:=⟨_,rfl⟩
 rw[hX];have HX:=hIx hX;clear hX;have h4:=hIx P;have h8:=hIx I;have hp:=hIx h5;have hh:Hid (wtP (zbI c (splL 47 s.data.toList))<=4194305):=by unfold Hid;omega
 have hU:a.length<=4194305:=by
  have h1:=Zi List.length P;have h2:=zdK 47 s.data.toList;rw[Qh]at h1;omega
 clear P I q h5 Y hg hL hf hF
 go_in
 go_wp2_with fail;refine hp.out.mono ?_;rintro e w0 ⟨rfl,ho⟩;rw[ho];clear ho;go_wp2_with fail;refine h8.out.mono ?_;rintro e w1 ⟨rfl,O⟩
 have hw:∀W,Below (w.heap.size+1) w1 W->∀j (h:j<a.length),W.cell? ⟨w.heap.size,j,none⟩=some (.string a[j]):=λW hb j h=>by
  have hH:Below (w.alloc (.cells (a.map Value.string).toArray 9)).heap.size (w.alloc (.cells (a.map Value.string).toArray 9)) W:=by rw[O]at hb;simpa using hb
  rw[zao hH j];simp[h]
 have K:w1.heap.size=w.heap.size+1:=by rw[O];simp
 have V:w w1:=by rw[O];exact WaL
 have q:(splL 47 s.data.toList).length=a.length:=by rw[<-h4.out,Qh]
 have hP:0<a.length:=by rw[<-q];exact ZJ.2 (zk9 47 _)
 have hu:=hIx hw;have hq:=hIx V;have d:=hIx q;have hv:w.heap.size+1<=w1.heap.size:=Nat.le_of_eq K.symm;clear hw V q O K h8 hp;go_wp2
 go_loopw [5,17] (λv i wr=>zzu c (splL 47 s.data.toList) w w1 v i wr) (λ_ i _=>a.length-(intOf i).toNat)
 case atStart=>exact⟨0,[],Qm _,rfl,OwnS.nil _ _,rfl,Qm _,Qj _ _⟩
 case round=>
  obtain⟨k,L,hk,rfl,l,HL,hN,E⟩:=hrel;rw[d.out]at hk;have p:w.heap.size+1<=wr.heap.size:=Ql hv E.size;have HO:=hIx l;have U:=hIx E
  by_cases h0:k<a.length
  ·have d2:decide ((k:Int)<(a.length:Int))=true:=by simp;omega
   have i7:IntKind.i64.wrap ((k:Int)+1)=(k:Int)+1:=Qx _ (by omega);have hc:=hu.out wr E k h0
   have D:Hid (zbI c ((splL 47 s.data.toList).take (k+1))=zi7 c (zbI c ((splL 47 s.data.toList).take k)) a[k].data.toList):=by
    unfold Hid
    have hx:(splL 47 s.data.toList)[k]'(by rw[d.out];exact h0)=a[k].data.toList:=by
     have:=h4.out;simp only[<-this,Zm]
    rw[Qs (by rw[d.out];exact h0),hx];unfold zbI;rw[XV]
    rfl
   generalize a[k]=x at hc D;rw[<-HL.out]at D;have hG:L.length<=4194305:=by omega
   by_cases c0:x.data.toList=[]
   ·have q0:x.toList.isEmpty=true:=by rw[QP,c0];rfl
    have A:Hid (L.map (·.data.toList)=zbI c ((splL 47 s.data.toList).take (k+1))):=by
     unfold Hid;rw[D.out];unfold zi7;rw[Qg (.inl c0)]
    obtain⟨Ao,H,rfl,_⟩:=l.form;clear c0 l E;go_wp2;exact⟨⟨k+1,L,by rw[d.out];omega,rfl,HO.out,A.out,by omega,U.out⟩,by dsimp only[intOf];omega⟩
   ·have q0:x.toList.isEmpty=false:=by rw[QP];cases h:x.data.toList with|nil=>exact absurd h c0|cons _ _=>rfl
    by_cases c1:x.data.toList=[46]
    ·have q1:(x.toList==[46])=true:=by rw[QP,c1];rfl
     have A:Hid (L.map (·.data.toList)=zbI c ((splL 47 s.data.toList).take (k+1))):=by
      unfold Hid;rw[D.out];unfold zi7;rw[Qg (.inr c1)]
     obtain⟨Ao,H,rfl,_⟩:=l.form;clear c0 c1 l E;go_wp2;exact⟨⟨k+1,L,by rw[d.out];omega,rfl,HO.out,A.out,by omega,U.out⟩,by dsimp only[intOf];omega⟩
    ·have q1:(x.toList==[46])=false:=by rw[QP,Qb];exact c1
     by_cases c2:x.data.toList=upP
     ·have q2:(x.toList==[46,46])=true:=by rw[QP,c2];rfl
      have C:¬(x.data.toList=[]\/x.data.toList=[46]):=λe=>e.elim c0 c1
      have t:Hid (zbI c ((splL 47 s.data.toList).take (k+1))=if L.map (·.data.toList)≠[]/\(L.map (·.data.toList)).getLast? ≠ some upP then (L.map (·.data.toList)).dropLast else if c=true then L.map (·.data.toList)else (L++[x]).map (·.data.toList)):=by
       unfold Hid;rw[D.out];unfold zi7;rw[Qe C,Qg c2,Q2];rfl
      rcases List.eq_nil_or_concat L with e|⟨m,y,e⟩
      ·subst e
       cases c with
       |true=>
        have A:Hid (([]:List ByteArray).map (·.data.toList)=zbI true ((splL 47 s.data.toList).take (k+1))):=by
         unfold Hid;rw[t.out,Qe (λh=>h.1 rfl),Qg rfl]
        obtain⟨Ao,H,rfl,_⟩:=l.form;dsimp only[List.length_nil]at *;clear c0 c1 c2 C l E;go_wp2;exact⟨⟨k+1,[],by rw[d.out];omega,rfl,HO.out,A.out,by simp,U.out⟩,by dsimp only[intOf];omega⟩
       |false=>
        have A:Hid ((([]:List ByteArray)++[x]).map (·.data.toList)=zbI false ((splL 47 s.data.toList).take (k+1))):=by
         unfold Hid;rw[t.out,Qe (λh=>h.1 rfl),Qe (by decide)]
        obtain⟨Ao,H,rfl,_⟩:=l.form;dsimp only[List.length_nil]at *;clear c0 c1 c2 C E;go_wp2_with (at_builtin;refine zbz rfl (.tmp 49) (.tmp 51) rfl (w.heap.size+1) (.slice Ao 0 H) [] rfl l p _ [x] rfl 1 1 rfl rfl (by decide) ?_;intro v5 w5 F u hi he);exact⟨⟨k+1,[]++[x],by rw[d.out];omega,rfl,F,A.out,by simp,U.out.trans u⟩,by dsimp only[intOf];omega⟩
      ·rw[List.concat_eq_append]at e
       subst e;obtain⟨g,H,rfl,h7⟩:=l.head (by simp);have Z:=l.cell m.length (by simp);rw[ZO (Qc _)]at Z;simp only[Xg,List.getElem_cons_zero]at Z;have B:=l.pop;rw[Qa,QC]at h7 hN hG ⊢;have f:((m++[y]).map (·.data.toList)).getLast? = some y.data.toList:=by rw[Q2,List.getLast?_append];rfl
       have j0:decide ((0:Int)<(m.length:Int)+1)=true:=Qu (by omega);have j1:wrap64 (m.length:Int)=(m.length:Int):=IntWalk.wrap64_in _ (by omega);have j3:(m.length:Int)<(m.length:Int)+1:=by omega
       have j5:m.length<=H:=by omega
       by_cases cy:y.data.toList=upP
       ·have q3:(y.toList==[46,46])=true:=by rw[QP,cy];rfl
        have o:¬((m++[y]).map (·.data.toList)≠[]/\((m++[y]).map (·.data.toList)).getLast? ≠ some upP):=λh=>h.2 (by rw[f,cy])
        cases c with
        |true=>
         have A:Hid ((m++[y]).map (·.data.toList)=zbI true ((splL 47 s.data.toList).take (k+1))):=by
          unfold Hid;rw[t.out,Qe o,Qg rfl]
         clear c0 c1 c2 C cy o f l E B;go_wp2;exact⟨⟨k+1,m++[y],by rw[d.out];omega,rfl,by have:=HO.out;simpa using this,A.out,by simp;omega,U.out⟩,by dsimp only[intOf];omega⟩
        |false=>
         have A:Hid ((m++[y]++[x]).map (·.data.toList)=zbI false ((splL 47 s.data.toList).take (k+1))):=by
          unfold Hid;rw[t.out,Qe o,Qe (by decide)]
         have hD:OwnS wr (w.heap.size+1) (.slice g (m.length+1) H) (m++[y]):=by have:=l;simpa using this
         clear c0 c1 c2 C cy o f E B l;go_wp2_with (at_builtin;refine zbz rfl (.tmp 49) (.tmp 51) rfl (w.heap.size+1) (.slice g (m.length+1) H) (m++[y]) rfl hD p _ [x] rfl 1 1 rfl rfl (by simp;omega) ?_;intro v5 w5 F u hi he);exact⟨⟨k+1,m++[y]++[x],by rw[d.out];omega,rfl,F,A.out,by simp;omega,U.out.trans u⟩,by dsimp only[intOf];omega⟩
       ·have q3:(y.toList==[46,46])=false:=by rw[QP,Qb];exact cy
        have A:Hid (m.map (·.data.toList)=zbI c ((splL 47 s.data.toList).take (k+1))):=by
         unfold Hid;rw[t.out,Qg ⟨by simp,λh=>cy (by rw[f]at h;exact QD h)⟩,Q2];exact(List.dropLast_concat ..).symm
        have ht:=hIx B;clear c0 c1 c2 C cy f l E B;go_wp2;exact⟨⟨k+1,m,by rw[d.out];omega,rfl,ht.out,A.out,by omega,U.out⟩,by dsimp only[intOf];omega⟩
     ·have q2:(x.toList==[46,46])=false:=by rw[QP,Qb];exact c2
      have A:Hid ((L++[x]).map (·.data.toList)=zbI c ((splL 47 s.data.toList).take (k+1))):=by
       unfold Hid;rw[D.out];unfold zi7;rw[Qe (λe=>e.elim c0 c1),Qe c2,Q2];rfl
      obtain⟨Ao,H,rfl,_⟩:=l.form;clear c0 c1 c2 E;go_wp2_with (at_builtin;refine zbz rfl (.tmp 22) (.tmp 24) rfl (w.heap.size+1) (.slice Ao L.length H) L rfl l p _ [x] rfl 1 1 rfl rfl (by omega) ?_;intro v5 w5 F u hi he);exact⟨⟨k+1,L++[x],by rw[d.out];omega,rfl,F,A.out,by simp;omega,U.out.trans u⟩,by dsimp only[intOf];omega⟩
  ·obtain rfl:k=a.length:=by omega
   have d2:decide ((a.length:Int)<(a.length:Int))=false:=by simp
   have Q:L.map (·.data.toList)=zbI c (splL 47 s.data.toList):=by have:=HL.out;rwa[<-d.out,QZ]at this
   have hA:=zoK 47 (zbI c (splL 47 s.data.toList));have hj:=zvz L _ 47 wr l (by rw[Q];have:=hh.out;omega) (by omega);rw[Q]at hj;have hQ:(bs (Lib.join (zbI c (splL 47 s.data.toList)) [47])).size<=4194305:=by rw[zae];have:=hh.out;omega
   obtain⟨z,hz,S⟩:∃z,a[a.length-1]? = some z/\Hid (zlf (zbI c (splL 47 s.data.toList)) (splL 47 s.data.toList)=((decide (0<L.length)&&decide (1<a.length))&&((decide (z.data.toList=[])||decide (z.data.toList=[46]))||decide (z.data.toList=upP)))):=by
    refine⟨a[a.length-1]'(by omega),Qd _,?_⟩
    have hJ:(splL 47 s.data.toList).getLast?.getD []=(a[a.length-1]'(by omega)).data.toList:=by
     rw[<-h4.out,List.getLast?_eq_getElem?, Qh,ZM,Qd (by omega)]
     rfl
    have hI:zbI c (splL 47 s.data.toList)≠[]↔0<L.length:=by
     rw[<-Q]
     constructor
     ·intro h;exact ZJ.2 (λe=>h (by rw[e];rfl))
     ·intro h e;have:=Zi List.length e;rw[Qh]at this;simp at this;subst this;exact absurd h (by decide)
    unfold Hid zlf dotP;rw[hJ,d.out];simp only[hI];rw[Bool.decide_and,Bool.decide_or,Bool.decide_or,Bool.or_assoc]
   have HJ:=hIx hj;have hC:=hz;obtain⟨K,hn⟩:=Qw.1 hz;have hd:∀W,Below (w.heap.size+1) w1 W->W.cell? ⟨w.heap.size,a.length-1,none⟩=some (.string z):=λW hb=>by rw[hu.out W hb (a.length-1) K,hn]
   have ha:=hIx hd;have i8:IntKind.i64.wrap ((a.length:Int)-1)=(a.length:Int)-1:=Qx _ (by omega);have i9:((a.length:Int)-1).toNat=a.length-1:=by omega
   have hT:(0:Int)<=(a.length:Int)-1:=by omega
   have hR:(a.length:Int)-1<(a.length:Int):=by omega
   obtain⟨Ao,H,rfl,_⟩:=l.form
   have h3:Hid (X=(if c=true then ByteArray.mk #[47]else ByteArray.mk #[])++bs (Lib.join (zbI c (splL 47 s.data.toList)) [47])++(if zlf (zbI c (splL 47 s.data.toList)) (splL 47 s.data.toList)=true then ByteArray.mk #[47]else ByteArray.mk #[])):=by
    unfold Hid;rw[<-HX.out];unfold outP
    apply XT
    cases c <;> cases zlf _ _ <;> simp[bs]
   clear HX;generalize zlf (zbI c (splL 47 s.data.toList)) (splL 47 s.data.toList)=T at *;generalize zbI c (splL 47 s.data.toList)=left at *;generalize bs (Lib.join left [47])=J at *;clear l E hz hC K hn hd Q hA hj HL;go_wp2_with fail;refine HJ.out.mono ?_;rintro e w5 ⟨rfl,u⟩;have hm:Below (w.heap.size+1) w1 w5:=U.out.trans (u.mono p);have hr:=hq.out.trans (hm.mono (Zc _));have hK:=ha.out w5 hm;clear u HJ ha;go_upto_region 20 with fail
   go_cut [3,9,81]from 62 (λs3 s9 hE wx=>s3=.bool c/\s9=.string J/\hE=.bool T/\wx=w5)
   case first=>
    cases G:decide (0<L.length)with
    |false=>
     have e1:T=false:=by rw[S.out,G];rfl
     subst e1;have d3:decide ((0:Int)<(L.length:Int))=false:=by have:=of_decide_eq_false G;exact Qq (by omega)
     go_wp2;go_meet;exact⟨rfl,rfl,rfl,rfl⟩
    |true=>
     have d3:decide ((0:Int)<(L.length:Int))=true:=by have:=Zr G;exact Qu (by omega)
     cases N:decide (1<a.length)with
     |false=>
      have e1:T=false:=by rw[S.out,G,N];rfl
      subst e1;have d4:decide ((1:Int)<(a.length:Int))=false:=by have:=of_decide_eq_false N;exact Qq (by omega)
      go_wp2;go_meet;exact⟨rfl,rfl,rfl,rfl⟩
     |true=>
      have d4:decide ((1:Int)<(a.length:Int))=true:=by have:=Zr N;exact Qu (by omega)
      have h9:Hid (T=((decide (z.data.toList=[])||decide (z.data.toList=[46]))||decide (z.data.toList=upP))):=by unfold Hid;rw[S.out,G,N];rfl
      have q0:z.toList.isEmpty=decide (z.data.toList=[]):=by rw[QP];cases z.data.toList <;> simp
      have q1:(z.toList==[46])=decide (z.data.toList=[46]):=by rw[QP,zsn]
      have q2:(z.toList==[46,46])=decide (z.data.toList=upP):=by rw[QP,zsn];rfl
      generalize decide (z.data.toList=[])=b0 at *;generalize decide (z.data.toList=[46])=b1 at *;generalize decide (z.data.toList=upP)=b2 at *;have hy:=h9.out;subst hy;clear S h9;cases b0 <;> cases b1 <;> cases b2
      all_goals
       go_wp2;go_meet;exact⟨rfl,rfl,rfl,rfl⟩
   case rest=>
    obtain⟨rfl,rfl,rfl,rfl⟩:=hcut;have hS:(J++ByteArray.mk #[47]).size<=4194306:=by rw[Q5];show J.size+1<=_;omega
    clear hK;cases T <;> cases c
    all_goals
     go_wp2;go_ret;refine⟨Zi (λx:ByteArray=>jC (Value.string x)) (?_:_=X),hr⟩;rw[h3.out]
     apply XT
     simp
def oneP(k:Int)(l:jE):jE:=
 if k=1 then zay l else if k=2 then zcf l else if k=3 then (zbN l).getD l else if k=4 then (b64D l).getD l else if k=5 then zcl l else if k=6 then ztc l
 else if k=7 then zb3 l else if k=8 then outL [0] l else if k=9 then zaG l else if k=10 then Lib.decDigits l.length else cmdL l
def zmc(a:List Int)(l:jE):jE:=a.foldl (λl k=>oneP k l) l
theorem zhk:∀(l:jE) (n b:Nat) (r:jE),zb7 n b l=some r->r.length<=l.length
 | [],n,b,r,h=>by
  unfold zb7 at h
  split at h
  ·cases h
  ·cases h;exact Qc _
 |x::l,n,b,r,h=>by
  unfold zb7 at h
  split at h
  ·cases h
  ·split at h
   ·have:=zhk l _ _ r h
    rw[Qn];omega
   ·cases a:zb7 ((n*64+(idx x).toNat) % 2 ^ (b-2)) (b-2) l with
    |none=>rw[a]at h;cases h
    |some q=>
     rw[a]at h;have:=zhk l _ _ q a;cases h;rw[Qn,Qn];omega
theorem zmt(l:jE):(zdD l).length<=l.length:=by
 unfold zdD Lib.trimSuffix
 split
 ·rw[QJ];exact Nat.min_le_right _ _
 ·exact Qc _
theorem zv9{l r:jE}(h:b64D l=some r):r.length<=l.length:=by
 unfold b64D at h
 split at h
 ·cases h
 ·have h1:=zhk _ _ _ _ h
  have h2:=zmt (zdD l);have a:=zmt l;omega
theorem zu0(k:Int)(l:jE)(hl:l.length<1000000):(oneP k l).length<=l.length+6:=by
 unfold oneP
 split
 ·unfold zay;rw[Qh];omega
 ·split
  ·have:=zqg l;omega
  ·split
   ·cases h:zbN l with
    |none=>rw[XB];omega
    |some r=>have:=zqI _ l r (Qc _) h;rw[Xz];omega
   ·split
    ·cases h:b64D l with
     |none=>rw[XB];omega
     |some r=>have:=zv9 h;rw[Xz];omega
    ·split
     ·have:=znq l;omega
     ·split
      ·have:=zu7 l;omega
      ·split
       ·have:=zmb l false;unfold zb3;omega
       ·split
        ·have:(outL [0] l).length<=l.length:=Zn _ _
         omega
        ·split
         ·have:=zoh l;omega
         ·split
          ·have:=(zkW 5 l.length (by omega)).2;omega
          ·have:=zx6 l;omega
theorem zr0(s:ByteArray)(w:World)(d:s.size<=140737488351232):
 Calls prog 191 #[.string s,.func (.func 192) #[] #[]] w λe w'=>e=jC (.string (bs ((zbN s.data.toList).getD s.data.toList)))/\w w':=by
 have a:=hIx (zla s w d);cases b:zbN s.data.toList with
 |none=>
  rw[b]at a;unfold zj4 zeO at a;dsimp only at a;clear b;rw[XB,zc1]
  go_in
  go_wp2_with fail;refine a.out.mono ?_;rintro e c ⟨rfl,hb⟩;go_wp2;go_ret;exact⟨rfl,hb⟩
 |some r=>
  rw[b]at a;unfold zj4 zeO at a;dsimp only at a;clear b;rw[Xz]
  go_in
  go_wp2_with fail;refine a.out.mono ?_;rintro e c ⟨rfl,hb⟩;go_wp2;go_ret;exact⟨rfl,hb⟩
theorem ztp(s:ByteArray)(w:World)(d:s.size<=140737488351232):
 Calls prog 191 #[.string s,.func (.func 193) #[] #[]] w λe w'=>e=jC (.string (bs ((b64D s.data.toList).getD s.data.toList)))/\w w':=by
 have a:=hIx (zgV s w d);cases b:b64D s.data.toList with
 |none=>
  rw[b]at a;unfold zj4 zeO at a;dsimp only at a;clear b;rw[XB,zc1]
  go_in
  go_wp2_with fail;refine a.out.mono ?_;rintro e c ⟨rfl,hb⟩;go_wp2;go_ret;exact⟨rfl,hb⟩
 |some r=>
  rw[b]at a;unfold zj4 zeO at a;dsimp only at a;clear b;rw[Xz]
  go_in
  go_wp2_with fail;refine a.out.mono ?_;rintro e c ⟨rfl,hb⟩;go_wp2;go_ret;exact⟨rfl,hb⟩
theorem zvA(k:Int)(s:ByteArray)(w:World)(h1:1<=k)(h2:k<=11)(r:s.size<=1000000)(c:LibOk w)(b:TabOk w):
 Calls prog 154 #[jA k,.string s] w λe w'=>e=jC (.string (bs (oneP k s.data.toList)))/\w w':=by
 have g:s.size<=maxLen:=by unfold maxLen;omega
 have hb:s.size<=140737488351232:=by omega
 have q:=hIx (zbd s w g);have u:=hIx (zdB s w hb);have m:=hIx (zr0 s w hb);have n:=hIx (ztp s w hb);have l:=hIx (zjn s w hb);have i:=hIx (zuT s w c (by omega));have j:=hIx (ziY s w hb);have o:=hIx (zqa s w hb);have t:=hIx (zdE s w g);have h:=hIx (zg4 s.size w (by omega) b);have f:=hIx (zxE s w hb);have d:s.data.toList.length=s.size:=by simp
 unfold oneP;rw[d];clear c b r g hb d;obtain rfl|rfl|rfl|rfl|rfl|rfl|rfl|rfl|rfl|rfl|rfl:k=1\/k=2\/k=3\/k=4\/k=5\/k=6\/k=7\/k=8\/k=9\/k=10\/k=11:=by omega
 all_goals
  simp only[Int.reduceEq,reduceIte]
  go_in
  go_wp2_with fail
 ·refine q.out.mono ?_
  rintro e a ⟨rfl,hb⟩;go_wp2;go_ret;exact⟨rfl,hb⟩
 ·refine u.out.mono ?_
  rintro e a ⟨rfl,hb⟩;go_wp2;go_ret;exact⟨rfl,hb⟩
 ·refine m.out.mono ?_
  rintro e a ⟨rfl,hb⟩;go_wp2;go_ret;exact⟨rfl,hb⟩
 ·refine n.out.mono ?_
  rintro e a ⟨rfl,hb⟩;go_wp2;go_ret;exact⟨rfl,hb⟩
 ·refine l.out.mono ?_
  rintro e a ⟨rfl,hb⟩;go_wp2;go_ret;exact⟨rfl,hb⟩
 ·refine i.out.mono ?_
  rintro e a ⟨rfl,hb⟩;go_wp2;go_ret;exact⟨rfl,hb⟩
 ·refine j.out.mono ?_
  rintro e a ⟨rfl,hb⟩;go_wp2;go_ret;exact⟨rfl,hb⟩
 ·refine o.out.mono ?_
  rintro e a ⟨rfl,hb⟩;go_wp2;go_ret;exact⟨rfl,hb⟩
 ·refine t.out.mono ?_
  rintro e a ⟨rfl,p⟩;rw[p];go_wp2;go_ret;exact⟨rfl,Qj _ _⟩
 ·refine h.out.mono ?_
  rintro e a ⟨rfl,hb⟩;go_wp2;go_ret;exact⟨rfl,hb⟩
 ·refine f.out.mono ?_
  rintro e a ⟨rfl,hb⟩;go_wp2;go_ret;exact⟨rfl,hb⟩
def zeE(a:List Int)(l:jE):Int:=if zbw a≠0 then zbw a else if 8192<l.length then 2 else 0
def runT(a:List Int)(l:jE):jE:=if zeE a l≠0 then []else zmc a l
def zy5(a:List Int)(s:jE)(w:World)(t i:Value)(wr:World):Prop:=
 ∃(k:Nat) (x:ByteArray),k<=a.length/\i=jA k/\t=.string x/\Hid (x.data.toList=zmc (a.take k) s)/\x.size<=8192+6*k/\w wr
theorem zuh{a:List Int}(h:zbw a=0):a.length<=8/\∀k∈a,1<=k/\k<=11:=zrQ.1 h
theorem zvZ(a:List Int)(A:Option Addr)(c:Nat)(s:ByteArray)(w:World)(h:Sl w w.heap.size 1 A a.length (a.map (Value.int .i64)))(hl:a.length<=4194304)(f:LibOk w)(d:TabOk w):
 Calls prog 116 #[.slice A a.length c,.string s] w λe w'=>e=jC (.tuple #[.string (bs (runT a s.data.toList)),jA (zeE a s.data.toList)])/\w w':=by
 have B:=hIx (ziU a A c w h hl);have r:s.data.toList.length=s.size:=by simp
 by_cases g:zbw a=0
 ·have m:=zuh g
  by_cases o:8192<s.size
  ·have n:Hid (zeE a s.data.toList=2/\runT a s.data.toList=[]):=by
    have:zeE a s.data.toList=2:=by unfold zeE;rw[Qe (by rw[g];simp),Qg (by omega)]
    refine⟨this,?_⟩;unfold runT;rw[Qg (by rw[this];decide)]
   have S:decide ((8192:Int)<(s.size:Int))=true:=Qu (by omega);rw[g]at B;rw[n.out.1,n.out.2];clear g m o h f d r
   go_in
   go_wp2_with fail;refine B.out.mono ?_;rintro e K ⟨rfl,hb⟩;go_wp2
   go_ret2
   exact⟨rfl,hb⟩
  ·have n:Hid (zeE a s.data.toList=0/\runT a s.data.toList=zmc a s.data.toList):=by
    have:zeE a s.data.toList=0:=by unfold zeE;rw[Qe (by rw[g];simp),Qe (by omega)]
    refine⟨this,?_⟩;unfold runT;rw[Qe (by rw[this];decide)]
   have S:decide ((8192:Int)<(s.size:Int))=false:=Qq (by omega);have Q:s.size<=8192:=by omega
   rw[g]at B;rw[n.out.1,n.out.2];have J:Hid (∀W,w W->LibOk W/\TabOk W):=λW hb=>⟨f.below hb,d.below hb⟩
   have G:=hIx m;have P:=m.1;clear g m o f d r
   go_in
   go_wp2_with fail;refine B.out.mono ?_;rintro e K ⟨rfl,hb⟩;go_wp2
   go_loopw [1,19] (λt i wr=>zy5 a s.data.toList w t i wr) (λ_ i _=>a.length-(intOf i).toNat)
   case atStart=>exact⟨0,s,Qm _,rfl,rfl,by unfold Hid zmc;rw[XM];rfl,by omega,hb⟩
   case round=>
    obtain⟨k,x,Z,rfl,rfl,L,N,l⟩:=hrel;clear hb
    by_cases p:k<a.length
    ·have O:decide ((k:Int)<(a.length:Int))=true:=Qu (by omega)
     have i7:IntKind.i64.wrap ((k:Int)+1)=(k:Int)+1:=Qx _ (by omega);obtain⟨b,off,rfl,V,v⟩:=(h.below l).src (by rw[Qh];omega);have H:=v k (by rw[Qh];exact p);rw[Zm]at H;have q:=G.out.2 a[k] (Qz p)
     have T:Hid (zmc (a.take (k+1)) s.data.toList=oneP a[k] (zmc (a.take k) s.data.toList)):=by
      unfold Hid zmc;rw[Qs p,XV]
      rfl
     generalize a[k]=z at *;obtain⟨y,D⟩:=J.out wr l;have X:=hIx (zvA z x wr q.1 q.2 (by omega) y D);have j:=zu0 z x.data.toList (by simp;omega);rw[show x.data.toList.length=x.size by simp]at j;have u:=hIx j;have E:=hIx l;clear y D v h j l q;go_wp2_with fail;refine X.out.mono ?_;rintro e w2 ⟨rfl,F⟩;have I:=E.out.trans (F.mono E.out.size);clear F;go_wp2_with fail
     go_roundw
     case rel=>exact⟨k+1,_,by omega,by go_num,rfl,by unfold Hid;rw[zah,T.out,L.out],by rw[zae];have:=u.out;omega,I⟩
     case measure=>simp[intOf] <;> omega
    ·obtain rfl:k=a.length:=by omega
     have O:decide ((a.length:Int)<(a.length:Int))=false:=by simp
     have U:x=bs (zmc a s.data.toList):=zgO (by rw[L.out,QZ]);clear h;go_wp2
     go_ret2
     exact⟨by rw[<-U];rfl,l⟩
 ·have n:Hid (zeE a s.data.toList=zbw a/\runT a s.data.toList=[]):=by
   have:zeE a s.data.toList=zbw a:=by unfold zeE;rw[Qg g]
   refine⟨this,?_⟩;unfold runT;rw[Qg (by rw[this];exact g)]
  have Y:(zbw a != 0)=true:=Q7.2 g;have q1:(zbw a==0)=false:=Qb.2 g;rw[n.out.1,n.out.2];generalize zbw a=C at *;clear g h f d r
  go_in
  go_wp2_with fail;refine B.out.mono ?_;rintro e K ⟨rfl,hb⟩;go_wp2
  go_ret2
  exact⟨rfl,hb⟩
def hitX(a:List Int)(b:Bool)(f:ByteArray->Bool)(x:Pair):Bool:=
 (zeE a x.2.data.toList==0)&&decide ((bs (runT a x.2.data.toList)).size<=8192)&&(f (bs (runT a x.2.data.toList)) != b)
def StR(F:Nat->Prop)(g:Nat)(r:zco)(f:ByteArray->Bool)(w:World):Prop:=RBox g r 0 0 .nilFunc w\/Ready F g r f w
section
variable {F:Nat->Prop} {g:Nat} {r:zco} {f:ByteArray->Bool} {w W:World}
theorem StR.next(h:StR F g r f w)(hb:w W):StR F g r f W:=by
 rcases h with h|h
 ·exact .inl (h.keep (hb.block g h.lt))
 ·exact .inr (h.next hb)
theorem StR.keep(h:StR F g r f w)(c:w.heap.size<=W.heap.size)(a:W.heap[g]? = w.heap[g]?)(b:∀k,k<w.heap.size->¬F k->W.heap[k]? = w.heap[k]?):StR F g r f W:=by
 rcases h with h|h
 ·exact .inl (RBox.keep h a)
 ·exact .inr (h.keep c a b)
theorem StR.more{a:Nat->Prop}(h:StR F g r f w)(b:∀k,a k->F k\/w.heap.size<=k):StR a g r f w:=by
 rcases h with h|h
 ·exact .inl h
 ·exact .inr (h.more b)
theorem Ready.cells(h:Ready F g r f w):w.cell? ⟨g,3,none⟩=some r.ps/\w.cell? ⟨g,4,none⟩=some (.bool r.nt):=by
 obtain⟨t,h⟩:=h.box;exact⟨h.rule.1,h.rule.2.1⟩
theorem StR.cells(h:StR F g r f w):w.cell? ⟨g,3,none⟩=some r.ps/\w.cell? ⟨g,4,none⟩=some (.bool r.nt):=by
 rcases h with h|h
 ·exact⟨h.rule.1,h.rule.2.1⟩
 ·exact h.cells
theorem StR.lt(h:StR F g r f w):g<w.heap.size:=QQ w _ h.cells.1
end
theorem zuU{a:Type}(p:a->Bool)(l:List a)(k:Nat)(c:k<l.length)(h:(l.take k).any p=false)(b:p l[k]=false):(l.take (k+1)).any p=false:=by
 rw[Qs c,List.any_append,h,Bool.false_or,List.any_cons,b];rfl
theorem zw6{a:Type}(p:a->Bool)(l:List a)(k:Nat)(c:k<l.length)(b:p l[k]=true):l.any p=true:=Xy.2 ⟨l[k],Qz c,b⟩
def zw1(B:Nat)(F:Nat->Prop)(g:Nat)(r:zco)(f:ByteArray->Bool)(p:Pair->Bool)(l:List Pair)(w:World)(v:Value)(wr:World):Prop:=
 ∃k:Nat,k<=l.length/\v=jA k/\StR F g r f wr/\Oth B g w wr/\Hid ((l.take k).any p=false)
theorem znk(B:Nat)(F:Nat->Prop)(g:Nat)(r:zco)(a:List Int)(pA:Option Addr)(pc:Nat)(h4:r.ps=.slice pA a.length pc)(hi:a.length<=4194304)(l:List Pair)(hj:l.length<=4398046511104)(A:Option Addr)(c:Nat)(w:World)(hB:B<=g)(hF:∀k,F k->k<w.heap.size)
 (h:StR F g r (tstO r.op r.arg) w) (hp:∀W,Oth B g w W->Sl W W.heap.size 1 pA a.length (a.map (Value.int .i64))) (hl:∀W,Oth B g w W->Sl W W.heap.size 2 A l.length (l.flatMap za5))
 (hL:∀W,Oth B g w W->LibOk W) (U:∀W,Oth B g w W->TabOk W) (h1:1<=r.op) (h2:r.op<=12) (ha:r.arg.size<=1048576) (h0:argC r.op r.arg=0):
 Calls prog 83 #[.pointer g,.slice A l.length c] w λe w'=>e=jC (.bool (l.any (hitX a r.nt (tstO r.op r.arg))))/\StR F g r (tstO r.op r.arg) w'/\Oth B g w w':=by
 have HH:Hid (∀W s,Oth B g w W->StR F g r (tstO r.op r.arg) W->s.size<=8192->Calls prog 117 #[.pointer g,.string s] W (zhe B F g r (tstO r.op r.arg) s W)):=λW s n Z S=>by
  rcases Z with Z|Z
  ·exact zoj B F g r s W hB (λk hk=>Qv (hF k hk) n.below.size) Z (λW' hd=>hL W' (n.trans hd)) h1 h2 ha h0 S
  ·exact zn3 B F g r _ s W hB Z (hL W n) S
 generalize tstO r.op r.arg=f at *
 have K:Hid (∀W (x:ByteArray),Oth B g w W->Calls prog 116 #[.slice pA a.length pc,.string x] W λe w'=>e=jC (.tuple #[.string (bs (runT a x.data.toList)),jA (zeE a x.data.toList)])/\W w'):=
  λW x n=>zvZ a pA pc x W (hp W n) hi (hL W n) (U W n)
 have h8:=hIx hl;obtain⟨i,L⟩:∃i,hitX a r.nt f=i:=⟨_,rfl⟩
 have V:Hid (∀x:Pair,i x=((zeE a x.2.data.toList==0)&&decide ((bs (runT a x.2.data.toList)).size<=8192)&&(f (bs (runT a x.2.data.toList)) != r.nt))):=λx=>by rw[<-L];rfl
 rw[L];have he:=hIx h4;clear h4 hp hl hL U h0 L h1 h2 ha hF
 go_in
 go_wp2
 go_loopw [11] (λv wr=>zw1 B F g r f i l w v wr) (λv _=>l.length-(intOf v).toNat)
 case atStart=>exact⟨0,Qm _,rfl,h,⟨Qj _ _,λ_ _ _=>rfl⟩,rfl⟩
 case round=>
  obtain⟨k,hk,rfl,G,n,C⟩:=hrel
  by_cases Q:k<l.length
  ·have d1:decide ((k:Int)<(l.length:Int))=true:=by simp;omega
   obtain⟨b,off,rfl,hg,a0,a1⟩:=zpl (h8.out wr n) k Q;have HN:=hIx C;have HX:=hIx (V.out l[k])
   have X:Hid (∀q,l[k]=q->(i q=true->l.any i=true)/\(i q=false->(l.take (k+1)).any i=false)):=λq hq=>by
    subst hq;exact⟨zw6 i l k Q,zuU i l k Q C.out⟩
   have HQ:=hIx (X.out _ rfl);generalize l[k]=x at *;obtain⟨x1,o⟩:=x;dsimp only at a0 a1;clear X V h8;go_upto_region 4 with fail
   obtain⟨J,t⟩:∃J,wr.alloc (.cells #[.string x1,.string o] 163)=J:=⟨_,rfl⟩
   rw[t];have u:wr J:=by rw[<-t];exact WaL
   have S:B<=wr.heap.size:=Ql hB (QX G.lt);have ob:Oth B g w J:=n.trans (Oth.of u S);have sb:=G.next u;have b1:J.cell? ⟨wr.heap.size,1,none⟩=some (.string o):=by rw[<-t];exact Qf _ _ 1 _ _ _ (Qt wr _)
   have c3:=sb.cells.1;rw[he.out]at c3;have z:=Ql S u.size;have HR:=hIx (K.out J.drew o (ob.trans (Oth.drew z)));have HW:=hIx t;have Y:=hIx ob;have h5:=hIx sb;clear t a0 a1 hg ob sb G n C
   go_region_held3 (λw'=>w'.cell? ⟨g,3,none⟩=some (.slice pA a.length pc)/\w'.cell? ⟨wr.heap.size,1,none⟩=some (.string o))
    (first|exact⟨c3,b1⟩|exact⟨zaa p c3,zaa p b1⟩|go_keep|fail "keep")
    (first|(go_at_call 116;(with_reducible refine HR.out.mono ?_);rintro e N ⟨rfl,I⟩;have p:J N:=undrew I)|fail "arm")
   have h9:Hid (Oth B g w N):=Y.out.trans (Oth.of p z);have h7:Hid (StR F g r f N):=h5.out.next p;have m:Hid (i (x1,o)=((zeE a o.data.toList==0)&&decide ((bs (runT a o.data.toList)).size<=8192)&&(f (bs (runT a o.data.toList)) != r.nt))):=HX.out;have hc:B<=N.heap.size:=Ql z p.size;have c4:=h7.out.cells.2;clear HX HR Y h5 HW I c3 b1 u S z K;generalize zeE a o.data.toList=E at *;generalize bs (runT a o.data.toList)=T at *;generalize i (x1,o)=hit at *
   have HC:Hid (∀W,Oth B g w W->StR F g r f W->hit=false->zw1 B F g r f i l w (jA ((k:Int)+1)) W):=λW h1 h2 h3=>
    ⟨k+1,by omega,rfl,h2,h1,HQ.out.2 h3⟩
   have i7:IntKind.i64.wrap ((k:Int)+1)=(k:Int)+1:=Qx _ (by omega);have j:Hid (Oth B g w N.drew):=h9.out.trans (Oth.drew hc);have P:Hid (StR F g r f N.drew):=h7.out.next (Qj _ _).drew;cases hE:(E==0)with
   |false=>
    have D:Hid (hit=false):=by unfold Hid;rw[m.out,hE];rfl
    clear m HH;go_wp2_with fail
    go_region
    go_wp2;exact⟨HC.out _ j.out P.out D.out,by dsimp only[intOf];omega⟩
   |true=>
    by_cases U:T.size<=8192
    ·have d2:decide ((T.size:Int)<=8192)=true:=by simp;omega
     have hh:=hIx (HH.out N.drew T j.out P.out U);have d:Hid (hit=(f T != r.nt)):=by unfold Hid;rw[m.out,hE,Qu U];rfl
     clear m HH;go_wp2_with fail
     go_region_held3 (λw'=>w'.cell? ⟨g,4,none⟩=some (.bool r.nt))
      (first|exact c4|exact hf|go_keep|fail "keep")
      (first|(go_at_call 117;(with_reducible refine hh.out.mono ?_);rintro e w9 ⟨rfl,O,h6⟩;have hf:=O.cells.2;have H:=hIx O;have y:=hIx h6;clear O h6)|fail "arm")
     generalize f T=v1 at *;generalize r.nt=v2 at *;cases v1 <;> cases v2
     ·have D:Hid (hit=false):=d.out
      clear d;go_wp2;exact⟨HC.out _ (j.out.trans y.out) (.inr H.out) D.out,by dsimp only[intOf];omega⟩
     ·have HA:Hid (l.any i=true):=HQ.out.1 d.out
      clear d;go_wp2;go_ret;exact⟨by rw[HA.out];rfl,.inr H.out,j.out.trans y.out⟩
     ·have HA:Hid (l.any i=true):=HQ.out.1 d.out
      clear d;go_wp2;go_ret;exact⟨by rw[HA.out];rfl,.inr H.out,j.out.trans y.out⟩
     ·have D:Hid (hit=false):=d.out
      clear d;go_wp2;exact⟨HC.out _ (j.out.trans y.out) (.inr H.out) D.out,by dsimp only[intOf];omega⟩
    ·have d2:decide ((T.size:Int)<=8192)=false:=by simp;omega
     have D:Hid (hit=false):=by unfold Hid;rw[m.out,Qq U,Bool.and_false,Bool.false_and]
     clear m HH;go_wp2_with fail
     go_region
     go_wp2;exact⟨HC.out _ j.out P.out D.out,by dsimp only[intOf];omega⟩
  ·obtain rfl:k=l.length:=by omega
   have d1:decide ((l.length:Int)<(l.length:Int))=false:=by simp
   have D:Hid (l.any i=false):=by have:=C.out;rw[QZ]at this;exact this
   go_wp2;go_ret;exact⟨by rw[D.out];rfl,G,n⟩
theorem ze2{H:Type}:∀{l:List (DataW H)} {d:DataW H},d∈l->Rows.uptoBulk d<=Rows.uptoBulkAll l
 | [],_,h=>by cases h
 |x::r,d,h=>by
  rw[Rows.uptoBulkAll]
  rcases QI.1 h with rfl|h
  ·omega
  ·have:=ze2 h;omega
theorem zvI{H:Type}(d:DataW H):1<=Rows.uptoBulk d:=by
 cases d with
 |lit x=>cases x <;> simp[Rows.uptoBulk]
 |_=>simp[Rows.uptoBulk]
theorem zj8{H:Type}:∀l:List (DataW H),l.length<=Rows.uptoBulkAll l
 | []=>by simp[Rows.uptoBulkAll]
 |x::r=>by
  have h1:=zvI x;have h2:=zj8 r;rw[Rows.uptoBulkAll,Qn];omega
theorem zdg{H:Type}{l sp:List (DataW H)}:l.length+1<=Rows.uptoBulk (.slice l sp):=by
 have:=zj8 l;rw[Rows.uptoBulk];omega
