/- Lemmas for the last texts. -/
import Derived.Test.YtnnokglddolglaaGreatDoorM14
set_option maxHeartbeats 3200000
set_option maxRecDepth 100000
namespace Go.Proofs.YtnnokglddolglaaGreatDoor
open Go.RowKit Go.Proofs.Tryz
structure zjz(ws:List ByteArray):Prop where
 few:ws.length<=30
 some:0<ws.length
 short:∀w∈ws,w.size<=40
 full:∀w∈ws,w.size≠0
theorem zcu{ws:List ByteArray}(h:zcB ws=0):zjz ws:=by
 unfold zcB at h
 split at h
 ·omega
 rename_i h1
 split at h
 ·omega
 rename_i h2
 split at h
 ·omega
 rename_i g
 split at h
 ·omega
 rename_i f;have b:anyN (λj=>decide (40<(ws.getD j ByteArray.empty).size)) ws.length=false:=by simpa using h2
 refine⟨by omega,by omega,λw a=>?_,λw a e=>?_⟩
 ·obtain⟨j,c,rfl⟩:=Z4 a
  have:=(zez _ _).1 b j c;rw[Qk,Qc c]at this
  simpa using this
 ·have d:w=ByteArray.empty:=ByteArray.ext (Array.eq_empty_of_size_eq_zero e)
  subst d;exact f ((Lib.containsS_iff _ _).2 a)
structure TreeIs(w:World)(lo:Nat)(ws:List ByteArray)(g cap:Nat)(ns:List zaC)(ss:List (List UInt8))(ms:List zcK):Prop where
 lev:Lev (lstS ws) 40 ns ss
 few:ns.length<=400
 at_:∃lo2,lo<=lo2/\NodesAt (lstS ws) ss ns lo lo2 g cap ns.length ms w
def zwC(ws:List ByteArray)(w:World)(e:Ending)(w':World):Prop:=
 Below w.heap.size w w'/\((e=.returned (.tuple #[.slice none 0 0,.int .i64 2])/\Full (lstS ws))\/∃g cap c b a,e=.returned (.tuple #[.slice (some ⟨g,0,none⟩) a.length cap,.int .i64 0])/\TreeIs w' w.heap.size ws g cap c b a)
section
variable {ops:Array Oper} {rest:List Oper} {o:Oper} {a:Act} {Q:Exit->Act->World->Prop} {w:World}
theorem zll(b:o.guard=none)(x y:Operand)(d:o.op=.makeSlice 31 x y)(base n g:Nat)(l:w.heap.size=g)(u:a.eval x=.int .i64 (n:Int))(s:a.eval y=.int .i64 (n:Int))(z:n<=1048576)(hb:base<=w.heap.size)
 (q:∀w',OwnG rowI w' base (.slice (some ⟨g,0,none⟩) n n) (List.replicate n 0)->Below w.heap.size w w'->g<w'.heap.size->wpList prog ops Q rest (a.put o.dst (.slice (some ⟨g,0,none⟩) n n)) w'):
 wpList prog ops Q (o::rest) a w:=by
 subst l;obtain⟨r,t,c,f,h⟩:=ZC rowI.info;have i:rowI.bytes=8:=rfl;refine wpList_make_full w b x y 31 d base 3 r (.int .i64 0) 1 underlying31 t c f .i64 .i64 _ _ n u s rfl rfl (by rw[h,i];omega) (by unfold maxLen;omega) hb λw' h1 h2=>?_
 rw[Nat.mul_one]at h1;have e:(madeCells (Value.int .i64 0).cells n).toList=List.replicate n (Value.int .i64 0):=toList_madeCells_one (.int .i64 0) n;rw[e]at h1
 have k:OwnG rowI w' base (.slice (some ⟨w.heap.size,0,none⟩) n n) (List.replicate n 0):=by
  unfold OwnG;rw[List.length_replicate]
  have:(List.replicate n 0).flatMap rowI.cells=List.replicate n (Value.int .i64 0):=by
   have p:∀m:Nat,(List.replicate m 0).flatMap rowI.cells=List.replicate m (Value.int .i64 0):=λm=>by
    induction m with
    |zero=>rfl
    |succ m ih=>rw[List.replicate_succ,QM,ih,List.replicate_succ];rfl
   exact p n
  rw[this];exact h1
 exact q w' k ⟨h2.os,h2.tape,h2.output,h2.size,λj v=>h2.block j v (by simp)⟩ (k.lt _ rfl).2
end
theorem zsQ(ws:List ByteArray)(h:0<ws.length){w:World}{B c b a g:Nat}(hM:Mk w B c b a ws.length g 1 [(⟨0,0,0⟩,none,0,0)] [] (List.replicate ws.length 0)):ztR w B c b a ws.length ws 0 g 1 [⟨0,0,0⟩] [[]] [] (List.replicate ws.length 0) where
 mkr:=hM
 lev:=zrT (by intro e;rw[lstS,List.map_eq_nil_iff]at e;rw[e]at h;exact absurd h (by simp))
 ats:=by have:=zwp (ws:=lstS ws);rwa[show (lstS ws).length=ws.length by rw[lstS,Qh]]at this
 next:=NextOk.start
 few:=by simp
theorem zvy{w a w2:World}{n:Nat}(f:w.heap.size<=a.heap.size)(h2:OwnG rowI w2 a.heap.size (.slice (some ⟨a.heap.size+1+1,0,none⟩) n n) (List.replicate n 0))
 (hb:Below ((a.alloc (.cells #[.int .u8 0,.int .i64 0,.int .i64 0,.slice none 0 0] 239)).alloc (.map #[] 0)).heap.size ((a.alloc (.cells #[.int .u8 0,.int .i64 0,.int .i64 0,.slice none 0 0] 239)).alloc (.map #[] 0)) w2):
 Mk (w2.alloc (.cells #[.slice (some ⟨a.heap.size,0,none⟩) 1 1,.map (some (a.heap.size+1)),.slice (some ⟨a.heap.size+1+1,0,none⟩) n n] 242)) w.heap.size w2.heap.size (a.heap.size+1) (a.heap.size+1+1) n a.heap.size 1 [(⟨0,0,0⟩,none,0,0)] [] (List.replicate n 0):=by
 have g:=hb.size;simp only[Qr]at g;have e:∀o,Below w2.heap.size w2 (w2.alloc o):=λo=>WaL
 have c:OwnG rowN (a.alloc (.cells #[.int .u8 0,.int .i64 0,.int .i64 0,.slice none 0 0] 239)) w.heap.size (.slice (some ⟨a.heap.size,0,none⟩) 1 1) [(⟨0,0,0⟩,none,0,0)]:=
  Xw a #[.int .u8 0,.int .i64 0,.int .i64 0,.slice none 0 0] 1 f (by decide) rfl
 have b:=(c.below ((Qg _ _).alloc (Qd _) (.map #[] 0))).below hb
 have d:MpAt w2 (a.heap.size+1) []:=by
  refine⟨#[],0,?_,rfl⟩;have h1:=Qp (a.alloc (.cells #[.int .u8 0,.int .i64 0,.int .i64 0,.slice none 0 0] 239)) (.map #[] 0);rw[Qr]at h1;exact(hb.block _ (by simp)).trans h1
 refine⟨?_,b.below (e _),?_,d.keep ((e _).block _ (by omega)),by omega,by omega⟩
 ·have:=Qp w2 (.cells #[.slice (some ⟨a.heap.size,0,none⟩) 1 1,.map (some (a.heap.size+1)),.slice (some ⟨a.heap.size+1+1,0,none⟩) n n] 242)
  rw[List.length_replicate];exact this
 ·rw[List.length_replicate]
  exact(h2.low f).below (e _)
def RelM(ws:List ByteArray)(e b a n:Nat)(w:World)(i:Value)(wr:World):Prop:=
 ∃(k g cap:Nat) (d:List zaC) (c:List (List UInt8)) (l:List (zaM × Nat)) (ats:List Nat),k<=40/\i=.int .i64 (k:Int)/\Below w.heap.size w wr/\Hid (ztR wr w.heap.size e b a n ws k g cap d c l ats)
def RelN(ws:List ByteArray)(d:List (List UInt8))(b:List zaC)(B g cap:Nat)(a:World)(v:Value)(wr:World):Prop:=
 ∃(i:Nat) (c:List zcK),i<=b.length/\v=.int .i64 (i:Int)/\NodesAt (lstS ws) d b B a.heap.size g cap i c wr/\a.grownBy wr (some g)
def RelK(ws:List ByteArray)(e:List Nat)(ats:List Nat)(a:List zcK)(B g cap i:Nat)(b:World)(v:Value)(c:World):Prop:=
 ∃(k:Nat) (s:SlT),k<=ws.length/\v=.int .i64 (k:Int)/\NodeNow a B g cap i b (accN (lstS ws) e ats i k) s c
def zeR(ws:List (List UInt8))(a:List (List UInt8))(i f:Nat):List Nat:=if i=0 then []else zaX ws (a.getD f [])
theorem zhp(ws:List (List UInt8))(s:List UInt8):(zaX ws s).length<=ws.length:=by
 unfold zaX;exact Qn (Zl _ _) (by simp)
theorem zpv(ws:List (List UInt8))(a:List (List UInt8))(i f:Nat):(zeR ws a i f).length<=ws.length:=by
 unfold zeR
 split
 ·exact Qm _
 ·exact zhp _ _
theorem zza(ws:List (List UInt8))(e ats:List Nat)(i k:Nat)(b:e.length<=30)(a:k<=30):(accN ws e ats i k).length<=60:=by
 unfold accN;rw[Qa];have:=Zl (λj=>decide (ats.getD j 0=i/\0<i/\j<ws.length)) (List.range k);rw[List.length_range]at this;omega
theorem NodesAt.src{ws l:List (List UInt8)}{j:List zaC}{B o g cap i:Nat}{a:List zcK}{w:World}(h:NodesAt ws l j B o g cap i a w)(n:Inv j l)(d:i<a.length):
 ∃(f:Nat) (x:zaC) (m:SlT),j[i]? = some x/\x.fail=f/\f<a.length/\w.cell? ⟨g,i*4+2,none⟩=some (.int .i64 (f:Int))/\w.cell? ⟨g,f*4+3,none⟩=some (slV m)/\EndsAt w o m (zeR ws l i f):=by
 have k:j[i]? = some a[i].1:=by rw[<-h.fst,ZW,Qc d];rfl
 have hl:j.length=a.length:=by rw[<-h.fst,Qh]
 have b:a[i].1.fail<a.length/\(0<i->a[i].1.fail<i)/\(i=0->a[i].1.fail=0):=by
  rcases ZO i with c|c
  ·subst c
   rw[n.zero]at k;have e:a[0].1.fail=0:=by rw[<-QD k]
   exact⟨by omega,λh=>absurd h (by omega),λ_=>e⟩
  ·have:=(n.node i _ c k).2.1
   exact⟨by omega,λ_=>this,λe=>by omega⟩
 have h2:=(h.own.at i d 2 (by decide)).1;have p:=(h.own.at a[i].1.fail b.1 3 (by decide)).1;refine⟨a[i].1.fail,a[i].1,a[a[i].1.fail].2,k,rfl,b.1,h2.trans rfl,p.trans rfl,?_⟩;unfold zeR
 split
 ·rename_i c
  have:=h.rest (a[i].1.fail) _ (by omega) (Qc b.1);rw[this];exact⟨rfl,λh=>absurd h (by simp)⟩
 ·exact h.done _ _ (b.2.1 (by omega)) (Qc b.1)
theorem NodesAt.spot{ws c:List (List UInt8)}{d:List zaC}{B e g cap i:Nat}{b:List zcK}{w:World}(h:NodesAt ws c d B e g cap i b w)(a:i<b.length):
 (∃u,w.cell? ⟨g,i*4+3,none⟩=some u)/\w.frozen? ⟨g,i*4+3,none⟩=false:=by
 have:=h.own.at i a 3 (by decide);exact⟨⟨_,this.1.trans rfl⟩,this.2⟩
theorem NodeNow.spot{b:List zcK}{B g cap i:Nat}{d w:World}{c:List Nat}{s:SlT}(h:NodeNow b B g cap i d c s w)(e:i<b.length):
 w.cell? ⟨g,i*4+3,none⟩=some (slV s)/\w.frozen? ⟨g,i*4+3,none⟩=false:=by
 have a:(b.set i ((b.getD i (⟨0,0,0⟩,none,0,0)).1,s)).length=b.length:=Xn ..;have h1:=h.own;rw[<-a]at h1;have:=h1.at i (by rw[a];exact e) 3 (by decide);rw[List.getElem_set_self]at this;exact⟨this.1.trans rfl,this.2⟩
theorem zzn{w:World}{b:Nat}{s:SlT}{l:List Nat}(h:OwnG rowI w b (slV s) l):s.2.1=l.length:=by
 obtain⟨A,c,e,_⟩:=h.form;injection e
theorem zuA{ws:List ByteArray}(j:zjz ws){a:List (List UInt8)}{h:List zaC}{ats:List Nat}{i f:Nat}{x:zaC}(hl:Lev (lstS ws) 40 h a)(p:AtOk (lstS ws) 40 a ats)(n:h[i]? = some x)(m:x.fail=f):
 zfv (accN (lstS ws) (zeR (lstS ws) a i f) ats i ws.length)=zaX (lstS ws) (a.getD i []):=by
 have g:(lstS ws).length=ws.length:=by rw[lstS,Qh]
 rcases ZO i with c|c
 ·subst c
  have o:accN (lstS ws) (zeR (lstS ws) a 0 f) ats 0 ws.length=[]:=by
   unfold accN zeR;rw[Qi rfl,Xa,List.filter_eq_nil_iff];intro k _;simp
  have l:a.getD 0 []=[]:=by rw[Qk,hl.inv.trie.root];rfl
  rw[o,l,zni]
  ·unfold zfv
   rw[ZE,List.mergeSort_nil]
   rfl
  ·intro w b
   obtain⟨v,d,rfl⟩:=QO.1 b;intro e;exact j.full v d (by have:=Zt List.length e;simpa using this)
 ·have:=ztu hl (λw b=>by
   obtain⟨v,d,rfl⟩:=QO.1 b;have:=j.short v d
   simpa using this) p c n
  rw[m,g]at this;unfold zeR;rw[Qe (by omega)];exact this
theorem zm9(v:zxt)(A:Option Addr)(c n:Nat)(ws:List ByteArray)(w:World)(O:ws.length=n)(h:Sl w w.heap.size 1 A n (ws.map Value.string))(h0:zcB ws=0):
 Calls prog 106 #[.slice A n c] w (zwC ws w):=by
 have hG:=hIx (zcu h0);have HC:=hIx (zjc A c n ws w O h);rw[h0]at HC;have HS:=hIx h;have gb:n<=30:=by rw[<-O];exact hG.out.few
 have gj:0<n:=by rw[<-O];exact hG.out.some
 have g9:=hIx v;have g2:=@run_makeMap prog;clear h h0 v
 go_in
 go_wp2_with (first|(go_at_call 142;refine HC.out.mono ?_;rintro e N ⟨rfl,F⟩)|(at_make;refine zll rfl _ _ rfl N.heap.size n (N.heap.size+1+1) (by simp) rfl rfl (by omega) (by simp;omega) ?_;intro w2 ha o hZ));have hh:=zvy F.size ha o
 have hE:Below w.heap.size w (w2.alloc (.cells #[.slice (some ⟨N.heap.size,0,none⟩) 1 1,.map (some (N.heap.size+1)),.slice (some ⟨N.heap.size+1+1,0,none⟩) n n] 242)):=by
  have hz:=F.size;have hs:=o.size;simp only[Qr]at hs;exact((((F.alloc hz _).alloc (by simp;omega) _).trans (o.mono (by simp;omega))).alloc (by omega) _)
 have S:=hIx (zsQ ws (by omega) (by rw[O];exact hh));rw[O]at S;clear g2 hh o ha hZ F;generalize w2.heap.size=J at *;generalize N.heap.size+1+1=I at *;generalize N.heap.size+1=bm at *;generalize N.heap.size=gl at *;generalize w2.alloc _=W at *
 go_loopw [24] (λi wr=>RelM ws J bm I n w i wr) (λi _=>40-(intOf i).toNat)
 case atStart=>exact⟨0,_,_,_,_,_,_,by omega,rfl,hE,S⟩
 case round=>
  obtain⟨k,g,cap,B,y,l,ats,hk,rfl,hb,t⟩:=hrel;clear hE S HC
  by_cases g1:k<40
  ·have hd:decide ((k:Int)<40)=true:=by simp;omega
   have C:=hIx (g9.out ws k g1 (by omega) (by omega) A c w.heap.size J bm I n g cap B y l ats wr (by rw[O];exact HS.out.below hb) t.out);rw[O]at C;go_wp2_with (go_at_call 143;apply Hid.out);refine WhM C ?_;rintro e w3 ⟨hw,⟨rfl,h8⟩|⟨rfl,g3,h9,hK,g8,l3,hf,hP⟩⟩
   ·go_wp2
    go_ret2
    exact⟨hb.trans hw,.inl ⟨rfl,h8⟩⟩
   ·go_wp2
    exact⟨⟨k+1,g3,h9,hK,g8,l3,hf,by omega,rfl,hb.trans hw,hIx hP⟩,by simp[intOf] <;> omega⟩
  ·have hA:k=40:=by omega
   rw[hA]at t;have hd:decide ((k:Int)<40)=false:=by simp;omega
   clear hA;obtain⟨Z,rfl⟩:∃Z:World,Z=wr:=⟨_,rfl⟩
   obtain⟨X,_,U,_⟩:=t.out.mkr.cells;have ho:=t.out.mkr.lt;have E:=t.out.mkr.ne;have gd:=hIx t.out.mkr.blk;rw[Qh]at X;have hT:ats.length=n:=by have:=t.out.ats.len;rw[this,lstS,Qh,O]
   rw[hT]at U;go_wp2
   go_loopw [38] (λi wr=>RelN ws y B w.heap.size g cap Z i wr) (λi _=>B.length-(intOf i).toNat)
   case atStart=>
    refine⟨0,B.map nilE,Qm _,rfl,⟨t.out.mkr.own,zpo B,λj m h=>absurd h (by omega),λj m _ hm=>?_⟩,⟨rfl,rfl,rfl,Qd _,λ_ _ _=>rfl⟩⟩;rw[ZW]at hm;obtain⟨x,_,rfl⟩:=XV.1 hm
    rfl
   case round=>
    obtain⟨i,ms,hi,rfl,P,Q⟩:=hrel;have hV:ms.length=B.length:=by rw[<-P.fst,Qh]
    have gc:=t.out.few;have hp:wr.heap[J]? = Z.heap[J]? := Q.block J ho.1 (λe=>E.1 (QD e));have hS:wr.heap[I]? = Z.heap[I]? := Q.block I ho.2.2.1 (λe=>E.2.2.2.1 (QD e).symm);have hB:=(zeo hp 0).trans X;have V:=(zeo hp 2).trans U;clear X U
    by_cases gr:i<B.length
    ·have b:i<ms.length:=by omega
     obtain⟨f,x,sf,hx,hX,gi,hg,h3,z⟩:=P.src t.out.lev.inv b;obtain⟨⟨u,r⟩,h5⟩:=P.spot b;have g0:=Q.size;have G:=zrf sf.1 sf.2.1 sf.2.2 _ wr.drew (z.sl.drewN 1) (λu hu=>by obtain⟨x,_,h⟩:=List.mem_flatMap.1 hu;exact rowI.one x u h) (by rw[z.1];have:=zpv (lstS ws) y i f;rw[show (lstS ws).length=ws.length by rw[lstS,Qh]]at this;omega);rw[z.1]at G;obtain⟨A1,n1,c1⟩:=sf;obtain rfl:n1=(zeR (lstS ws) y i f).length:=z.1;dsimp only at G;have hH:=hIx G;have HN:=hIx P;have T:=hIx Q;have gf:(f:Int)<(B.length:Int):=by omega
     unfold slV at h3;clear G z P Q;go_upto_region 15 with fail
     go_cut [8]from 47 to 61 (λs8 wx=>s8=.pointer (some ⟨g,i*4,none⟩)/\∃s:SlT,Hid (NodeNow ms w.heap.size g cap i wr (zeR (lstS ws) y i f) s wx))
     case first=>
      go_region_with (first|(go_at_call 144;(with_reducible refine(hH.out).mono ?_);rintro e w2 ⟨v2,rfl,hW,o⟩;have hD:OwnG rowI w2 wr.heap.size v2 (zeR (lstS ws) y i f):=hW;obtain⟨A2,c2,rfl,_⟩:=hD.form;have hR:=zaa o r;have hJ:=zaB o r h5))
      all_goals
       clear hR hJ hB V hg h3 r h5;go_wp2;go_meet;exact⟨rfl,(A2,_,c2),hIx (NodeNow.start HN.out b (by omega) hD (undrew o))⟩
     case rest=>
      obtain⟨rfl,s0,H⟩:=hcut;obtain⟨wx,rfl⟩:∃wx:World,wx=wc:=⟨_,rfl⟩
      clear hg h3 r h5 u hH;have h4:=H.out.only;have ht:wx.heap[J]? = wr.heap[J]? := h4.block J (by omega) (λe=>E.1 (QD e));have ge:=(zeo ht 2).trans V;clear hB V;obtain⟨w0,rfl⟩:∃w0:World,w0=wr:=⟨_,rfl⟩
      go_wp2
      go_loopw [67] (λi' wq=>RelK ws (zeR (lstS ws) y i f) ats ms w.heap.size g cap i w0 i' wq) (λi' _=>n-(intOf i').toNat)
      case atStart=>exact⟨0,s0,Qm _,rfl,by unfold accN;rw[List.range_zero,List.filter_nil,QI];exact H.out⟩
      case round=>
       obtain⟨q,s,hq,rfl,D⟩:=hrel;obtain⟨A5,n5,c5⟩:=s;obtain rfl:n5=_:=zzn D.row;have r:=D.spot b;unfold slV at r;dsimp only at r;obtain⟨hC,hY⟩:=r;have L:wr.heap[I]? = Z.heap[I]? := (D.only.block I (by omega) (λe=>E.2.2.2.1 (QD e).symm)).trans hS;have hv:=zza (lstS ws) (zeR (lstS ws) y i f) ats i q (by have:=zpv (lstS ws) y i f;rw[show (lstS ws).length=ws.length by rw[lstS,Qh]]at this;omega) (by omega)
       by_cases gn:q<n
       ·have g5:=(zeo L q).trans (t.out.mkr.at q (by omega)).1
        have d:=hIx (zr0 (lstS ws) (zeR (lstS ws) y i f) ats i q (by rw[lstS,Qh];omega));rw[show ats.getD q 0=ats[q]'(by omega)by rw[Qk,Qc (by omega)];rfl]at d;have C:=hIx D;have gh:=D.only.size;clear D L;generalize ats[q]'(by omega)=a at g5 d;generalize accN (lstS ws) (zeR (lstS ws) y i f) ats i q=Y at *
        by_cases hc:a=i
        ·subst hc
         by_cases hF:0<a
         ·rw[Qi ⟨rfl,hF⟩]at d
          go_wp2_with (at_builtin;refine zax rowI rfl _ _ rfl w0.heap.size _ Y rfl C.out.row (by omega) _ q rfl wr.heap.size rfl 1 rfl (by omega) ?_;intro v4 w4 hy h7 gq gp;obtain⟨g4,c4,rfl,_,_⟩:=hy.head (by simp);have gk:=(h7.cell (p:=⟨g,a*4+3,none⟩) (show g<w0.heap.size by omega)).trans hC;have gg:=(h7.frozen (p:=⟨g,a*4+3,none⟩) (show g<w0.heap.size by omega)).trans hY);exact⟨⟨q+1,(some ⟨g4,0,none⟩,Y.length+1,c4),by omega,rfl,by rw[d.out];exact C.out.add b (by omega) hy h7⟩,by simp[intOf] <;> omega⟩
         ·rw[Qe (λh=>hF h.2)]at d
          obtain rfl:a=0:=by omega
          go_wp2;exact⟨⟨q+1,(A5,_,c5),by omega,rfl,by rw[d.out];exact C.out⟩,by simp[intOf] <;> omega⟩
        ·rw[Qe (λh=>hc h.1)]at d
         have he:((a:Int)==(i:Int))=false:=Qb.2 (by omega);go_wp2;exact⟨⟨q+1,(A5,_,c5),by omega,rfl,by rw[d.out];exact C.out⟩,by simp[intOf] <;> omega⟩
       ·have e5:q=ws.length:=by omega
        rw[e5]at D hC hv;clear e5;have g7:=zuA hG.out t.out.lev t.out.ats hx hX;have h6:=hIx (zux D.row (by omega));unfold slV at h6;dsimp only at h6;have C:=hIx D;clear D;generalize accN (lstS ws) (zeR (lstS ws) y i f) ats i ws.length=Y at *;go_wp2_with (go_at_call 145;refine h6.out.mono ?_;rintro e w6 ⟨rfl,hI,g6,hr,hU⟩);have K:=NodesAt.next HN.out b g0 (by omega) C.out.own C.out.only hI g7 hr hU;exact⟨⟨i+1,_,by omega,rfl,K.1,zay T.out K.2⟩,by simp[intOf] <;> omega⟩
    ·have e6:i=B.length:=by omega
     rw[e6]at P;have HN:=hIx P;have T:=hIx Q;clear P Q e6;go_wp2
     go_ret2
     exact⟨hb.trans ⟨T.out.os,T.out.tape,T.out.output,T.out.size,λj hj=>T.out.block j (Qv hj hb.size) (λe=>by have:=t.out.mkr.base.2.1;have e:=QD e;omega)⟩,.inr ⟨g,cap,B,y,ms,by rw[hV];rfl,⟨t.out.lev,t.out.few,Z.heap.size,hb.size,HN.out⟩⟩⟩
theorem srcI{wr:World}{B n:Nat}{A:Option Addr}{c:List Value}{g:Nat->Value}(h:Sl wr B 1 A n c){j:Nat}(o:j<n)(m:∀j,j<n->c[j]? = some (g j)):
 ∃b a,A=some ⟨b,a,none⟩/\wr.cell? ⟨b,a+j,none⟩=some (g j):=by
 have hl:=h.len;obtain⟨b,a,e,_,p⟩:=h.src (by omega);have l:=m j o
 have d:∀i v,c[i]? = some v->wr.cell? ⟨b,a+i,none⟩=some v:=λi v k=>by
  have f:i<c.length:=(Qw.1 k).1;rw[p i f,<-k,Qc f]
 exact⟨b,a,e,d _ _ l⟩
theorem zuN(g:Nat)(t:Array Value)(D:∀args w,(callFunc g args).run prog w=.ok (.enter g args) w)(A:Option Addr)(n c:Nat)(r:List Value)(x:Nat->Value)(p:Nat->Bool)(w:World)
 (h:Sl w w.heap.size 1 A n r) (s:n<=9223372036854775807) (v:∀j,j<n->r[j]? = some (x j))
 (q:∀W j,j<n->Below w.heap.size w W->Calls prog g (#[x j]++t) W (zal (p j) W)):
 Calls prog 136 #[.slice A n c,.func (.func g) #[] t] w λe w'=>e=.returned (.int .i64 (hitI p n))/\Below w.heap.size w w':=by
 have B:=hIx q;have C:=hIx v;clear q v
 go_in
 go_wp2
 go_loopw [5,8] (λ_ i wr=>∃j:Nat,j<=n/\i=.int .i64 j/\Below w.heap.size w wr/\Hid (∀i,i<j->p i=false)) (λ_ i _=>n-(intOf i).toNat)
 case atStart=>exact⟨0,Qm _,rfl,Qg _ _,λi u=>absurd u (by omega)⟩
 case round=>
  obtain⟨j,E,rfl,hb,a⟩:=hrel
  by_cases d:j<n
  ·obtain⟨b,z,rfl,y⟩:=srcI (h.below hb) d C.out
   have o:=B.out wr j d hb;cases l:p j with
   |true=>
    rw[l]at o;have f:=hIx (zkn p n j d l a);clear l;go_wp2_with (go_at_fn g;refine o.mono ?_;rintro e w' ⟨rfl,k⟩);go_ret;exact⟨zac f.out.symm,hb.trans (k.mono hb.size)⟩
   |false=>
    rw[l]at o
    have m:Hid (∀i,i<j+1->p i=false):=λi u=>by
     by_cases e:i=j
     ·rw[e];exact l
     ·exact a i (by omega)
    clear l a;go_wp2_with (go_at_fn g;refine o.mono ?_;rintro e w' ⟨rfl,k⟩)
    go_roundw
    case rel=>exact⟨j+1,by omega,by go_num,hb.trans (k.mono hb.size),m⟩
    case measure=>simp[intOf] <;> omega
  ·obtain rfl:j=n:=by omega
   have f:=hIx (zdT p j a);go_wp2;go_ret;exact⟨zac f.out.symm,hb⟩
theorem zkl(g:Nat)(d:Array Value)(l:∀args w,(callFunc g args).run prog w=.ok (.enter g args) w)(A:Option Addr)(n c:Nat)(b:List Value)(f:Nat->Value)(p:Nat->Bool)(w:World)
 (h:Sl w w.heap.size 1 A n b) (a:n<=9223372036854775807) (k:∀j,j<n->b[j]? = some (f j))
 (i:∀W j,j<n->Below w.heap.size w W->Calls prog g (#[f j]++d) W (zal (p j) W)):
 Calls prog 101 #[.slice A n c,.func (.func g) #[] d] w (zal (anyN p n) w):=by
 have o:=hIx (zuN g d l A n c b f p w h a k i);have m:=hIx (zgl p n);clear i k h
 go_in
 go_wp2_with fail;refine o.out.mono ?_;rintro e q ⟨rfl,hb⟩;go_wp2;go_ret;exact⟨zaI m.out,hb⟩
theorem NodesAt.below{ws b:List (List UInt8)}{c:List zaC}{B d g cap i:Nat}{a:List zcK}{w w':World}(h:NodesAt ws b c B d g cap i a w)(hb:Below w.heap.size w w'):NodesAt ws b c B d g cap i a w':=
 ⟨h.own.below hb,h.fst,λj m l f=>(h.done j m l f).keep hb.size λk _ e=>hb.block k e,h.rest⟩
theorem TreeIs.below{w w':World}{e:Nat}{ws:List ByteArray}{g cap:Nat}{d:List zaC}{c:List (List UInt8)}{b:List zcK}(h:TreeIs w e ws g cap d c b)(hb:Below w.heap.size w w'):TreeIs w' e ws g cap d c b:=by
 obtain⟨h1,h2,a,i,f⟩:=h;exact⟨h1,h2,a,i,f.below hb⟩
theorem TreeIs.len{w:World}{f:Nat}{ws:List ByteArray}{g cap:Nat}{a:List zaC}{e:List (List UInt8)}{b:List zcK}(h:TreeIs w f ws g cap a e b):b.length=a.length/\0<a.length/\g<w.heap.size:=by
 obtain⟨h1,h2,d,i,c⟩:=h;exact⟨by rw[<-c.fst,Qh],(Qw.1 h1.inv.zero).1,(c.own.lt g rfl).2⟩
theorem TreeIs.at{w:World}{m:Nat}{ws:List ByteArray}{g cap:Nat}{c:List zaC}{i:List (List UInt8)}{f:List zcK}(h:TreeIs w m ws g cap c i f)(k:Nat)(j:k<c.length):
 ∃s:SlT,w.cell? ⟨g,k*4,none⟩=some (.int .u8 c[k].b.toNat)/\w.cell? ⟨g,k*4+1,none⟩=some (.int .i64 (c[k].up:Int))/\w.cell? ⟨g,k*4+2,none⟩=some (.int .i64 (c[k].fail:Int))/\w.cell? ⟨g,k*4+3,none⟩=some (slV s)/\EndsAt w 0 s (zaX (lstS ws) (i.getD k [])):=by
 have hl:=h.len.1;obtain⟨h1,h2,n,o,d⟩:=h;have a:k<f.length:=by omega
 have e:f[k].1=c[k]:=by
  have:=d.fst;have l:(f.map Prod.fst)[k]? = c[k]? := by rw[this]
  rw[ZW,Qc a,Qc j]at l;exact QD l
 rw[<-e];exact⟨f[k].2,(d.own.at k a 0 (by decide)).1,(d.own.at k a 1 (by decide)).1,(d.own.at k a 2 (by decide)).1,(d.own.at k a 3 (by decide)).1,(d.done k _ j (Qc a)).lower (Qm _)⟩
theorem zhM{a:List zaC}{o:List (List UInt8)}(g:Inv a o){l:List (zaM × Nat)}{i:Nat}(q:0<i)(c:i<a.length)(hl:NextOk (a.take i) l):zbK l ((a[i].up:Int),a[i].b)=none:=by
 cases h:zbK l ((a[i].up:Int),a[i].b)with
 |none=>rfl
 |some j=>
  obtain⟨m,n,k,d,hb⟩:=(hl _ _ j).1 h;have e:j<i:=by have:=(Qw.1 k).1;rw[Qz]at this;omega
  rw[List.getElem?_take_of_lt e]at k;obtain⟨_,_,p,f,r,_,s,_⟩:=g.node i a[i] q (Qc c);have:=(g.kid r (j:=j) (b:=a[i].b)).2 ⟨m,n,k,d,hb⟩;exact absurd (g.inj this s) (by omega)
theorem zm2{a:List zaC}{e:List (List UInt8)}(g:Inv a e){l:List (zaM × Nat)}{i:Nat}(f:0<i)(c:i<a.length)(hl:NextOk (a.take i) l):NextOk (a.take (i+1)) (l++[(((a[i].up:Int),a[i].b),i)]):=by
 have d:(a.take i).length=i:=by rw[Qz];omega
 have:=hl.add a[i] (by omega) (zhM g f c hl);rw[d]at this;rw[Qq c];exact this
theorem zrb{b:List zaC}{d:List (List UInt8)}(e:Inv b d):NextOk (b.take 1) []:=by
 have c:=e.zero;have a:=(Qw.1 c).1
 have:b.take 1=[⟨0,0,0⟩]:=by
  rw[show (1:Nat)=0+1 from rfl,Qq a,XR];rw[Qc a]at c;rw[QD c];rfl
 rw[this];exact NextOk.start
theorem zwj(k m B:Nat)(W:World)(a:k<m)(d:W.cell? ⟨B,0,none⟩=some (.int .i64 (m:Int))):
 Calls prog 316 #[.int .i64 (k:Int),.pointer (some ⟨B,0,none⟩)] W (zal false W):=by
 have c:decide ((k:Int)<0)=false:=by simp
 have b:decide ((m:Int)<=(k:Int))=false:=by simp;omega
 go_in
 go_wp2;go_ret;exact⟨by simp[a],Qg _ _⟩
theorem zpx{c:List zaC}{d:List (List UInt8)}(e:Inv c d){l:List (zaM × Nat)}(h:NextOk (c.take 0) l):NextOk (c.take 1) l:=λa b j=>by
 rw[h a b j]
 constructor
 ·rintro⟨_,n,f,_⟩;simp at f
 ·intro h2;exact absurd ((zrb e a b j).2 h2) (by simp[zbK])
theorem ztb{w:World}{d:Nat}{s:SlT}{l:List Nat}(h:EndsAt w d s l):∀j,j<s.2.1->(l.flatMap rowI.cells)[j]? = some (.int .i64 ((l.getD j 0:Nat):Int)):=λj c=>by
 have a:j<l.length:=by rw[<-h.1];exact c
 have b:=zbM rowI.cells 1 (λ_=>rfl) l j 0 a (by decide);rw[show j*1+0=j by omega]at b;rw[b,Qk,Qc a]
 rfl
theorem zsD{ws:List ByteArray}{a:List UInt8}{W:World}{s:SlT}{n B:Nat}(g:ws.length<=30)(h:EndsAt W n s (zaX (lstS ws) a))(m:B<W.heap.size)(i:W.cell? ⟨B,0,none⟩=some (.int .i64 (ws.length:Int))):
 Calls prog 101 #[slV s,.func (.func 316) #[] #[.pointer (some ⟨B,0,none⟩)]] W (zal false W):=by
 have f:=zhp (lstS ws) a;have d:(lstS ws).length=ws.length:=by rw[lstS,Qh]
 have:=zkl 316 #[.pointer (some ⟨B,0,none⟩)] (enters_of func316 (by kernel_rfl) rfl) s.1 s.2.1 s.2.2 _ (λj=>.int .i64 (((zaX (lstS ws) a).getD j 0:Nat):Int)) (λ_=>false) W h.sl (by rw[h.1];omega) (ztb h) λW' j l hb=>by
  have c:j<(zaX (lstS ws) a).length:=by rw[<-h.1];exact l
  have k:(zaX (lstS ws) a).getD j 0∈zaX (lstS ws) a:=by rw[Qk,Qc c];exact Qy c
  have b:=(zcN.1 k).1;rw[d]at b;exact zwj _ ws.length B W' b ((hb.cell (p:=⟨B,0,none⟩) m).trans i)
 have e:anyN (λ_=>false) s.2.1=false:=(zez _ _).2 λ_ _=>rfl
 rw[e]at this;exact this
def RelC(a:List zaC)(m b:Nat)(w:World)(v:Value)(wr:World):Prop:=
 ∃(k:Nat) (l:List (zaM × Nat)),k<=a.length/\v=.int .i64 (k:Int)/\Below w.heap.size w wr/\MpAt wr b l/\NextOk (a.take k) l/\wr.heap[w.heap.size]? = some (.cells #[.int .i64 (m:Int)] 3)
theorem zqX(ws:List ByteArray)(H:ws.length<=30)(lo g cap:Nat)(c:List zaC)(U:List (List UInt8))(L:List zcK)(w:World)(z:TreeIs w lo ws g cap c U L):
 Calls prog 304 #[.slice (some ⟨g,0,none⟩) L.length cap,.int .i64 (ws.length:Int)] w λe w'=>e=.returned (.int .i64 0)/\Below w.heap.size w w':=by
 obtain⟨hl,Q,hg⟩:=z.len;have h4:=z.few;rw[hl];obtain⟨s0,_,u,y,_⟩:=z.at 0 Q;have Y:c[0]=⟨0,0,0⟩:=by have:=z.lev.inv.zero;rw[Qc Q]at this;exact QD this
 rw[Y]at u y;have hu:w.cell? ⟨g,1,none⟩=some (.int .i64 0):=by simpa using u
 have hf:w.cell? ⟨g,2,none⟩=some (.int .i64 0):=by simpa using y
 have d1:decide ((400:Int)<(c.length:Int))=false:=by simp;omega
 have T:decide ((30:Int)<(ws.length:Int))=false:=by simp;omega
 have d3:((c.length:Int)==0)=false:=Qb.2 (by omega);have X:g≠w.heap.size:=by omega
 have D:=hIx z;have h3:=@run_makeMap prog;clear u y z
 go_in
 go_wp2
 go_loopw [37] (λv wr=>RelC c ws.length (w.heap.size+1) w v wr) (λv _=>c.length-(intOf v).toNat)
 case atStart=>
  refine⟨0,[],Qm _,rfl,WaL.alloc (by simp) _,⟨#[],0,?_,rfl⟩,?_,?_⟩
  ·have:=Qp (w.alloc (.cells #[.int .i64 (ws.length:Int)] 3)) (.map #[] 0)
   rw[Qr]at this;exact this
  ·intro a b j
   simp[zbK]
  ·exact(Qt _ _ _ (by simp)).trans (Qp w (.cells #[.int .i64 (ws.length:Int)] 3))
 case round=>
  obtain⟨k,l,hk,rfl,hb,hM,A,m⟩:=hrel;clear hu hf d1 T d3
  by_cases q:k<c.length
  ·obtain⟨s,c0,c1,c2,c3,G⟩:=(D.out.below hb).at k q
   have E:=Qf wr w.heap.size 0 _ _ _ m;have B:=zc2 m;have h6:g≠wr.heap.size:=by omega
   have p:Hid (∀o,Calls prog 101 #[slV s,.func (.func 316) #[] #[.pointer (some ⟨w.heap.size,0,none⟩)]] (wr.alloc o) (zal false (wr.alloc o))):=hIx λo=>
    zsD H (G.keep (by simp) λj _ hj=>Qt _ _ _ hj) (by simp;omega) (zaa ((Qg _ _).alloc (Qd _) o) E)
   obtain⟨A5,n5,c5⟩:=s;unfold slV at c3 p;dsimp only at c3 p;have S:=hIx hb;have V:=hIx hM;have HN:=hIx A;have N:=hIx m;have r:w.heap.size+1<wr.heap.size:=by obtain⟨es,ck,h5,_⟩:=hM;exact zc2 h5
   by_cases F:k=0
   ·subst F
    simp only[XZ,Zc]at c0 c1 c2 c3;clear G hM A hb m;go_wp2_with (go_at_call 101;refine(p.out _).mono ?_;rintro e w2 ⟨rfl,h⟩);have d:Below wr.heap.size wr w2:=zaJ h (Qd _);exact⟨⟨1,l,by omega,rfl,S.out.trans (d.mono (by omega)),V.out.keep (d.block _ r),zpx D.out.lev.inv HN.out,(d.block _ B).trans N.out⟩,by simp[intOf] <;> omega⟩
   ·obtain⟨J,K,_⟩:=D.out.lev.inv.node k c[k] (by omega) (Qc q)
    have f:=zhM D.out.lev.inv (by omega) q A;have i:=hIx (zm2 D.out.lev.inv (by omega) q A);obtain⟨o,t⟩:=zdN hM ((c[k].up:Int),c[k].b) k ⟨by omega,by show (c[k].up:Int)<_;omega⟩ f;have n:Hid (∀W:World,W.heap[w.heap.size+1]? = wr.heap[w.heap.size+1]? -> (Instr.mapUpdate 240 (.map (some (w.heap.size+1))) (.agg #[.int .i64 (c[k].up:Int),.int .u8 c[k].b.toNat]) (.int .i64 (k:Int))).run prog W=.ok () (ChangeMaps.setBlock W (w.heap.size+1) o)/\MpAt (ChangeMaps.setBlock W (w.heap.size+1) o) (w.heap.size+1) (l++[(((c[k].up:Int),c[k].b),k)])):=hIx t
    have C:Hid (∀W,Below wr.heap.size wr W->(Instr.lookup 240 (.map (some (w.heap.size+1))) (.agg #[.int .i64 (c[k].up:Int),.int .u8 c[k].b.toNat]) true).run prog W=.ok (.tuple #[.int .i64 0,.bool false]) W):=hIx λW hW=>by
     have:=zdj (w:=W) (hM.keep (hW.block _ r)) ((c[k].up:Int),c[k].b) ⟨by omega,by show (c[k].up:Int)<_;omega⟩;rw[f]at this;exact this
    generalize c[k]=x at *;obtain⟨xb,O,P⟩:=x;dsimp only at c0 c1 c2 J K i n C;have t1:decide ((O:Int)<0)=false:=by simp
    have t2:decide ((k:Int)<=(O:Int))=false:=by simp;omega
    have t3:decide ((P:Int)<0)=false:=by simp
    have t4:decide ((k:Int)<=(P:Int))=false:=by simp;omega
    have t5:((k:Int)==0)=false:=Qb.2 (by omega);clear G hM A hb m t f;go_wp2_with (go_at_call 101;refine(p.out _).mono ?_;rintro e w2 ⟨rfl,h⟩;have d:Below wr.heap.size wr w2:=zaJ h (Qd _);have n0:=zar h 0;have n1:=zar h 1;have n2:=zar h 2;have Z:=C.out w2 d;have h7:=(n.out w2 (d.block _ r)).1);have I:=(n.out w2 (d.block _ r)).2;exact⟨⟨k+1,_,by omega,rfl,(S.out.trans (d.mono (by omega))).trans (zdg _ _ _ _ (by omega)),I,i.out,(zlD _ _ _ _ (by omega)).trans ((d.block _ B).trans N.out)⟩,by simp[intOf] <;> omega⟩
  ·have e:k=c.length:=by omega
   clear A;go_wp2;go_ret;exact⟨rfl,hb⟩
abbrev HitP:=Nat × Nat
def rowH:RowT HitP where
 e:=378
 t:=354
 size:=2
 bytes:=16
 z:=.agg #[.int .i64 0,.int .i64 0]
 cells x:=[.int .i64 (x.1:Int),.int .i64 (x.2:Int)]
 hsz _:=rfl
 hpos:=by decide
 under:=underlying354
 info:=by kernel_rfl
 hz:=rfl
 one x u hu:=by
  simp only[QJ,ZR,X0]at hu
  rcases hu with rfl|rfl <;> rfl
 hbytes:=by decide
def zbe(ws:List (List UInt8))(s:List UInt8)(j:Nat):List HitP:=(zaX ws (s.take (j+1))).map λk=>(k,j+1)
def zba(ws:List (List UInt8))(s:List UInt8)(i:Nat):List HitP:=(List.range i).flatMap (zbe ws s)
theorem zcZ(ws:List (List UInt8))(s:List UInt8)(i:Nat):zba ws s (i+1)=zba ws s i++zbe ws s i:=by
 unfold zba;rw[List.range_succ,Q4];simp
theorem zqw(ws:List (List UInt8))(s:List UInt8){i n:Nat}(h:i<=n):zba ws s i <+:zba ws s n:=by
 induction n with
 |zero=>
  obtain rfl:i=0:=by omega
  exact List.prefix_refl _
 |succ n ih=>
  by_cases c:i=n+1
  ·subst c;exact List.prefix_refl _
  ·rw[zcZ]
   exact(ih (by omega)).trans (XH _ _)
theorem zkO(ws:List (List UInt8))(s:List UInt8)(h:ws.length<=30):∀i,(zba ws s i).length<=30*i
 |0=>by simp[zba]
 |i+1=>by
  have:=zkO ws s h i;have h2:(zbe ws s i).length<=30:=by unfold zbe;rw[Qh];exact Qn (zhp _ _) h
  rw[zcZ,Qa];omega
def zm8(ws:List (List UInt8))(s:List UInt8)(m:Int):List HitP:=if m=1 then (zba ws s s.length).take 1 else zba ws s s.length
def zpS(ws:List (List UInt8))(s:List UInt8)(m:Int)(w:World)(e:Ending)(w':World):Prop:=
 ∃v,e=.returned v/\OwnG rowH w' w.heap.size v (zm8 ws s m)/\Below w.heap.size w w'
def zAj(a:List zaC)(w:World)(v:Value)(wr:World):Prop:=
 ∃(k:Nat) (l:List (zaM × Nat)),k<=a.length/\v=.int .i64 (k:Int)/\Below w.heap.size w wr/\MpAt wr w.heap.size l/\NextOk (a.take k) l
def zAy(ws:List (List UInt8))(e:List (List UInt8))(s:ByteArray)(m:Int)(l:List (zaM × Nat))(w:World)(c d v:Value)(wr:World):Prop:=
 ∃(i a:Nat) (b:List UInt8),i<=s.size/\v=.int .i64 (i:Int)/\d=.int .i64 (a:Int)/\e[a]? = some b/\zfG e (s.data.toList.take i) b/\OwnG rowH wr w.heap.size c (zba ws s.data.toList i)/\(m=1->zba ws s.data.toList i=[])/\Below w.heap.size w wr/\MpAt wr w.heap.size l
def zAG(g:List (List UInt8))(f:List UInt8)(b:UInt8)(l:List (zaM × Nat))(w:World)(e d c:Value)(wr:World):Prop:=
 ∃a:Nat,e=.int .i64 (a:Int)/\d=.int .i64 (((zbK l ((a:Int),b)).getD 0:Nat):Int)/\c=.bool (zbK l ((a:Int),b)).isSome/\Hid (FailAt g f b a)/\wr=w
def zAE(ws:List (List UInt8))(s:ByteArray)(m:Int)(l:List (zaM × Nat))(i:Nat)(w:World)(a v:Value)(wr:World):Prop:=
 ∃q:Nat,q<=(zbe ws s.data.toList i).length/\v=.int .i64 (q:Int)/\OwnG rowH wr w.heap.size a (zba ws s.data.toList i++(zbe ws s.data.toList i).take q)/\(m=1->zba ws s.data.toList i++(zbe ws s.data.toList i).take q=[])/\Below w.heap.size w wr/\MpAt wr w.heap.size l
theorem zwn{c:List zaC}:NextOk (c.take 0) []:=λa b j=>by simp[zbK]
theorem zxd{ws:List (List UInt8)}{s:List UInt8}{i q:Nat}(e:i<s.length)(c:q<(zbe ws s i).length)(h:zba ws s i++(zbe ws s i).take q=[]):[(zbe ws s i)[q]]=zm8 ws s 1:=by
 obtain⟨h1,h2⟩:=List.append_eq_nil_iff.1 h;have a:zba ws s (i+1) <+:zba ws s s.length:=zqw ws s e
 have b:q=0:=by
  have:=Zt List.length h2;rw[Qz,QR]at this;omega
 subst b;unfold zm8;rw[Qi rfl];rw[zcZ,h1,Xa]at a;obtain⟨t,d⟩:=a;rw[<-d]
 have:∀(L:List HitP) (h:0<L.length),[L[0]]=List.take 1 (L++t):=λL h=>by
  cases L with
  |nil=>exact absurd h (by simp)
  |cons y r=>rfl
 exact this _ c
theorem zu6{ws:List (List UInt8)}{s:List UInt8}{m:Int}{i:Nat}(e:i=s.length)(h:m=1->zba ws s i=[]):zm8 ws s m=zba ws s i:=by
 unfold zm8
 split
 ·rename_i a
  rw[<-e,h a];rfl
 ·rw[<-e]
theorem zkj(ws:List (List UInt8))(s:List UInt8)(i:Nat):(zbe ws s i).length=(zaX ws (s.take (i+1))).length:=by unfold zbe;rw[Qh]
theorem zq3(ws:List (List UInt8))(s:List UInt8)(i q:Nat)(h:q<(zbe ws s i).length)(h2:q<(zaX ws (s.take (i+1))).length):(zbe ws s i)[q]=((zaX ws (s.take (i+1)))[q],i+1):=Zd ..
theorem zuF{s:ByteArray}{i:Nat}(h:i<s.size):s.data.toList.take (i+1)=s.data.toList.take i++[s[i]]:=by
 rw[Qq (by simpa using h)];rfl
theorem zrS(ws:List ByteArray)(hG:zjz ws)(m:Int)(hm:m=1\/m=-1)(s:ByteArray)(hs:s.size<=8192)(lo g cap:Nat)(r:List zaC)(ss:List (List UInt8))(ms:List zcK)(w:World)(hT:TreeIs w lo ws g cap r ss ms):
 Calls prog 283 #[.slice (some ⟨g,0,none⟩) ms.length cap,.string s,.int .i64 m] w (zpS (lstS ws) s.data.toList m w):=by
 obtain⟨hl,h0,hg⟩:=hT.len;have h4:=hT.few;rw[hl];have gc:g≠w.heap.size:=by omega
 have t:=hIx hT;have HG:=hIx hG;have hX:=hIx hm;have gk:=@run_makeMap prog;clear hT hG hm
 go_in
 go_wp2
 go_loopw [20] (λv wr=>zAj r w v wr) (λv _=>r.length-(intOf v).toNat)
 case atStart=>exact⟨0,[],Qm _,rfl,WaL,⟨#[],0,Qp w (.map #[] 0),rfl⟩,zwn⟩
 case round=>
  obtain⟨k,l,hk,rfl,hb,hM,hN⟩:=hrel
  by_cases V:k<r.length
  ·obtain⟨s4,c0,c1,c2,c3,_⟩:=(t.out.below hb).at k V
   have Y:w.heap.size<wr.heap.size:=by obtain⟨es,ck,h5,_⟩:=hM;exact zc2 h5
   have gl:g≠wr.heap.size:=by omega
   obtain⟨A5,n5,c5⟩:=s4;unfold slV at c3;dsimp only at c3;have Z:=hIx hb;have HM:=hIx hM;have HN:=hIx hN
   by_cases hV:k=0
   ·subst hV
    simp only[XZ,Zc]at c0 c1 c2 c3;clear hM hN hb;go_wp2;exact⟨⟨1,l,by omega,rfl,Z.out.alloc Z.out.size _,HM.out.keep (Qt _ _ _ Y),zpx t.out.lev.inv HN.out⟩,by simp[intOf] <;> omega⟩
   ·have D:=zhM t.out.lev.inv (by omega) V hN
    have gj:=(t.out.lev.inv.node k r[k] (by omega) (Qc V)).1;have I:=hIx (zm2 t.out.lev.inv (by omega) V hN);obtain⟨o,h6⟩:=zdN hM ((r[k].up:Int),r[k].b) k ⟨by omega,by show (r[k].up:Int)<_;omega⟩ D;have J:Hid (∀W:World,W.heap[w.heap.size]? = wr.heap[w.heap.size]? -> (Instr.mapUpdate 240 (.map (some w.heap.size)) (.agg #[.int .i64 (r[k].up:Int),.int .u8 r[k].b.toNat]) (.int .i64 (k:Int))).run prog W=.ok () (ChangeMaps.setBlock W w.heap.size o)/\MpAt (ChangeMaps.setBlock W w.heap.size o) w.heap.size (l++[(((r[k].up:Int),r[k].b),k)])):=hIx h6;generalize r[k]=x at *;obtain⟨xb,xu,xf⟩:=x;dsimp only at c0 c1 c2 I J;have t5:decide (0<(k:Int))=true:=by simp;omega
    have gm:=(J.out (wr.alloc (.cells #[.int .u8 xb.toNat,.int .i64 (xu:Int),.int .i64 (xf:Int),.slice A5 n5 c5] 239)) (Qt _ _ _ Y)).1;have g2:=hIx (J.out (wr.alloc (.cells #[.int .u8 xb.toNat,.int .i64 (xu:Int),.int .i64 (xf:Int),.slice A5 n5 c5] 239)) (Qt _ _ _ Y)).2;clear hM hN hb h6 D;go_wp2;exact⟨⟨k+1,_,by omega,rfl,(Z.out.alloc Z.out.size _).trans (zdg _ _ _ _ (Qd _)),g2.out,I.out⟩,by simp[intOf] <;> omega⟩
  ·have e:k=r.length:=by omega
   rw[e,QC (Qd _)]at hN;clear e;have HN:=hIx hN;have hL:=hIx hM;have hP:=hIx hb;clear hN hM hb;obtain⟨wo,rfl⟩:∃wo:World,wo=wr:=⟨_,rfl⟩
   go_wp2
   go_loopw [10,11,37] (λh8 G v wr=>zAy (lstS ws) ss s m l w h8 G v wr) (λ_ _ v _=>s.size-(intOf v).toNat)
   case atStart=>
    refine⟨0,0,[],Qm _,rfl,rfl,t.out.lev.inv.trie.root,?_,OwnG.nil _ _ _,λ_=>rfl,hP.out,hL.out⟩;rw[XR];exact⟨t.out.lev.inv.trie.nil_mem,List.suffix_refl _,λu _ h=>h⟩
   case round=>
    obtain⟨i,a,hS,hi,rfl,rfl,C,K,hO,F,hb,hM⟩:=hrel;have Y:w.heap.size<wr.heap.size:=by obtain⟨es,ck,h5,_⟩:=hM;exact zc2 h5
    have n:=hO.form;obtain⟨A8,c8,rfl,_⟩:=n;have gb:=zkO (lstS ws) s.data.toList (by rw[lstS,Qh];exact HG.out.few) i
    by_cases hF:i<s.size
    ·have hA:=zuF hF
     have hz:Hid (∀a:Nat,a<r.length->∀x:UInt8,(Instr.lookup 240 (.map (some w.heap.size)) (.agg #[.int .i64 (a:Int),.int .u8 x.toNat]) true).run prog wr=.ok (.tuple #[.int .i64 (((zbK l ((a:Int),x)).getD 0:Nat):Int),.bool (zbK l ((a:Int),x)).isSome]) wr):=hIx λa ha x=>
      zdj hM ((a:Int),x) ⟨by omega,by show (a:Int)<_;omega⟩
     have hQ:=t.out.lev.inv.lt C;have HF:Hid (FailAt ss (s.data.toList.take i) s[i] a):=hIx ⟨⟨hS,C,zgS s[i] K⟩⟩;have HO:=hIx hO;have h3:=hIx F;have Z:=hIx hb;have HM:=hIx hM;clear hO F hb hM K C;have hc:=hIx hA;clear hA;generalize hx:s[i]=x at HF hc;have ho:=hz.out a hQ x;obtain⟨w1,rfl⟩:∃w1:World,w1=wr:=⟨_,rfl⟩
     go_wp2
     go_loopw [11,13,14] (λG hI g3 wr=>zAG ss (s.data.toList.take i) x l w1 G hI g3 wr) (λG _ _ _=>(intOf G).toNat)
     case atStart=>exact⟨a,rfl,rfl,rfl,HF,rfl⟩
     case round=>
      obtain⟨U,rfl,rfl,rfl,O,rfl⟩:=hrel;have hn:U<r.length:=by obtain⟨v,hv,_⟩:=O.out.cand;exact t.out.lev.inv.lt hv
      have HX:=hIx (HN.out U x);clear ho;cases d:zbK l ((U:Int),x)with
      |some j=>
       obtain⟨hu,h7,c⟩:=O.out.found t.out.lev.inv ((HX.out j).1 d);rw[<-hc.out]at c;have hK:=t.out.lev.inv.lt h7;obtain⟨sE,_,_,_,ga,hE⟩:=t.out.at j hK;have c3:=(Z.out.cell (p:=⟨g,j*4+3,none⟩) hg).trans ga
       have he:zaX (lstS ws) (ss.getD j [])=zaX (lstS ws) (s.data.toList.take (i+1)):=by
        rw[Qk,h7];exact(zlU (Lev.words t.out.lev (λw' H=>by obtain⟨v,hv,rfl⟩:=QO.1 H;have:=HG.out.short v hv;simpa using this)) c).symm
       rw[he]at hE;obtain⟨A6,n6,c6⟩:=sE;have g1:n6=(zbe (lstS ws) s.data.toList i).length:=by rw[zkj];exact hE.1
       subst g1;unfold slV at c3;dsimp only at c3;have hd:=hIx c;have g4:=hIx hE;clear d c hE he;simp only[XF,Option.isSome_some];obtain⟨w2,rfl⟩:∃w2:World,w2=wr:=⟨_,rfl⟩
       go_wp2
       go_loopw [10,79] (λh8 v wr=>zAE (lstS ws) s m l i w h8 v wr) (λ_ v _=>(zbe (lstS ws) s.data.toList i).length-(intOf v).toNat)
       case atStart=>exact⟨0,Qm _,rfl,by rw[XR,QI];exact HO.out,by rw[XR,QI];exact h3.out,Z.out,HM.out⟩
       case round=>
        obtain⟨q,hq,rfl,z,f,N,E⟩:=hrel;have hH:=zkj (lstS ws) s.data.toList i
        have ge:(zbe (lstS ws) s.data.toList i).length<=30:=by
         rw[hH];exact Qn (zhp _ _) (by rw[lstS,Qh];exact HG.out.few)
        by_cases hf:q<(zbe (lstS ws) s.data.toList i).length
        ·obtain⟨g6,e6,_,hU,P⟩:=g4.out.2 (by omega)
         dsimp only at e6;subst e6;have hY:=(N.cell (p:=⟨g6,q,none⟩) hU).trans (P q (by omega));have L:=hIx (zq3 (lstS ws) s.data.toList i q hf (by omega));generalize (zaX (lstS ws) (s.data.toList.take (i+1)))[q]'(by omega)=kq at hY L
         have hh:(zba (lstS ws) s.data.toList i++(zbe (lstS ws) s.data.toList i).take q).length=(zba (lstS ws) s.data.toList i).length+q:=by
          rw[Qa,Qz,Xb hq]
         have S:=hIx z;have hC:=hIx N;have gi:=hIx E;have gd:=N.size;have n:=z.form;obtain⟨A9,c9,rfl,_⟩:=n
         have hJ:Hid (zba (lstS ws) s.data.toList i++(zbe (lstS ws) s.data.toList i).take (q+1)=(zba (lstS ws) s.data.toList i++(zbe (lstS ws) s.data.toList i).take q)++[(kq,i+1)]):=by
          unfold Hid;rw[Qq hf,L.out,QH]
         have g0:=E;obtain⟨gf,ck,h5,_⟩:=g0;have hw:=z.apart h5 (λcs fz e=>by cases e);have hB:=zc2 h5;have hZ:Hid (∀w5:World,w5.heap[w.heap.size]? = wr.heap[w.heap.size]? -> MpAt w5 w.heap.size l):=hIx λw5 T=>E.keep T
         have gg:(zba (lstS ws) s.data.toList i++(zbe (lstS ws) s.data.toList i).take q).length<=250000:=by omega
         have A:m=1->Hid (zba (lstS ws) s.data.toList i++(zbe (lstS ws) s.data.toList i).take q=[]/\[(kq,i+1)]=zm8 (lstS ws) s.data.toList 1):=λe=>hIx ⟨f e,by rw[<-L.out];exact zxd (by simpa using hF) hf (f e)⟩
         clear z N E f hh h5;generalize zba (lstS ws) s.data.toList i++(zbe (lstS ws) s.data.toList i).take q=X at *
         rcases hX.out with rfl|rfl
         ·have HH:=hIx (A rfl).out.2
          obtain rfl:=(A rfl).out.1;clear A;go_wp2_with (at_builtin;refine zax rowH rfl _ _ rfl w.heap.size _ [] rfl S.out (by omega) _ (kq,i+1) rfl wr.heap.size rfl 1 rfl (by simp) ?_;intro v5 w5 B hj T hW;obtain⟨g7,c7,rfl,_,_⟩:=B.head (by simp));go_ret;exact⟨_,rfl,by rw[<-HH.out];exact B,hC.out.trans hj⟩
         ·have t6:(((X.length:Nat):Int)+1==-1)=false:=Qb.2 (by omega)
          go_wp2_with (at_builtin;refine zax rowH rfl _ _ rfl w.heap.size _ X rfl S.out (by omega) _ (kq,i+1) rfl wr.heap.size rfl 1 rfl (by omega) ?_;intro v5 w5 B hj T hW;obtain⟨g7,c7,rfl,_,_⟩:=B.head (by simp));have hD:=B;rw[Qa,QG]at hD;exact⟨⟨u6,.slice (some ⟨g7,0,none⟩) (X.length+1) c7,.int .i64 (kq:Int),.int .i64 ((q:Int)+1),⟨q+1,by omega,rfl,by rw[hJ.out];exact hD,λe=>absurd e (by decide),hC.out.trans hj,hZ.out _ (T _ hB hw)⟩,rfl,rfl,rfl,rfl⟩,by simp[intOf];omega⟩
        ·have e:q=(zbe (lstS ws) s.data.toList i).length:=by omega
         rw[e,QC (Qd _),<-zcZ]at z f;clear e;have S:=hIx z;have h9:=hIx f;have n:=z.form;obtain⟨A9,c9,rfl,_⟩:=n;clear z f;go_wp2;exact⟨⟨i+1,j,hu,by omega,rfl,rfl,h7,hd.out,S.out,h9.out,N,E⟩,by simp[intOf] <;> omega⟩
      |none=>
       have Q:∀j,¬(0<j/\∃y,r[j]? = some y/\y.up=U/\y.b=x):=λj h=>by rw[(HX.out j).2 h]at d;cases d
       by_cases g9:U=0
       ·subst g9
        have c:=O.out.none t.out.lev.inv Q;rw[<-hc.out]at c
        have hr:zbe (lstS ws) s.data.toList i=[]:=by
         unfold zbe;rw[zlU (Lev.words t.out.lev (λw' H=>by obtain⟨v,hv,rfl⟩:=QO.1 H;have:=HG.out.short v hv;simpa using this)) c,zni]
         ·rfl
         ·intro w' H e
          obtain⟨v,hv,rfl⟩:=QO.1 H;exact HG.out.full v hv (by have:=Zt List.length e;simpa using this)
        have hR:=hIx (zcZ (lstS ws) s.data.toList i);rw[hr,QI]at hR;clear hr d Q;simp only[XG,Option.isSome_none];go_wp2;exact⟨⟨i+1,0,[],by omega,rfl,rfl,t.out.lev.inv.trie.root,c,by rw[hR.out];exact HO.out,by rw[hR.out];exact h3.out,Z.out,HM.out⟩,by simp[intOf] <;> omega⟩
       ·obtain⟨y,hy⟩:∃y,r[U]? = some y:=⟨_,Qc hn⟩
        obtain⟨ht,gh⟩:=O.out.next t.out.lev.inv (by omega) hy Q;obtain⟨_,_,_,c2,_⟩:=(t.out.below Z.out).at U hn;have hp:r[U]=y:=by rw[Qc hn]at hy;exact QD hy
        rw[hp]at c2;have g8:=hIx ht;have ho:=hz.out y.fail (by omega) x;have t5:decide (0<(U:Int))=true:=by simp;omega
        clear ht Q d hp hy;simp only[XG,Option.isSome_none];go_wp2;exact⟨⟨y.fail,rfl,rfl,rfl,g8,rfl⟩,by simp[intOf] <;> omega⟩
    ·have e:i=s.data.toList.length:=by simp;omega
     have g5:=hIx (zu6 e F);clear e;go_wp2;go_ret;exact⟨_,rfl,by rw[g5.out];exact hO,hb⟩
