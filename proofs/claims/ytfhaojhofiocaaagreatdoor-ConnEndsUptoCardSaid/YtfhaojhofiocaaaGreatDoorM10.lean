/- Lemmas for the last texts. -/
import Derived.Test.YtfhaojhofiocaaaGreatDoorM03
import Derived.Test.YtfhaojhofiocaaaGreatDoorM09
import Derived.Shelf.SlSortCmp.WholeK
import Derived.Lib.SliceRun
import Derived.Deep.CutRange
set_option maxHeartbeats 1600000
set_option maxRecDepth 100000
namespace Go.Proofs.YtfhaojhofiocaaaGreatDoor
open Go.RowKit Go.Proofs.Tryz
theorem zgB:∀(l:List (zaP × Nat)) (p:zaP × Nat) (k:zaP),zbH (l++[p]) k=(zbH l k).or (if k=p.1 then some p.2 else none)
 | [],p,k=>by simp[zbH]
 |q::l,p,k=>by
  rw[List.cons_append,zbH,zbH]
  by_cases h:k=q.1
  ·rw[Qj h,Qj h];rfl
  ·rw[Qf h,Qf h];exact zgB l p k
theorem NextOk.start:NextOk [⟨0,0,0⟩] []:=λa b j=>by
 constructor
 ·intro h;cases h
 ·rintro⟨c,n,h1,_⟩
  have:j<1:=(Qy.1 h1).1;omega
theorem NextOk.add{d:List zaD}{l:List (zaP × Nat)}(h:NextOk d l)(x:zaD)(m:0<d.length)(i:zbH l ((x.up:Int),x.b)=none):NextOk (d++[x]) (l++[(((x.up:Int),x.b),d.length)]):=λa b j=>by
 rw[zgB];have k:=h a b
 by_cases e:((a:Int),b)=((x.up:Int),x.b)
 ·obtain⟨o,rfl⟩:=Prod.mk.inj e
  obtain rfl:a=x.up:=by omega
  rw[i,Qj rfl]
  constructor
  ·intro f
   obtain rfl:d.length=j:=by simpa using f
   exact⟨m,x,by simp,rfl,rfl⟩
  ·rintro⟨f,n,h1,h2,g⟩
   by_cases c:j<d.length
   ·rw[Zj c]at h1
    have:=(k j).2 ⟨f,n,h1,h2,g⟩;rw[i]at this;cases this
   ·have:=(Qy.1 h1).1
    rw[Qb,QH]at this;obtain rfl:j=d.length:=by omega
    rfl
 ·rw[Qf e,Option.or_none,k j]
  constructor
  ·rintro⟨f,n,h1,h2⟩
   have c:=(Qy.1 h1).1;exact⟨f,n,by rw[Zj c];exact h1,h2⟩
  ·rintro⟨f,n,h1,h2,g⟩
   by_cases c:j<d.length
   ·rw[Zj c]at h1
    exact⟨f,n,h1,h2,g⟩
   ·have:=(Qy.1 h1).1
    rw[Qb,QH]at this;obtain rfl:j=d.length:=by omega
    simp at h1;subst h1;subst h2;subst g
    exact absurd rfl e
theorem zk0(W:World)(b j:Nat)(o:Obj)(h:b≠j):(ChangeMaps.setBlock W b o).heap[j]? = W.heap[j]? := by
 simp[ChangeMaps.setBlock,Xi h]
theorem zeh{w w':World}{g:Nat}(h:w'.heap[g]? = w.heap[g]?)(i:Nat):w'.cell? ⟨g,i,none⟩=w.cell? ⟨g,i,none⟩:=by simp only[World.cell?, h]
theorem zms{w w':World}{g:Nat}(h:w'.heap[g]? = w.heap[g]?)(i:Nat):w'.frozen? ⟨g,i,none⟩=w.frozen? ⟨g,i,none⟩:=by simp only[World.frozen?, h]
theorem MkF.drew{w:World}{c g a cap:Nat}{b:List zaD}{l:List (zaP × Nat)}(h:MkF w c g a cap b l):MkF w.drew c g a cap b l:=⟨h.nodes,h.next,h.fail,h.map,h.lt⟩
def zw0(a:List jE)(p:jE)(b:UInt8)(r:Nat):Prop:=
 ∃f,a[r]? = some f/\f∈a/\f <:+p++[b]/\f≠p++[b]/\∀u,u∈a->u <:+p++[b]->u≠p++[b]->u <:+f
theorem zwW{d:List zaD}{c:List jE}(f:Inv d c){l:List (zaP × Nat)}(hl:NextOk d l){up:Nat}{b:UInt8}{p:jE}(e:c[up]? = some p)(a:p++[b] ∉ c):zbH l ((up:Int),b)=none:=by
 cases h:zbH l ((up:Int),b)with
 |none=>rfl
 |some j=>exact absurd (Z6 ((f.kid e).2 ((hl up b j).1 h))) a
theorem ztF{k:List zaD}{m:List jE}(i:Inv k m){l:List (zaP × Nat)}(hl:NextOk k l)(hb:k.length<=400){up:Nat}{b:UInt8}{p:jE}(t:m[up]? = some p)(o:p++[b] ∉ m)(x:Nat)
 {s g z cap:Nat} {w:World} (M:MkF w s g z cap k (l++[(((up:Int),b),x)])):
 Calls prog 98 #[.pointer s,.agg #[jA (up:Int),.int .u8 b.toNat]] w λe w'=>(∃r:Nat,e=jC (jA (r:Int))/\zw0 m p b r)/\w w':=by
 by_cases y:up=0
 ·subst y
  refine(ziB s b w).mono ?_;rintro e w' ⟨rfl,h⟩;rw[i.trie.root]at t;obtain rfl:=QG t;exact⟨⟨0,rfl,[],i.trie.root,zuf i.trie⟩,h⟩
 ·obtain⟨A,q⟩:∃n,k[up]? = some n:=⟨_,Qe (i.lt t)⟩
  obtain⟨h1,f,h2,B⟩:=i.fail_at (by omega) q t;refine(zqD k m i _ s g z cap up (λa c j D=>?_) b A f q y (zmv h2) h1 (by omega) w M).mono ?_
  ·rw[zgB,Qf (λe=>by injection e with e _;omega),Option.or_none]
   exact hl a c j
  ·rintro e w' ⟨⟨r,rfl,v,C,d⟩,u⟩
   exact⟨⟨r,rfl,v,C,zmB B d i.trie o⟩,u⟩
def EdgesAt(w:World)(base:Nat)(v:Value)(l:List (Nat × UInt8)):Prop:=
 ∃A c,v=.slice A l.length c/\(0<l.length->∃(g:Nat) (cs:Array Value) (a:Nat × Nat),A=some ⟨g,0,none⟩/\base<=g/\w.heap[g]? = some (.cells cs 186 a)/\∀j (h:j<l.length),cs[j*2]? = some (jA (l[j].1:Int))/\cs[j*2+1]? = some (.int .u8 l[j].2.toNat))
theorem EdgesAt.at{w:World}{base:Nat}{v:Value}{l:List (Nat × UInt8)}(h:EdgesAt w base v l)(k:Nat)(b:k<l.length):
 ∃g cs a c,v=.slice (some ⟨g,0,none⟩) l.length c/\base<=g/\w.heap[g]? = some (.cells cs 186 a)/\w.cell? ⟨g,k*2,none⟩=some (jA (l[k].1:Int))/\w.cell? ⟨g,k*2+1,none⟩=some (.int .u8 l[k].2.toNat):=by
 obtain⟨A,c,rfl,h⟩:=h;obtain⟨g,cs,a,rfl,h1,h2,d⟩:=h (by omega);exact⟨g,cs,a,c,rfl,h1,h2,(Qo w g (k*2) _ _ _ h2).trans (d k b).1,(Qo w g (k*2+1) _ _ _ h2).trans (d k b).2⟩
theorem EdgesAt.keep{w w':World}{base:Nat}{v:Value}{l:List (Nat × UInt8)}(h:EdgesAt w base v l)(b:∀(g:Nat) cs a,w.heap[g]? = some (.cells cs 186 a)->w'.heap[g]? = w.heap[g]?):EdgesAt w' base v l:=by
 obtain⟨A,c,rfl,h⟩:=h;refine⟨A,c,rfl,λd=>?_⟩;obtain⟨g,cs,a,e,h1,h2,f⟩:=h d;exact⟨g,cs,a,e,h1,(b g cs a h2).trans h2,f⟩
section
open Go.Shelf Go.Lib Go.Sort
theorem zsI(blk a cap:Nat)(d:Array zhE)(w:World)(g:HoldsK encS 2 w blk a d)(b:blk<w.heap.size)(c:d.size<4611686018427387904):
 Calls prog 96 #[.slice (some ⟨blk,a,none⟩) d.size cap,.func (.func 97) #[] #[]] w λe w'=>
  e=jC (.tuple #[])/\∃d' n os,PermIn 0 d.size d d'/\SortedIn (ltOf cmpS) 0 d.size d'/\w'=sortWorldK encS 2 w blk a n d' os:=
 AnyQ.slices_SortFunc zkd 2 isAgg186 sizeOf186 encS (λ_=>rfl) (λx v f=>by simp[encS]at f;rcases f with rfl|rfl <;> rfl) cmpS swoS 97 #[] blk a cap d w
  (enters_of func97 (by kernel_rfl) rfl) (λ_ _ _ _ x y=>zrm x y _) g b c
theorem zun{d d':Array zhE}(h:PermIn 0 d.size d d'):d'.toList.Perm d.toList:=by
 obtain⟨h1,_,h2⟩:=h;have a:d'.extract 0 d.size=d':=by rw[<-h1];simp
 have b:d.extract 0 d.size=d:=by simp
 rwa[a,b]at h2
end
theorem zxB(f:Value)(w:World):Calls prog 167 #[jD 0 0,jA 0,jA 0,f] w λe w'=>e=jC (.tuple #[])/\w'=w:=by
 go_in
 go_wp2_with fail;refine wp_loop_rounds 1 ?_;rw[rounds_succ];go_wp2_with fail
 go_end0
 exact⟨rfl,rfl⟩
theorem zxf(f:Value)(m:Int)(w:World):Calls prog 135 #[jD 0 0,jA 0,jA 0,jA m,f] w λe w'=>e=jC (.tuple #[])/\w'=w:=by
 have a:=λW=>zxB f W
 go_in
 go_wp2_with fail;refine wp_loop_rounds 1 ?_;rw[rounds_succ];go_wp2_with (go_at_call 167;refine(a _).mono ?_;rintro e w' ⟨rfl,rfl⟩)
 (try simp only[Exit.inBlock,Exit.then]);refine QD (results_none rfl _ _ _) rfl ?_
 exact⟨rfl,rfl⟩
theorem zuB(f:Value)(w:World):Calls prog 96 #[jD 0 0,f] w λe w'=>e=jC (.tuple #[])/\w'=w:=by
 have a:=λm W=>zxf f m W
 have hl:=λW=>bits_Len 0 W (by omega) (by omega)
 go_in
 go_wp2_with (first|(go_at_call 100;refine(hl _).mono ?_;rintro e w' ⟨rfl,rfl⟩)|(go_at_call 135;refine(a _ _).mono ?_;rintro e w' ⟨rfl,rfl⟩))
 go_end0
 exact⟨rfl,rfl⟩
section
open Go.Sort Go.Shelf Go.Lib
theorem zpN(B:Nat)(w:World)(blk a n:Nat)(d:Array zhE)(os:Array Obj)(e:B<=blk)(b:B<=w.heap.size):Below B w (sortWorldK encS 2 w blk a n d os):=by
 unfold sortWorldK putRowK
 have h1:Below B w (putRow id (Sort.ahead w n) blk a (flatK encS 2 d)):=⟨rfl,rfl,rfl,by simp,λj c=>by
  unfold putRow mapBlock;show ((w.heap.modify blk _))[j]? = _
  rw[Q5,Qf (by omega)]⟩
 exact h1.trans (below_grow B _ (by simpa using b) 0 os)
def toS(e:Nat × UInt8):zhE:=(⟨e.1 % 65536,Nat.mod_lt _ (by decide)⟩,e.2)
def ofS(e:zhE):Nat × UInt8:=(e.1.val,e.2)
theorem zAh{l:List (Nat × UInt8)}(h:∀e∈l,e.1<65536):(l.map toS).map ofS=l:=by
 rw[Xn];refine(List.map_congr_left λe a=>?_).trans (List.map_id l);have:=h e a;exact Prod.ext (Nat.mod_eq_of_lt this) rfl
theorem zsj{W:World}{g n:Nat}{d:Array zhE}{os:Array Obj}{cs:Array Value}{t:TypeId}{c:Nat × Nat}(h:W.heap[g]? = some (.cells cs t c)):∃b,(sortWorldK encS 2 W g 0 n d os).heap[g]? = some (.cells b t c):=by
 have a:g<W.heap.size:=(QI.1 h).1;refine⟨putCells id 0 (flatK encS 2 d) cs,?_⟩;unfold sortWorldK putRowK putRow mapBlock grow;show ((W.heap.modify g _)++os)[g]? = _
 rw[Array.getElem?_append_left (by simpa using a),Q5,Qj rfl,h]
 rfl
theorem zuY{w:World}{g:Nat}{d:Array zhE}(h:HoldsK encS 2 w g 0 d)(j:Nat)(a:j<d.size):w.cell? ⟨g,j*2,none⟩=some (jA (d[j].1.val:Int))/\w.cell? ⟨g,j*2+1,none⟩=some (.int .u8 d[j].2.toNat):=by
 have b:=(h.cell a (show 0<2 by decide)).1;have h1:=(h.cell a (show 1<2 by decide)).1;rw[getElem!_pos d j a]at b h1;rw[show 0+j*2+0=j*2 by omega]at b;rw[show 0+j*2+1=j*2+1 by omega]at h1;exact⟨b,h1⟩
theorem zro{W:World}{base g c:Nat}{l:List (Nat × UInt8)}(h:OwnG rowE W base (.slice g l.length c) l)(k:∀e∈l,e.1<65536):HoldsK encS 2 W g 0 (l.map toS).toArray:=by
 intro t f;rw[size_flatK]at f;have a:t / 2<l.length:=by simp at f;omega
 have j:t % 2<2:=Nat.mod_lt _ (by decide);obtain⟨h1,h2⟩:=h.at (t / 2) a (t % 2) j;have e:t / 2*rowE.size+t % 2=t:=by show t / 2*2+t % 2=t;omega
 rw[e]at h1 h2;rw[Ze];refine⟨h1.trans ?_,h2⟩;have i:(l.map toS).toArray[t / 2]! = toS l[t / 2]:=by rw[getElem!_pos _ _ (by simpa using a)];simp
 rw[get_flatK _ _ _ _ f,i];have d:=k _ (QC a)
 rcases Nat.mod_two_eq_zero_or_one t with b|b
 ·rw[b]
  show some (jA (l[t / 2].1:Int))=some (jA ((l[t / 2].1 % 65536:Nat):Int))
  rw[Nat.mod_eq_of_lt d]
 ·rw[b];rfl
theorem zuD{base:Nat}{v:Value}{l:List (Nat × UInt8)}{W:World}(h:OwnG rowE W base v l)(b:base<=W.heap.size)(w:∀e∈l,e.1<65536)(hl:l.length<=4096):
 Calls prog 96 #[v,.func (.func 97) #[] #[]] W λe w'=>
  e=jC (.tuple #[])/\Below base W w'/\∃x,x.Perm l/\EdgesAt w' base v x:=by
 rcases h.cases with ⟨rfl,rfl⟩|⟨g,c,rfl,i,t⟩
 ·refine(zuB _ W).mono ?_
  rintro e w' ⟨rfl,rfl⟩;exact⟨rfl,Qi _ _,[],List.Perm.refl _,none,0,rfl,λh=>absurd h (by simp)⟩
 ·have u:=zro h w
  have m:(l.map toS).toArray.size=l.length:=by simp
  have y:=zsI g 0 c (l.map toS).toArray W u t (by rw[m];omega);rw[m]at y;refine y.mono ?_;rintro e w' ⟨rfl,d',n,os,A,_,rfl⟩
  have f:d'.toList.Perm (l.map toS):=by
   have:=zun (d:=(l.map toS).toArray) (d':=d') (by rw[m];exact A)
   simpa using this
  have k:d'.size=l.length:=by have:=f.length_eq;simpa using this
  obtain⟨cs,z,r⟩:=Xo h g rfl;obtain⟨q,a⟩:=zsj (n:=n) (d:=d') (os:=os) r;have s:HoldsK encS 2 (sortWorldK encS 2 W g 0 n d' os) g 0 d':=holdsK_sortWorldK_c _ _ _ _ _ _ _ _ _ u t (by rw[k,m]);refine⟨rfl,zpN base W g 0 n d' os i b,d'.toList.map ofS,?_,some ⟨g,0,none⟩,c,by simp[k],λ_=>⟨g,q,z,rfl,i,a,λj B=>?_⟩⟩
  ·have:=f.map ofS
   rwa[zAh w]at this
  ·have o:j<d'.size:=by simpa using B
   obtain⟨h1,h2⟩:=zuY s j o;rw[Qo _ g _ _ _ _ a]at h1 h2;rw[h1,h2];simp[ofS]
end
def zhx(ws:List jE)(n:Nat)(a:List Nat)(k:Nat):Nat × UInt8:=(a.getD k 0,(ws.getD k []).getD n 0)
def gath(ws:List jE)(n:Nat)(a:List Nat):Nat->List (Nat × UInt8)
 |0=>[]
 |k+1=>if n<(ws.getD k []).length/\zhx ws n a k ∉ gath ws n a k then gath ws n a k++[zhx ws n a k]else gath ws n a k
theorem zkI(ws:List jE)(n:Nat)(c:List Nat):∀m,(gath ws n c m).Nodup/\∀e,e∈gath ws n c m↔∃k,k<m/\n<(ws.getD k []).length/\e=zhx ws n c k
 |0=>⟨by simp[gath],λe=>by simp[gath]⟩
 |m+1=>by
  obtain⟨h1,h2⟩:=zkI ws n c m
  have i:∀e,(∃k,k<m+1/\n<(ws.getD k []).length/\e=zhx ws n c k)↔(e∈gath ws n c m\/n<(ws.getD m []).length/\e=zhx ws n c m):=λe=>by
   rw[h2]
   constructor
   ·rintro⟨k,j,d,f⟩
    by_cases g:k=m
    ·subst g;exact .inr ⟨d,f⟩
    ·exact .inl ⟨k,by omega,d,f⟩
   ·rintro(⟨k,j,d,f⟩|⟨d,f⟩)
    ·exact⟨k,by omega,d,f⟩
    ·exact⟨m,by omega,d,f⟩
  rw[gath]
  split
  case isTrue h=>
   refine⟨List.nodup_append.2 ⟨h1,by simp,λa l b hb e=>?_⟩,λe=>?_⟩
   ·rw[QF]at hb
    subst hb;subst e
    exact h.2 l
   ·rw[QY,QF,i]
    exact⟨λd=>d.imp id λf=>⟨h.1,f⟩,λd=>d.imp id λf=>f.2⟩
  case isFalse h=>
   refine⟨h1,λe=>?_⟩;rw[i]
   constructor
   ·exact .inl
   ·rintro(d|⟨d,rfl⟩)
    ·exact d
    ·exact Classical.byContradiction λf=>h ⟨d,f⟩
theorem zps(ws:List jE)(n:Nat)(a:List Nat):EdgesOf ws n a (gath ws n a ws.length):=
 ⟨(zkI ws n a ws.length).1,(zkI ws n a ws.length).2⟩
theorem EdgesOf.perm{ws:List jE}{n:Nat}{a:List Nat}{es b:List (Nat × UInt8)}(h:EdgesOf ws n a es)(c:b.Perm es):EdgesOf ws n a b:=
 ⟨c.nodup_iff.2 h.nod,λe=>(c.mem_iff).trans (h.mem e)⟩
def lstS(ws:List ByteArray):List jE:=ws.map (·.data.toList)
def nilE(n:zaD):zcK:=(n,none,0,0)
theorem zoD(a:List zaD):(a.map nilE).map Prod.fst=a:=by
 rw[Xn];exact List.map_id a
structure zs6(w:World)(B gm bm ga ca:Nat)(ws:List ByteArray)(n:Nat)(g cap:Nat)(ns:List zaD)(ss:List jE)(l:List (zaP × Nat))(ats:List Nat):Prop where
 mkr:Mk w B gm bm ga ca g cap (ns.map nilE) l ats
 lev:Lev (lstS ws) n ns ss
 ats:AtOk (lstS ws) n ss ats
 next:NextOk ns l
 few:ns.length<=400
def Full(ws:List jE):Prop:=∃a:List jE,a.Nodup/\a.length=401/\∀v∈a,∃w∈ws,v <+:w
theorem Mid.full{ws:List jE}{n k:Nat}{f o:List zaD}{a m:List jE}{d:List Nat}{es:List (Nat × UInt8)}(hl:Lev ws n f a)(r:AtOk ws n a d)(s:EdgesOf ws n d es)(h:Mid ws n a es k o m)(q:k<es.length)(g:o.length=400):Full ws:=by
 obtain⟨p,_,l,i,_⟩:=h.next hl r s q
 have b:∀e,e∈es->∃w∈ws,strE a e <+:w:=λe h1=>by
  obtain⟨j,h2,t,g,_,_⟩:=zeD r s h1;exact⟨ws.getD j [],by rw[Qr,Qe h2];exact QC h2,by rw[g];exact List.take_prefix _ _⟩
 refine⟨(p++[es[k].2])::m,XJ.2 ⟨i,h.inv.trie.uniq⟩,by rw[Qq,<-h.inv.len,g],λv c=>?_⟩
 rcases QN.1 c with rfl|c
 ·rw[<-l]
  exact b _ (QC q)
 ·rw[h.str]at c
  rcases QY.1 c with c|c
  ·exact((hl.mem v).1 c).2
  ·obtain⟨e,h1,rfl⟩:=QS.1 c
   exact b e (Z7 h1)
theorem ziW:∀(l m:List jE),l.Nodup->(∀x∈l,x∈m)->l.length<=m.length
 | [],_,_,_=>Qn _
 |a::l,m,h,c=>by
  rw[XJ]at h;have b:=c a (by simp);have:=ziW l (m.erase a) h.2 λx d=>(List.mem_erase_of_ne (λe=>h.1 (by rw[<-e];exact d))).2 (c x (by simp[d]))
  rw[List.length_erase_of_mem b]at this;have:=List.length_pos_of_mem b;rw[Qq];omega
def preL(ws:List jE):List jE:=ws.flatMap λw=>(List.range (w.length+1)).map λn=>w.take n
theorem zgJ{ws:List jE}{n:Nat}{d:List zaD}{c:List jE}(hl:Lev ws n d c)(e:∀w∈ws,w.length<=n)(h:d.length<=400):¬Full ws:=by
 rintro⟨l,h1,h2,g⟩
 have:=ziW l c h1 λv f=>by
  obtain⟨w,a,b⟩:=g v f;exact(hl.mem v).2 ⟨Ql b.length_le (e w a),w,a,b⟩
 rw[h2,<-hl.inv.len]at this;omega
theorem zvm{ws:List jE}(h:(preL ws).length<400):¬Full ws:=by
 rintro⟨d,h1,h2,e⟩
 have:=ziW d (preL ws) h1 λv c=>by
  obtain⟨w,b,a⟩:=e v c;exact List.mem_flatMap.2 ⟨w,b,QS.2 ⟨v.length,ZQ.2 (by have:=a.length_le;omega),(List.prefix_iff_eq_take.1 a).symm⟩⟩
 omega
def zig(B h b a f:Nat)(ws:List ByteArray)(n:Nat)(w:World)(e:Ending)(w':World):Prop:=
 Below B w w'/\((e=jC (.bool false)/\Full (lstS ws))\/(e=jC (.bool true)/\∃g cap d c l ats,zs6 w' B h b a f ws (n+1) g cap d c l ats))
def Rel1(ws:List ByteArray)(n:Nat)(ats:List Nat)(w:World)(v i:Value)(wr:World):Prop:=
 ∃k,k<=ws.length/\i=jA (k:Int)/\w wr/\OwnG rowE wr w.heap.size v (gath (lstS ws) n ats k)
theorem zg7(ws:List jE)(n:Nat)(a:List Nat):∀k,(gath ws n a k).length<=k
 |0=>Qd _
 |k+1=>by
  have:=zg7 ws n a k;rw[gath]
  split
  ·rw[Qb,QH];omega
  ·omega
theorem zeB{ws:List ByteArray}{k:Nat}(a:k<ws.length):(lstS ws).getD k []=ws[k].data.toList:=by
 rw[Qr,lstS,ZP,Qe a];rfl
theorem zue{ws:List ByteArray}{n:Nat}{ats:List Nat}{k:Nat}(a:k<ws.length)(h:¬n<ws[k].size):gath (lstS ws) n ats (k+1)=gath (lstS ws) n ats k:=by
 rw[gath,Qf];rw[zeB a];exact λh2=>h h2.1
theorem zua{ws:List ByteArray}{n:Nat}{ats:List Nat}{k:Nat}(a:k<ws.length)(b:k<ats.length)(h:n<ws[k].size):zhx (lstS ws) n ats k=(ats[k],ws[k][n]):=by
 unfold zhx;rw[zeB a,Qr,Qe b,Qr,Qe (by simpa using h)]
 rfl
theorem zuG{ws:List ByteArray}{n:Nat}{ats:List Nat}{k:Nat}(a:k<ws.length)(b:k<ats.length)(h:n<ws[k].size):gath (lstS ws) n ats (k+1)=if (ats[k],ws[k][n])∈gath (lstS ws) n ats k then gath (lstS ws) n ats k else gath (lstS ws) n ats k++[(ats[k],ws[k][n])]:=by
 rw[gath,zua a b h,zeB a]
 by_cases c:(ats[k],ws[k][n])∈gath (lstS ws) n ats k
 ·rw[Qj c,Qf (λh2=>h2.2 c)]
 ·rw[Qf c,Qj ⟨by simpa using h,c⟩]
theorem znX{w:World}{B:Nat}{A:Option Addr}{n:Nat}{ws:List ByteArray}(h:Sl w B 1 A n (ws.map Value.string)){k:Nat}(c:k<ws.length):∃b a,A=some ⟨b,a,none⟩/\b<B/\w.cell? ⟨b,a+k,none⟩=some (.string ws[k]):=by
 obtain⟨b,a,e,hb,d⟩:=h.src (by rw[Qk];omega);exact⟨b,a,e,hb,by rw[d k (by rw[Qk];exact c),Zo]⟩
def Rel2(B e h c f:Nat)(ws:List ByteArray)(n:Nat)(ats:List Nat)(w:World)(es:List (Nat × UInt8))(b:List jE)(v i:Value)(wr:World):Prop:=
 ∃k g cap a d l,k<=es.length/\i=jA (k:Int)/\Below B w wr/\EdgesAt wr w.heap.size v es/\Mk wr B e h c f g cap (a.map nilE) l ats/\Mid (lstS ws) n b es k a d/\NextOk a l/\a.length<=400
def Rel3(B e h b f:Nat)(ws:List ByteArray)(n:Nat)(w:World)(a:List Nat)(d:List zaD)(c:List jE)(l:List (zaP × Nat))(g cap:Nat)(i:Value)(wr:World):Prop:=
 ∃k ats,k<=ws.length/\i=jA (k:Int)/\Below B w wr/\Mk wr B e h b f g cap (d.map nilE) l ats/\ats.length=ws.length/\(∀j,j<k->c[ats.getD j 0]? = some (((lstS ws).getD j []).take (n+1)))/\∀j,k<=j->ats.getD j 0=a.getD j 0
theorem zqe{ws:List ByteArray}{n:Nat}{ats:List Nat}{b:List zaD}{a:List jE}(g:Inv b a)(f:AtOk (lstS ws) n a ats)(h:b.length<=400):∀e∈gath (lstS ws) n ats ws.length,e.1<65536:=λe d=>by
 obtain⟨k,c,_,rfl⟩:=((zkI (lstS ws) n ats ws.length).2 e).1 d;have:=g.lt (f.str k (by rw[lstS,Qk];exact c));show ats.getD k 0<65536
 omega
theorem Rel2.step{B s S J N:Nat}{ws:List ByteArray}{n:Nat}{ats:List Nat}{w:World}{es:List (Nat × UInt8)}{t:List jE}{v:Value}{wr E:World}{k I o:Nat}{a:List zaD}{d:List jE}{l2:List (zaP × Nat)}{up:Nat}{x:UInt8}{p:jE}
 (hk:k<es.length) (H:es[k]=(up,x)) (hb:Below B w wr) (L:Below B wr E) (hE:EdgesAt E w.heap.size v es) (hM:Mk E B s S J N I o (a.map nilE) (l2++[(((up:Int),x),a.length)]) ats) (g:Mid (lstS ws) n t es k a d) (hN:NextOk a l2) (h4:a.length<=400) (h5:a.length≠400)
 (y:d[up]? = some p) (O:strE t (up,x)=p++[x]) (A:p++[x] ∉ d) (V:∀v,v∈d->v.length<=p.length+1):
 ∀(r:Nat) (w3 l:World) (C c4:Nat),zw0 d p x r->E w3->OwnG rowN l B (.slice (some ⟨C,0,none⟩) (a.map nilE++[nilE ⟨x,up,r⟩]).length c4) (a.map nilE++[nilE ⟨x,up,r⟩])->Below B w3 l->(∀j,j<w3.heap.size->I≠j->l.heap[j]? = w3.heap[j]?)->
  Rel2 B s S J N ws n ats w es t v (jA ((k:Int)+1)) (l.setCell s (.slice (some ⟨C,0,none⟩) (a.length+1) c4)):=by
 intro r w3 l C c4 hr u Z X i;obtain⟨f,Y,W⟩:=hr;have h:=hM.below u;have m:(a.map nilE++[nilE ⟨x,up,r⟩]).length=a.length+1:=by simp
 obtain⟨g',h3,e,z⟩:=h.push Z (by rw[m];omega) i;injection e with G _ e2
 injection G with G
 injection G with G _ _
 subst G;subst e2
 rw[m]at z;obtain⟨c,K,q⟩:=Xo h.own I rfl;have D:=h.blk;have U:=h.base;have h6:=hM.lt;have Q:EdgesAt w3 w.heap.size v es:=hE.keep λj cs K b=>u.block j (zc0 b)
 have P:EdgesAt l w.heap.size v es:=Q.keep λj cs K b=>i j (zc0 b) λe=>by
  rw[<-e,q]at b;injection b with b
  injection b with _ b
  exact absurd b (by decide)
 have F:l.heap[s]? = some (zjj I o (a.map nilE).length S J ats.length N):=(i s (zc0 D) (Xk h.ne.1)).trans D
 have T:EdgesAt (l.setCell s (.slice (some ⟨C,0,none⟩) (a.length+1) c4)) w.heap.size v es:=P.keep λj cs K b=>Qm l ⟨s,0,none⟩ _ j λe=>by
  rw[e]at b;rw[F]at b;injection b with b
  unfold zjj at b;injection b with _ b
  exact absurd b (by decide)
 have h0:0<a.length:=(Qy.1 g.inv.zero).1;refine⟨k+1,C,c4,a++[⟨x,up,r⟩],d++[p++[x]],_,hk,by simp,((hb.trans L).trans ((u.mono (by omega)).trans X)).setCell U.1 _,T,?_,?_,hN.add ⟨x,up,r⟩ h0 (zwW g.inv hN y A),by rw[Qb,QH];omega⟩
 ·rw[Q2];exact z
 ·have:=g.step hk (p:=p) (f:=f) (fl:=r) (by rw[H];exact y) (by rw[H];exact O) (by rw[H];exact A) V Y (by rw[H];exact W)
  rw[H]at this;exact this
theorem zqf{w:jE}{n:Nat}(h:¬n<w.length):w.take (n+1)=w.take n:=by
 rw[QR (by omega),QR (by omega)]
theorem Rel3.pass{B m q i o:Nat}{ws:List ByteArray}{n:Nat}{w:World}{a:List Nat}{f:List zaD}{b d:List jE}{l:List (zaP × Nat)}{g cap k:Nat}{ats:List Nat}{es:List (Nat × UInt8)}{wr:World}
 (u:AtOk (lstS ws) n b a) (s:Mid (lstS ws) n b es es.length f d) (h:k<ws.length) (r:¬n<ws[k].size) (hb:Below B w wr) (hM:Mk wr B m q i o g cap (f.map nilE) l ats) (hl:ats.length=ws.length)
 (h1:∀j,j<k->d[ats.getD j 0]? = some (((lstS ws).getD j []).take (n+1))) (h2:∀j,k<=j->ats.getD j 0=a.getD j 0):Rel3 B m q i o ws n w a f d l g cap (jA ((k:Int)+1)) wr:=by
 refine⟨k+1,ats,h,by simp,hb,hM,hl,λj t=>?_,λj t=>h2 j (by omega)⟩
 rcases ZJ j k with c|c
 ·exact h1 j c
 ·obtain rfl:j=k:=by omega
  have e:j<(lstS ws).length:=by rw[lstS,Qk];exact h
  rw[h2 j (Qd _),s.up (u.str j e),zqf];rw[zeB h];exact r
theorem Rel3.go{B v y m x:Nat}{ws:List ByteArray}{n:Nat}{w:World}{a:List Nat}{c:List zaD}{f o:List jE}{l:List (zaP × Nat)}{g cap k:Nat}{ats:List Nat}{es:List (Nat × UInt8)}{wr:World}
 (C:AtOk (lstS ws) n f a) (D:EdgesOf (lstS ws) n a es) (t:Mid (lstS ws) n f es es.length c o) (E:NextOk c l) (i:k<ws.length) (z:n<ws[k].size) (hb:Below B w wr) (hM:Mk wr B v y m x g cap (c.map nilE) l ats) (hl:ats.length=ws.length)
 (h1:∀j,j<k->o[ats.getD j 0]? = some (((lstS ws).getD j []).take (n+1))) (h2:∀j,k<=j->ats.getD j 0=a.getD j 0):
 ∃q,zbH l ((ats.getD k 0:Int),ws[k][n])=some q/\q<c.length/\Rel3 B v y m x ws n w a c o l g cap (jA ((k:Int)+1)) (wr.setCell ⟨m,k,none⟩ (jA (q:Int))):=by
 have r:k<(lstS ws).length:=by rw[lstS,Qk];exact i
 have d:n<((lstS ws).getD k []).length:=by rw[zeB i];exact z
 obtain⟨q,b,s⟩:=t.go C D r d;have u:=zcq d
 have F:((lstS ws).getD k []).getD n 0=ws[k][n]:=by
  rw[zeB i,Qr,Qe (by simpa using z)];rfl
 rw[F]at u;have h:=b;rw[u]at h;refine⟨q,?_,t.inv.lt b,k+1,ats.set k q,i,by simp,hb.setCell hM.base.2.2.1 _,hM.setAt k (by omega) q,by rw[Xf];exact hl,λj A=>?_,λj A=>?_⟩
 ·rw[h2 k (Qd _)]
  exact(E _ _ _).2 ((t.inv.kid s).1 h)
 ·by_cases e:j=k
  ·subst e
   rw[Qr,List.getElem?_set_self (by omega)];exact b
  ·rw[Qr,Xv (Xk e),<-Qr]
   exact h1 j (by omega)
 ·rw[Qr,Xv (by omega),<-Qr]
  exact h2 j (by omega)
theorem Rel3.done{B i q h o:Nat}{ws:List ByteArray}{n:Nat}{w:World}{a:List Nat}{d c:List zaD}{b e:List jE}{l:List (zaP × Nat)}{g cap:Nat}{ats:List Nat}{es:List (Nat × UInt8)}{wr:World}
 (f:Lev (lstS ws) n d b) (u:AtOk (lstS ws) n b a) (t:EdgesOf (lstS ws) n a es) (s:Mid (lstS ws) n b es es.length c e) (v:NextOk c l) (r:c.length<=400) (hb:Below B w wr) (hM:Mk wr B i q h o g cap (c.map nilE) l ats) (hl:ats.length=ws.length)
 (h1:∀j,j<ws.length->e[ats.getD j 0]? = some (((lstS ws).getD j []).take (n+1))):zig B i q h o ws n w (jC (.bool true)) wr:=
 ⟨hb,.inr ⟨rfl,g,cap,c,e,l,ats,hM,s.done f u t,⟨by rw[lstS,Qk];exact hl,λk m=>h1 k (by rw[lstS,Qk]at m;exact m)⟩,v,r⟩⟩
def zwI:Prop:=∀(ws:List ByteArray) (n:Nat),n<40->ws.length<=30->0<ws.length->∀(A:Option Addr) (c B a d b e g cap:Nat) (h:List zaD) (f:List jE) (l:List (zaP × Nat)) (ats:List Nat) (w:World),
 Sl w B 1 A ws.length (ws.map Value.string)->zs6 w B a d b e ws n g cap h f l ats->
 Calls prog 67 #[.pointer a,.slice A ws.length c,jA (n:Int)] w (zig B a d b e ws n w)
section
open Go.Sort Go.Lib
def EndsAt(w:World)(a:Nat)(s:SlT)(l:List Nat):Prop:=
 s.2.1=l.length/\(0<l.length->∃g:Nat,s.1=some ⟨g,0,none⟩/\a<=g/\g<w.heap.size/\∀j (h:j<l.length),w.cell? ⟨g,j,none⟩=some (jA (l[j]:Int)))
theorem EndsAt.keep{w w':World}{a:Nat}{s:SlT}{l:List Nat}(h:EndsAt w a s l)(i:w.heap.size<=w'.heap.size)(b:∀g,a<=g->g<w.heap.size->w'.heap[g]? = w.heap[g]?):EndsAt w' a s l:=by
 refine⟨h.1,λd=>?_⟩;obtain⟨g,e,h1,h2,f⟩:=h.2 d;refine⟨g,e,h1,by omega,λj c=>?_⟩;have:=b g h1 h2;rw[show w'.cell? ⟨g,j,none⟩=w.cell? ⟨g,j,none⟩by simp only[World.cell?, this]];exact f j c
theorem EndsAt.sl{w:World}{f:Nat}{s:SlT}{l:List Nat}(h:EndsAt w f s l):Sl w w.heap.size 1 s.1 s.2.1 (l.flatMap rowI.cells):=by
 have hl:=za3 rowI.cells 1 (λ_=>rfl) l;refine⟨by rw[hl,h.1],λi=>?_⟩;obtain⟨g,e,h1,h2,d⟩:=h.2 (by omega);refine⟨g,0,e,h2,λj c=>?_⟩;have a:j<l.length:=by omega
 have b:=zcA rowI.cells 1 (λ_=>rfl) l j 0 a (by decide);rw[show j*1+0=j by omega,Qe c]at b;rw[Ze,d j a];exact b.symm
def zft(l:List Nat):List Nat:=((l.map λ(x:Nat)=>(x:Int)).mergeSort λx y=>decide (x<=y)).map Int.toNat
theorem zjE(l:List Nat):((l.map λ(x:Nat)=>(x:Int)).mergeSort λx y=>decide (x<=y))=(zft l).map λ(x:Nat)=>(x:Int):=by
 unfold zft;rw[Xn];refine(List.map_id _).symm.trans (List.map_congr_left λx b=>?_);have a:=(List.mergeSort_perm _ _).mem_iff.1 b;obtain⟨y,_,rfl⟩:=QS.1 a;simp
theorem zgn(l:List Nat):(zft l).Perm l:=by
 have:=(List.mergeSort_perm (l.map λ(x:Nat)=>(x:Int)) λx y=>decide (x<=y)).map Int.toNat;refine this.trans ?_;rw[Xn];have:(l.map (Int.toNat ∘ λ(x:Nat)=>(x:Int)))=l:=(List.map_congr_left λx _=>by simp).trans (List.map_id l);rw[this]
theorem zlJ{l:List Nat}(h:l.Nodup):(zft l).Pairwise (·<·):=by
 have h1:((zft l).map λ(x:Nat)=>(x:Int)).Pairwise λx y=>decide (x<=y)=true:=by
  rw[<-zjE];exact List.pairwise_mergeSort (λa b c h1 h2=>by simp at h1 h2 ⊢;omega) (λa b=>by simp;omega) _
 rw[List.pairwise_map]at h1;have h2:(zft l).Nodup:=(zgn l).nodup_iff.2 h;have d:=List.Pairwise.and h1 (List.nodup_iff_pairwise_ne.1 h2);exact d.imp λ⟨a,b⟩=>by simp at a;omega
theorem znh(w:World)(g n:Nat)(d:Array Int)(os:Array Obj)(_:g<w.heap.size):w.grownBy (grow (putRow (Value.int .i64) (Sort.ahead w n) g 0 d) os) (some g) where
 os:=rfl
 tape:=rfl
 output:=rfl
 size:=by show w.heap.size<=((w.heap.modify g _)++os).size;rw[Array.size_append,Array.size_modify];omega
 block i hi hne:=by
  show ((w.heap.modify g _)++os)[i]? = _
  rw[Array.getElem?_append_left (by rw[Array.size_modify];exact hi),Q5,Qf (λe=>hne (by rw[e]))]
theorem ztN{w:World}{o:Nat}{s:SlT}{l:List Nat}(h:OwnG rowI w o (slV s) l)(hl:l.length<=4096):
 Calls prog 69 #[slV s] w λe w'=>e=jC (.tuple #[])/\EndsAt w' o s (zft l)/\∃g,w.grownBy w' (some g)/\(o<=g\/w'=w):=by
 have a:(zft l).length=l.length:=(zgn l).length_eq
 rcases h.cases with ⟨h1,rfl⟩|⟨g,c,h1,hb,m⟩
 ·rw[h1]
  refine(slices_Sort_int_none none 0 w).mono ?_;rintro e w' ⟨rfl,rfl⟩;obtain⟨A,y,u⟩:=s;injection h1 with i d q
  dsimp only at i d q;subst i;subst d
  exact⟨rfl,⟨by rw[a];rfl,λh=>absurd h (by rw[a];simp)⟩,o,⟨rfl,rfl,rfl,Qd _,λ_ _ _=>rfl⟩,.inr rfl⟩
 ·obtain⟨A,y,u⟩:=s
  injection h1 with i d q
  dsimp only at i d q;subst i;subst d;subst q
  have t:Holds (Value.int .i64) w g 0 (l.map λ(x:Nat)=>(x:Int)).toArray:=λj k=>by
   have r:j<l.length:=by simpa using k
   have:=h.at j r 0 (by decide);rw[show j*rowI.size+0=j by simp[rowI]]at this;rw[Ze,getElem!_pos (l.map λ(x:Nat)=>(x:Int)).toArray j k];refine⟨this.1.trans ?_,this.2⟩;simp[rowI]
  have v:=slices_Sort_int g 0 u (l.map λ(x:Nat)=>(x:Int)) w t m (by rw[Qk];omega);rw[Qk]at v;unfold slV;refine v.mono ?_;rintro e w' ⟨rfl,n,os,rfl⟩;rw[zjE];have f:=znh w g n ((zft l).map λ(x:Nat)=>(x:Int)).toArray os m;refine⟨rfl,⟨a.symm,λ_=>⟨g,rfl,hb,Qw m f.size,λj k=>?_⟩⟩,g,f,.inl hb⟩;have z:=holds_putRow (Value.int .i64) (Sort.ahead w n) g 0 (l.map λ(x:Nat)=>(x:Int)).toArray ((zft l).map λ(x:Nat)=>(x:Int)).toArray (holds_ahead _ _ _ _ _ _ t) (by simp[a]);have b:=(holds_grow (Value.int .i64) _ os g 0 _ (by simpa using m) z j (by simpa using k)).1;rw[Ze]at b;rw[b,getElem!_pos ((zft l).map λ(x:Nat)=>(x:Int)).toArray j (by simpa using k)];simp
end
theorem zrR{a w w':World}{row:Option Nat}(h:a.grownBy w row)(hb:Below a.heap.size w w'):a.grownBy w' row:=
 ⟨hb.os.trans h.os,hb.tape.trans h.tape,hb.output.trans h.output,Ql h.size hb.size,λi c b=>(hb.block i c).trans (h.block i c b)⟩
def accN(ws:List jE)(e:List Nat)(ats:List Nat)(i k:Nat):List Nat:=e++(List.range k).filter λj=>decide (ats.getD j 0=i/\0<i/\j<ws.length)
theorem zrd(ws:List jE)(e:List Nat)(ats:List Nat)(i k:Nat)(a:k<ws.length):accN ws e ats i (k+1)=if ats.getD k 0=i/\0<i then accN ws e ats i k++[k]else accN ws e ats i k:=by
 unfold accN;rw[List.range_succ,ZR,<-Q4]
 by_cases h:ats.getD k 0=i/\0<i
 ·rw[Qj h,List.filter_cons,Qj (by simp only[QX];exact⟨h.1,h.2,a⟩)];rfl
 ·rw[Qf h,List.filter_cons,Qf (by simp only[QX];exact λh2=>h ⟨h2.1,h2.2.1⟩),List.filter_nil,QO]
theorem zmy{ws:List jE}(h:∀w∈ws,w≠[]):zaW ws []=[]:=by
 unfold zaW;rw[List.filter_eq_nil_iff];intro k a;rw[ZQ]at a;simp only[QX,List.suffix_nil];have:ws.getD k []∈ws:=by rw[Qr,Qe a];exact QC a
 exact h _ this
theorem zsH{ws c:List jE}{t:List zaD}{ats:List Nat}{n i:Nat}{x:zaD}(hl:Lev ws n t c)(v:∀w∈ws,w.length<=n)(C:AtOk ws n c ats)(u:0<i)(z:t[i]? = some x):
 zft (accN ws (zaW ws (c.getD x.fail [])) ats i ws.length)=zaW ws (c.getD i []):=by
 obtain⟨s,o⟩:∃s,c[i]? = some s:=⟨_,Qe (by rw[<-hl.inv.len];exact(Qy.1 z).1)⟩
 obtain⟨D,f,r,g⟩:=hl.inv.fail_at u z o;have B:c.getD i []=s:=by rw[Qr,o];rfl
 have A:c.getD x.fail []=f:=by rw[Qr,r];rfl
 rw[B,A]
 have q:∀k,k<ws.length->(ws.getD k []).take n=ws.getD k []:=λk j=>by
  have:ws.getD k []∈ws:=by rw[Qr,Qe j];exact QC j
  exact QR (v _ this)
 have d:∀k,k<ws.length->(ats.getD k 0=i↔ws.getD k []=s):=λk j=>by
  have:=C.str k j;rw[q k j]at this
  constructor
  ·intro e;rw[e,o]at this;exact(QG this).symm
  ·intro e;rw[e]at this;exact hl.inv.inj this o
 have m:∀k,k∈accN ws (zaW ws f) ats i ws.length↔k∈zaW ws f\/(k<ws.length/\ws.getD k []=s):=λk=>by
  unfold accN;rw[QY,Xg,ZQ,QX];refine or_congr_right ⟨λ⟨h1,h2,_,_⟩=>⟨h1,(d k h1).1 h2⟩,λ⟨h1,h2⟩=>⟨h1,(d k h1).2 h2,u,h1⟩⟩
 have l:(accN ws (zaW ws f) ats i ws.length).Nodup:=by
  unfold accN;rw[List.nodup_append];refine⟨(zcG ws f).imp λh=>Nat.ne_of_lt h,List.nodup_range.sublist List.filter_sublist,λa h1 b h2 e=>?_⟩;subst e;rw[Xg,ZQ,QX]at h2;have y:=(zcM.1 h1).2;rw[(d a h2.1).1 h2.2.1]at y;exact g.2.2.1 (zi6 g.2.1 y.length_le)
 refine zgl (zlJ l) (zcG ws s) λk=>?_
 rw[(zgn _).mem_iff,m,zkg (Lev.words hl v) g]
structure NodesAt(ws ss:List jE)(ns:List zaD)(B lo g cap:Nat)(i:Nat)(ms:List zcK)(w:World):Prop where
 own:OwnG rowN w B (.slice g ms.length cap) ms
 fst:ms.map Prod.fst=ns
 done:∀j m,j<i->ms[j]? = some m->EndsAt w lo m.2 (zaW ws (ss.getD j []))
 rest:∀j m,i<=j->ms[j]? = some m->m.2=(none,0,0)
theorem EndsAt.lower{w:World}{b a:Nat}{s:SlT}{l:List Nat}(h:EndsAt w b s l)(hl:a<=b):EndsAt w a s l:=by
 refine⟨h.1,λc=>?_⟩;obtain⟨g,e,h1,h2⟩:=h.2 c;exact⟨g,e,by omega,h2⟩
structure NodeNow(ms:List zcK)(B g cap i:Nat)(w0:World)(acc:List Nat)(s:SlT)(w:World):Prop where
 row:OwnG rowI w w0.heap.size (slV s) acc
 own:OwnG rowN w B (.slice g ms.length cap) (ms.set i ((ms.getD i (⟨0,0,0⟩,none,0,0)).1,s))
 only:w0.grownBy w (some g)
theorem NodesAt.next{ws x:List jE}{y:List zaD}{B t g cap i:Nat}{d:List zcK}{l w w':World}{s:SlT}{e:List Nat}(h:NodesAt ws x y B t g cap i d l)(r:i<d.length)(A:t<=l.heap.size)(H:g<t)
 (E:OwnG rowN w B (.slice g d.length cap) (d.set i ((d.getD i (⟨0,0,0⟩,none,0,0)).1,s))) (f:l.grownBy w (some g)) (G:EndsAt w' l.heap.size s e) (F:e=zaW ws (x.getD i [])) {C:Nat} (b:w.grownBy w' (some C)) (z:l.heap.size<=C\/w'=w):
 NodesAt ws x y B t g cap (i+1) (d.set i ((d.getD i (⟨0,0,0⟩,none,0,0)).1,s)) w'/\l.grownBy w' (some g):=by
 have a:∀j,j<l.heap.size->w'.heap[j]? = w.heap[j]? := λj o=>by
  rcases z with c|rfl
  ·exact b.block j (Qw o f.size) (λe=>by injection e with e;omega)
  ·rfl
 have D:w.heap.size<=w'.heap.size:=b.size;have u:d.getD i (⟨0,0,0⟩,none,0,0)=d[i]:=by rw[Qr,Qe r];rfl
 refine⟨⟨?_,?_,λj m o n=>?_,λj m o n=>?_⟩,⟨b.os.trans f.os,b.tape.trans f.tape,b.output.trans f.output,Ql f.size D,λj o v=>(a j o).trans (f.block j o v)⟩⟩
 ·rw[Xf]
  exact E.keep λj e=>a j (by have e:g=j:=QG e;omega)
 ·rw[List.map_set,h.fst,u]
  have:y[i]? = some d[i].1:=by rw[<-h.fst,ZP,Qe r];rfl
  refine List.ext_getElem? λj=>?_
  by_cases c:i=j
  ·subst c
   rw[List.getElem?_set_self (by rw[<-h.fst,Qk];exact r),this]
  ·rw[Xv c]
 ·by_cases c:i=j
  ·subst c
   rw[List.getElem?_set_self r]at n;rw[<-QG n,<-F];exact G.lower A
  ·rw[Xv c]at n
   have h1:=h.done j m (by omega) n;exact h1.keep (Ql f.size D) λk I q=>(a k q).trans (f.block k q λe=>by injection e with e;omega)
 ·rw[Xv (by omega)]at n
  exact h.rest j m (by omega) n
theorem NodeNow.add{c:List zcK}{B g cap i:Nat}{l w f:World}{a:List Nat}{s:SlT}(h:NodeNow c B g cap i l a s w)(r:i<c.length)(t:g<l.heap.size){k d c4:Nat}(m:OwnG rowI f l.heap.size (.slice d (a++[k]).length c4) (a++[k]))(hb:Below l.heap.size w f):
 NodeNow c B g cap i l (a++[k]) (some ⟨d,0,none⟩,a.length+1,c4) (f.setCell ⟨g,i*4+3,none⟩ (.slice d (a.length+1) c4)):=by
 have hl:(a++[k]).length=a.length+1:=by simp
 rw[hl]at m;have q:=(m.lt d rfl).1;have h1:OwnG rowN f B (.slice g c.length cap) (c.set i ((c.getD i (⟨0,0,0⟩,none,0,0)).1,s)):=h.own.keep λj e=>hb.block j (by have e:g=j:=QG e;omega)
 have b:(c.set i ((c.getD i (⟨0,0,0⟩,none,0,0)).1,s)).length=c.length:=Xf ..;rw[<-b]at h1;have h2:=h1.stored i (by rw[b];exact r) 3 (by decide) (.slice d (a.length+1) c4) ((c.getD i (⟨0,0,0⟩,none,0,0)).1,some ⟨d,0,none⟩,a.length+1,c4) (by rw[List.getElem_set_self];rfl);refine⟨?_,?_,?_⟩
 ·exact m.keep λj e=>Qm f ⟨g,i*4+3,none⟩ _ j λn=>by injection e with e;rw[<-e]at n;have:d=g:=n;omega
 ·have o:=h2.1
  rw[List.set_set,b]at o;exact o
 ·exact zao (zrR h.only hb) _ _
theorem NodeNow.start{ws m:List jE}{n:List zaD}{B r g cap i:Nat}{a:List zcK}{b c:World}{s:SlT}{d:List Nat}(h:NodesAt ws m n B r g cap i a b)(l:i<a.length)(t:g<b.heap.size)(k:OwnG rowI c b.heap.size (slV s) d)(hb:b c):
 NodeNow a B g cap i b d s (c.setCell ⟨g,i*4+3,none⟩ (slV s)):=by
 have h1:OwnG rowN c B (.slice g a.length cap) a:=h.own.keep λj e=>hb.block j (by have e:g=j:=QG e;omega)
 have f:a.getD i (⟨0,0,0⟩,none,0,0)=a[i]:=by rw[Qr,Qe l];rfl
 have h2:=h1.stored i l 3 (by decide) (slV s) ((a.getD i (⟨0,0,0⟩,none,0,0)).1,s) (by rw[f];rfl);refine⟨?_,h2.1,zao ⟨hb.os,hb.tape,hb.output,hb.size,λj q _=>hb.block j q⟩ _ _⟩
 exact k.keep λj e=>Qm c ⟨g,i*4+3,none⟩ _ j λo=>by
  have:=(k.lt j e).1;have u:j=g:=o;omega
theorem srcS{wr:World}{B n:Nat}{A:Option Addr}{c:List Value}{g:Nat->Value}(h:Sl wr B 1 A n c){j:Nat}(o:j<n)(m:∀j,j<n->c[j]? = some (g j)):
 ∃b a,A=some ⟨b,a,none⟩/\wr.cell? ⟨b,a+j,none⟩=some (g j):=by
 have hl:=h.len;obtain⟨b,a,e,_,q⟩:=h.src (by omega);have l:=m j o
 have d:∀i v,c[i]? = some v->wr.cell? ⟨b,a+i,none⟩=some v:=λi v k=>by
  have f:i<c.length:=(Qy.1 k).1;rw[q i f,<-k,Qe f]
 exact⟨b,a,e,d _ _ l⟩
theorem zsJ(g:Nat)(t:Array Value)(D:∀args w,(callFunc g args).run prog w=.ok (.enter g args) w)(A:Option Addr)(n c:Nat)(r:List Value)(x:Nat->Value)(p:Nat->Bool)(w:World)
 (h:Sl w w.heap.size 1 A n r) (s:n<=9223372036854775807) (v:∀j,j<n->r[j]? = some (x j))
 (q:∀W j,j<n->w W->Calls prog g (#[x j]++t) W (zaC (p j) W)):
 Calls prog 132 #[.slice A n c,.func (.func g) #[] t] w λe w'=>e=jC (jA (hitI p n))/\w w':=by
 have B:=hIx q;have C:=hIx v;clear q v
 go_in
 go_wp2
 go_loopw [5,8] (λ_ i wr=>∃j:Nat,j<=n/\i=jA j/\w wr/\Hid (∀i,i<j->p i=false)) (λ_ i _=>n-(intOf i).toNat)
 case atStart=>exact⟨0,Qn _,rfl,Qi _ _,λi u=>absurd u (by omega)⟩
 case round=>
  obtain⟨j,E,rfl,hb,a⟩:=hrel
  by_cases d:j<n
  ·obtain⟨b,z,rfl,y⟩:=srcS (h.below hb) d C.out
   have o:=B.out wr j d hb;cases l:p j with
   |true=>
    rw[l]at o;have f:=hIx (zmb p n j d l a);clear l;go_wp2_with (go_at_fn g;refine o.mono ?_;rintro e w' ⟨rfl,k⟩);go_ret;exact⟨zae f.out.symm,hb.trans (k.mono hb.size)⟩
   |false=>
    rw[l]at o
    have m:Hid (∀i,i<j+1->p i=false):=λi u=>by
     by_cases e:i=j
     ·rw[e];exact l
     ·exact a i (by omega)
    clear l a;go_wp2_with (go_at_fn g;refine o.mono ?_;rintro e w' ⟨rfl,k⟩)
    go_roundw
    case rel=>exact⟨j+1,by omega,by go_num,hb.trans (k.mono hb.size),m⟩
    case measure=>simp[intOf] <;> omega
  ·obtain rfl:j=n:=by omega
   have f:=hIx (zeH p j a);go_wp2;go_ret;exact⟨zae f.out.symm,hb⟩
theorem zjS(g:Nat)(d:Array Value)(l:∀args w,(callFunc g args).run prog w=.ok (.enter g args) w)(A:Option Addr)(n c:Nat)(b:List Value)(f:Nat->Value)(p:Nat->Bool)(w:World)
 (h:Sl w w.heap.size 1 A n b) (a:n<=9223372036854775807) (k:∀j,j<n->b[j]? = some (f j))
 (i:∀W j,j<n->w W->Calls prog g (#[f j]++d) W (zaC (p j) W)):
 Calls prog 92 #[.slice A n c,.func (.func g) #[] d] w (zaC (anyN p n) w):=by
 have o:=hIx (zsJ g d l A n c b f p w h a k i);have m:=hIx (zhM p n);clear i k h
 go_in
 go_wp2_with fail;refine o.out.mono ?_;rintro e q ⟨rfl,hb⟩;go_wp2;go_ret;exact⟨zaQ m.out,hb⟩
theorem zz8(s:ByteArray)(W:World):Calls prog 93 #[.string s] W (zaC (decide (40<s.size)) W):=by
 by_cases h:40<s.size
 have e:decide (40<s.size)=true:=Qx h
 rotate_left
 have e:decide (40<s.size)=false:=Qt h
 all_goals
  rw[e];clear e
  go_in
  go_wp2;go_ret;exact⟨by simp;omega,Qi _ _⟩
def zcD(ws:List ByteArray):Nat:=
 if 30<ws.length then 2 else if anyN (λj=>decide (40<(ws.getD j ByteArray.empty).size)) ws.length then 2 else if ws.length=0 then 1 else if Lib.containsS ws ByteArray.empty then 1 else 0
theorem ziZ(A:Option Addr)(c n:Nat)(ws:List ByteArray)(w:World)(o:ws.length=n)(h:Sl w w.heap.size 1 A n (ws.map Value.string)):
 Calls prog 66 #[.slice A n c] w λe w'=>e=jC (jA (zcD ws:Nat))/\w w':=by
 by_cases f:30<n
 ·have g:Hid (zcD ws=2):=by unfold zcD;rw[Qj (by omega)];exact hIx rfl
  clear h
  go_in
  go_wp2;go_ret;exact⟨by rw[g.out];rfl,Qi _ _⟩
 ·have k:∀j,j<n->(ws.map Value.string)[j]? = some (.string (ws.getD j ByteArray.empty)):=λj r=>by
   rw[ZP,Qr,Qe (by omega)];rfl
  have g:=hIx (zjS 93 #[] (enters_of func93 (by kernel_rfl) rfl) A n c (ws.map Value.string) (λj=>.string (ws.getD j ByteArray.empty)) (λj=>decide (40<(ws.getD j ByteArray.empty).size)) w h (by omega) k (λW j _ _=>zz8 _ W))
  by_cases a:anyN (λj=>decide (40<(ws.getD j ByteArray.empty).size)) n=true
  ·have i:Hid (zcD ws=2):=by unfold zcD;rw[o,Qf f,Qj a];exact hIx rfl
   rw[a]at g;clear h k a
   go_in
   go_wp2_with (go_at_call 92;refine g.out.mono ?_;rintro e d ⟨rfl,hb⟩);go_ret;exact⟨by rw[i.out];rfl,hb⟩
  ·have hl:anyN (λj=>decide (40<(ws.getD j ByteArray.empty).size)) n=false:=by simpa using a
   rw[hl]at g
   by_cases l:n=0
   ·have i:Hid (zcD ws=1):=by unfold zcD;rw[o,Qf f,Qf a,Qj l];exact hIx rfl
    subst l;clear h k a hl
    go_in
    go_wp2_with (go_at_call 92;refine g.out.mono ?_;rintro e d ⟨rfl,hb⟩);go_ret;exact⟨by rw[i.out];rfl,hb⟩
   ·have s:Hid (∀d,w d->Calls prog 94 #[.slice A n c,.string ByteArray.empty] d λe w'=>e=jC (.bool (Lib.containsS ws ByteArray.empty))/\w'=d):=hIx λd hb=>by
     obtain⟨b,m,rfl,_,u⟩:=(h.below hb).src (by rw[Qk];omega)
     have:=slices_Contains_string b m n c ws ByteArray.empty d (by omega) (by omega) (λj r=>by
      rw[u j (by rw[Qk];omega),Zo,Qr,Qe r];rfl)
     rw[QR (by omega)]at this;exact this
    have i:Hid (zcD ws=if Lib.containsS ws ByteArray.empty then 1 else 0):=by unfold zcD;rw[o,Qf f,Qf a,Qf l];exact hIx rfl
    clear h k a hl;generalize t:Lib.containsS ws ByteArray.empty=q at s i;clear t;cases q
    all_goals
     go_in
     go_wp2_with (first|(go_at_call 92;refine g.out.mono ?_;rintro e d ⟨rfl,hb⟩)|(go_at_call 94;refine(s.out _ hb).mono ?_;rintro e w2 ⟨rfl,rfl⟩));go_ret;exact⟨by rw[i.out];rfl,hb⟩
theorem zgP(A:Option Addr)(c n:Nat)(ws:List ByteArray)(w:World)(b:ws.length=n)(h:Sl w w.heap.size 1 A n (ws.map Value.string))(f:zcD ws≠0):
 Calls prog 48 #[.slice A n c] w λe w'=>e=jC (.tuple #[jD 0 0,jA (zcD ws:Nat)])/\w w':=by
 have a:=hIx (ziZ A c n ws w b h);generalize zcD ws=r at *;clear h
 go_in
 go_wp2_with (go_at_call 66;refine a.out.mono ?_;rintro e d ⟨rfl,hb⟩)
 go_ret2
 exact⟨rfl,hb⟩
theorem zyW:(prog.info? 3).map (λi=>(i.zero,i.size,i.bytes))=some (some (jA 0),1,8):=by kernel_rfl
theorem zqs(A:Option Addr)(n c:Nat)(g:List Value)(w:World)(h:Sl w w.heap.size 1 A n g)(h1:∀u∈g,u.oneCell'=true)(I:n*8<=140737488355328):
 Calls prog 68 #[.slice A n c] w (zz0 3 1 n g w):=by
 obtain⟨E,F,m,r,t⟩:=ZG zyW;have y:=λ(w:World) (a:Option Addr) (n c:Nat)=>Lib.run_eql_slice_nil (P:=prog) w 54 3 a n c 0 0 underlying54
 cases A with
 |none=>
  have hl:=h.len
  have q:g=[]:=by
   rcases Z4 g.length with o|o
   ·exact QA o
   ·obtain⟨b,v,e,_⟩:=h.src o;cases e
  subst q;have x:n=0:=by simp at hl;omega
  subst x
  go_in
  go_wp2;go_ret;exact⟨_,rfl,ZH w _ 3 1,Qi _ _⟩
 |some s=>
  have f:∀j u,g[j]? = some u->w.cell? (s.add j)=some u:=λj u l=>by
   have z:=(Qy.1 l).1;obtain⟨b,v,e,_,G⟩:=h.src (by omega);injection e with e
   subst e;rw[Xz,G j z,<-l,Qe z]
  have d:∀j u,g[j]? = some u->(w.alloc (.cells #[] 3)).cell? (s.add j)=some u:=λj u l=>zaa WaL (f j u l)
  have D:=hIx d;have hl:=h.len;clear h f d
  go_in
  go_wp2_with (at_builtin;refine wpList_append_own _ rfl _ _ 54 rfl w.heap.size 3 E (jA 0) 1 8 underlying54 F m r t rfl (by decide) (.slice w.heap.size 0 0) 0 [] rfl (Xw w #[] 0 (Qd _) (by decide) (by simp)) s n c g rfl hl D.out h1 (by unfold maxLen;omega) (by omega) (by simp) ?_;intro v' H i B _);go_ret;refine⟨_,rfl,by simpa using i,WaL.grown B (by simp) (λk C=>?_)⟩;simp[Value.ownBlock]at C;omega
structure zjh(ws:List ByteArray):Prop where
 few:ws.length<=30
 some:0<ws.length
 short:∀w∈ws,w.size<=40
 full:∀w∈ws,w.size≠0
theorem zcu{ws:List ByteArray}(h:zcD ws=0):zjh ws:=by
 unfold zcD at h
 split at h
 ·omega
 rename_i h1
 split at h
 ·omega
 rename_i h2
 split at h
 ·omega
 rename_i g
 split at h
 ·omega
 rename_i f;have b:anyN (λj=>decide (40<(ws.getD j ByteArray.empty).size)) ws.length=false:=by simpa using h2
 refine⟨by omega,by omega,λw a=>?_,λw a e=>?_⟩
 ·obtain⟨j,c,rfl⟩:=Xd a
  have:=(zet _ _).1 b j c;rw[Qr,Qe c]at this
  simpa using this
 ·have d:w=ByteArray.empty:=ByteArray.ext (Array.eq_empty_of_size_eq_zero e)
  subst d;exact f ((Lib.containsS_iff _ _).2 a)
structure TreeIs(w:World)(lo:Nat)(ws:List ByteArray)(g cap:Nat)(ns:List zaD)(ss:List jE)(ms:List zcK):Prop where
 lev:Lev (lstS ws) 40 ns ss
 few:ns.length<=400
 at_:∃lo2,lo<=lo2/\NodesAt (lstS ws) ss ns lo lo2 g cap ns.length ms w
def zvS(ws:List ByteArray)(w:World)(e:Ending)(w':World):Prop:=
 w w'/\((e=jC (.tuple #[jD 0 0,jA 2])/\Full (lstS ws))\/∃g cap c b a,e=jC (.tuple #[.slice (some ⟨g,0,none⟩) a.length cap,jA 0])/\TreeIs w' w.heap.size ws g cap c b a)
section
variable {ops:Array Oper} {rest:List Oper} {o:Oper} {a:Act} {Q:Exit->Act->World->Prop} {w:World}
theorem zkM(b:o.guard=none)(x y:Operand)(d:o.op=.makeSlice 54 x y)(base n g:Nat)(l:w.heap.size=g)(v:a.eval x=jA (n:Int))(t:a.eval y=jA (n:Int))(A:n<=1048576)(hb:base<=w.heap.size)
 (r:∀w',OwnG rowI w' base (.slice g n n) (List.replicate n 0)->w w'->g<w'.heap.size->wpList prog ops Q rest (a.put o.dst (.slice g n n)) w'):
 wpList prog ops Q (o::rest) a w:=by
 subst l;obtain⟨s,u,c,f,h⟩:=ZG rowI.info;have i:rowI.bytes=8:=rfl;refine wpList_make_full w b x y 54 d base 3 s (jA 0) 1 underlying54 u c f .i64 .i64 _ _ n v t rfl rfl (by rw[h,i];omega) (by unfold maxLen;omega) hb λw' h1 h2=>?_
 rw[Nat.mul_one]at h1;have e:(madeCells (jA 0).cells n).toList=List.replicate n (jA 0):=toList_madeCells_one (jA 0) n;rw[e]at h1
 have k:OwnG rowI w' base (.slice w.heap.size n n) (List.replicate n 0):=by
  unfold OwnG;rw[List.length_replicate]
  have:(List.replicate n 0).flatMap rowI.cells=List.replicate n (jA 0):=by
   have q:∀m:Nat,(List.replicate m 0).flatMap rowI.cells=List.replicate m (jA 0):=λm=>by
    induction m with
    |zero=>rfl
    |succ m ih=>rw[List.replicate_succ,QV,ih,List.replicate_succ];rfl
   exact q n
  rw[this];exact h1
 exact r w' k ⟨h2.os,h2.tape,h2.output,h2.size,λj z=>h2.block j z (by simp)⟩ (k.lt _ rfl).2
end
theorem zr1(ws:List ByteArray)(h:0<ws.length){w:World}{B c b a g:Nat}(hM:Mk w B c b a ws.length g 1 [(⟨0,0,0⟩,none,0,0)] [] (List.replicate ws.length 0)):zs6 w B c b a ws.length ws 0 g 1 [⟨0,0,0⟩] [[]] [] (List.replicate ws.length 0) where
 mkr:=hM
 lev:=zq8 (by intro e;rw[lstS,List.map_eq_nil_iff]at e;rw[e]at h;exact absurd h (by simp))
 ats:=by have:=zvC (ws:=lstS ws);rwa[show (lstS ws).length=ws.length by rw[lstS,Qk]]at this
 next:=NextOk.start
 few:=by simp
theorem zuU{w a w2:World}{n:Nat}(f:w.heap.size<=a.heap.size)(h2:OwnG rowI w2 a.heap.size (.slice (a.heap.size+1+1:) n n) (List.replicate n 0))
 (hb:Below ((a.alloc (.cells #[.int .u8 0,jA 0,jA 0,jD 0 0] 140)).alloc (.map #[] 0)).heap.size ((a.alloc (.cells #[.int .u8 0,jA 0,jA 0,jD 0 0] 140)).alloc (.map #[] 0)) w2):
 Mk (w2.alloc (.cells #[.slice a.heap.size 1 1,.map (some (a.heap.size+1)),.slice (a.heap.size+1+1:) n n] 143)) w.heap.size w2.heap.size (a.heap.size+1) (a.heap.size+1+1) n a.heap.size 1 [(⟨0,0,0⟩,none,0,0)] [] (List.replicate n 0):=by
 have g:=hb.size;simp only[Qp]at g;have e:∀o,w2 (w2.alloc o):=λo=>WaL
 have c:OwnG rowN (a.alloc (.cells #[.int .u8 0,jA 0,jA 0,jD 0 0] 140)) w.heap.size (.slice a.heap.size 1 1) [(⟨0,0,0⟩,none,0,0)]:=
  Xw a #[.int .u8 0,jA 0,jA 0,jD 0 0] 1 f (by decide) rfl
 have b:=(c.below ((Qi _ _).alloc (Qd _) (.map #[] 0))).below hb
 have d:MpAt w2 (a.heap.size+1) []:=by
  refine⟨#[],0,?_,rfl⟩;have h1:=Qv (a.alloc (.cells #[.int .u8 0,jA 0,jA 0,jD 0 0] 140)) (.map #[] 0);rw[Qp]at h1;exact(hb.block _ (by simp)).trans h1
 refine⟨?_,b.below (e _),?_,d.keep ((e _).block _ (by omega)),by omega,by omega⟩
 ·have:=Qv w2 (.cells #[.slice a.heap.size 1 1,.map (some (a.heap.size+1)),.slice (a.heap.size+1+1:) n n] 143)
  rw[List.length_replicate];exact this
 ·rw[List.length_replicate]
  exact(h2.low f).below (e _)
def RelM(ws:List ByteArray)(e b a n:Nat)(w:World)(i:Value)(wr:World):Prop:=
 ∃(k g cap:Nat) (d:List zaD) (c:List jE) (l:List (zaP × Nat)) (ats:List Nat),k<=40/\i=jA (k:Int)/\w wr/\Hid (zs6 wr w.heap.size e b a n ws k g cap d c l ats)
def RelN(ws:List ByteArray)(d:List jE)(b:List zaD)(B g cap:Nat)(a:World)(v:Value)(wr:World):Prop:=
 ∃(i:Nat) (c:List zcK),i<=b.length/\v=jA (i:Int)/\NodesAt (lstS ws) d b B a.heap.size g cap i c wr/\a.grownBy wr (some g)
def RelK(ws:List ByteArray)(e:List Nat)(ats:List Nat)(a:List zcK)(B g cap i:Nat)(b:World)(v:Value)(c:World):Prop:=
 ∃(k:Nat) (s:SlT),k<=ws.length/\v=jA (k:Int)/\NodeNow a B g cap i b (accN (lstS ws) e ats i k) s c
def zeO(ws:List jE)(a:List jE)(i f:Nat):List Nat:=if i=0 then []else zaW ws (a.getD f [])
theorem zha(ws:List jE)(s:jE):(zaW ws s).length<=ws.length:=by
 unfold zaW;exact Ql (Zh _ _) (by simp)
theorem zoJ(ws:List jE)(a:List jE)(i f:Nat):(zeO ws a i f).length<=ws.length:=by
 unfold zeO
 split
 ·exact Qn _
 ·exact zha _ _
theorem zyJ(ws:List jE)(e ats:List Nat)(i k:Nat)(b:e.length<=30)(a:k<=30):(accN ws e ats i k).length<=60:=by
 unfold accN;rw[Qb];have:=Zh (λj=>decide (ats.getD j 0=i/\0<i/\j<ws.length)) (List.range k);rw[List.length_range]at this;omega
theorem NodesAt.src{ws l:List jE}{j:List zaD}{B o g cap i:Nat}{a:List zcK}{w:World}(h:NodesAt ws l j B o g cap i a w)(n:Inv j l)(d:i<a.length):
 ∃(f:Nat) (x:zaD) (m:SlT),j[i]? = some x/\x.fail=f/\f<a.length/\w.cell? ⟨g,i*4+2,none⟩=some (jA (f:Int))/\w.cell? ⟨g,f*4+3,none⟩=some (slV m)/\EndsAt w o m (zeO ws l i f):=by
 have k:j[i]? = some a[i].1:=by rw[<-h.fst,ZP,Qe d];rfl
 have hl:j.length=a.length:=by rw[<-h.fst,Qk]
 have b:a[i].1.fail<a.length/\(0<i->a[i].1.fail<i)/\(i=0->a[i].1.fail=0):=by
  rcases Z4 i with c|c
  ·subst c
   rw[n.zero]at k;have e:a[0].1.fail=0:=by rw[<-QG k]
   exact⟨by omega,λh=>absurd h (by omega),λ_=>e⟩
  ·have:=(n.node i _ c k).2.1
   exact⟨by omega,λ_=>this,λe=>by omega⟩
 have h2:=(h.own.at i d 2 (by decide)).1;have q:=(h.own.at a[i].1.fail b.1 3 (by decide)).1;refine⟨a[i].1.fail,a[i].1,a[a[i].1.fail].2,k,rfl,b.1,h2.trans rfl,q.trans rfl,?_⟩;unfold zeO
 split
 ·rename_i c
  have:=h.rest (a[i].1.fail) _ (by omega) (Qe b.1);rw[this];exact⟨rfl,λh=>absurd h (by simp)⟩
 ·exact h.done _ _ (b.2.1 (by omega)) (Qe b.1)
theorem NodesAt.spot{ws c:List jE}{d:List zaD}{B e g cap i:Nat}{b:List zcK}{w:World}(h:NodesAt ws c d B e g cap i b w)(a:i<b.length):
 (∃u,w.cell? ⟨g,i*4+3,none⟩=some u)/\w.frozen? ⟨g,i*4+3,none⟩=false:=by
 have:=h.own.at i a 3 (by decide);exact⟨⟨_,this.1.trans rfl⟩,this.2⟩
theorem NodeNow.spot{b:List zcK}{B g cap i:Nat}{d w:World}{c:List Nat}{s:SlT}(h:NodeNow b B g cap i d c s w)(e:i<b.length):
 w.cell? ⟨g,i*4+3,none⟩=some (slV s)/\w.frozen? ⟨g,i*4+3,none⟩=false:=by
 have a:(b.set i ((b.getD i (⟨0,0,0⟩,none,0,0)).1,s)).length=b.length:=Xf ..;have h1:=h.own;rw[<-a]at h1;have:=h1.at i (by rw[a];exact e) 3 (by decide);rw[List.getElem_set_self]at this;exact⟨this.1.trans rfl,this.2⟩
theorem zyZ{w:World}{b:Nat}{s:SlT}{l:List Nat}(h:OwnG rowI w b (slV s) l):s.2.1=l.length:=by
 obtain⟨A,c,e,_⟩:=h.form;injection e
theorem ztS{ws:List ByteArray}(j:zjh ws){a:List jE}{h:List zaD}{ats:List Nat}{i f:Nat}{x:zaD}(hl:Lev (lstS ws) 40 h a)(q:AtOk (lstS ws) 40 a ats)(n:h[i]? = some x)(m:x.fail=f):
 zft (accN (lstS ws) (zeO (lstS ws) a i f) ats i ws.length)=zaW (lstS ws) (a.getD i []):=by
 have g:(lstS ws).length=ws.length:=by rw[lstS,Qk]
 rcases Z4 i with c|c
 ·subst c
  have o:accN (lstS ws) (zeO (lstS ws) a 0 f) ats 0 ws.length=[]:=by
   unfold accN zeO;rw[Qj rfl,List.nil_append,List.filter_eq_nil_iff];intro k _;simp
  have l:a.getD 0 []=[]:=by rw[Qr,hl.inv.trie.root];rfl
  rw[o,l,zmy]
  ·unfold zft
   rw[ZE,List.mergeSort_nil]
   rfl
  ·intro w b
   obtain⟨v,d,rfl⟩:=QS.1 b;intro e;exact j.full v d (by have:=Zm List.length e;simpa using this)
 ·have:=zsH hl (λw b=>by
   obtain⟨v,d,rfl⟩:=QS.1 b;have:=j.short v d
   simpa using this) q c n
  rw[m,g]at this;unfold zeO;rw[Qf (by omega)];exact this
theorem zmr(v:zwI)(A:Option Addr)(c n:Nat)(ws:List ByteArray)(w:World)(O:ws.length=n)(h:Sl w w.heap.size 1 A n (ws.map Value.string))(h0:zcD ws=0):
 Calls prog 48 #[.slice A n c] w (zvS ws w):=by
 have hG:=hIx (zcu h0);have HC:=hIx (ziZ A c n ws w O h);rw[h0]at HC;have HS:=hIx h;have gc:n<=30:=by rw[<-O];exact hG.out.few
 have gk:0<n:=by rw[<-O];exact hG.out.some
 have g9:=hIx v;have g2:=@run_makeMap prog;clear h h0 v
 go_in
 go_wp2_with (first|(go_at_call 66;refine HC.out.mono ?_;rintro e N ⟨rfl,F⟩)|(at_make;refine zkM rfl _ _ rfl N.heap.size n (N.heap.size+1+1) (by simp) rfl rfl (by omega) (by simp;omega) ?_;intro w2 ha o hZ));have hh:=zuU F.size ha o
 have hE:w (w2.alloc (.cells #[.slice N.heap.size 1 1,.map (some (N.heap.size+1)),.slice (N.heap.size+1+1:) n n] 143)):=by
  have hz:=F.size;have hs:=o.size;simp only[Qp]at hs;exact((((F.alloc hz _).alloc (by simp;omega) _).trans (o.mono (by simp;omega))).alloc (by omega) _)
 have S:=hIx (zr1 ws (by omega) (by rw[O];exact hh));rw[O]at S;clear g2 hh o ha hZ F;generalize w2.heap.size=J at *;generalize N.heap.size+1+1=I at *;generalize N.heap.size+1=bm at *;generalize N.heap.size=gn at *;generalize w2.alloc _=W at *
 go_loopw [24] (λi wr=>RelM ws J bm I n w i wr) (λi _=>40-(intOf i).toNat)
 case atStart=>exact⟨0,_,_,_,_,_,_,by omega,rfl,hE,S⟩
 case round=>
  obtain⟨k,g,cap,B,y,l,ats,hk,rfl,hb,t⟩:=hrel;clear hE S HC
  by_cases g1:k<40
  ·have hd:decide ((k:Int)<40)=true:=by simp;omega
   have C:=hIx (g9.out ws k g1 (by omega) (by omega) A c w.heap.size J bm I n g cap B y l ats wr (by rw[O];exact HS.out.below hb) t.out);rw[O]at C;go_wp2_with (go_at_call 67;apply Hid.out);refine WhM C ?_;rintro e w3 ⟨hw,⟨rfl,h8⟩|⟨rfl,g3,h9,hK,g8,l3,hf,hP⟩⟩
   ·go_wp2
    go_ret2
    exact⟨hb.trans hw,.inl ⟨rfl,h8⟩⟩
   ·go_wp2
    exact⟨⟨k+1,g3,h9,hK,g8,l3,hf,by omega,rfl,hb.trans hw,hIx hP⟩,by simp[intOf] <;> omega⟩
  ·have hA:k=40:=by omega
   rw[hA]at t;have hd:decide ((k:Int)<40)=false:=by simp;omega
   clear hA;obtain⟨Z,rfl⟩:∃Z:World,Z=wr:=⟨_,rfl⟩
   obtain⟨X,_,U,_⟩:=t.out.mkr.cells;have ho:=t.out.mkr.lt;have E:=t.out.mkr.ne;have ge:=hIx t.out.mkr.blk;rw[Qk]at X;have hT:ats.length=n:=by have:=t.out.ats.len;rw[this,lstS,Qk,O]
   rw[hT]at U;go_wp2
   go_loopw [38] (λi wr=>RelN ws y B w.heap.size g cap Z i wr) (λi _=>B.length-(intOf i).toNat)
   case atStart=>
    refine⟨0,B.map nilE,Qn _,rfl,⟨t.out.mkr.own,zoD B,λj m h=>absurd h (by omega),λj m _ hm=>?_⟩,⟨rfl,rfl,rfl,Qd _,λ_ _ _=>rfl⟩⟩;rw[ZP]at hm;obtain⟨x,_,rfl⟩:=XG.1 hm
    rfl
   case round=>
    obtain⟨i,ms,hi,rfl,P,Q⟩:=hrel;have hV:ms.length=B.length:=by rw[<-P.fst,Qk]
    have gd:=t.out.few;have hp:wr.heap[J]? = Z.heap[J]? := Q.block J ho.1 (λe=>E.1 (QG e));have hS:wr.heap[I]? = Z.heap[I]? := Q.block I ho.2.2.1 (λe=>E.2.2.2.1 (QG e).symm);have hB:=(zeh hp 0).trans X;have V:=(zeh hp 2).trans U;clear X U
    by_cases gs:i<B.length
    ·have b:i<ms.length:=by omega
     obtain⟨f,x,sf,hx,hX,gj,hg,h3,z⟩:=P.src t.out.lev.inv b;obtain⟨⟨u,r⟩,h5⟩:=P.spot b;have g0:=Q.size;have G:=zqs sf.1 sf.2.1 sf.2.2 _ wr.drew (z.sl.drewN 1) (λu hu=>by obtain⟨x,_,h⟩:=List.mem_flatMap.1 hu;exact rowI.one x u h) (by rw[z.1];have:=zoJ (lstS ws) y i f;rw[show (lstS ws).length=ws.length by rw[lstS,Qk]]at this;omega);rw[z.1]at G;obtain⟨A1,n1,c1⟩:=sf;obtain rfl:n1=(zeO (lstS ws) y i f).length:=z.1;dsimp only at G;have hH:=hIx G;have HN:=hIx P;have T:=hIx Q;have gg:(f:Int)<(B.length:Int):=by omega
     unfold slV at h3;clear G z P Q;go_upto_region 15 with fail
     go_cut [8]from 47 to 61 (λs8 wx=>s8=.pointer (some ⟨g,i*4,none⟩)/\∃s:SlT,Hid (NodeNow ms w.heap.size g cap i wr (zeO (lstS ws) y i f) s wx))
     case first=>
      go_region_with (first|(go_at_call 68;(with_reducible refine(hH.out).mono ?_);rintro e w2 ⟨v2,rfl,hW,o⟩;have hD:OwnG rowI w2 wr.heap.size v2 (zeO (lstS ws) y i f):=hW;obtain⟨A2,c2,rfl,_⟩:=hD.form;have hR:=zaa o r;have hJ:=zaw o r h5))
      all_goals
       clear hR hJ hB V hg h3 r h5;go_wp2;go_meet;exact⟨rfl,(A2,_,c2),hIx (NodeNow.start HN.out b (by omega) hD (undrew o))⟩
     case rest=>
      obtain⟨rfl,s0,H⟩:=hcut;obtain⟨wx,rfl⟩:∃wx:World,wx=wc:=⟨_,rfl⟩
      clear hg h3 r h5 u hH;have h4:=H.out.only;have ht:wx.heap[J]? = wr.heap[J]? := h4.block J (by omega) (λe=>E.1 (QG e));have gf:=(zeh ht 2).trans V;clear hB V;obtain⟨w0,rfl⟩:∃w0:World,w0=wr:=⟨_,rfl⟩
      go_wp2
      go_loopw [67] (λi' wq=>RelK ws (zeO (lstS ws) y i f) ats ms w.heap.size g cap i w0 i' wq) (λi' _=>n-(intOf i').toNat)
      case atStart=>exact⟨0,s0,Qn _,rfl,by unfold accN;rw[List.range_zero,List.filter_nil,QO];exact H.out⟩
      case round=>
       obtain⟨q,s,hq,rfl,D⟩:=hrel;obtain⟨A5,n5,c5⟩:=s;obtain rfl:n5=_:=zyZ D.row;have r:=D.spot b;unfold slV at r;dsimp only at r;obtain⟨hC,hY⟩:=r;have L:wr.heap[I]? = Z.heap[I]? := (D.only.block I (by omega) (λe=>E.2.2.2.1 (QG e).symm)).trans hS;have hv:=zyJ (lstS ws) (zeO (lstS ws) y i f) ats i q (by have:=zoJ (lstS ws) y i f;rw[show (lstS ws).length=ws.length by rw[lstS,Qk]]at this;omega) (by omega)
       by_cases gp:q<n
       ·have g5:=(zeh L q).trans (t.out.mkr.at q (by omega)).1
        have d:=hIx (zrd (lstS ws) (zeO (lstS ws) y i f) ats i q (by rw[lstS,Qk];omega));rw[show ats.getD q 0=ats[q]'(by omega)by rw[Qr,Qe (by omega)];rfl]at d;have C:=hIx D;have gi:=D.only.size;clear D L;generalize ats[q]'(by omega)=a at g5 d;generalize accN (lstS ws) (zeO (lstS ws) y i f) ats i q=Y at *
        by_cases hc:a=i
        ·subst hc
         by_cases hF:0<a
         ·rw[Qj ⟨rfl,hF⟩]at d
          go_wp2_with (at_builtin;refine zaL rowI rfl _ _ rfl w0.heap.size _ Y rfl C.out.row (by omega) _ q rfl wr.heap.size rfl 1 rfl (by omega) ?_;intro v4 w4 hy h7 gr gq;obtain⟨g4,c4,rfl,_,_⟩:=hy.head (by simp);have gl:=(h7.cell (p:=⟨g,a*4+3,none⟩) (show g<w0.heap.size by omega)).trans hC;have gh:=(h7.frozen (p:=⟨g,a*4+3,none⟩) (show g<w0.heap.size by omega)).trans hY);exact⟨⟨q+1,(some ⟨g4,0,none⟩,Y.length+1,c4),by omega,rfl,by rw[d.out];exact C.out.add b (by omega) hy h7⟩,by simp[intOf] <;> omega⟩
         ·rw[Qf (λh=>hF h.2)]at d
          obtain rfl:a=0:=by omega
          go_wp2;exact⟨⟨q+1,(A5,_,c5),by omega,rfl,by rw[d.out];exact C.out⟩,by simp[intOf] <;> omega⟩
        ·rw[Qf (λh=>hc h.1)]at d
         have he:((a:Int)==(i:Int))=false:=Qc.2 (by omega);go_wp2;exact⟨⟨q+1,(A5,_,c5),by omega,rfl,by rw[d.out];exact C.out⟩,by simp[intOf] <;> omega⟩
       ·have e5:q=ws.length:=by omega
        rw[e5]at D hC hv;clear e5;have g7:=ztS hG.out t.out.lev t.out.ats hx hX;have h6:=hIx (ztN D.row (by omega));unfold slV at h6;dsimp only at h6;have C:=hIx D;clear D;generalize accN (lstS ws) (zeO (lstS ws) y i f) ats i ws.length=Y at *;go_wp2_with (go_at_call 69;refine h6.out.mono ?_;rintro e w6 ⟨rfl,hI,g6,hr,hU⟩);have K:=NodesAt.next HN.out b g0 (by omega) C.out.own C.out.only hI g7 hr hU;exact⟨⟨i+1,_,by omega,rfl,K.1,zay T.out K.2⟩,by simp[intOf] <;> omega⟩
    ·have e6:i=B.length:=by omega
     rw[e6]at P;have HN:=hIx P;have T:=hIx Q;clear P Q e6;go_wp2
     go_ret2
     exact⟨hb.trans ⟨T.out.os,T.out.tape,T.out.output,T.out.size,λj hj=>T.out.block j (Qw hj hb.size) (λe=>by have:=t.out.mkr.base.2.1;have e:=QG e;omega)⟩,.inr ⟨g,cap,B,y,ms,by rw[hV];rfl,⟨t.out.lev,t.out.few,Z.heap.size,hb.size,HN.out⟩⟩⟩
