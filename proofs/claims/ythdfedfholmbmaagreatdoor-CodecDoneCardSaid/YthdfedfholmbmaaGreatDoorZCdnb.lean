/- Texts that the proof shares (each declaration is a lemma of this layer). -/
import Derived.Test.YthdfedfholmbmaaGreatDoorZCdna
import Derived.Laws.BitsAllLaws
import Derived.Deep.WholeRow
set_option linter.unusedSimpArgs false
set_option linter.unusedVariables false
set_option maxRecDepth 100000
set_option maxHeartbeats 64000000
namespace Go.Proofs.YthdfedfholmbmaaGreatDoor
mutual
def valC : V → List UInt8
 | .mk k b n t ks l=>UInt8.ofNat k.toNat :: (if k = 1 then [if b then 1 else 0] else if k = 2 then numB (zzN n) else if k = 3 then textC t else if k = 4 then numB l.length ++ valsC l else if k = 5 then numB l.length ++ kvC ks l else if k = 6 ∨ k = 7 then numB (toU n) else [])
def valsC : List V → List UInt8
 | []=>[]
 | a :: x=>valC a ++ valsC x
def kvC : List (List UInt8) → List V → List UInt8
 | _,[]=>[]
 | [],a :: x=>valC a ++ kvC [] x
 | s :: ks,a :: x=>textC s ++ valC a ++ kvC ks x
end
theorem valsC_eq : ∀ l : List V,valsC l = l.flatMap valC
 | []=>rfl
 | a :: x=>by rw [valsC,List.flatMap_cons,valsC_eq x]
theorem kvC_eq : ∀ (ks : List (List UInt8)) (l : List V),ks.length = l.length → kvC ks l = (ks.zip l).flatMap fun p=>textC p.1 ++ valC p.2
 | [],[],_=>by simp [kvC]
 | [],_ :: _,h=>by simp at h
 | _ :: _,[],h=>by simp at h
 | s :: ks,a :: x,h=>by
   rw [kvC,List.zip_cons_cons,List.flatMap_cons,kvC_eq ks x (by simpa using h)]
theorem valC_pos (v : V) : 0 < (valC v).length:=by cases v;rw [valC];simp
def rdBool : List UInt8 → Option (V × List UInt8)
 | []=>none
 | x :: s=>if x.toNat < 2 then some (.mk 1 (x.toNat == 1) 0 [] [] [],s) else none
def rdVal : Nat → List UInt8 → Option (V × List UInt8)
 | 0,_=>none
 | _ + 1,[]=>none
 | d + 1,c :: r =>
   if c.toNat = 0 then some (.mk 0 false 0 [] [] [],r)
   else if c.toNat = 1 then rdBool r
   else if c.toNat = 2 then (rdN 0 0 r).map fun p=>(.mk 2 false (unzz p.1) [] [] [],p.2)
   else if c.toNat = 3 then (Kba r).map fun p=>(.mk 3 false 0 p.1 [] [],p.2)
   else if c.toNat = 4 then (Ka2 (rdVal d) r).map fun p=>(.mk 4 false 0 [] [] p.1,p.2)
   else if c.toNat = 5 then (Ka2 (Dec.seq Kba (rdVal d)) r).map fun p=>(.mk 5 false 0 [] (p.1.map Prod.fst) (p.1.map Prod.snd),p.2)
   else if c.toNat = 6 ∨ c.toNat = 7 then (rdN 0 0 r).map fun p=>(.mk (c.toNat : Int) false (toI p.1) [] [] [],p.2)
   else none
def wfV : Nat → V → Prop
 | 0,_=>False
 | d + 1,.mk k b n t ks l =>
   (k = 0 ∧ b = false ∧ n = 0 ∧ t = [] ∧ ks = [] ∧ l = []) ∨ (k = 1 ∧ n = 0 ∧ t = [] ∧ ks = [] ∧ l = []) ∨ (k = 2 ∧ b = false ∧ i64T n ∧ t = [] ∧ ks = [] ∧ l = []) ∨
   (k = 3 ∧ b = false ∧ n = 0 ∧ u64T t.length ∧ ks = [] ∧ l = []) ∨ (k = 4 ∧ b = false ∧ n = 0 ∧ t = [] ∧ ks = [] ∧ u64T l.length ∧ ∀ v ∈ l,wfV d v) ∨
   (k = 5 ∧ b = false ∧ n = 0 ∧ t = [] ∧ ks.length = l.length ∧ u64T l.length ∧ (∀ s ∈ ks,u64T s.length) ∧ ∀ v ∈ l,wfV d v) ∨ ((k = 6 ∨ k = 7) ∧ b = false ∧ i64T n ∧ t = [] ∧ ks = [] ∧ l = [])
theorem zip_maps {α β : Type} : ∀ l : List (α × β),(l.map Prod.fst).zip (l.map Prod.snd) = l
 | []=>rfl
 | a :: l=>by rw [List.map_cons,List.map_cons,List.zip_cons_cons,zip_maps l]
theorem zip_fst {α β : Type} : ∀ (a : List α) (b : List β),a.length = b.length → (a.zip b).map Prod.fst = a ∧ (a.zip b).map Prod.snd = b
 | [],[],_=>⟨rfl,rfl⟩
 | [],_ :: _,h=>by simp at h
 | _ :: _,[],h=>by simp at h
 | x :: a,y :: b,h=>by
   obtain ⟨h1,h2⟩:=zip_fst a b (by simpa using h)
   simp only [List.zip_cons_cons,List.map_cons,h1,h2]
   exact ⟨trivial,trivial⟩
theorem mem_zip {α β : Type} {a : List α} {b : List β} {p : α × β} (h : p ∈ a.zip b) : p.1 ∈ a ∧ p.2 ∈ b:=by
 cases p;exact ⟨(List.of_mem_zip h).1,(List.of_mem_zip h).2⟩
theorem rt_val : ∀ d,RT (rdVal d) valC (wfV d)
 | 0=>⟨fun x r h=>h.elim,fun b x r h=>by rw [rdVal] at h;cases h⟩
 | d + 1=>by
   have ih:=rt_val d
   have hl:=Kfc ih (fun x _=>valC_pos x)
   have hm:=Kfc (Ke8.seq ih) (fun x _=>by have:=valC_pos x.2;rw [List.length_append];omega)
   refine ⟨fun v r h=>?_,fun b v r h=>?_⟩
   ·cases v with
    | mk k b n t ks l =>
      rw [wfV] at h
      rcases h with ⟨rfl,rfl,rfl,rfl,rfl,rfl⟩ | ⟨rfl,rfl,rfl,rfl,rfl⟩ | ⟨rfl,rfl,h1,rfl,rfl,rfl⟩ | ⟨rfl,rfl,rfl,h1,rfl,rfl⟩ | ⟨rfl,rfl,rfl,rfl,rfl,h1,h2⟩ | ⟨rfl,rfl,rfl,rfl,h1,h2,h3,h4⟩ | ⟨hk,rfl,h1,rfl,rfl,rfl⟩
      ·rw [valC,if_neg (by decide),if_neg (by decide),if_neg (by decide),if_neg (by decide),if_neg (by decide),if_neg (by decide)];rfl
      ·rw [valC,if_pos rfl];cases b <;> rfl
      ·rw [valC,if_neg (by decide),if_pos rfl,List.cons_append,rdVal,if_neg (by decide),if_neg (by decide),if_pos (by decide),Kcu.full _ r (un_zz h1).1,Option.map_some,(un_zz h1).2]
      ·rw [valC,if_neg (by decide),if_neg (by decide),if_pos rfl,List.cons_append,rdVal,if_neg (by decide),if_neg (by decide),if_neg (by decide),if_pos (by decide),Ke8.full _ r h1,Option.map_some]
      ·rw [valC,if_neg (by decide),if_neg (by decide),if_neg (by decide),if_pos rfl,valsC_eq,List.cons_append,rdVal,if_neg (by decide),if_neg (by decide),if_neg (by decide),if_neg (by decide),if_pos (by decide)]
       have:=hl.full l r ⟨h1,h2⟩
       unfold rowsC at this
       rw [this,Option.map_some]
      ·rw [valC,if_neg (by decide),if_neg (by decide),if_neg (by decide),if_neg (by decide),if_pos rfl,kvC_eq ks l h1,List.cons_append,rdVal,if_neg (by decide),if_neg (by decide),if_neg (by decide),if_neg (by decide),if_neg (by decide),if_pos (by decide)]
       have hz : (ks.zip l).length = l.length:=by simp;omega
       have:=hm.full (ks.zip l) r ⟨by rw [hz];exact h2,fun p hp=>⟨h3 _ (mem_zip hp).1,h4 _ (mem_zip hp).2⟩⟩
       unfold rowsC at this
       rw [hz] at this
       rw [this,Option.map_some,(zip_fst ks l h1).1,(zip_fst ks l h1).2]
      ·have hn : u64T (toU n) ∧ toI (toU n) = n:=Kb8 h1
       rcases hk with rfl | rfl
       ·rw [valC,if_neg (by decide),if_neg (by decide),if_neg (by decide),if_neg (by decide),if_neg (by decide),if_pos (by decide),List.cons_append,rdVal,if_neg (by decide),if_neg (by decide),if_neg (by decide),if_neg (by decide),if_neg (by decide),if_neg (by decide),if_pos (by decide),Kcu.full _ r hn.1,Option.map_some,hn.2]
        rfl
       ·rw [valC,if_neg (by decide),if_neg (by decide),if_neg (by decide),if_neg (by decide),if_neg (by decide),if_pos (by decide),List.cons_append,rdVal,if_neg (by decide),if_neg (by decide),if_neg (by decide),if_neg (by decide),if_neg (by decide),if_neg (by decide),if_pos (by decide),Kcu.full _ r hn.1,Option.map_some,hn.2]
        rfl
   ·cases b with
    | nil=>rw [rdVal] at h;cases h
    | cons c s =>
      have hc : ∀ k : Nat,c.toNat = k → c = UInt8.ofNat k:=fun k e=>UInt8.toNat_inj.1 (by rw [Kcl (by have:=c.toNat_lt;omega)];exact e)
      rw [rdVal] at h
      split at h
      ·rename_i e
       cases h
       refine ⟨?_,by rw [wfV];exact .inl ⟨rfl,rfl,rfl,rfl,rfl,rfl⟩⟩
       rw [valC,if_neg (by decide),if_neg (by decide),if_neg (by decide),if_neg (by decide),if_neg (by decide),if_neg (by decide),hc 0 e];rfl
      ·split at h
       ·rename_i e
        cases s with
        | nil=>rw [rdBool] at h;cases h
        | cons x s' =>
          rw [rdBool] at h
          split at h
          ·rename_i hx
           cases h
           refine ⟨?_,by rw [wfV];exact .inr (.inl ⟨rfl,rfl,rfl,rfl,rfl⟩)⟩
           rw [valC,if_pos rfl,hc 1 e]
           have hx2 : x.toNat = 0 ∨ x.toNat = 1:=by omega
           rcases hx2 with hx2 | hx2
           ·have : x = 0:=UInt8.toNat_inj.1 hx2
            subst this;rfl
           ·have : x = 1:=UInt8.toNat_inj.1 hx2
            subst this;rfl
          ·cases h
       ·split at h
        ·rename_i e
         obtain ⟨⟨m,s'⟩,hd,he⟩:=Option.map_eq_some_iff.1 h
         cases he
         obtain ⟨h1,h2⟩:=Kcu.sound _ _ _ hd
         obtain ⟨h3,h4⟩:=zz_un h2
         refine ⟨?_,by rw [wfV];exact .inr (.inr (.inl ⟨rfl,rfl,h3,rfl,rfl,rfl⟩))⟩
         rw [valC,if_neg (by decide),if_pos rfl,h4,hc 2 e,h1];rfl
        ·split at h
         ·rename_i e
          obtain ⟨⟨m,s'⟩,hd,he⟩:=Option.map_eq_some_iff.1 h
          cases he
          obtain ⟨h1,h2⟩:=Ke8.sound _ _ _ hd
          refine ⟨?_,by rw [wfV];exact .inr (.inr (.inr (.inl ⟨rfl,rfl,rfl,h2,rfl,rfl⟩)))⟩
          rw [valC,if_neg (by decide),if_neg (by decide),if_pos rfl,hc 3 e,h1];rfl
         ·split at h
          ·rename_i e
           obtain ⟨⟨m,s'⟩,hd,he⟩:=Option.map_eq_some_iff.1 h
           cases he
           obtain ⟨h1,h2,h3⟩:=hl.sound _ _ _ hd
           refine ⟨?_,by rw [wfV];exact .inr (.inr (.inr (.inr (.inl ⟨rfl,rfl,rfl,rfl,rfl,h2,h3⟩))))⟩
           rw [valC,if_neg (by decide),if_neg (by decide),if_neg (by decide),if_pos rfl,valsC_eq,hc 4 e,h1]
           unfold rowsC;rfl
          ·split at h
           ·rename_i e
            obtain ⟨⟨m,s'⟩,hd,he⟩:=Option.map_eq_some_iff.1 h
            cases he
            obtain ⟨h1,h2,h3⟩:=hm.sound _ _ _ hd
            have hlen : (m.map Prod.fst).length = (m.map Prod.snd).length:=by simp
            refine ⟨?_,by
             rw [wfV]
             refine .inr (.inr (.inr (.inr (.inr (.inl ⟨rfl,rfl,rfl,rfl,hlen,by simpa using h2,fun s hs=>?_,fun v hv=>?_⟩)))))
             ·obtain ⟨p,hp,rfl⟩:=List.mem_map.1 hs;exact (h3 p hp).1
             ·obtain ⟨p,hp,rfl⟩:=List.mem_map.1 hv;exact (h3 p hp).2⟩
            rw [valC,if_neg (by decide),if_neg (by decide),if_neg (by decide),if_neg (by decide),if_pos rfl,kvC_eq _ _ hlen,zip_maps,hc 5 e,h1]
            unfold rowsC
            rw [List.length_map];rfl
           ·split at h
            ·rename_i e
             obtain ⟨⟨m,s'⟩,hd,he⟩:=Option.map_eq_some_iff.1 h
             cases he
             obtain ⟨h1,h2⟩:=Kcu.sound _ _ _ hd
             obtain ⟨h3,h4⟩:=toU_toI h2
             refine ⟨?_,by rw [wfV];exact .inr (.inr (.inr (.inr (.inr (.inr ⟨by omega,rfl,h3,rfl,rfl,rfl⟩)))))⟩
             have hk : ((c.toNat : Nat) : Int) = 6 ∨ ((c.toNat : Nat) : Int) = 7:=by omega
             rw [valC,if_neg (by omega),if_neg (by omega),if_neg (by omega),if_neg (by omega),if_neg (by omega),if_pos hk,h4,h1,Int.toNat_natCast,← hc _ rfl];rfl
            ·cases h
structure PropD where
 key : List UInt8
 val : V
structure NodeD where
 id : Int
 labels : List (List UInt8)
 props : List PropD
structure RelD where
 id : Int
 src : Int
 dst : Int
 type : List UInt8
 props : List PropD
structure GraphD where
 nodes : List NodeD
 rels : List RelD
 nextNode : Int
 nextRel : Int
structure ChangeD where
 kind : Int
 id : Int
 other : Int
 node : NodeD
 rel : RelD
def node0 : NodeD:=⟨0,[],[]⟩
def rel0 : RelD:=⟨0,0,0,[],[]⟩
def propC (p : PropD) : List UInt8:=textC p.key ++ valC p.val
def Keo : Dec PropD:=Dec.map (fun p=>⟨p.1,p.2⟩) (Dec.seq Kba (rdVal 64))
def wfP (p : PropD) : Prop:=u64T p.key.length ∧ wfV 64 p.val
theorem rt_prop : RT Keo propC wfP:=by
 have h:=(Ke8.seq (rt_val 64))
 exact h.map (Q:=wfP) (fun p=>(⟨p.1,p.2⟩ : PropD)) (fun (p : PropD)=>(p.key,p.val)) (fun x hx=>⟨hx,rfl⟩) (fun y hy=>⟨hy,rfl⟩)
theorem propC_pos (p : PropD) : 0 < (propC p).length:=by unfold propC;rw [List.length_append];have:=valC_pos p.val;omega
theorem textC_pos (s : List UInt8) : 0 < (textC s).length:=by unfold textC;rw [List.length_append];have:=numB_pos s.length;omega
def rdProps : Dec (List PropD):=Ka2 Keo
def wfPs (l : List PropD) : Prop:=u64T l.length ∧ ∀ p ∈ l,wfP p
theorem rt_props : RT rdProps (rowsC propC) wfPs:=Kfc rt_prop fun p _=>propC_pos p
def wfLs (l : List (List UInt8)) : Prop:=u64T l.length ∧ ∀ s ∈ l,u64T s.length
theorem rt_labels : RT (Ka2 Kba) (rowsC textC) wfLs:=Kfc Ke8 fun s _=>textC_pos s
def nodeC (n : NodeD) : List UInt8:=numB (toU n.id) ++ (rowsC textC n.labels ++ rowsC propC n.props)
def Ke4 : Dec NodeD:=Dec.map (fun p=>⟨p.1,p.2.1,p.2.2⟩) (Dec.seq (Dec.map toI (rdN 0 0)) (Dec.seq (Ka2 Kba) rdProps))
def wfN (n : NodeD) : Prop:=i64T n.id ∧ wfLs n.labels ∧ wfPs n.props
theorem rt_node : RT Ke4 nodeC wfN:=by
 have h:=(rt_int.seq (rt_labels.seq rt_props))
 exact h.map (Q:=wfN) (fun p=>(⟨p.1,p.2.1,p.2.2⟩ : NodeD)) (fun (n : NodeD)=>(n.id,n.labels,n.props)) (fun x hx=>⟨hx,rfl⟩) (fun y hy=>⟨hy,rfl⟩)
theorem nodeC_pos (n : NodeD) : 0 < (nodeC n).length:=by unfold nodeC;rw [List.length_append];have:=numB_pos (toU n.id);omega
def relC (r : RelD) : List UInt8:=numB (toU r.id) ++ (numB (toU r.src) ++ (numB (toU r.dst) ++ (textC r.type ++ rowsC propC r.props)))
def rdRel : Dec RelD:=Dec.map (fun p=>⟨p.1,p.2.1,p.2.2.1,p.2.2.2.1,p.2.2.2.2⟩) (Dec.seq (Dec.map toI (rdN 0 0)) (Dec.seq (Dec.map toI (rdN 0 0)) (Dec.seq (Dec.map toI (rdN 0 0)) (Dec.seq Kba rdProps))))
def wfR (r : RelD) : Prop:=i64T r.id ∧ i64T r.src ∧ i64T r.dst ∧ u64T r.type.length ∧ wfPs r.props
theorem rt_rel : RT rdRel relC wfR:=by
 have h:=(rt_int.seq (rt_int.seq (rt_int.seq (Ke8.seq rt_props))))
 exact h.map (Q:=wfR) (fun p=>(⟨p.1,p.2.1,p.2.2.1,p.2.2.2.1,p.2.2.2.2⟩ : RelD)) (fun (r : RelD)=>(r.id,r.src,r.dst,r.type,r.props)) (fun x hx=>⟨hx,rfl⟩) (fun y hy=>⟨hy,rfl⟩)
theorem relC_pos (r : RelD) : 0 < (relC r).length:=by unfold relC;rw [List.length_append];have:=numB_pos (toU r.id);omega
def Kep (g : GraphD) : List UInt8:=rowsC nodeC g.nodes ++ (rowsC relC g.rels ++ (numB (toU g.nextNode) ++ numB (toU g.nextRel)))
def rdGraph : Dec GraphD:=Dec.map (fun p=>⟨p.1,p.2.1,p.2.2.1,p.2.2.2⟩) (Dec.seq (Ka2 Ke4) (Dec.seq (Ka2 rdRel) (Dec.seq (Dec.map toI (rdN 0 0)) (Dec.map toI (rdN 0 0)))))
def wfG (g : GraphD) : Prop:=(u64T g.nodes.length ∧ ∀ n ∈ g.nodes,wfN n) ∧ (u64T g.rels.length ∧ ∀ r ∈ g.rels,wfR r) ∧ i64T g.nextNode ∧ i64T g.nextRel
theorem rt_graph : RT rdGraph Kep wfG:=by
 have h:=((Kfc rt_node fun n _=>nodeC_pos n).seq ((Kfc rt_rel fun r _=>relC_pos r).seq (rt_int.seq rt_int)))
 exact h.map (Q:=wfG) (fun p=>(⟨p.1,p.2.1,p.2.2.1,p.2.2.2⟩ : GraphD)) (fun (g : GraphD)=>(g.nodes,g.rels,g.nextNode,g.nextRel)) (fun x hx=>⟨hx,rfl⟩) (fun y hy=>⟨hy,rfl⟩)
def Ka9 (c : ChangeD) : List UInt8:=UInt8.ofNat c.kind.toNat :: (if c.kind = 0 then nodeC c.node else if c.kind = 1 then relC c.rel else if c.kind = 4 then numB (zzN c.id) ++ numB (zzN c.other) else numB (zzN c.id))
def Kbt : Dec Int:=Dec.map unzz (rdN 0 0)
def Kbc : List UInt8 → Option (ChangeD × List UInt8)
 | []=>none
 | c :: r =>
   if c.toNat = 0 then (Ke4 r).map fun p=>(⟨0,0,0,p.1,rel0⟩,p.2)
   else if c.toNat = 1 then (rdRel r).map fun p=>(⟨1,0,0,node0,p.1⟩,p.2)
   else if c.toNat = 2 ∨ c.toNat = 3 then (Kbt r).map fun p=>(⟨(c.toNat : Int),p.1,0,node0,rel0⟩,p.2)
   else if c.toNat = 4 then (Dec.seq Kbt Kbt r).map fun p=>(⟨4,p.1.1,p.1.2,node0,rel0⟩,p.2)
   else none
def wfC (c : ChangeD) : Prop :=
 (c.kind = 0 ∧ c.id = 0 ∧ c.other = 0 ∧ wfN c.node ∧ c.rel = rel0) ∨ (c.kind = 1 ∧ c.id = 0 ∧ c.other = 0 ∧ c.node = node0 ∧ wfR c.rel) ∨
 ((c.kind = 2 ∨ c.kind = 3) ∧ i64T c.id ∧ c.other = 0 ∧ c.node = node0 ∧ c.rel = rel0) ∨ (c.kind = 4 ∧ i64T c.id ∧ i64T c.other ∧ c.node = node0 ∧ c.rel = rel0)
theorem rt_change : RT Kbc Ka9 wfC:=by
 have hs2:=rt_signed.seq rt_signed
 refine ⟨fun c r h=>?_,fun b c r h=>?_⟩
 ·obtain ⟨k,i,o,n,q⟩:=c
  unfold wfC at h
  simp only at h
  unfold Ka9
  simp only
  rcases h with ⟨rfl,rfl,rfl,h,rfl⟩ | ⟨rfl,rfl,rfl,rfl,h⟩ | ⟨hk,h,rfl,rfl,rfl⟩ | ⟨rfl,h1,h2,rfl,rfl⟩
  ·rw [if_pos rfl,List.cons_append,Kbc,if_pos (by decide),rt_node.full _ r h];rfl
  ·rw [if_neg (by decide),if_pos rfl,List.cons_append,Kbc,if_neg (by decide),if_pos (by decide),rt_rel.full _ r h];rfl
  ·have:=rt_signed.full i r h
   rcases hk with rfl | rfl
   ·rw [if_neg (by decide),if_neg (by decide),if_neg (by decide),List.cons_append,Kbc,if_neg (by decide),if_neg (by decide),if_pos (by decide)]
    unfold Kbt
    rw [this];rfl
   ·rw [if_neg (by decide),if_neg (by decide),if_neg (by decide),List.cons_append,Kbc,if_neg (by decide),if_neg (by decide),if_pos (by decide)]
    unfold Kbt
    rw [this];rfl
  ·have:=hs2.full (i,o) r ⟨h1,h2⟩
   rw [if_neg (by decide),if_neg (by decide),if_pos rfl,List.cons_append,Kbc,if_neg (by decide),if_neg (by decide),if_neg (by decide),if_pos (by decide)]
   unfold Kbt
   rw [this];rfl
 ·cases b with
  | nil=>rw [Kbc] at h;cases h
  | cons x s =>
    have hc : ∀ k : Nat,x.toNat = k → x = UInt8.ofNat k:=fun k e=>UInt8.toNat_inj.1 (by rw [Kcl (by have:=x.toNat_lt;omega)];exact e)
    rw [Kbc] at h
    split at h
    ·rename_i e
     obtain ⟨⟨m,t⟩,hd,he⟩:=Option.map_eq_some_iff.1 h
     cases he
     obtain ⟨h1,h2⟩:=rt_node.sound _ _ _ hd
     refine ⟨?_,.inl ⟨rfl,rfl,rfl,h2,rfl⟩⟩
     unfold Ka9;rw [if_pos rfl,hc 0 e,h1];rfl
    ·split at h
     ·rename_i e
      obtain ⟨⟨m,t⟩,hd,he⟩:=Option.map_eq_some_iff.1 h
      cases he
      obtain ⟨h1,h2⟩:=rt_rel.sound _ _ _ hd
      refine ⟨?_,.inr (.inl ⟨rfl,rfl,rfl,rfl,h2⟩)⟩
      unfold Ka9;simp only;rw [if_neg (by decide),if_pos trivial,hc 1 e,h1];rfl
     ·split at h
      ·rename_i e
       obtain ⟨⟨m,t⟩,hd,he⟩:=Option.map_eq_some_iff.1 h
       cases he
       obtain ⟨h1,h2⟩:=rt_signed.sound _ _ _ hd
       refine ⟨?_,.inr (.inr (.inl ⟨by simp only;omega,h2,rfl,rfl,rfl⟩))⟩
       unfold Ka9;simp only;rw [if_neg (by omega),if_neg (by omega),if_neg (by omega),h1,Int.toNat_natCast,← hc _ rfl];rfl
      ·split at h
       ·rename_i e
        obtain ⟨⟨m,t⟩,hd,he⟩:=Option.map_eq_some_iff.1 h
        cases he
        obtain ⟨h1,h2⟩:=hs2.sound _ _ _ hd
        refine ⟨?_,.inr (.inr (.inr ⟨rfl,h2.1,h2.2,rfl,rfl⟩))⟩
        unfold Ka9;simp only;rw [if_neg (by decide),if_neg (by decide),if_pos trivial,hc 4 e,h1];rfl
       ·cases h
theorem changeC_pos (c : ChangeD) : 0 < (Ka9 c).length:=by unfold Ka9;simp
def Kbk (l : List ChangeD) : List UInt8:=rowsC Ka9 l
def Kee : Dec (List ChangeD):=Ka2 Kbc
def wfCs (l : List ChangeD) : Prop:=u64T l.length ∧ ∀ c ∈ l,wfC c
theorem rt_changes : RT Kee Kbk wfCs:=Kfc rt_change fun c _=>changeC_pos c
theorem totV_list {v x : V} (h : x ∈ v.list) : totV x ≤ totV v:=by rw [Kes v];have:=Ke3 h;omega
theorem rngV_parts {v : V} (h : rngV v) : (-9223372036854775808 ≤ v.n ∧ v.n ≤ 9223372036854775807) ∧ rngVs v.list:=by cases v;exact rngV_mk.1 h
theorem deep_mem {x : V} : ∀ {l : List V},x ∈ l → deepV x ≤ deepVs l:=by
 intro l h
 induction l with
 | nil=>cases h
 | cons a l ih =>
   rw [deepVs]
   rcases List.mem_cons.1 h with rfl | h
   ·omega
   ·have:=ih h;omega
theorem deep_list {v x : V} (h : x ∈ v.list) : deepV x + 1 ≤ deepV v:=by
 cases v with
 | mk k b n t ks l =>
   have:=deep_mem (l:=l) h
   rw [deepV];omega
theorem wf_of_may {u : List UInt8 → Bool} : ∀ (d : Nat) (v : V),mayV u v = true → deepV v ≤ d → rngV v → totV v < 18446744073709551616 → wfV d v
 | 0,v,_,hd,_,_=>by cases v;rw [deepV] at hd;omega
 | d + 1,v,hm,hd,hr,ht=>by
   obtain ⟨h1,h2⟩:=mayV_iff.1 hm
   have hF:=oneV_iff.1 h1
   have hl : ∀ x ∈ v.list,wfV d x:=fun x hx=>wf_of_may d x (h2 x hx) (by have:=deep_list hx;omega) (rngVs_iff.1 (rngV_parts hr).2 x hx) (by have:=totV_list hx;omega)
   have hn:=(rngV_parts hr).1
   have hT:=Kes v
   have hL:=Kdy v.list
   have hK : ∀ s ∈ v.keys,s.length ≤ (v.keys.map List.length).sum:=fun s hs=>sum_mem hs
   cases v with
   | mk k b n t ks l =>
     obtain ⟨lo,hi,fb,fn,ft,fk,fl,fp,_,flen,_,_⟩:=hF
     simp only [V.kind,V.b,V.n,V.text,V.keys,V.list] at *
     rw [wfV]
     have hk : k = 0 ∨ k = 1 ∨ k = 2 ∨ k = 3 ∨ k = 4 ∨ k = 5 ∨ k = 6 ∨ k = 7:=by omega
     rcases hk with rfl | rfl | rfl | rfl | rfl | rfl | rfl | rfl
     ·exact .inl ⟨rfl,fb (by decide),fn (by decide) (by decide) (by decide),ft (by decide),fk (by decide),fl (by decide) (by decide)⟩
     ·exact .inr (.inl ⟨rfl,fn (by decide) (by decide) (by decide),ft (by decide),fk (by decide),fl (by decide) (by decide)⟩)
     ·exact .inr (.inr (.inl ⟨rfl,fb (by decide),hn,ft (by decide),fk (by decide),fl (by decide) (by decide)⟩))
     ·exact .inr (.inr (.inr (.inl ⟨rfl,fb (by decide),fn (by decide) (by decide) (by decide),by unfold u64T;omega,fk (by decide),fl (by decide) (by decide)⟩)))
     ·exact .inr (.inr (.inr (.inr (.inl ⟨rfl,fb (by decide),fn (by decide) (by decide) (by decide),ft (by decide),fk (by decide),by unfold u64T;omega,hl⟩))))
     ·exact .inr (.inr (.inr (.inr (.inr (.inl ⟨rfl,fb (by decide),fn (by decide) (by decide) (by decide),ft (by decide),flen rfl,by unfold u64T;omega,fun s hs=>by have:=hK s hs;unfold u64T;omega,hl⟩)))))
     ·exact .inr (.inr (.inr (.inr (.inr (.inr ⟨.inl rfl,fb (by decide),hn,ft (by decide),fk (by decide),fl (by decide) (by decide)⟩)))))
     ·exact .inr (.inr (.inr (.inr (.inr (.inr ⟨.inr rfl,fb (by decide),hn,ft (by decide),fk (by decide),fl (by decide) (by decide)⟩)))))
theorem wf_of_check {u : List UInt8 → Bool} {v : V} (h : checkV u v = 0) (hr : rngV v) (ht : totV v < 18446744073709551616) : wfV 64 v:=by
 unfold checkV at h
 split at h
 ·rename_i hm
  split at h
  ·cases h
  ·rename_i hn
   simp only [Bool.or_eq_true,decide_eq_true_eq,not_or] at hn
   exact wf_of_may 64 v hm (by omega) hr ht
 ·cases h
abbrev Rs:=List UInt8 × Bool
def dN : Nat → Nat → List UInt8 → Option (Nat × List UInt8 × Bool)
 | _,_,[]=>none
 | i,a,c :: r=>if 10 ≤ i then none else
   if c.toNat < 128 then some ((a + c.toNat % 128 * 2 ^ (7 * i)) % 18446744073709551616,r,(decide (i = 0) || decide (c.toNat ≠ 0)) && (decide (i < 9) || decide (c.toNat < 2)))
   else dN (i + 1) ((a + c.toNat % 128 * 2 ^ (7 * i)) % 18446744073709551616) r
def docN (s : Rs) : Nat × Rs:=match dN 0 0 s.1 with
 | none=>(0,s.1,true)
 | some (n,r,ok)=>(n,r,s.2 || !ok)
def Kbj (s : Rs) : Nat × Rs:=if (docN s).2.1.length < (docN s).1 then (0,(docN s).2.1,true) else docN s
def Kdg (s : Rs) : List UInt8 × Rs:=((Kbj s).2.1.take (Kbj s).1,(Kbj s).2.1.drop (Kbj s).1,(Kbj s).2.2)
def docInt (s : Rs) : Int × Rs:=(toI (docN s).1,(docN s).2)
def Kbn (s : Rs) : Int × Rs:=(unzz (docN s).1,(docN s).2)
section
variable {α β : Type}
def Kdx (f : Rs → α × Rs) (g : Rs → β × Rs) (s : Rs) : (α × β) × Rs:=(((f s).1,(g (f s).2).1),(g (f s).2).2)
def docMap (u : α → β) (f : Rs → α × Rs) (s : Rs) : β × Rs:=(u (f s).1,(f s).2)
def Kbr (f : Rs → α × Rs) : Nat → Rs → List α × Rs
 | 0,s=>([],s)
 | n + 1,s=>if s.2 then ([],s) else ((f s).1 :: (Kbr f n (f s).2).1,(Kbr f n (f s).2).2)
def Kcs (f : Rs → α × Rs) (s : Rs) : List α × Rs:=Kbr f (Kbj s).1 (Kbj s).2
def DF (f : Rs → α × Rs) (e : α → List UInt8) (P : α → Prop) : Prop:=∀ x r,P x → f (e x ++ r,false) = (x,r,false)
variable {f : Rs → α × Rs} {g : Rs → β × Rs} {e : α → List UInt8} {k : β → List UInt8} {P : α → Prop} {Q : β → Prop}
theorem DF.seq (h : DF f e P) (i : DF g k Q) : DF (Kdx f g) (fun x=>e x.1 ++ k x.2) (fun x=>P x.1 ∧ Q x.2):=fun x r hx=>by
 unfold Kdx
 rw [List.append_assoc,h x.1 _ hx.1]
 simp only
 rw [i x.2 r hx.2]
theorem DF.map (h : DF f e P) (u : α → β) (v : β → α) (h2 : ∀ y,Q y → P (v y) ∧ u (v y) = y) : DF (docMap u f) (fun y=>e (v y)) Q:=fun y r hy=>by
 unfold docMap
 rw [h _ r (h2 y hy).1,(h2 y hy).2]
theorem DF.loop (h : DF f e P) : ∀ (l : List α) (r : List UInt8),(∀ x ∈ l,P x) → Kbr f l.length (l.flatMap e ++ r,false) = (l,r,false)
 | [],r,_=>rfl
 | x :: l,r,hp=>by
   rw [List.length_cons,Kbr,if_neg (by simp),List.flatMap_cons,List.append_assoc,h x _ (hp x (by simp))]
   simp only
   rw [DF.loop h l r fun y hy=>hp y (by simp [hy])]
end
theorem pow_seven (i : Nat) : 2 ^ (7 * i) = (128 : Nat) ^ i:=by rw [Nat.pow_mul]
theorem dN_of : ∀ (b : List UInt8) (i a n : Nat) (r : List UInt8),i ≤ 9 → a < 128 ^ i → rdN i a b = some (n,r) → dN i a b = some (n,r,true)
 | [],i,a,n,r,_,_,h=>by rw [rdN] at h;cases h
 | c :: b,i,a,n,r,hi,ha,h=>by
   have hs:=rdN_sound (c :: b) i a n r hi ha h
   obtain ⟨m,hm,_,_,hb⟩:=hs
   rw [rdN] at h
   have hc:=c.toNat_lt
   rw [dN,if_neg (by omega)]
   have hp:=pow_le hi
   have hp9:=pow9
   split at h
   ·cases h
   ·rename_i h1
    split at h
    ·rename_i h2
     rw [if_pos h2]
     split at h
     ·rename_i h3
      cases h
      rw [pow_seven,Nat.mod_eq_of_lt h2,Nat.mod_eq_of_lt hb]
      congr 3
      simp only [Bool.and_eq_true,Bool.or_eq_true,decide_eq_true_eq]
      omega
     ·cases h
    ·rename_i h2
     rw [if_neg h2]
     have hne : i ≠ 9:=fun e=>by omega
     have ha2 : a + (c.toNat - 128) * 128 ^ i < 128 ^ (i + 1):=by
      rw [Nat.pow_succ]
      have : (c.toNat - 128) * 128 ^ i ≤ 127 * 128 ^ i:=Nat.mul_le_mul_right _ (by omega)
      omega
     have hp1 : (128 : Nat) ^ (i + 1) ≤ 9223372036854775808:=pow_le (by omega)
     have hq : c.toNat % 128 = c.toNat - 128:=by omega
     rw [pow_seven,hq,Nat.mod_eq_of_lt (by omega)]
     exact dN_of b (i + 1) _ n r (by omega) ha2 h
theorem df_num : DF docN numB u64T:=fun n r h=>by
 unfold docN
 simp only
 rw [dN_of _ 0 0 n r (by omega) (by simp) (Kcu.full n r h)]
 rfl
theorem df_int : DF docInt (fun n=>numB (toU n)) i64T:=fun n r h=>by
 unfold docInt
 rw [df_num _ r (Kb8 h).1,(Kb8 h).2]
theorem df_signed : DF Kbn (fun n=>numB (zzN n)) i64T:=fun n r h=>by
 unfold Kbn
 rw [df_num _ r (un_zz h).1,(un_zz h).2]
theorem count_of {n : Nat} {r : List UInt8} (h : u64T n) (hr : n ≤ r.length) : Kbj (numB n ++ r,false) = (n,r,false):=by
 unfold Kbj
 rw [df_num n r h,if_neg (by simp only;omega)]
theorem df_text : DF Kdg textC (fun s=>u64T s.length):=fun s r h=>by
 unfold Kdg textC
 rw [List.append_assoc,count_of h (by simp)]
 simp
theorem df_rows {α : Type} {f : Rs → α × Rs} {e : α → List UInt8} {P : α → Prop} (h : DF f e P) (he : ∀ x,P x → 0 < (e x).length) : DF (Kcs f) (rowsC e) (fun l=>u64T l.length ∧ ∀ x ∈ l,P x):=fun l r hl=>by
 unfold Kcs rowsC
 have:=flat_le he l hl.2
 rw [List.append_assoc,count_of hl.1 (by simp only [List.length_append];omega)]
 exact h.loop l r hl.2
def Kcj : Nat → Rs → V × Rs
 | 0,s=>(.mk 0 false 0 [] [] [],s.1,true)
 | d + 1,s=>match s with
   | ([],_)=>(.mk 0 false 0 [] [] [],[],true)
   | (c :: r,bad)=>if bad = true then (.mk 0 false 0 [] [] [],c :: r,true) else
     if c.toNat = 0 then (.mk 0 false 0 [] [] [],r,false)
     else if c.toNat = 1 then (.mk 1 ((docN (r,false)).1 == 1) 0 [] [] [],(docN (r,false)).2.1,(docN (r,false)).2.2 || decide (1 < (docN (r,false)).1))
     else if c.toNat = 2 then (.mk 2 false (Kbn (r,false)).1 [] [] [],(Kbn (r,false)).2)
     else if c.toNat = 3 then (.mk 3 false 0 (Kdg (r,false)).1 [] [],(Kdg (r,false)).2)
     else if c.toNat = 4 then (.mk 4 false 0 [] [] (Kcs (Kcj d) (r,false)).1,(Kcs (Kcj d) (r,false)).2)
     else if c.toNat = 5 then (.mk 5 false 0 [] ((Kcs (Kdx Kdg (Kcj d)) (r,false)).1.map Prod.fst) ((Kcs (Kdx Kdg (Kcj d)) (r,false)).1.map Prod.snd),(Kcs (Kdx Kdg (Kcj d)) (r,false)).2)
     else if c.toNat = 6 ∨ c.toNat = 7 then (.mk (c.toNat : Int) false (docInt (r,false)).1 [] [] [],(docInt (r,false)).2)
     else (.mk (c.toNat : Int) false 0 [] [] [],r,true)
theorem df_val : ∀ d,DF (Kcj d) valC (wfV d)
 | 0=>fun x r h=>h.elim
 | d + 1=>fun v r h=>by
   have ih:=df_val d
   have hl:=df_rows ih (fun x _=>valC_pos x)
   have hm:=df_rows (df_text.seq ih) (fun x _=>by have:=valC_pos x.2;rw [List.length_append];omega)
   cases v with
   | mk k b n t ks l =>
     rw [wfV] at h
     rcases h with ⟨rfl,rfl,rfl,rfl,rfl,rfl⟩ | ⟨rfl,rfl,rfl,rfl,rfl⟩ | ⟨rfl,rfl,h1,rfl,rfl,rfl⟩ | ⟨rfl,rfl,rfl,h1,rfl,rfl⟩ | ⟨rfl,rfl,rfl,rfl,rfl,h1,h2⟩ | ⟨rfl,rfl,rfl,rfl,h1,h2,h3,h4⟩ | ⟨hk,rfl,h1,rfl,rfl,rfl⟩
     ·rw [valC,if_neg (by decide),if_neg (by decide),if_neg (by decide),if_neg (by decide),if_neg (by decide),if_neg (by decide)];rfl
     ·rw [valC,if_pos rfl]
      cases b
      ·have:=df_num 0 r (by unfold u64T;decide)
       rw [Kdj (by decide)] at this
       have this' : docN ((0 : UInt8) :: r,false) = (0,r,false):=this
       rw [if_neg (by simp),List.cons_append,List.singleton_append,Kcj,if_neg (by simp),if_neg (by decide),if_pos (by decide),this'];rfl
      ·have:=df_num 1 r (by unfold u64T;decide)
       rw [Kdj (by decide)] at this
       have this' : docN ((1 : UInt8) :: r,false) = (1,r,false):=this
       rw [if_pos rfl,List.cons_append,List.singleton_append,Kcj,if_neg (by simp),if_neg (by decide),if_pos (by decide),this'];rfl
     ·rw [valC,if_neg (by decide),if_pos rfl,List.cons_append,Kcj,if_neg (by simp),if_neg (by decide),if_neg (by decide),if_pos (by decide),df_signed _ r h1]
     ·rw [valC,if_neg (by decide),if_neg (by decide),if_pos rfl,List.cons_append,Kcj,if_neg (by simp),if_neg (by decide),if_neg (by decide),if_neg (by decide),if_pos (by decide),df_text _ r h1]
     ·rw [valC,if_neg (by decide),if_neg (by decide),if_neg (by decide),if_pos rfl,valsC_eq,List.cons_append,Kcj,if_neg (by simp),if_neg (by decide),if_neg (by decide),if_neg (by decide),if_neg (by decide),if_pos (by decide)]
      have:=hl l r ⟨h1,h2⟩
      unfold rowsC at this
      rw [this]
     ·rw [valC,if_neg (by decide),if_neg (by decide),if_neg (by decide),if_neg (by decide),if_pos rfl,kvC_eq ks l h1,List.cons_append,Kcj,if_neg (by simp),if_neg (by decide),if_neg (by decide),if_neg (by decide),if_neg (by decide),if_neg (by decide),if_pos (by decide)]
      have hz : (ks.zip l).length = l.length:=by simp;omega
      have:=hm (ks.zip l) r ⟨by rw [hz];exact h2,fun p hp=>⟨h3 _ (mem_zip hp).1,h4 _ (mem_zip hp).2⟩⟩
      unfold rowsC at this
      rw [hz] at this
      rw [this]
      simp only
      rw [(zip_fst ks l h1).1,(zip_fst ks l h1).2]
     ·rcases hk with rfl | rfl
      ·rw [valC,if_neg (by decide),if_neg (by decide),if_neg (by decide),if_neg (by decide),if_neg (by decide),if_pos (by decide),List.cons_append,Kcj,if_neg (by simp),if_neg (by decide),if_neg (by decide),if_neg (by decide),if_neg (by decide),if_neg (by decide),if_neg (by decide),if_pos (by decide),df_int _ r h1]
       rfl
      ·rw [valC,if_neg (by decide),if_neg (by decide),if_neg (by decide),if_neg (by decide),if_neg (by decide),if_pos (by decide),List.cons_append,Kcj,if_neg (by simp),if_neg (by decide),if_neg (by decide),if_neg (by decide),if_neg (by decide),if_neg (by decide),if_neg (by decide),if_pos (by decide),df_int _ r h1]
       rfl
def docProp : Rs → PropD × Rs:=docMap (fun p=>⟨p.1,p.2⟩) (Kdx Kdg (Kcj 64))
theorem df_prop : DF docProp propC wfP:=by
 have h:=df_text.seq (df_val 64)
 exact h.map (Q:=wfP) (fun p=>(⟨p.1,p.2⟩ : PropD)) (fun (p : PropD)=>(p.key,p.val)) (fun y hy=>⟨hy,rfl⟩)
theorem df_props : DF (Kcs docProp) (rowsC propC) wfPs:=df_rows df_prop fun p _=>propC_pos p
theorem df_labels : DF (Kcs Kdg) (rowsC textC) wfLs:=df_rows df_text fun s _=>textC_pos s
def docNode : Rs → NodeD × Rs:=docMap (fun p=>⟨p.1,p.2.1,p.2.2⟩) (Kdx docInt (Kdx (Kcs Kdg) (Kcs docProp)))
theorem df_node : DF docNode nodeC wfN:=by
 have h:=df_int.seq (df_labels.seq df_props)
 exact h.map (Q:=wfN) (fun p=>(⟨p.1,p.2.1,p.2.2⟩ : NodeD)) (fun (n : NodeD)=>(n.id,n.labels,n.props)) (fun y hy=>⟨hy,rfl⟩)
def docRel : Rs → RelD × Rs:=docMap (fun p=>⟨p.1,p.2.1,p.2.2.1,p.2.2.2.1,p.2.2.2.2⟩) (Kdx docInt (Kdx docInt (Kdx docInt (Kdx Kdg (Kcs docProp)))))
theorem df_rel : DF docRel relC wfR:=by
 have h:=df_int.seq (df_int.seq (df_int.seq (df_text.seq df_props)))
 exact h.map (Q:=wfR) (fun p=>(⟨p.1,p.2.1,p.2.2.1,p.2.2.2.1,p.2.2.2.2⟩ : RelD)) (fun (r : RelD)=>(r.id,r.src,r.dst,r.type,r.props)) (fun y hy=>⟨hy,rfl⟩)
def docGraph : Rs → GraphD × Rs:=docMap (fun p=>⟨p.1,p.2.1,p.2.2.1,p.2.2.2⟩) (Kdx (Kcs docNode) (Kdx (Kcs docRel) (Kdx docInt docInt)))
theorem df_graph : DF docGraph Kep wfG:=by
 have h:=(df_rows df_node fun n _=>nodeC_pos n).seq ((df_rows df_rel fun r _=>relC_pos r).seq (df_int.seq df_int))
 exact h.map (Q:=wfG) (fun p=>(⟨p.1,p.2.1,p.2.2.1,p.2.2.2⟩ : GraphD)) (fun (g : GraphD)=>(g.nodes,g.rels,g.nextNode,g.nextRel)) (fun y hy=>⟨hy,rfl⟩)
def Ka3 : Rs → ChangeD × Rs
 | ([],bad)=>(⟨0,0,0,node0,rel0⟩,[],true)
 | (c :: r,bad) =>
   if c.toNat = 0 then (⟨0,0,0,(docNode (r,bad)).1,rel0⟩,(docNode (r,bad)).2)
   else if c.toNat = 1 then (⟨1,0,0,node0,(docRel (r,bad)).1⟩,(docRel (r,bad)).2)
   else if c.toNat = 2 ∨ c.toNat = 3 then (⟨(c.toNat : Int),(Kbn (r,bad)).1,0,node0,rel0⟩,(Kbn (r,bad)).2)
   else if c.toNat = 4 then (⟨4,(Kbn (r,bad)).1,(Kbn (Kbn (r,bad)).2).1,node0,rel0⟩,(Kbn (Kbn (r,bad)).2).2)
   else (⟨(c.toNat : Int),0,0,node0,rel0⟩,r,true)
theorem df_change : DF Ka3 Ka9 wfC:=fun c r h=>by
 obtain ⟨k,i,o,n,q⟩:=c
 unfold wfC at h
 simp only at h
 unfold Ka9
 simp only
 rcases h with ⟨rfl,rfl,rfl,h,rfl⟩ | ⟨rfl,rfl,rfl,rfl,h⟩ | ⟨hk,h,rfl,rfl,rfl⟩ | ⟨rfl,h1,h2,rfl,rfl⟩
 ·rw [if_pos rfl,List.cons_append,Ka3,if_pos (by decide),df_node _ r h]
 ·rw [if_neg (by decide),if_pos rfl,List.cons_append,Ka3,if_neg (by decide),if_pos (by decide),df_rel _ r h]
 ·have:=df_signed i r h
  rcases hk with rfl | rfl
  ·rw [if_neg (by decide),if_neg (by decide),if_neg (by decide),List.cons_append,Ka3,if_neg (by decide),if_neg (by decide),if_pos (by decide),this];rfl
  ·rw [if_neg (by decide),if_neg (by decide),if_neg (by decide),List.cons_append,Ka3,if_neg (by decide),if_neg (by decide),if_pos (by decide),this];rfl
 ·rw [if_neg (by decide),if_neg (by decide),if_pos rfl,List.cons_append,Ka3,if_neg (by decide),if_neg (by decide),if_neg (by decide),if_pos (by decide),List.append_assoc,df_signed i _ h1,df_signed o r h2]
def Kbd : Nat → Rs → List ChangeD × Rs
 | 0,s=>([],s)
 | n + 1,s=>if s.2 = true ∨ s.1 = [] then ([],s) else ((Ka3 s).1 :: (Kbd n (Ka3 s).2).1,(Kbd n (Ka3 s).2).2)
def Kd7 (s : Rs) : List ChangeD × Rs :=
 let x:=Kbd (Kbj s).1 (Kbj s).2
 (x.1,x.2.1,x.2.2 || !(x.1.length == (Kbj s).1))
theorem df_cloop : ∀ (l : List ChangeD) (r : List UInt8),(∀ x ∈ l,wfC x) → Kbd l.length (l.flatMap Ka9 ++ r,false) = (l,r,false)
 | [],r,_=>rfl
 | x :: l,r,hp=>by
   have hne : ((x :: l).flatMap Ka9 ++ r) ≠ []:=by
    have:=changeC_pos x
    intro e
    have:=congrArg List.length e
    simp only [List.flatMap_cons,List.length_append,List.length_nil] at this
    omega
   rw [List.length_cons,Kbd,if_neg (by simpa using hne),List.flatMap_cons,List.append_assoc,df_change x _ (hp x (by simp))]
   simp only
   rw [df_cloop l r fun y hy=>hp y (by simp [hy])]
theorem df_changes : DF Kd7 Kbk wfCs:=fun l r hl=>by
 unfold Kd7 Kbk rowsC
 have:=flat_le (P:=wfC) (fun c _=>changeC_pos c) l hl.2
 rw [List.append_assoc,count_of hl.1 (by simp only [List.length_append];omega)]
 simp only
 rw [df_cloop l r hl.2]
 simp
structure DS {α : Type} (f : Rs → α × Rs) (sz : α → Nat) (R : α → Prop) : Prop where
 less : ∀ s,(f s).2.1.length ≤ s.1.length
 bad : ∀ s,s.2 = true → (f s).2.2 = true
 size : ∀ s,(f s).2.2 = false → sz (f s).1 + (f s).2.1.length ≤ s.1.length
 rng : ∀ s,R (f s).1
theorem dN_len : ∀ (b : List UInt8) (i a n : Nat) (r : List UInt8) (ok : Bool),dN i a b = some (n,r,ok) → r.length + 1 ≤ b.length ∧ n < 18446744073709551616
 | [],i,a,n,r,ok,h=>by rw [dN] at h;cases h
 | c :: b,i,a,n,r,ok,h=>by
   rw [dN] at h
   split at h
   ·cases h
   ·split at h
    ·cases h
     exact ⟨by simp,Nat.mod_lt _ (by decide)⟩
    ·have:=dN_len b _ _ _ _ _ h
     rw [List.length_cons];omega
theorem Kef : DS docN (fun _=>1) u64T:=by
 refine ⟨fun s=>?_,fun s h=>?_,fun s h=>?_,fun s=>?_⟩
 all_goals
  unfold docN at *
  cases e : dN 0 0 s.1 with
  | none=>simp_all [u64T]
  | some x =>
    obtain ⟨n,r,ok⟩:=x
    have:=dN_len _ _ _ _ _ _ e
    simp only [e] at *
    try simp only [h,Bool.true_or]
    try unfold u64T
    first | omega | rfl | skip
theorem Kd4 : DS Kbj (fun _=>1) u64T:=by
 refine ⟨fun s=>?_,fun s h=>?_,fun s h=>?_,fun s=>?_⟩
 ·unfold Kbj;split
  ·exact Kef.less s
  ·exact Kef.less s
 ·unfold Kbj;split
  ·rfl
  ·exact Kef.bad s h
 ·unfold Kbj at *;split at h
  ·cases h
  ·rename_i hn;rw [if_neg hn];exact Kef.size s h
 ·unfold Kbj;split
  ·exact (by unfold u64T;omega : u64T 0)
  ·exact Kef.rng s
theorem count_le (s : Rs) : (Kbj s).1 ≤ (Kbj s).2.1.length:=by
 unfold Kbj;split
 ·exact Nat.zero_le _
 ·omega
theorem ds_text : DS Kdg (fun t=>1 + t.length) (fun t=>True):=by
 refine ⟨fun s=>?_,fun s h=>?_,fun s h=>?_,fun s=>trivial⟩
 ·unfold Kdg
  have:=Kd4.less s
  simp only [List.length_drop];omega
 ·exact Kd4.bad s h
 ·have h1:=Kd4.size s h
  have h2:=count_le s
  unfold Kdg
  simp only [List.length_drop,List.length_take];omega
theorem ds_int : DS docInt (fun _=>1) i64T:=⟨fun s=>Kef.less s,fun s h=>Kef.bad s h,fun s h=>Kef.size s h,fun s=>(toU_toI (Kef.rng s)).1⟩
theorem Kb0 : DS Kbn (fun _=>1) i64T:=⟨fun s=>Kef.less s,fun s h=>Kef.bad s h,fun s h=>Kef.size s h,fun s=>(zz_un (Kef.rng s)).1⟩
section
variable {α β : Type} {f : Rs → α × Rs} {g : Rs → β × Rs} {sz : α → Nat} {tz : β → Nat} {R : α → Prop} {T : β → Prop}
theorem bad_false {f : Rs → α × Rs} (h : ∀ s,s.2 = true → (f s).2.2 = true) {s : Rs} (e : (f s).2.2 = false) : s.2 = false:=by
 cases hs : s.2
 ·rfl
 ·rw [h s hs] at e;cases e
theorem DS.seq (h : DS f sz R) (k : DS g tz T) : DS (Kdx f g) (fun x=>sz x.1 + tz x.2) (fun x=>R x.1 ∧ T x.2):=by
 refine ⟨fun s=>Nat.le_trans (k.less _) (h.less s),fun s hs=>k.bad _ (h.bad s hs),fun s hs=>?_,fun s=>⟨h.rng s,k.rng _⟩⟩
 have h1:=k.size _ hs
 have h2:=h.size s (bad_false k.bad hs)
 unfold Kdx at *
 simp only at *
 omega
theorem DS.map (h : DS f sz R) (u : α → β) (hs : ∀ x,tz (u x) ≤ sz x) (hr : ∀ x,R x → T (u x)) : DS (docMap u f) tz T :=
 ⟨fun s=>h.less s,fun s hb=>h.bad s hb,fun s hb=>by have:=h.size s hb;have:=hs (f s).1;unfold docMap;simp only;omega,fun s=>hr _ (h.rng s)⟩
theorem DS.loop (h : DS f sz R) : ∀ (n : Nat) (s : Rs),(Kbr f n s).2.1.length ≤ s.1.length ∧ (s.2 = true → (Kbr f n s).2.2 = true) ∧ ((Kbr f n s).2.2 = false → ((Kbr f n s).1.map sz).sum + (Kbr f n s).2.1.length ≤ s.1.length) ∧ (∀ x ∈ (Kbr f n s).1,R x) ∧ (Kbr f n s).1.length ≤ n
 | 0,s=>⟨Nat.le_refl _,fun h=>h,fun _=>by simp [Kbr],fun x hx=>by simp [Kbr] at hx,by simp [Kbr]⟩
 | n + 1,s=>by
   cases e : s.2
   ·have hs : Kbr f (n + 1) s = ((f s).1 :: (Kbr f n (f s).2).1,(Kbr f n (f s).2).2):=by rw [Kbr,if_neg (by rw [e];decide)]
    obtain ⟨k1,k2,k3,k4,k5⟩:=DS.loop h n (f s).2
    have h0:=h.less s
    rw [hs]
    refine ⟨?_,fun h=>Bool.noConfusion h,fun hb=>?_,fun x hx=>?_,?_⟩
    ·simp only;omega
    ·have h1:=k3 hb
     have hf : (f s).2.2 = false:=by
      cases e2 : (f s).2.2
      ·rfl
      ·have:=k2 e2
       simp only at hb
       rw [this] at hb;cases hb
     have h2:=h.size s hf
     simp only [List.map_cons,List.sum_cons]
     omega
    ·rcases List.mem_cons.1 hx with rfl | hx
     ·exact h.rng s
     ·exact k4 x hx
    ·simp only [List.length_cons];omega
   ·have hs : Kbr f (n + 1) s = ([],s):=by rw [Kbr,if_pos e]
    rw [hs]
    exact ⟨Nat.le_refl _,fun _=>e,fun hb=>(by rw [show s.2 = false from hb] at e;cases e),fun x hx=>(by cases hx),Nat.zero_le _⟩
theorem DS.rows (h : DS f sz R) : DS (Kcs f) (fun l=>1 + (l.map sz).sum) (fun l=>∀ x ∈ l,R x):=by
 refine ⟨fun s=>Nat.le_trans (h.loop _ _).1 (Kd4.less s),fun s hb=>(h.loop _ _).2.1 (Kd4.bad s hb),fun s hb=>?_,fun s=>(h.loop _ _).2.2.2.1⟩
 have h1:=(h.loop _ _).2.2.1 hb
 have h2:=Kd4.size s (by
  cases e2 : (Kbj s).2.2
  ·rfl
  ·have:=(h.loop (Kbj s).1 _).2.1 e2
   unfold Kcs at hb
   rw [this] at hb;cases hb)
 unfold Kcs at *
 omega
end
theorem Kej {v : V} (h : i64T v.n) (g : ∀ x ∈ v.list,rngV x) : rngV v:=by
 cases v
 exact rngV_mk.2 ⟨h,rngVs_iff.2 g⟩
theorem sum_totVs : ∀ l : List V,(l.map totV).sum = totVs l
 | []=>rfl
 | a :: l=>by rw [List.map_cons,List.sum_cons,Kdb,sum_totVs l]
theorem sum_pairs : ∀ l : List (List UInt8 × V),(l.map fun x=>1 + x.1.length + totV x.2).sum = l.length + ((l.map Prod.fst).map List.length).sum + totVs (l.map Prod.snd)
 | []=>rfl
 | a :: l=>by
   simp only [List.map_cons,List.sum_cons,List.length_cons,Kdb]
   rw [sum_pairs l];omega
theorem Kbi : i64T 0:=by unfold i64T;omega
theorem ds_val : ∀ d,DS (Kcj d) totV rngV
 | 0=>⟨fun s=>Nat.le_refl _,fun s _=>rfl,fun s h=>(by rw [Kcj] at h;cases h),fun s=>(by rw [Kcj];exact Kej Kbi (fun x hx=>by cases hx))⟩
 | d + 1=>by
   have ih:=ds_val d
   have hl:=ih.rows
   have hm:=(ds_text.seq ih).rows
   refine ⟨fun s=>?_,fun s h=>?_,fun s h=>?_,fun s=>?_⟩
   ·obtain ⟨b,bad⟩:=s
    cases b with
    | nil=>rw [Kcj];exact Nat.le_refl _
    | cons c r =>
      rw [Kcj]
      repeat' split
      all_goals simp only [List.length_cons]
      ·omega
      ·omega
      ·have:=Kef.less (r,false);simp only at this;omega
      ·have:=Kb0.less (r,false);simp only at this;omega
      ·have:=ds_text.less (r,false);simp only at this;omega
      ·have:=hl.less (r,false);simp only at this;omega
      ·have:=hm.less (r,false);simp only at this;omega
      ·have:=ds_int.less (r,false);simp only at this;omega
      ·omega
   ·obtain ⟨b,bad⟩:=s
    have h' : bad = true:=h
    subst h'
    cases b with
    | nil=>rw [Kcj]
    | cons c r=>rw [Kcj,if_pos rfl]
   ·obtain ⟨b,bad⟩:=s
    cases b with
    | nil=>rw [Kcj] at h;cases h
    | cons c r =>
      rw [Kcj] at h ⊢
      by_cases hb : bad = true
      ·rw [if_pos hb] at h;cases h
      ·rw [if_neg hb] at h ⊢
       by_cases h0 : c.toNat = 0
       ·rw [if_pos h0] at h ⊢
        simp only [Kes,V.text,V.keys,V.list,totVs,List.length_cons,List.length_nil,List.map_nil,List.sum_nil];omega
       ·rw [if_neg h0] at h ⊢
        by_cases h1 : c.toNat = 1
        ·rw [if_pos h1] at h ⊢
         simp only [Bool.or_eq_false_iff] at h
         have:=Kef.size (r,false) h.1
         simp only [Kes,V.text,V.keys,V.list,totVs,List.length_cons,List.length_nil,List.map_nil,List.sum_nil] at this ⊢;omega
        ·rw [if_neg h1] at h ⊢
         by_cases h2 : c.toNat = 2
         ·rw [if_pos h2] at h ⊢
          have:=Kb0.size (r,false) h
          simp only [Kes,V.text,V.keys,V.list,totVs,List.length_cons,List.length_nil,List.map_nil,List.sum_nil] at this ⊢;omega
         ·rw [if_neg h2] at h ⊢
          by_cases h3 : c.toNat = 3
          ·rw [if_pos h3] at h ⊢
           have:=ds_text.size (r,false) h
           simp only [Kes,V.text,V.keys,V.list,totVs,List.length_cons,List.length_nil,List.map_nil,List.sum_nil] at this ⊢;omega
          ·rw [if_neg h3] at h ⊢
           by_cases h4 : c.toNat = 4
           ·rw [if_pos h4] at h ⊢
            have:=hl.size (r,false) h
            simp only [sum_totVs] at this
            simp only [Kes,V.text,V.keys,V.list,List.length_cons,List.length_nil,List.map_nil,List.sum_nil] at this ⊢;omega
           ·rw [if_neg h4] at h ⊢
            by_cases h5 : c.toNat = 5
            ·rw [if_pos h5] at h ⊢
             have:=hm.size (r,false) h
             simp only [sum_pairs] at this
             simp only [Kes,V.text,V.keys,V.list,List.length_cons,List.length_nil,List.length_map] at this ⊢;omega
            ·rw [if_neg h5] at h ⊢
             by_cases h6 : c.toNat = 6 ∨ c.toNat = 7
             ·rw [if_pos h6] at h ⊢
              have:=ds_int.size (r,false) h
              simp only [Kes,V.text,V.keys,V.list,totVs,List.length_cons,List.length_nil,List.map_nil,List.sum_nil] at this ⊢;omega
             ·rw [if_neg h6] at h;cases h
   ·obtain ⟨b,bad⟩:=s
    cases b with
    | nil=>rw [Kcj];exact Kej Kbi (fun x hx=>by cases hx)
    | cons c r =>
      rw [Kcj]
      repeat' split
      ·exact Kej Kbi (fun x hx=>by cases hx)
      ·exact Kej Kbi (fun x hx=>by cases hx)
      ·exact Kej Kbi (fun x hx=>by cases hx)
      ·exact Kej (Kb0.rng _) (fun x hx=>by cases hx)
      ·exact Kej Kbi (fun x hx=>by cases hx)
      ·exact Kej Kbi (hl.rng _)
      ·refine Kej Kbi fun x hx=>?_
       obtain ⟨p,hp,rfl⟩:=List.mem_map.1 hx
       exact (hm.rng _ p hp).2
      ·exact Kej (ds_int.rng _) (fun x hx=>by cases hx)
      ·exact Kej Kbi (fun x hx=>by cases hx)
def totP (p : PropD) : Nat:=1 + p.key.length + totV p.val
def totPs (l : List PropD) : Nat:=(l.map totP).sum
def totLs (l : List (List UInt8)) : Nat:=(l.map fun s=>1 + s.length).sum
def totN (n : NodeD) : Nat:=1 + totLs n.labels + totPs n.props
def totR (r : RelD) : Nat:=1 + r.type.length + totPs r.props
def totG (g : GraphD) : Nat:=(g.nodes.map totN).sum + (g.rels.map totR).sum
def totC (c : ChangeD) : Nat:=totN c.node + totR c.rel
def rngP (p : PropD) : Prop:=rngV p.val
def rngN (n : NodeD) : Prop:=i64T n.id ∧ ∀ p ∈ n.props,rngP p
def rngR (r : RelD) : Prop:=i64T r.id ∧ i64T r.src ∧ i64T r.dst ∧ ∀ p ∈ r.props,rngP p
def rngG (g : GraphD) : Prop:=(∀ n ∈ g.nodes,rngN n) ∧ (∀ r ∈ g.rels,rngR r) ∧ i64T g.nextNode ∧ i64T g.nextRel
def rngC (c : ChangeD) : Prop:=i64T c.kind ∧ i64T c.id ∧ i64T c.other ∧ rngN c.node ∧ rngR c.rel
theorem ds_prop : DS docProp totP rngP:=by
 have h:=ds_text.seq (ds_val 64)
 exact h.map (fun p=>(⟨p.1,p.2⟩ : PropD)) (fun x=>by unfold totP;simp only;omega) (fun x hx=>hx.2)
theorem ds_props : DS (Kcs docProp) (fun l=>1 + totPs l) (fun l=>∀ p ∈ l,rngP p):=ds_prop.rows
theorem ds_node : DS docNode totN rngN:=by
 have h:=ds_int.seq (ds_text.rows.seq ds_props)
 exact h.map (fun p=>(⟨p.1,p.2.1,p.2.2⟩ : NodeD)) (fun x=>by unfold totN totLs;simp only;omega) (fun x hx=>⟨hx.1,hx.2.2⟩)
theorem ds_rel : DS docRel totR rngR:=by
 have h:=ds_int.seq (ds_int.seq (ds_int.seq (ds_text.seq ds_props)))
 exact h.map (fun p=>(⟨p.1,p.2.1,p.2.2.1,p.2.2.2.1,p.2.2.2.2⟩ : RelD)) (fun x=>by unfold totR;simp only;omega) (fun x hx=>⟨hx.1,hx.2.1,hx.2.2.1,hx.2.2.2.2⟩)
theorem ds_graph : DS docGraph totG rngG:=by
 have h:=ds_node.rows.seq (ds_rel.rows.seq (ds_int.seq ds_int))
 exact h.map (fun p=>(⟨p.1,p.2.1,p.2.2.1,p.2.2.2⟩ : GraphD)) (fun x=>by unfold totG;simp only;omega) (fun x hx=>⟨hx.1,hx.2.1,hx.2.2.1,hx.2.2.2⟩)
theorem Key : rngN node0:=⟨Kbi,fun p hp=>by cases hp⟩
theorem rng_rel0 : rngR rel0:=⟨Kbi,Kbi,Kbi,fun p hp=>by cases hp⟩
theorem i64_byte (c : UInt8) : i64T (c.toNat : Int):=by have:=c.toNat_lt;unfold i64T;omega
theorem totN_pos (n : NodeD) : 1 ≤ totN n:=by unfold totN;omega
theorem totR_pos (r : RelD) : 1 ≤ totR r:=by unfold totR;omega
theorem tot_node0 : totN node0 = 1:=rfl
theorem tot_rel0 : totR rel0 = 1:=rfl
theorem ds_change : DS Ka3 totC rngC:=by
 refine ⟨fun s=>?_,fun s h=>?_,fun s h=>?_,fun s=>?_⟩
 ·obtain ⟨b,bad⟩:=s
  cases b with
  | nil=>rw [Ka3];exact Nat.le_refl _
  | cons c r =>
    rw [Ka3]
    repeat' split
    all_goals simp only [List.length_cons]
    ·have:=ds_node.less (r,bad);simp only at this;omega
    ·have:=ds_rel.less (r,bad);simp only at this;omega
    ·have:=Kb0.less (r,bad);simp only at this;omega
    ·have:=Kb0.less (r,bad);have:=Kb0.less (Kbn (r,bad)).2;simp only at *;omega
    ·omega
 ·obtain ⟨b,bad⟩:=s
  have h' : bad = true:=h
  subst h'
  cases b with
  | nil=>rw [Ka3]
  | cons c r =>
    rw [Ka3]
    repeat' split
    ·exact ds_node.bad (r,true) rfl
    ·exact ds_rel.bad (r,true) rfl
    ·exact Kb0.bad (r,true) rfl
    ·have h1 : (Kbn (r,true)).2.2 = true:=Kb0.bad (r,true) rfl
     have h2 : (Kbn (Kbn (r,true)).2).2.2 = true:=Kb0.bad (Kbn (r,true)).2 h1
     exact h2
    ·rfl
 ·obtain ⟨b,bad⟩:=s
  cases b with
  | nil=>rw [Ka3] at h;cases h
  | cons c r =>
    rw [Ka3] at h ⊢
    unfold totC
    by_cases h0 : c.toNat = 0
    ·rw [if_pos h0] at h ⊢
     have:=ds_node.size (r,bad) h
     simp only [tot_rel0,List.length_cons] at *;omega
    ·rw [if_neg h0] at h ⊢
     by_cases h1 : c.toNat = 1
     ·rw [if_pos h1] at h ⊢
      have:=ds_rel.size (r,bad) h
      simp only [tot_node0,List.length_cons] at *;omega
     ·rw [if_neg h1] at h ⊢
      by_cases h2 : c.toNat = 2 ∨ c.toNat = 3
      ·rw [if_pos h2] at h ⊢
       have:=Kb0.size (r,bad) h
       simp only [tot_node0,tot_rel0,List.length_cons] at *;omega
      ·rw [if_neg h2] at h ⊢
       by_cases h3 : c.toNat = 4
       ·rw [if_pos h3] at h ⊢
        have:=Kb0.size _ h
        have:=Kb0.less (r,bad)
        simp only [tot_node0,tot_rel0,List.length_cons] at *;omega
       ·rw [if_neg h3] at h;cases h
 ·obtain ⟨b,bad⟩:=s
  cases b with
  | nil=>rw [Ka3];exact ⟨Kbi,Kbi,Kbi,Key,rng_rel0⟩
  | cons c r =>
    rw [Ka3]
    repeat' split
    ·exact ⟨Kbi,Kbi,Kbi,ds_node.rng _,rng_rel0⟩
    ·exact ⟨(by unfold i64T;omega : i64T 1),Kbi,Kbi,Key,ds_rel.rng _⟩
    ·exact ⟨i64_byte c,Kb0.rng _,Kbi,Key,rng_rel0⟩
    ·exact ⟨(by unfold i64T;omega : i64T 4),Kb0.rng _,Kb0.rng _,Key,rng_rel0⟩
    ·exact ⟨i64_byte c,Kbi,Kbi,Key,rng_rel0⟩
theorem ds_cloop : ∀ (n : Nat) (s : Rs),(Kbd n s).2.1.length ≤ s.1.length ∧ (s.2 = true → (Kbd n s).2.2 = true) ∧ ((Kbd n s).2.2 = false → ((Kbd n s).1.map totC).sum + (Kbd n s).2.1.length ≤ s.1.length) ∧ (∀ x ∈ (Kbd n s).1,rngC x) ∧ (Kbd n s).1.length ≤ n
 | 0,s=>⟨Nat.le_refl _,fun h=>h,fun _=>by simp [Kbd],fun x hx=>by simp [Kbd] at hx,by simp [Kbd]⟩
 | n + 1,s=>by
   by_cases e : s.2 = true ∨ s.1 = []
   ·have hs : Kbd (n + 1) s = ([],s):=by rw [Kbd,if_pos e]
    rw [hs]
    exact ⟨Nat.le_refl _,fun h=>h,fun hb=>(by simp),fun x hx=>(by cases hx),Nat.zero_le _⟩
   ·have hs : Kbd (n + 1) s = ((Ka3 s).1 :: (Kbd n (Ka3 s).2).1,(Kbd n (Ka3 s).2).2):=by rw [Kbd,if_neg e]
    obtain ⟨k1,k2,k3,k4,k5⟩:=ds_cloop n (Ka3 s).2
    have h0:=ds_change.less s
    rw [hs]
    refine ⟨?_,fun h=>absurd (.inl h) e,fun hb=>?_,fun x hx=>?_,?_⟩
    ·simp only;omega
    ·have h1:=k3 hb
     have hf : (Ka3 s).2.2 = false:=by
      cases e2 : (Ka3 s).2.2
      ·rfl
      ·have:=k2 e2
       simp only at hb
       rw [this] at hb;cases hb
     have h2:=ds_change.size s hf
     simp only [List.map_cons,List.sum_cons]
     omega
    ·rcases List.mem_cons.1 hx with rfl | hx
     ·exact ds_change.rng s
     ·exact k4 x hx
    ·simp only [List.length_cons];omega
theorem ds_changes : DS Kd7 (fun l=>1 + (l.map totC).sum) (fun l=>∀ c ∈ l,rngC c):=by
 refine ⟨fun s=>Nat.le_trans (ds_cloop _ _).1 (Kd4.less s),fun s hb=>?_,fun s hb=>?_,fun s=>(ds_cloop _ _).2.2.2.1⟩
 ·unfold Kd7
  simp only
  rw [(ds_cloop _ _).2.1 (Kd4.bad s hb)];rfl
 ·unfold Kd7 at hb
  simp only [Bool.or_eq_false_iff] at hb
  have h1:=(ds_cloop _ _).2.2.1 hb.1
  have h2:=Kd4.size s (by
   cases e2 : (Kbj s).2.2
   ·rfl
   ·have:=(ds_cloop (Kbj s).1 _).2.1 e2
    rw [this] at hb;cases hb.1)
  unfold Kd7
  simp only
  omega
open Go.RowKit
theorem Kdm {a b : Array Value} (h : ∀ u ∈ a.toList,u.oneCell' = true) (g : ∀ u ∈ b.toList,u.oneCell' = true) : ∀ u ∈ (a ++ b).toList,u.oneCell' = true:=fun u hu=>by
 rw [Array.toList_append,List.mem_append] at hu
 rcases hu with hu | hu
 ·exact h u hu
 ·exact g u hu
def POwn (w : World) (P : Nat → Prop) (p : PropD) (x : Array Value) : Prop:=∃ y,x = #[.string (strB p.key)] ++ y ∧ VOwn w P p.val y
theorem Kb2 : EL POwn 7:=by
 refine ⟨?_,?_,?_,?_⟩
 ·rintro w w' P p a hk ⟨y,rfl,h⟩;exact ⟨y,rfl,h.keep hk⟩
 ·rintro w P P' p a hp ⟨y,rfl,h⟩;exact ⟨y,rfl,h.imp hp⟩
 ·rintro w P p a ⟨y,rfl,h⟩;rw [Array.size_append,h.size6];rfl
 ·rintro w P p a ⟨y,rfl,h⟩;exact Kdm (by simp [Value.oneCell']) h.ones
def NOwn (w : World) (P : Nat → Prop) (n : NodeD) (x : Array Value) : Prop:=∃ vl vp,x = #[.int .i64 n.id,vl,vp] ∧ OwnsP w P 9 1 vl n.labels.length (n.labels.map strV) ∧ GOwn POwn 136 7 w P vp n.props
theorem Kas : EL NOwn 3:=by
 refine ⟨?_,?_,?_,?_⟩
 ·rintro w w' P p a hk ⟨vl,vp,rfl,h1,h2⟩;exact ⟨vl,vp,rfl,h1.keep hk,h2.keep Kb2 hk⟩
 ·rintro w P P' p a hp ⟨vl,vp,rfl,h1,h2⟩;exact ⟨vl,vp,rfl,h1.imp hp,h2.imp Kb2 hp⟩
 ·rintro w P p a ⟨vl,vp,rfl,h1,h2⟩;rfl
 ·rintro w P p a ⟨vl,vp,rfl,h1,xs,h2,_⟩ u hu
  have e1:=Kdn h1
  have e2:=Kdn h2
  simp only [List.mem_cons,List.not_mem_nil,or_false] at hu
  rcases hu with rfl | rfl | rfl <;> first | rfl | assumption
def ROwn (w : World) (P : Nat → Prop) (r : RelD) (x : Array Value) : Prop:=∃ vp,x = #[.int .i64 r.id,.int .i64 r.src,.int .i64 r.dst,.string (strB r.type),vp] ∧ GOwn POwn 136 7 w P vp r.props
theorem Ka5 : EL ROwn 5:=by
 refine ⟨?_,?_,?_,?_⟩
 ·rintro w w' P p a hk ⟨vp,rfl,h2⟩;exact ⟨vp,rfl,h2.keep Kb2 hk⟩
 ·rintro w P P' p a hp ⟨vp,rfl,h2⟩;exact ⟨vp,rfl,h2.imp Kb2 hp⟩
 ·rintro w P p a ⟨vp,rfl,h2⟩;rfl
 ·rintro w P p a ⟨vp,rfl,xs,h2,_⟩ u hu
  have e2:=Kdn h2
  simp only [List.mem_cons,List.not_mem_nil,or_false] at hu
  rcases hu with rfl | rfl | rfl | rfl | rfl <;> first | rfl | assumption
def COwn (w : World) (P : Nat → Prop) (c : ChangeD) (x : Array Value) : Prop:=∃ a b,x = #[.int .i64 c.kind,.int .i64 c.id,.int .i64 c.other] ++ a ++ b ∧ NOwn w P c.node a ∧ ROwn w P c.rel b
theorem Ke0 : EL COwn 11:=by
 refine ⟨?_,?_,?_,?_⟩
 ·rintro w w' P p a hk ⟨y,z,rfl,h1,h2⟩;exact ⟨y,z,rfl,Kas.keep hk h1,Ka5.keep hk h2⟩
 ·rintro w P P' p a hp ⟨y,z,rfl,h1,h2⟩;exact ⟨y,z,rfl,Kas.imp hp h1,Ka5.imp hp h2⟩
 ·rintro w P p a ⟨y,z,rfl,h1,h2⟩;rw [Array.size_append,Array.size_append,Kas.size h1,Ka5.size h2];rfl
 ·rintro w P p a ⟨y,z,rfl,h1,h2⟩;exact Kdm (Kdm (by simp [Value.oneCell']) (Kas.ones h1)) (Ka5.ones h2)
def GrOwn (w : World) (P : Nat → Prop) (g : GraphD) (x : Array Value) : Prop:=∃ vn vr,x = #[vn,vr,.int .i64 g.nextNode,.int .i64 g.nextRel] ∧ GOwn NOwn 70 3 w P vn g.nodes ∧ GOwn ROwn 72 5 w P vr g.rels
def PRd (w : World) (p : PropD) (x : Array Value) : Prop:=∃ y,x = #[.string (strB p.key)] ++ y ∧ p.key.length ≤ 140737488355328 ∧ VRd w p.val y
def NRd (w : World) (n : NodeD) (x : Array Value) : Prop:=∃ pl cl pp cp,x = #[.int .i64 n.id,.slice pl n.labels.length cl,.slice pp n.props.length cp] ∧ RdS w pl cl n.labels ∧ GRd PRd 7 w pp cp n.props
def RRd (w : World) (r : RelD) (x : Array Value) : Prop:=∃ pp cp,x = #[.int .i64 r.id,.int .i64 r.src,.int .i64 r.dst,.string (strB r.type),.slice pp r.props.length cp] ∧ r.type.length ≤ 140737488355328 ∧ GRd PRd 7 w pp cp r.props
def CRd (w : World) (c : ChangeD) (x : Array Value) : Prop:=∃ a b,x = #[.int .i64 c.kind,.int .i64 c.id,.int .i64 c.other] ++ a ++ b ∧ NRd w c.node a ∧ RRd w c.rel b
def GrRd (w : World) (g : GraphD) (x : Array Value) : Prop:=∃ pn cn pr cr,x = #[.slice pn g.nodes.length cn,.slice pr g.rels.length cr,.int .i64 g.nextNode,.int .i64 g.nextRel] ∧ GRd NRd 3 w pn cn g.nodes ∧ GRd RRd 5 w pr cr g.rels
section
variable {w w' : World}
theorem PRd.below {p : PropD} {x : Array Value} (h : PRd w p x) (g : Below w.heap.size w w') : PRd w' p x:=by
 obtain ⟨y,e,h1,h2⟩:=h;exact ⟨y,e,h1,h2.below g⟩
theorem NRd.below {p : NodeD} {x : Array Value} (h : NRd w p x) (g : Below w.heap.size w w') : NRd w' p x:=by
 obtain ⟨pl,cl,pp,cp,e,h1,h2⟩:=h;exact ⟨pl,cl,pp,cp,e,h1.below g,h2.below (fun h=>h.below g) g⟩
theorem RRd.below {p : RelD} {x : Array Value} (h : RRd w p x) (g : Below w.heap.size w w') : RRd w' p x:=by
 obtain ⟨pp,cp,e,h1,h2⟩:=h;exact ⟨pp,cp,e,h1,h2.below (fun h=>h.below g) g⟩
theorem CRd.below {p : ChangeD} {x : Array Value} (h : CRd w p x) (g : Below w.heap.size w w') : CRd w' p x:=by
 obtain ⟨a,b,e,h1,h2⟩:=h;exact ⟨a,b,e,h1.below g,h2.below g⟩
theorem GrRd.below {p : GraphD} {x : Array Value} (h : GrRd w p x) (g : Below w.heap.size w w') : GrRd w' p x:=by
 obtain ⟨pn,cn,pr,cr,e,h1,h2⟩:=h;exact ⟨pn,cn,pr,cr,e,h1.below (fun h=>h.below g) g,h2.below (fun h=>h.below g) g⟩
theorem POwn.rd {P : Nat → Prop} {p : PropD} {x : Array Value} (h : POwn w P p x) (ht : totP p ≤ 900000) : PRd w p x:=by
 obtain ⟨y,e,h1⟩:=h
 unfold totP at ht
 exact ⟨y,e,by omega,h1.rd (by omega)⟩
theorem props_rd {P : Nat → Prop} {vp : Value} {l : List PropD} (h : GOwn POwn 136 7 w P vp l) (ht : totPs l ≤ 900000) : ∃ p c,vp = .slice p l.length c ∧ GRd PRd 7 w p c l:=by
 have h1 : l.length ≤ totPs l:=by
  clear h ht
  induction l with
  | nil=>simp
  | cons a l ih=>rw [totPs,List.map_cons,List.sum_cons,List.length_cons];have : 1 ≤ totP a:=by unfold totP;omega
                 unfold totPs at ih;omega
 refine h.rd Kb2 (by omega) fun p hp x hx=>hx.rd ?_
 have : totP p ≤ totPs l:=by
  clear h ht h1 hx
  induction l with
  | nil=>cases hp
  | cons a l ih =>
    rw [totPs,List.map_cons,List.sum_cons]
    unfold totPs at ih
    rcases List.mem_cons.1 hp with rfl | hp
    ·omega
    ·have:=ih hp;omega
 omega
theorem NOwn.rd {P : Nat → Prop} {n : NodeD} {x : Array Value} (h : NOwn w P n x) (ht : totN n ≤ 900000) : NRd w n x:=by
 obtain ⟨vl,vp,e,h1,h2⟩:=h
 unfold totN at ht
 have hl : n.labels.length ≤ totLs n.labels ∧ ∀ s ∈ n.labels,s.length ≤ totLs n.labels:=by
  generalize n.labels = l
  induction l with
  | nil=>simp
  | cons a l ih =>
    unfold totLs at ih ⊢
    rw [List.map_cons,List.sum_cons,List.length_cons]
    refine ⟨by omega,fun s hs=>?_⟩
    rcases List.mem_cons.1 hs with rfl | hs
    ·omega
    ·have:=ih.2 s hs;omega
 obtain ⟨pl,cl,rfl,h3⟩:=owned_rdS h1 (by omega) (fun s hs=>by have:=hl.2 s hs;omega)
 obtain ⟨pp,cp,rfl,h4⟩:=props_rd h2 (by omega)
 exact ⟨pl,cl,pp,cp,e,h3,h4⟩
theorem ROwn.rd {P : Nat → Prop} {r : RelD} {x : Array Value} (h : ROwn w P r x) (ht : totR r ≤ 900000) : RRd w r x:=by
 obtain ⟨vp,e,h2⟩:=h
 unfold totR at ht
 obtain ⟨pp,cp,rfl,h4⟩:=props_rd h2 (by omega)
 exact ⟨pp,cp,e,by omega,h4⟩
end
end Go.Proofs.YthdfedfholmbmaaGreatDoor
namespace Go.Proofs.YthdfedfholmbmaaGreatDoor
open Go.ChangeShapes Go.WideShapes Go.ChangeAt Go.RowKit Go.Joins
section
variable {H : Type} {enc : TypeId × Value → H} {w : World} {base : Nat} {held : Bool}
theorem rows_of {α : Type} [Inhabited α] {F : World → α → Array Value → Prop} {R : α → Prop} {K : Nat} {T e : TypeId} (hT : Tryz.prog.underlying T = some (.slice e)) (hk : Tryz.prog.cellsOf e = K) (hK : 0 < K) (hby : 1 ≤ Tryz.prog.bytesOf e)
 (one : ∀ (m : Nat) (cs : List Value) (x : DataW H × List MemPlace),DataW.trod enc Tryz.prog w base (fun _=>true) held m e cs = some x → Fits e x.1 → ∃ v,F w v cs.toArray ∧ R v)
 {fuel : Nat} {v0 : Value} {x : DataW H × List MemPlace} (h : DataW.trod enc Tryz.prog w base (fun _=>true) held fuel T [v0] = some x) (hf : Fits T x.1) :
 ∃ p c l,v0 = .slice p (List.length l) c ∧ GRd F K w p c l ∧ ∀ v ∈ l,R v:=by
 rcases DataW.trod_slice hT h with ⟨hv,_⟩ | ⟨a,len,cap,elems,rest,m,rfl,hv,e5,_,hle,hm,hel,helt,_,_⟩
 ·cases hv
  exact ⟨none,0,[],rfl,⟨⟨Nat.le_refl _,by simp,fun _=>rfl⟩,fun ad h=>by cases h⟩,by simp⟩
 ·cases hv
  rw [e5] at hf
  obtain ⟨g1,g2⟩:=fits_slice hT hf
  rw [hk] at helt
  have hlenE : (elems.map (·.1)).length = len:=by simpa using hel
  rw [hlenE] at g1
  have hl0 : len ≤ 140737488351232:=Nat.le_trans (Nat.le_mul_of_pos_right len hby) g1
  obtain ⟨f,hfv⟩:=Go.Deep.choose_lt (n:=len) (α:=α) (p:=fun i v=>∃ cs',w.cells? base (a.add (i * K)) K = some cs' ∧ F w v cs'.toArray ∧ R v) (fun i hi=>by
   have hi2 : i < elems.length:=by omega
   have h1:=helt i hi
   rw [List.getElem?_eq_getElem hi2] at h1
   obtain ⟨cs',h2,h3⟩:=Option.bind_eq_some_iff.1 h1
   obtain ⟨v,hv1,hv2⟩:=one m cs' elems[i] h3 (g2 _ (List.mem_map.2 ⟨elems[i],List.getElem_mem hi2,rfl⟩))
   exact ⟨v,cs',h2,hv1,hv2⟩)
  have hspot : 0 < len → a.spot = none:=fun h0=>by
   obtain ⟨cs',h1,_⟩:=hfv 0 h0
   obtain ⟨_,hcl,hc⟩:=World.cells?_some h1
   have h3:=hc 0 (by omega)
   rw [List.getElem?_eq_getElem (by omega)] at h3
   have:=World.cell?_spot h3
   simpa [Addr.add] using this
  have hll : ((List.range len).map f).length = len:=by simp
  refine ⟨some a,cap,(List.range len).map f,by rw [hll],⟨⟨by rw [hll];exact hle,by rw [hll];exact ⟨by omega,hm⟩,fun e=>by cases e⟩,fun ad had=>?_⟩,fun v hv=>?_⟩
  ·cases had
   refine ⟨fun hne=>hspot ?_,fun j v hv=>?_⟩
   ·rcases Nat.eq_zero_or_pos len with h0 | h0
    ·exact absurd (List.eq_nil_of_length_eq_zero (by rw [hll];exact h0)) hne
    ·exact h0
   ·have hj : j < len:=by
     have:=(List.getElem?_eq_some_iff.1 hv).1
     rwa [hll] at this
    have e : v = f j:=by
     have:=(List.getElem?_eq_some_iff.1 hv).2
     simpa using this.symm
    subst e
    obtain ⟨cs',h1,h2,_⟩:=hfv j hj
    have hs0:=hspot (by omega)
    obtain ⟨ab,ao,asp⟩:=a
    simp only at hs0
    subst hs0
    obtain ⟨_,hcl,hc⟩:=World.cells?_some h1
    refine ⟨cs'.toArray,by simpa using hcl,fun i u hu=>?_,h2⟩
    have hi : i < K:=by
     have:=(Array.getElem?_eq_some_iff.1 hu).1
     rw [← hcl];simpa using this
    have q:=hc i hi
    simp only [Ka4] at q
    rw [q]
    simpa using hu
  ·obtain ⟨i,hi,rfl⟩:=List.mem_map.1 hv
   obtain ⟨_,_,_,h3⟩:=hfv i (List.mem_range.1 hi)
   exact h3
theorem cellsP : Tryz.prog.cellsOf 136 = 7:=by kernel_rfl
theorem cellsN : Tryz.prog.cellsOf 70 = 3:=by kernel_rfl
theorem cellsR : Tryz.prog.cellsOf 72 = 5:=by kernel_rfl
theorem cellsG : Tryz.prog.cellsOf 25 = 4:=by kernel_rfl
theorem cellsPs : Tryz.prog.cellsOf 68 = 1:=by kernel_rfl
theorem cellsNs : Tryz.prog.cellsOf 22 = 1:=by kernel_rfl
theorem cellsRs : Tryz.prog.cellsOf 23 = 1:=by kernel_rfl
instance : Inhabited PropD:=⟨⟨[],.mk 0 false 0 [] [] []⟩⟩
instance : Inhabited NodeD:=⟨⟨0,[],[]⟩⟩
instance : Inhabited RelD:=⟨⟨0,0,0,[],[]⟩⟩
instance : Inhabited ChangeD:=⟨⟨0,0,0,⟨0,[],[]⟩,⟨0,0,0,[],[]⟩⟩⟩
theorem prop_of (fuel : Nat) (cs : List Value) (x : DataW H × List MemPlace) (h : DataW.trod enc Tryz.prog w base (fun _=>true) held fuel 136 cs = some x) (hf : Fits 136 x.1) : ∃ v,PRd w v cs.toArray ∧ rngP v:=by
 obtain ⟨xs,n,rfl,rfl,hl,hlen,hfl⟩:=DataW.trod_struct Tryz.underlying136 h
 rw [cellsP] at hl
 match xs,hlen with
 | [y0,y1],_ =>
   match cs,hl with
   | [c0,c1,c2,c3,c4,c5,c6],_ =>
     have k0:=hfl 0 _ rfl
     have k1:=hfl 1 _ rfl
     simp only [cells9,cells26,List.drop_zero,List.drop_succ_cons,List.take_succ_cons,List.take_zero,List.getElem?_cons_zero,List.getElem?_cons_succ] at k0 k1
     have hw : Fits 9 y0.1 ∧ Fits 48 y1.1:=by
      unfold Fits at hf
      rw [DataW.weights,Tryz.underlying136] at hf
      simp only [List.map_cons,List.map_nil,DataW.weightsEach,List.append_nil,List.mem_append] at hf
      exact ⟨fun n hn=>hf n (by simp [hn]),fun n hn=>hf n (by simp [hn])⟩
     obtain ⟨s,e0,e0',_⟩:=DataW.trod_string Tryz.underlying9 k0
     obtain ⟨v,hv1,hv2⟩:=value_of _ _ _ k1 hw.2
     obtain rfl : c0 = _:=(List.cons.inj e0).1
     have hs:=hw.1
     rw [e0'] at hs
     have ht:=Ke6 hs
     refine ⟨⟨s.data.toList,v⟩,⟨#[c1,c2,c3,c4,c5,c6],by rw [strB_back];rfl,by simp only;omega,hv1⟩,hv2⟩
theorem bytesP : 1 ≤ Tryz.prog.bytesOf 136:=of_decide_eq_true (by kernel_rfl)
theorem bytesN : 1 ≤ Tryz.prog.bytesOf 70:=of_decide_eq_true (by kernel_rfl)
theorem bytesR : 1 ≤ Tryz.prog.bytesOf 72:=of_decide_eq_true (by kernel_rfl)
theorem props_of {fuel : Nat} {v0 : Value} {x : DataW H × List MemPlace} (h : DataW.trod enc Tryz.prog w base (fun _=>true) held fuel 68 [v0] = some x) (hf : Fits 68 x.1) : ∃ p c l,v0 = .slice p (List.length l) c ∧ GRd PRd 7 w p c l ∧ ∀ v ∈ l,rngP v :=
 rows_of Tryz.underlying68 cellsP (by omega) bytesP prop_of h hf
theorem node_of (fuel : Nat) (cs : List Value) (x : DataW H × List MemPlace) (h : DataW.trod enc Tryz.prog w base (fun _=>true) held fuel 70 cs = some x) (hf : Fits 70 x.1) : ∃ v,NRd w v cs.toArray ∧ rngN v:=by
 obtain ⟨xs,n,rfl,rfl,hl,hlen,hfl⟩:=DataW.trod_struct Tryz.underlying70 h
 rw [cellsN] at hl
 match xs,hlen with
 | [y0,y1,y2],_ =>
   match cs,hl with
   | [c0,c1,c2],_ =>
     have k0:=hfl 0 _ rfl
     have k1:=hfl 1 _ rfl
     have k2:=hfl 2 _ rfl
     simp only [cells2,cells23,cellsPs,List.drop_zero,List.drop_succ_cons,List.take_succ_cons,List.take_zero,List.getElem?_cons_zero,List.getElem?_cons_succ] at k0 k1 k2
     have hw : Fits 45 y1.1 ∧ Fits 68 y2.1:=by
      unfold Fits at hf
      rw [DataW.weights,Tryz.underlying70] at hf
      simp only [List.map_cons,List.map_nil,DataW.weightsEach,List.append_nil,List.mem_append] at hf
      exact ⟨fun n hn=>hf n (by simp [hn]),fun n hn=>hf n (by simp [hn])⟩
     obtain ⟨i,e0,_,hr⟩:=DataW.trod_int Tryz.underlying2 k0
     obtain ⟨pk,ck,ks,rfl,hks⟩:=keys_of k1 hw.1
     obtain ⟨pp,cp,ps,rfl,hps,hpr⟩:=props_of k2 hw.2
     obtain rfl : c0 = _:=(List.cons.inj e0).1
     exact ⟨⟨i,ks,ps⟩,⟨pk,ck,pp,cp,rfl,hks,hps⟩,Ket hr,hpr⟩
theorem rel_of (fuel : Nat) (cs : List Value) (x : DataW H × List MemPlace) (h : DataW.trod enc Tryz.prog w base (fun _=>true) held fuel 72 cs = some x) (hf : Fits 72 x.1) : ∃ v,RRd w v cs.toArray ∧ rngR v:=by
 obtain ⟨xs,n,rfl,rfl,hl,hlen,hfl⟩:=DataW.trod_struct Tryz.underlying72 h
 rw [cellsR] at hl
 match xs,hlen with
 | [y0,y1,y2,y3,y4],_ =>
   match cs,hl with
   | [c0,c1,c2,c3,c4],_ =>
     have k0:=hfl 0 _ rfl
     have k1:=hfl 1 _ rfl
     have k2:=hfl 2 _ rfl
     have k3:=hfl 3 _ rfl
     have k4:=hfl 4 _ rfl
     simp only [cells2,cells9,cellsPs,List.drop_zero,List.drop_succ_cons,List.take_succ_cons,List.take_zero,List.getElem?_cons_zero,List.getElem?_cons_succ] at k0 k1 k2 k3 k4
     have hw : Fits 9 y3.1 ∧ Fits 68 y4.1:=by
      unfold Fits at hf
      rw [DataW.weights,Tryz.underlying72] at hf
      simp only [List.map_cons,List.map_nil,DataW.weightsEach,List.append_nil,List.mem_append] at hf
      exact ⟨fun n hn=>hf n (by simp [hn]),fun n hn=>hf n (by simp [hn])⟩
     obtain ⟨i0,e0,_,r0⟩:=DataW.trod_int Tryz.underlying2 k0
     obtain ⟨i1,e1,_,r1⟩:=DataW.trod_int Tryz.underlying2 k1
     obtain ⟨i2,e2,_,r2⟩:=DataW.trod_int Tryz.underlying2 k2
     obtain ⟨s,e3,e3',_⟩:=DataW.trod_string Tryz.underlying9 k3
     obtain ⟨pp,cp,ps,rfl,hps,hpr⟩:=props_of k4 hw.2
     obtain rfl : c0 = _:=(List.cons.inj e0).1
     obtain rfl : c1 = _:=(List.cons.inj e1).1
     obtain rfl : c2 = _:=(List.cons.inj e2).1
     obtain rfl : c3 = _:=(List.cons.inj e3).1
     have hs:=hw.1
     rw [e3'] at hs
     have ht:=Ke6 hs
     exact ⟨⟨i0,i1,i2,s.data.toList,ps⟩,⟨pp,cp,by rw [strB_back],by simp only;omega,hps⟩,Ket r0,Ket r1,Ket r2,hpr⟩
theorem nodes_of {fuel : Nat} {v0 : Value} {x : DataW H × List MemPlace} (h : DataW.trod enc Tryz.prog w base (fun _=>true) held fuel 22 [v0] = some x) (hf : Fits 22 x.1) : ∃ p c l,v0 = .slice p (List.length l) c ∧ GRd NRd 3 w p c l ∧ ∀ v ∈ l,rngN v :=
 rows_of Tryz.underlying22 cellsN (by omega) bytesN node_of h hf
theorem rels_of {fuel : Nat} {v0 : Value} {x : DataW H × List MemPlace} (h : DataW.trod enc Tryz.prog w base (fun _=>true) held fuel 23 [v0] = some x) (hf : Fits 23 x.1) : ∃ p c l,v0 = .slice p (List.length l) c ∧ GRd RRd 5 w p c l ∧ ∀ v ∈ l,rngR v :=
 rows_of Tryz.underlying23 cellsR (by omega) bytesR rel_of h hf
theorem graph_of (fuel : Nat) (cs : List Value) (x : DataW H × List MemPlace) (h : DataW.trod enc Tryz.prog w base (fun _=>true) held fuel 25 cs = some x) (hf : Fits 25 x.1) : ∃ v,GrRd w v cs.toArray ∧ rngG v:=by
 obtain ⟨xs,n,rfl,rfl,hl,hlen,hfl⟩:=DataW.trod_struct Tryz.underlying25 h
 rw [cellsG] at hl
 match xs,hlen with
 | [y0,y1,y2,y3],_ =>
   match cs,hl with
   | [c0,c1,c2,c3],_ =>
     have k0:=hfl 0 _ rfl
     have k1:=hfl 1 _ rfl
     have k2:=hfl 2 _ rfl
     have k3:=hfl 3 _ rfl
     simp only [cells2,cellsNs,cellsRs,List.drop_zero,List.drop_succ_cons,List.take_succ_cons,List.take_zero,List.getElem?_cons_zero,List.getElem?_cons_succ] at k0 k1 k2 k3
     have hw : Fits 22 y0.1 ∧ Fits 23 y1.1:=by
      unfold Fits at hf
      rw [DataW.weights,Tryz.underlying25] at hf
      simp only [List.map_cons,List.map_nil,DataW.weightsEach,List.append_nil,List.mem_append] at hf
      exact ⟨fun n hn=>hf n (by simp [hn]),fun n hn=>hf n (by simp [hn])⟩
     obtain ⟨pn,cn,ns,rfl,hns,hnr⟩:=nodes_of k0 hw.1
     obtain ⟨pr,cr,rs,rfl,hrs,hrr⟩:=rels_of k1 hw.2
     obtain ⟨i2,e2,_,r2⟩:=DataW.trod_int Tryz.underlying2 k2
     obtain ⟨i3,e3,_,r3⟩:=DataW.trod_int Tryz.underlying2 k3
     obtain rfl : c2 = _:=(List.cons.inj e2).1
     obtain rfl : c3 = _:=(List.cons.inj e3).1
     exact ⟨⟨ns,rs,i2,i3⟩,⟨pn,cn,pr,cr,rfl,hns,hrs⟩,hnr,hrr,Ket r2,Ket r3⟩
theorem graph_in {r : Reach} {b0 : Nat} {v : Value} {d : DataW H} {p : List MemPlace} (hv : Value.okWide Tryz.prog w r b0 25 v) (h : DataW.Trod enc Tryz.prog w base (fun _=>true) held 25 v d p) (hf : Fits 25 d) :
 ∃ u x,v = .agg x ∧ GrRd w u x ∧ rngG u:=by
 obtain ⟨cs,rfl,_⟩:=okWide_struct Tryz.underlying25 hv
 obtain ⟨fuel,h⟩:=h
 obtain ⟨u,h1,h2⟩:=graph_of fuel _ _ h hf
 exact ⟨u,cs,rfl,by simpa [Value.cells] using h1,h2⟩
theorem cellsC : Tryz.prog.cellsOf 74 = 11:=by kernel_rfl
theorem cellsCk : Tryz.prog.cellsOf 67 = 1:=by kernel_rfl
theorem bytesC : 1 ≤ Tryz.prog.bytesOf 74:=of_decide_eq_true (by kernel_rfl)
theorem change_of (fuel : Nat) (cs : List Value) (x : DataW H × List MemPlace) (h : DataW.trod enc Tryz.prog w base (fun _=>true) held fuel 74 cs = some x) (hf : Fits 74 x.1) : ∃ v,CRd w v cs.toArray ∧ rngC v:=by
 obtain ⟨xs,n,rfl,rfl,hl,hlen,hfl⟩:=DataW.trod_struct Tryz.underlying74 h
 rw [cellsC] at hl
 match xs,hlen with
 | [y0,y1,y2,y3,y4],_ =>
   match cs,hl with
   | [c0,c1,c2,c3,c4,c5,c6,c7,c8,c9,c10],_ =>
     have k0:=hfl 0 _ rfl
     have k1:=hfl 1 _ rfl
     have k2:=hfl 2 _ rfl
     have k3:=hfl 3 _ rfl
     have k4:=hfl 4 _ rfl
     simp only [cells2,cellsCk,cellsN,cellsR,List.drop_zero,List.drop_succ_cons,List.take_succ_cons,List.take_zero,List.getElem?_cons_zero,List.getElem?_cons_succ] at k0 k1 k2 k3 k4
     have hw : Fits 70 y3.1 ∧ Fits 72 y4.1:=by
      unfold Fits at hf
      rw [DataW.weights,Tryz.underlying74] at hf
      simp only [List.map_cons,List.map_nil,DataW.weightsEach,List.append_nil,List.mem_append] at hf
      exact ⟨fun n hn=>hf n (by simp [hn]),fun n hn=>hf n (by simp [hn])⟩
     obtain ⟨i0,e0,_,r0⟩:=DataW.trod_int Tryz.underlying67 k0
     obtain ⟨i1,e1,_,r1⟩:=DataW.trod_int Tryz.underlying2 k1
     obtain ⟨i2,e2,_,r2⟩:=DataW.trod_int Tryz.underlying2 k2
     obtain ⟨nd,hn1,hn2⟩:=node_of _ _ _ k3 hw.1
     obtain ⟨rl,hr1,hr2⟩:=rel_of _ _ _ k4 hw.2
     obtain rfl : c0 = _:=(List.cons.inj e0).1
     obtain rfl : c1 = _:=(List.cons.inj e1).1
     obtain rfl : c2 = _:=(List.cons.inj e2).1
     exact ⟨⟨i0,i1,i2,nd,rl⟩,⟨_,_,rfl,hn1,hr1⟩,Ket r0,Ket r1,Ket r2,hn2,hr2⟩
theorem changes_in {r : Reach} {b0 : Nat} {v : Value} {d : DataW H} {p : List MemPlace} (hv : Value.okWide Tryz.prog w r b0 58 v) (h : DataW.Trod enc Tryz.prog w base (fun _=>true) held 58 v d p) (hf : Fits 58 d) :
 ∃ p c l,v = .slice p (List.length l) c ∧ GRd CRd 11 w p c l ∧ ∀ v ∈ l,rngC v:=by
 obtain ⟨a,len,cap,rfl⟩:=okWide_slice Tryz.underlying58 hv
 obtain ⟨fuel,h⟩:=h
 exact rows_of Tryz.underlying58 cellsC (by omega) bytesC change_of (by simpa [Value.cells] using h) hf
end
end Go.Proofs.YthdfedfholmbmaaGreatDoor
namespace Go.Proofs.YthdfedfholmbmaaGreatDoor
open Go.RowKit
theorem rd_rest {W : World} {a : Option Addr} {n c : Nat} {l : List UInt8} (h : RdB W (.slice a n c) l) {k : Nat} (hk : k ≤ n) :
 ∃ a',(∀ W',(Instr.slice 26 (.slice a n c) (some (.int .i64 (k : Int))) none none).run Tryz.prog W' = .ok (.slice a' (n - k) (c - k)) W') ∧ RdB W (.slice a' (n - k) (c - k)) (l.drop k):=by
 obtain ⟨a1,cap,heq,⟨hn,hm,hz⟩,hcell⟩:=h
 cases heq
 refine ⟨_,fun W'=>run_slice_gen (P:=Tryz.prog) Tryz.underlying26 Tryz.sizeOf5 a _ c (some (k : Int)) none k l.length (fun i hi=>by cases hi;rfl) (fun h=>by cases h) (fun i hi=>by cases hi) (fun _=>rfl) hk hn W',?_⟩
 refine ⟨_,_,by rw [List.length_drop],⟨by rw [List.length_drop];omega,by omega,fun e=>?_⟩,fun ad had=>?_⟩
 ·split at e
  ·omega
  ·cases a with
   | none=>have:=hz rfl;omega
   | some ad=>cases e
 ·split at had
  ·rename_i hc
   subst had
   obtain ⟨hs,hcl⟩:=hcell ad rfl
   have hd : l.drop k = []:=List.drop_eq_nil_of_le (by omega)
   rw [hd]
   exact ⟨fun h=>absurd rfl h,fun i b hi=>by simp at hi⟩
  ·cases a with
   | none=>cases had
   | some ad0 =>
     obtain ⟨hs,hcl⟩:=hcell ad0 rfl
     by_cases hl0 : l = []
     ·subst hl0
      exact ⟨fun h=>absurd (by simp) h,fun i b hi=>(by simp at hi)⟩
     replace hs:=hs hl0
     obtain ⟨b0,o0,sp0⟩:=ad0
     simp only at hs;subst hs
     simp only [Option.map_some,Ka4,Option.some.injEq] at had
     subst had
     refine ⟨fun _=>rfl,fun i b hi=>?_⟩
     rw [List.getElem?_drop] at hi
     have:=hcl (k + i) b hi
     simp only [Nat.mul_one] at this ⊢
     rw [Nat.add_assoc];exact this
structure RSt (T : TypeId) (w W : World) (q : Nat) (l : List UInt8) : Prop where
 b : Below w.heap.size w W
 base : w.heap.size ≤ q
 box : ∃ p c,W.heap[q]? = some (.cells #[.slice p l.length c] T (0,0)) ∧ RdB w (.slice p l.length c) l
structure RTo (q : Nat) (W W' : World) : Prop where
 size : W.heap.size ≤ W'.heap.size
 keep : ∀ b,b < W.heap.size → b ≠ q → W'.heap[b]? = W.heap[b]?
section
variable {T : TypeId} {w W W1 W' W'' : World} {q : Nat} {l m : List UInt8}
theorem RTo.refl (q : Nat) (W : World) : RTo q W W:=⟨Nat.le_refl _,fun _ _ _=>rfl⟩
theorem RTo.trans (h : RTo q W W') (g : RTo q W' W'') : RTo q W W'':=⟨Nat.le_trans h.size g.size,fun b hb hq=>(g.keep b (Nat.lt_of_lt_of_le hb h.size) hq).trans (h.keep b hb hq)⟩
theorem RTo.of_below (g : Below W.heap.size W W') : RTo q W W':=⟨g.size,fun b hb _=>g.block b hb⟩
theorem RTo.set (q : Nat) (W : World) (u : Value) : RTo q W (W.setCell ⟨q,0,none⟩ u):=⟨by simp [World.setCell],fun b _ hq=>Below.heap_setCell W ⟨q,0,none⟩ u b hq⟩
theorem RSt.lt (h : RSt T w W q l) : q < W.heap.size:=by obtain ⟨p,c,h1,_⟩:=h.box;exact (Array.getElem?_eq_some_iff.1 h1).1
theorem RSt.below (h : RSt T w W q l) (g : Below W.heap.size W W') : RSt T w W' q l:=by
 obtain ⟨p,c,h1,h2⟩:=h.box
 exact ⟨Kaa h.b g,h.base,p,c,Kai g h.lt h1,h2⟩
theorem RSt.rest (h : RSt T w W q l) {k : Nat} (hk : k ≤ l.length) : ∃ p c p' c',W.heap[q]? = some (.cells #[.slice p l.length c] T (0,0)) ∧ RdB W (.slice p l.length c) l ∧
 (∀ W',(Instr.slice 26 (.slice p l.length c) (some (.int .i64 (k : Int))) none none).run Tryz.prog W' = .ok (.slice p' (l.length - k) c') W') ∧
 RSt T w (W.setCell ⟨q,0,none⟩ (.slice p' (l.length - k) c')) q (l.drop k) ∧ RTo q W (W.setCell ⟨q,0,none⟩ (.slice p' (l.length - k) c')):=by
 obtain ⟨p,c,h1,h2⟩:=h.box
 obtain ⟨p',h3,h4⟩:=rd_rest h2 hk
 refine ⟨p,c,p',c - k,h1,h2.below h.b,h3,⟨Kbh h.b h.base _,h.base,p',c - k,?_,?_⟩,RTo.set q W _⟩
 ·rw [List.length_drop]
  exact heap_setCell_same W q 0 #[.slice p l.length c] T (.slice p' (l.length - k) (c - k)) h1
 ·rw [List.length_drop];exact h4
end
structure DSt (T : TypeId) (w W : World) (q : Nat) (l : List UInt8) (bad : Bool) : Prop where
 b : Below w.heap.size w W
 base : w.heap.size ≤ q
 box : ∃ p c,W.heap[q]? = some (.cells #[.slice p l.length c,.bool bad] T (0,0)) ∧ RdB w (.slice p l.length c) l
section
variable {T : TypeId} {w W W1 W' W'' : World} {q : Nat} {l m : List UInt8} {bad : Bool}
theorem DSt.lt (h : DSt T w W q l bad) : q < W.heap.size:=by obtain ⟨p,c,h1,_⟩:=h.box;exact (Array.getElem?_eq_some_iff.1 h1).1
theorem DSt.below (h : DSt T w W q l bad) (g : Below W.heap.size W W') : DSt T w W' q l bad:=by
 obtain ⟨p,c,h1,h2⟩:=h.box
 exact ⟨Kaa h.b g,h.base,p,c,Kai g h.lt h1,h2⟩
theorem RTo.set1 (q i : Nat) (W : World) (u : Value) : RTo q W (W.setCell ⟨q,i,none⟩ u):=⟨by simp [World.setCell],fun b _ hq=>Below.heap_setCell W ⟨q,i,none⟩ u b hq⟩
theorem DSt.set (h : DSt T w W q l bad) (x : Bool) : DSt T w (W.setCell ⟨q,1,none⟩ (.bool x)) q l x ∧ RTo q W (W.setCell ⟨q,1,none⟩ (.bool x)):=by
 obtain ⟨p,c,h1,h2⟩:=h.box
 refine ⟨⟨Kbh h.b h.base _,h.base,p,c,?_,h2⟩,RTo.set1 q 1 W _⟩
 exact heap_setCell_same W q 1 #[.slice p l.length c,.bool bad] T (.bool x) h1
theorem DSt.rest (h : DSt T w W q l bad) {k : Nat} (hk : k ≤ l.length) : ∃ p c p' c',W.heap[q]? = some (.cells #[.slice p l.length c,.bool bad] T (0,0)) ∧ RdB W (.slice p l.length c) l ∧
 (∀ W',(Instr.slice 26 (.slice p l.length c) (some (.int .i64 (k : Int))) none none).run Tryz.prog W' = .ok (.slice p' (l.length - k) c') W') ∧
 DSt T w (W.setCell ⟨q,0,none⟩ (.slice p' (l.length - k) c')) q (l.drop k) bad ∧ RTo q W (W.setCell ⟨q,0,none⟩ (.slice p' (l.length - k) c')):=by
 obtain ⟨p,c,h1,h2⟩:=h.box
 obtain ⟨p',h3,h4⟩:=rd_rest h2 hk
 refine ⟨p,c,p',c - k,h1,h2.below h.b,h3,⟨Kbh h.b h.base _,h.base,p',c - k,?_,?_⟩,RTo.set q W _⟩
 ·rw [List.length_drop]
  exact heap_setCell_same W q 0 #[.slice p l.length c,.bool bad] T (.slice p' (l.length - k) (c - k)) h1
 ·rw [List.length_drop];exact h4
end
section
variable {P : Program} {ops : Array Oper} {rest : List Oper} {Q : Exit → Act → World → Prop} {a : Act} {w w' : World} {dst : Option Tmp} {ty : TypeId} {pos : String} {af : Array Edge} {t : TypeId} {x y : Operand} {v : Value}
theorem Kal {b : Addr} (hr : (loadVar t b).run P w = .ok v w) (hx : a.eval x = .pointer (some b)) (h : wpList P ops Q rest (a.put dst v) w) : wpList P ops Q (⟨dst,.load t x,ty,pos,af,none⟩ :: rest) a w:=Kaw rfl t x b rfl hx hr h
theorem Kae {b : Addr} (hr : (storeVar t b v).run P w = .ok () w') (hx : a.eval x = .pointer (some b)) (hy : a.eval y = v) (h : wpList P ops Q rest a w') : wpList P ops Q (⟨none,.store t x y,ty,pos,af,none⟩ :: rest) a w:=Kat rfl t x y b rfl hx hy hr h
theorem op_slice {lo hi mx : Option Operand} {vx : Value} {lo' hi' mx' : Option Value} (hr : (Instr.sliceAt t vx lo' hi' mx').run P w = .ok v w') (hx : a.eval x = vx) (h1 : lo.map a.eval = lo') (h2 : hi.map a.eval = hi') (h3 : mx.map a.eval = mx') (h : wpList P ops Q rest (a.put dst v) w') :
 wpList P ops Q (⟨dst,.slice t x lo hi mx,ty,pos,af,none⟩ :: rest) a w:=Kbf rfl (exec_slice rfl hx h1 h2 h3 hr) h
theorem Kcg {s : TypeId} {vx : Value} (hr : (convert s t vx).run P w = .ok v w') (hx : a.eval x = vx) (h : wpList P ops Q rest (a.put dst v) w') : wpList P ops Q (⟨dst,.convert s t x,ty,pos,af,none⟩ :: rest) a w:=Kbf rfl (Kdw rfl hx hr) h
theorem op_bs1 {n i : Nat} {u : Value} (hr : (Instr.buildSlice t n #[(i,u)]).run P w = .ok v w') (hx : a.eval x = u) (h : wpList P ops Q rest (a.put dst v) w') : wpList P ops Q (⟨dst,.buildSlice t n #[(i,x)],ty,pos,af,none⟩ :: rest) a w:=Kbf rfl (Kbq rfl hx hr) h
theorem Kcv {u : TypeId} {vx vy : Value} (hr : (Builtin.append_ #[t,u] ty #[vx,vy]).run P w = .ok v w') (hx : a.eval x = vx) (hy : a.eval y = vy) (h : wpList P ops Q rest (a.put dst v) w') :
 wpList P ops Q (⟨dst,.call { callee:=.builtin .append,args:=#[x,y],argTypes:=#[t,u] },ty,pos,af,none⟩ :: rest) a w:=Kdf rfl rfl hx hy hr h
end
abbrev badV : Value:=.iface 154 (.agg #[])
abbrev given : Ending:=.panicked [{ v:=badV,recovered:=false }]
theorem Kax (w : World) : Calls Tryz.prog 105 #[.bool true] w fun e w'=>e = .returned (.tuple #[]) ∧ w = w':=by
 go_enter Tryz.func105,Tryz.ntmps105
 go_wp2
 go_end0
 exact ⟨rfl,rfl⟩
theorem Ka8 (w : World) : Calls Tryz.prog 105 #[.bool false] w fun e w'=>e = given ∧ w = w':=by
 go_enter Tryz.func105,Tryz.ntmps105
 go_wp2
 exact ⟨rfl,rfl,rfl⟩
def Reads {α : Type} (w W : World) (q : Nat) (r : Option (α × List UInt8)) (ok : α → Value → World → Prop) (e : Ending) (W' : World) : Prop :=
 RTo q W W' ∧ Below w.heap.size w W' ∧ match r with
  | some (x,s)=>∃ v,e = .returned v ∧ ok x v W' ∧ RSt 141 w W' q s
  | none=>e = given
theorem Reads.some {α : Type} {w W W' : World} {q : Nat} {x : α} {s : List UInt8} {ok : α → Value → World → Prop} {e : Ending} (h : Reads w W q (some (x,s)) ok e W') : RTo q W W' ∧ Below w.heap.size w W' ∧ ∃ v,e = .returned v ∧ ok x v W' ∧ RSt 141 w W' q s:=h
theorem Reads.none {α : Type} {w W W' : World} {q : Nat} {ok : α → Value → World → Prop} {e : Ending} (h : Reads w W q (none : Option (α × List UInt8)) ok e W') : RTo q W W' ∧ Below w.heap.size w W' ∧ e = given:=h
section
variable {T : TypeId} {w W W1 W' : World} {q : Nat} {l m : List UInt8}
theorem RSt.other (h : RSt T w W q l) (hb : Below w.heap.size w W') (hx : W'.heap[q]? = W.heap[q]?) : RSt T w W' q l:=by
 obtain ⟨p,c,h1,h2⟩:=h.box
 exact ⟨hb,h.base,p,c,hx.trans h1,h2⟩
end
theorem put_bytesR {w : World} {ad : Addr} {p : Option Addr} {n c : Nat} {u : Value} (hc : w.cell? ad = some u) (hf : w.frozen? ad = false) : (storeVar 26 ad (.slice p n c)).run Tryz.prog w = .ok () (w.setCell ad (.slice p n c)):=by
 simp [storeVar,go_sem,hc,hf]
theorem rd_first {W : World} {p : Option Addr} {c : Nat} {l : List UInt8} (h : RdB W (.slice p l.length c) l) (hl : 0 < l.length) : ∃ b o,p = some ⟨b,o,none⟩ ∧ W.cell? ⟨b,o,none⟩ = some (.int .u8 ((l[0]).toNat : Int)):=by
 obtain ⟨a1,cap,heq,⟨hn,hm,hz⟩,hcell⟩:=h
 cases heq
 cases p with
 | none=>have:=hz rfl;omega
 | some ad =>
   obtain ⟨hs,hc⟩:=hcell ad rfl
   obtain ⟨b,o,sp⟩:=ad
   have hs:=hs (fun e=>by rw [e] at hl;simp at hl)
   simp only at hs;subst hs
   have:=hc 0 l[0] (List.getElem?_eq_getElem hl)
   exact ⟨b,o,rfl,by simpa using this⟩
theorem Kcw {w W : World} {q : Nat} {l : List UInt8} (h : RSt 141 w W q l) (hl : 0 < l.length) :
 Calls Tryz.prog 110 #[.pointer (some ⟨q,0,none⟩)] W fun e W'=>e = .returned (.int .u8 ((l[0]).toNat : Int)) ∧ RSt 141 w W' q (l.drop 1) ∧ RTo q W W':=by
 obtain ⟨p,c,p',c',h1,h2,h3,h4,h5⟩:=h.rest (k:=1) (by omega)
 have z1 : (l.length : Int) ≤ 9223372036854775807:=by
  obtain ⟨a1,cap,heq,⟨hn,hm,hz⟩,_⟩:=h2
  cases heq;unfold maxLen at hm;omega
 have hpos : (0 : Int) < (l.length : Int):=by omega
 obtain ⟨b,o,rfl,hc⟩:=rd_first h2 hl
 have hq:=Kab (o:=0) h1 rfl
 have hcW:=hc
 have hst:=put_bytesR (p:=p') (n:=l.length - 1) (c:=c') hq (Kav (o:=0) h1)
 generalize l[0] = x0 at *
 have HSL:=yh (fun W'=>(Kcx Tryz.underlying26 _ _ _ _ W').trans (h3 W'))
 have HST:=yh hst
 have HM:=yh (Kax W)
 have HF:=yh (And.intro h4 h5)
 clear h h1 h2 h3 h4 h5 hc hst
 go_enter Tryz.func110,Tryz.ntmps110
 go_wp2_with (first
  | (go_at_call 105;refine HM.out.mono ?_;rintro e W1 ⟨rfl,rfl⟩)
  | ((with_reducible apply op_slice);exact HSL.out _;exact rfl;exact rfl;exact rfl;exact rfl)
  | ((with_reducible apply Kae);exact HST.out;exact rfl;exact rfl))
 go_ret
 exact ⟨rfl,HF.out⟩
theorem byte_bad {w W : World} {q : Nat} (h : RSt 141 w W q []) :
 Calls Tryz.prog 110 #[.pointer (some ⟨q,0,none⟩)] W fun e W'=>e = given ∧ W = W':=by
 obtain ⟨p,c,h1,h2⟩:=h.box
 have hq : W.cell? ⟨q,0,none⟩ = some (.slice p 0 c):=Kab (o:=0) h1 rfl
 have HM:=yh (Ka8 W)
 clear h h1 h2
 go_enter Tryz.func110,Tryz.ntmps110
 go_wp2_with (go_at_call 105;refine HM.out.mono ?_;rintro e W1 ⟨rfl,rfl⟩)
 exact ⟨rfl,rfl,rfl⟩
theorem rdN_cons {i a : Nat} {l : List UInt8} (h : 0 < l.length) : rdN i a l = if 9 ≤ i ∧ 2 ≤ (l[0]).toNat then none else if (l[0]).toNat < 128 then (if 0 < (l[0]).toNat ∨ i = 0 then some (a + (l[0]).toNat * 128 ^ i,l.drop 1) else none) else rdN (i + 1) (a + ((l[0]).toNat - 128) * 128 ^ i) (l.drop 1):=by
 cases l with
 | nil=>simp at h
 | cons c r=>rw [rdN];rfl
theorem bits_and127 {c : Nat} (h : c < 256) : bits .and .u8 (c : Int) 127 = ((c % 128 : Nat) : Int):=by
 have h1 : bits .and .u8 (c : Int) ((127 : Nat) : Int) = ((c &&& 127 : Nat) : Int):=u8_and_nat c 127 h (by decide)
 have h2 : c &&& 127 = c % 128:=Nat.and_two_pow_sub_one_eq_mod c 7
 rw [h2] at h1
 exact h1
theorem bits_step {i a c : Nat} (hi : i ≤ 9) (ha : a < 128 ^ i) (hc : c < 256) (h9 : i = 9 → c < 2) :
 bits .or .u64 (a : Int) (IntKind.u64.wrap (IntKind.u64.wrap (bits .and .u8 (c : Int) 127) * 2 ^ (7 * i))) = ((a + c % 128 * 128 ^ i : Nat) : Int):=by
 rw [bits_and127 hc]
 have hp:=pow_le hi
 have hpw : (2 : Nat) ^ (7 * i) = 128 ^ i:=by rw [Nat.pow_mul]
 have hx : c % 128 * 128 ^ i < 18446744073709551616:=by
  by_cases e : i = 9
  ·have:=h9 e
   subst e
   rw [pow9];omega
  ·have h8 : (128 : Nat) ^ i ≤ 128 ^ 8:=Nat.pow_le_pow_right (by omega) (by omega)
   have h8' : (128 : Nat) ^ 8 = 72057594037927936:=by decide
   rw [h8'] at h8
   have : c % 128 * 128 ^ i ≤ 127 * 72057594037927936:=Nat.mul_le_mul (by omega) h8
   omega
 have e1 : IntKind.u64.wrap ((c % 128 : Nat) : Int) = ((c % 128 : Nat) : Int):=by rw [IntKind.wrap_u64];omega
 have e2 : (((c % 128 : Nat) : Int) * 2 ^ (7 * i)) = ((c % 128 * 128 ^ i : Nat) : Int):=by rw [← hpw];push_cast;rfl
 have e3 : IntKind.u64.wrap ((c % 128 * 128 ^ i : Nat) : Int) = ((c % 128 * 128 ^ i : Nat) : Int):=by rw [IntKind.wrap_u64];omega
 rw [e1,e2,e3,u64_or_nat a _ (by omega) hx]
 congr 1
 have:=nat_join (7 * i) (c % 128 * 128 ^ i) a (by rw [hpw];exact Nat.mul_mod_left _ _) (by rw [hpw];exact ha)
 rw [Nat.or_comm,this,Nat.add_comm]
theorem Ka0 {w W : World} {q : Nat} {l : List UInt8} (h : RSt 141 w W q l) :
 Calls Tryz.prog 55 #[.pointer (some ⟨q,0,none⟩)] W (Reads w W q (rdN 0 0 l) fun n v _=>v = .int .u64 (n : Int)):=by
 have H:=yh h
 clear h
 go_enter Tryz.func55,Tryz.ntmps55
 go_wp2
 go_loopw [3,4] (fun n s wr=>∃ i a : Nat,i ≤ 9 ∧ Hid (a < 128 ^ i) ∧ n = .int .u64 (a : Int) ∧ s = .int .i64 (7 * (i : Int)) ∧ Hid (∃ m,RSt 141 w wr q m ∧ RTo q W wr ∧ rdN i a m = rdN 0 0 l)) (fun _ s _=>70 - (intOf s).toNat)
 case atStart=>exact ⟨0,0,by omega,yh (by simp),rfl,rfl,yh ⟨l,H.out,RTo.refl _ _,rfl⟩⟩
 case round =>
  obtain ⟨i,a,hi,Ha,rfl,rfl,HI⟩:=hrel
  obtain ⟨m,hm,tm,em⟩:=HI.out
  by_cases hl : 0 < m.length
  ·rw [rdN_cons hl] at em
   have HB:=yh (Kcw hm hl)
   have hc:=(m[0]).toNat_lt
   generalize hx : (m[0]).toNat = c at *
   by_cases hg : 9 ≤ i ∧ 2 ≤ c
   ·have g1 : decide (7 * (i : Int) < 63) = false:=by rw [decide_eq_false_iff_not];omega
    have g2 : decide ((c : Int) < 2) = false:=by rw [decide_eq_false_iff_not];omega
    rw [if_pos hg] at em
    have HT:=yh (And.intro tm em)
    clear HI hm tm em
    go_wp2_with (first
     | (go_at_call 110;refine HB.out.mono ?_;rintro e W1 ⟨rfl,h1,t1⟩;have H1:=yh (And.intro h1 t1);clear h1 t1)
     | (go_at_call 105;refine (Ka8 _).mono ?_;rintro e W2 ⟨rfl,rfl⟩))
    refine ⟨rfl,?_⟩
    refine ⟨HT.out.1.trans H1.out.2,H1.out.1.b,?_⟩
    rw [← HT.out.2]
   ·rw [if_neg hg] at em
    have hbs:=bits_step hi Ha.out (by omega : c < 256) (fun e=>by omega)
    have h9 : ¬ ((i : Int) < 9) → (c : Int) < 2:=by omega
    by_cases hlow : c < 128
    ·rw [if_pos hlow] at em
     have hcl : c % 128 = c:=by omega
     rw [hcl] at hbs
     have l1 : (c : Int) < 128:=by omega
     by_cases hz : 0 < c ∨ i = 0
     ·rw [if_pos hz] at em
      have HT:=yh (And.intro tm em)
      clear HI hm tm em
      by_cases hcz : 0 < c
      ·have l2 : (0 : Int) < (c : Int):=by omega
       by_cases hi9 : i < 9
       ·have l3 : 7 * (i : Int) < 63:=by omega
        go_wp2_with (first
         | (go_at_call 110;refine HB.out.mono ?_;rintro e W1 ⟨rfl,h1,t1⟩;have H1:=yh (And.intro h1 t1);clear h1 t1)
         | (go_at_call 105;refine (Kax _).mono ?_;rintro e W2 ⟨rfl,rfl⟩))
        go_ret
        refine ⟨HT.out.1.trans H1.out.2,H1.out.1.b,?_⟩
        rw [← HT.out.2]
        exact ⟨_,rfl,rfl,H1.out.1⟩
       ·have l3 : ¬ (7 * (i : Int) < 63):=by omega
        have l4 : (c : Int) < 2:=by omega
        go_wp2_with (first
         | (go_at_call 110;refine HB.out.mono ?_;rintro e W1 ⟨rfl,h1,t1⟩;have H1:=yh (And.intro h1 t1);clear h1 t1)
         | (go_at_call 105;refine (Kax _).mono ?_;rintro e W2 ⟨rfl,rfl⟩))
        go_ret
        refine ⟨HT.out.1.trans H1.out.2,H1.out.1.b,?_⟩
        rw [← HT.out.2]
        exact ⟨_,rfl,rfl,H1.out.1⟩
      ·obtain rfl : c = 0:=by omega
       obtain rfl : i = 0:=by omega
       have ha0:=Ha.out
       obtain rfl : a = 0:=by simpa using ha0
       have hb0 : bits .or .u64 0 (IntKind.u64.wrap (IntKind.u64.wrap (bits .and .u8 0 127))) = 0:=by decide
       clear hbs ha0
       go_wp2_with (first
        | (go_at_call 110;refine HB.out.mono ?_;rintro e W1 ⟨rfl,h1,t1⟩;have H1:=yh (And.intro h1 t1);clear h1 t1)
        | (go_at_call 105;refine (Kax _).mono ?_;rintro e W2 ⟨rfl,rfl⟩))
       go_ret
       refine ⟨HT.out.1.trans H1.out.2,H1.out.1.b,?_⟩
       rw [← HT.out.2]
       exact ⟨_,rfl,rfl,H1.out.1⟩
     ·rw [if_neg hz] at em
      have HT:=yh (And.intro tm em)
      obtain rfl : c = 0:=by omega
      have l2 : (7 * (i : Int) == 0) = false:=by rw [beq_eq_false_iff_ne];omega
      clear HI hm tm em
      by_cases hi9 : i < 9
      ·have l3 : 7 * (i : Int) < 63:=by omega
       go_wp2_with (first
        | (go_at_call 110;refine HB.out.mono ?_;rintro e W1 ⟨rfl,h1,t1⟩;have H1:=yh (And.intro h1 t1);clear h1 t1)
        | (go_at_call 105;first | (refine (Kax _).mono ?_;rintro e W2 ⟨rfl,rfl⟩) | (refine (Ka8 _).mono ?_;rintro e W2 ⟨rfl,rfl⟩)))
       refine ⟨rfl,?_⟩
       refine ⟨HT.out.1.trans H1.out.2,H1.out.1.b,?_⟩
       rw [← HT.out.2]
      ·have l3 : ¬ (7 * (i : Int) < 63):=by omega
       go_wp2_with (first
        | (go_at_call 110;refine HB.out.mono ?_;rintro e W1 ⟨rfl,h1,t1⟩;have H1:=yh (And.intro h1 t1);clear h1 t1)
        | (go_at_call 105;first | (refine (Kax _).mono ?_;rintro e W2 ⟨rfl,rfl⟩) | (refine (Ka8 _).mono ?_;rintro e W2 ⟨rfl,rfl⟩)))
       refine ⟨rfl,?_⟩
       refine ⟨HT.out.1.trans H1.out.2,H1.out.1.b,?_⟩
       rw [← HT.out.2]
    ·rw [if_neg hlow] at em
     have hcl : c % 128 = c - 128:=by omega
     rw [hcl] at hbs
     have l1 : ¬ ((c : Int) < 128):=by omega
     have hi9 : i < 9:=by omega
     have hi10 : i + 1 ≤ 9:=hi9
     have l3 : 7 * (i : Int) < 63:=by omega
     have ha2 : a + (c - 128) * 128 ^ i < 128 ^ (i + 1):=by
      have:=Ha.out
      have : (c - 128) * 128 ^ i ≤ 127 * 128 ^ i:=Nat.mul_le_mul_right _ (by omega)
      rw [Nat.pow_succ];omega
     have HA2:=yh ha2
     have HT:=yh (And.intro tm em)
     clear HI hm tm em ha2
     go_wp2_with (first
      | (go_at_call 110;refine HB.out.mono ?_;rintro e W1 ⟨rfl,h1,t1⟩;have H1:=yh (And.intro h1 t1);clear h1 t1)
      | (go_at_call 105;refine (Kax _).mono ?_;rintro e W2 ⟨rfl,rfl⟩))
     go_roundw
     case rel=>exact ⟨i + 1,_,hi10,HA2,rfl,by go_num,yh ⟨_,H1.out.1,HT.out.1.trans H1.out.2,HT.out.2⟩⟩
     case measure=>simp [intOf];omega
  ·obtain rfl : m = []:=List.eq_nil_of_length_eq_zero (by omega)
   have HB:=yh (byte_bad hm)
   have HT:=yh (And.intro tm (And.intro hm.b em))
   clear HI hm tm em
   go_wp2_with (go_at_call 110;refine HB.out.mono ?_;rintro e W1 ⟨rfl,rfl⟩)
   refine ⟨rfl,?_⟩
   refine ⟨HT.out.1,HT.out.2.1,?_⟩
   rw [← HT.out.2.2,rdN]
def okV (v : V) : Bool:=checkV Lib.validD v == 0
def fineL (l : List V) : Bool:=l.all okV
theorem fine1_any {v : V} {w : World} {x : Array Value} (hE : Env w) (hx : VRd w v x) (ht : totV v ≤ 1099511627776) :
 Calls Tryz.prog 185 #[.agg x] w fun e w'=>e = .returned (.bool (!(okV v))) ∧ Below w.heap.size w w':=by
 have hT:=OneB.start w x
 have hc:=check_ok (hE.b hT.2) (hx.below hT.2) ht
 obtain ⟨pk,ck,pl,cl,rfl,_⟩:=hx.open
 have HC:=yh hc
 have HT:=yh hT
 clear hc hT hx hE ht
 unfold okV
 generalize checkV Lib.validD v = R at *
 go_enter Tryz.func185,Tryz.ntmps185
 go_wp2_with (go_at_call 63;refine HC.out.mono ?_;rintro e w1 ⟨rfl,hb1⟩;have HB:=yh (Kaa HT.out.2 hb1);clear hb1)
 go_ret
 exact ⟨Ka1 (by simp [bne]),HB.out⟩
theorem index_fine {w : World} {p : Option Addr} {c : Nat} {l : List V} (hE : Env w) (hl : LRd w p c l) (ht : totVs l ≤ 1099511627776) :
 Calls Tryz.prog 204 #[.slice p l.length c,.func (.func 185) #[] #[]] w fun e w'=>(∃ i : Int,e = .returned (.int .i64 i) ∧ decide (0 ≤ i) = !(fineL l)) ∧ Below w.heap.size w w':=by
 have z1 : (l.length : Int) ≤ 140737488355328:=by have:=hl.1.1;have:=hl.1.2.1;omega
 have HE:=yh hE
 have HL:=yh hl
 have HT:=yh ht
 clear hE hl ht
 go_enter Tryz.func204,Tryz.ntmps204
 go_wp2
 go_loopw [8] (fun i W=>∃ j : Nat,j ≤ l.length ∧ i = .int .i64 (j : Int) ∧ Hid (Below w.heap.size w W ∧ fineL (l.take j) = true)) (fun i _=>l.length - (intOf i).toNat)
 case atStart=>exact ⟨0,Nat.zero_le _,rfl,yh ⟨Below.refl _ _,rfl⟩⟩
 case round =>
  obtain ⟨j,hj,rfl,HJ⟩:=hrel
  by_cases hlt : j < l.length
  ·have hlt1 : j + 1 ≤ l.length:=hlt
   obtain ⟨hb,hf⟩:=HJ.out
   have htk : fineL (l.take (j + 1)) = okV l[j]:=by
    unfold fineL at *
    rw [List.take_succ_eq_append_getElem hlt,List.all_append,hf];simp
   have hbad : okV l[j] = false → fineL l = false:=fun h=>by
    unfold fineL;rw [List.all_eq_false];exact ⟨l[j],List.getElem_mem hlt,by simp [h]⟩
   have htot:=Ke3 (List.getElem_mem hlt)
   obtain ⟨g1,o1,pk1,ck1,pl1,cl1,rfl,⟨a0,a1,a2,a3,a4,a5⟩,hv1⟩:=(HL.out.below hb).at hlt
   have hcall:=fine1_any (HE.out.b hb) hv1 (by have:=HT.out;omega)
   generalize okV l[j] = on at *
   generalize l[j] = s1 at *
   have HD:=yh (And.intro htk (And.intro hbad (And.intro hcall hb)))
   clear htk hbad hcall hb hf htot hv1 HJ
   cases on with
   | false =>
     go_wp2_with (go_at_call 185
                  (
                    refine HD.out.2.2.1.mono ?_
                    rintro e w1 ⟨rfl,hb1⟩
                    have HB:=yh hb1
                    clear hb1))
     go_ret
     refine ⟨⟨_,rfl,?_⟩,Kaa HD.out.2.2.2 HB.out⟩
     rw [HD.out.2.1 (by simp)];simp
   | true =>
     go_wp2_with (go_at_call 185
                  (
                    refine HD.out.2.2.1.mono ?_
                    rintro e w1 ⟨rfl,hb1⟩
                    have HB:=yh hb1
                    clear hb1))
     go_roundw
     case rel=>exact ⟨j + 1,hlt1,by go_num,yh ⟨Kaa HD.out.2.2.2 HB.out,HD.out.1⟩⟩
     case measure=>simp [intOf];omega
  ·obtain rfl : j = l.length:=by omega
   have hfin : fineL l = true:=by have h:=HJ.out.2;rwa [List.take_length] at h
   have HF:=yh (And.intro hfin HJ.out.1)
   clear hfin HJ
   go_wp2
   go_ret
   exact ⟨⟨_,rfl,by rw [HF.out.1];simp⟩,HF.out.2⟩
theorem contains_fine {w : World} {p : Option Addr} {c : Nat} {l : List V} (hE : Env w) (hl : LRd w p c l) (ht : totVs l ≤ 1099511627776) :
 Calls Tryz.prog 183 #[.slice p l.length c,.func (.func 185) #[] #[]] w fun e w'=>e = .returned (.bool (!(fineL l))) ∧ Below w.heap.size w w':=by
 have HC:=yh (index_fine hE hl ht)
 clear hE hl ht
 go_enter Tryz.func183,Tryz.ntmps183
 go_wp2_with (go_at_call 204;refine HC.out.mono ?_;rintro e w1 ⟨⟨i,rfl,hi⟩,hb1⟩;have HB:=yh (And.intro hi hb1);clear hi hb1)
 go_ret
 exact ⟨Ka1 HB.out.1,HB.out.2⟩
theorem fine_any {w : World} {p : Option Addr} {c : Nat} {l : List V} (hE : Env w) (hl : LRd w p c l) (ht : totVs l ≤ 1099511627776) :
 Calls Tryz.prog 172 #[.slice p l.length c] w fun e w'=>e = .returned (.bool (fineL l)) ∧ Below w.heap.size w w':=by
 have HC:=yh (contains_fine hE hl ht)
 clear hE hl ht
 go_enter Tryz.func172,Tryz.ntmps172
 go_wp2_with (go_at_call 183;refine HC.out.mono ?_;rintro e w1 ⟨rfl,hb1⟩;have HB:=yh hb1;clear hb1)
 go_ret
 exact ⟨Ka1 (by simp),HB.out⟩
theorem LRd.one {W : World} {g : Nat} {a : V} {c0 c1 c2 c3 c4 c5 : Value} (h : W.heap[g]? = some (.cells #[c0,c1,c2,c3,c4,c5] 48 (0,0))) (ha : VRd W a #[c0,c1,c2,c3,c4,c5]) : LRd W (some ⟨g,0,none⟩) 1 [a]:=by
 refine ⟨⟨by simp,⟨by simp,by omega⟩,fun e=>by cases e⟩,fun ad had=>?_⟩
 cases had
 refine ⟨fun _=>rfl,fun j v hv=>?_⟩
 match j,hv with
 | 0,hv=>cases hv;exact ⟨_,⟨_,_,_,_,_,_,rfl,Kab h rfl,Kab h rfl,Kab h rfl,Kab h rfl,Kab h rfl,Kab h rfl⟩,ha⟩
 | j + 1,hv=>simp at hv
theorem LRd.two {W : World} {g : Nat} {a b : V} {c0 c1 c2 c3 c4 c5 d0 d1 d2 d3 d4 d5 : Value} (h : W.heap[g]? = some (.cells #[c0,c1,c2,c3,c4,c5,d0,d1,d2,d3,d4,d5] 48 (0,0))) (ha : VRd W a #[c0,c1,c2,c3,c4,c5]) (hb : VRd W b #[d0,d1,d2,d3,d4,d5]) : LRd W (some ⟨g,0,none⟩) 2 [a,b]:=by
 refine ⟨⟨by simp,⟨by simp,by omega⟩,fun e=>by cases e⟩,fun ad had=>?_⟩
 cases had
 refine ⟨fun _=>rfl,fun j v hv=>?_⟩
 match j,hv with
 | 0,hv=>cases hv;exact ⟨_,⟨_,_,_,_,_,_,rfl,Kab h rfl,Kab h rfl,Kab h rfl,Kab h rfl,Kab h rfl,Kab h rfl⟩,ha⟩
 | 1,hv=>cases hv;exact ⟨_,⟨_,_,_,_,_,_,rfl,Kab h rfl,Kab h rfl,Kab h rfl,Kab h rfl,Kab h rfl,Kab h rfl⟩,hb⟩
 | j + 2,hv=>simp at hv
theorem okV_may {v : V} (h : okV v = true) : mayV Lib.validD v = true:=by
 unfold okV checkV at h
 cases hm : mayV Lib.validD v with
 | true=>rfl
 | false=>rw [hm] at h;simp at h
theorem fine_two {w W : World} {a b : V} {x0 x1 x2 x3 x4 x5 y0 y1 y2 y3 y4 y5 : Value} (hE : Env w) (hT : TwoV w W #[x0,x1,x2,x3,x4,x5] #[y0,y1,y2,y3,y4,y5]) (ha : VRd w a #[x0,x1,x2,x3,x4,x5]) (hb : VRd w b #[y0,y1,y2,y3,y4,y5]) (ht : totV a + totV b ≤ 1099511627776) :
 Calls Tryz.prog 172 #[.slice (some ⟨W.heap.size,0,none⟩) 2 2] (W.alloc (.cells #[x0,x1,x2,x3,x4,x5,y0,y1,y2,y3,y4,y5] 48)) fun e w'=>e = .returned (.bool (okV a && okV b)) ∧ TwoV w w' #[x0,x1,x2,x3,x4,x5] #[y0,y1,y2,y3,y4,y5]:=by
 have hA:=Kac (w:=W) (.cells #[x0,x1,x2,x3,x4,x5,y0,y1,y2,y3,y4,y5] 48)
 have hT2:=hT.below hA
 have hL:=LRd.two (heap_alloc_new W _) (ha.below hT2.2.2) (hb.below hT2.2.2)
 refine (fine_any (hE.b hT2.2.2) hL (by simp only [totVs];omega)).mono ?_
 rintro e w' ⟨rfl,hb'⟩
 exact ⟨Ka1 (by simp [fineL]),hT2.below hb'⟩
theorem same_any {a b : V} {w : World} {x y : Array Value} (hE : Env w) (ha : VRd w a x) (hb : VRd w b y) (ht : totV a + totV b ≤ 1099511627776) :
 Calls Tryz.prog 157 #[.agg x,.agg y] w fun e w'=>e = .returned (.bool (okV a && okV b && decide (cmpV a b = 0))) ∧ Below w.heap.size w w':=by
 have hT:=TwoV.start w x y
 obtain ⟨pk,ck,pl,cl,rfl,_⟩:=ha.open
 obtain ⟨pk',ck',pl',cl',rfl,_⟩:=hb.open
 have hf:=fine_two hE hT ha hb ht
 simp only [World.size_alloc] at hf
 have hcmp : ∀ {W : World},okV a = true → okV b = true → Below w.heap.size w W → _:=fun {W} h1 h2 hbw=>compare_any a (okV_may h1) b (okV_may h2) (ha.below hbw) (hb.below hbw)
 have HF:=yh hf
 have HC:=yh (fun (W : World) (h1 : okV a = true) (h2 : okV b = true) (hbw : Below w.heap.size w W)=>hcmp h1 h2 hbw)
 clear hcmp hf hT hE ha hb ht
 generalize cmpV a b = R at *
 cases hok : (okV a && okV b) with
 | false =>
   rw [hok] at HF
   go_enter Tryz.func157,Tryz.ntmps157
   go_wp2_with (go_at_call 172;(refine HF.out.mono ?_;rintro e w1 ⟨rfl,hT1⟩;have HT:=yh hT1;clear hT1))
   go_ret
   exact ⟨rfl,HT.out.2.2⟩
 | true =>
   rw [hok] at HF
   obtain ⟨h1,h2⟩:=Bool.and_eq_true_iff.1 hok
   go_enter Tryz.func157,Tryz.ntmps157
   go_wp2_with (first
    | (go_at_call 172
       (
         refine HF.out.mono ?_
         rintro e w1 ⟨rfl,hT1⟩
         have HT:=yh hT1
         have p0:=Kab (o:=0) hT1.1 rfl
         have p1:=Kab (o:=1) hT1.1 rfl
         have p2:=Kab (o:=2) hT1.1 rfl
         have p3:=Kab (o:=3) hT1.1 rfl
         have p4:=Kab (o:=4) hT1.1 rfl
         have p5:=Kab (o:=5) hT1.1 rfl
         have r0:=Kab (o:=0) hT1.2.1 rfl
         have r1:=Kab (o:=1) hT1.2.1 rfl
         have r2:=Kab (o:=2) hT1.2.1 rfl
         have r3:=Kab (o:=3) hT1.2.1 rfl
         have r4:=Kab (o:=4) hT1.2.1 rfl
         have r5:=Kab (o:=5) hT1.2.1 rfl
         clear hT1))
    | (go_at_call 173
       (
         refine (HC.out _ h1 h2 HT.out.2.2).mono ?_
         rintro e w2 ⟨rfl,hb2⟩
         have HB:=yh (Kaa HT.out.2.2 hb2)
         clear hb2)))
   go_ret
   exact ⟨Ka1 (by simp;rfl),HB.out⟩
def badB (k k0 : Int) : Bool:=decide (k ≠ k0) || decide (k < 1) || decide (3 < k)
def storL (l : List V) : Bool:=l.all fun x=>!(badB x.kind ((l.map V.kind).headD 0))
def storB (v : V) : Bool:=storL (if v.kind = 4 then v.list else [v])
theorem fa_first (y o : Nat) (W : World) : (Instr.fieldAt 48 (.pointer (some ⟨y,o,none⟩)) 0).run Tryz.prog W = .ok (.pointer (some ⟨y,o,none⟩)) W:=by
 simp [go_sem]
theorem ia_first (g o n c : Nat) (h : 0 < n) (W : World) : (Instr.indexAt 46 (.slice (some ⟨g,o,none⟩) n c) (.int .i64 0)).run Tryz.prog W = .ok (.pointer (some ⟨g,o,none⟩)) W:=by
 simp [go_sem,h,Ka4]
structure BoxL (w : World) (b g o n c : Nat) (k0 : Int) (x : Array Value) (W : World) : Prop where
 box : W.heap[b]? = some (.cells #[.slice (some ⟨g,o,none⟩) n c] 46 (0,0))
 first : W.cell? ⟨g,o,none⟩ = some (.int .i64 k0)
 one : W.heap[w.heap.size]? = some (.cells x 48 (0,0))
 below : Below w.heap.size w W
theorem bad_any {w : World} {v : V} {x : Array Value} {b g o n c : Nat} {k0 : Int} (hx : VRd w v x) (hb : w.heap[b]? = some (.cells #[.slice (some ⟨g,o,none⟩) n c] 46 (0,0))) (hk : w.cell? ⟨g,o,none⟩ = some (.int .i64 k0)) (hn : 0 < n) :
 Calls Tryz.prog 182 #[.agg x,.pointer (some ⟨b,0,none⟩)] w fun e w'=>e = .returned (.bool (badB v.kind k0)) ∧ Below w.heap.size w w':=by
 obtain ⟨pk,ck,pl,cl,rfl,_⟩:=hx.open
 have hT : BoxL w b g o n c k0 #[.int .i64 v.kind,.bool v.b,.int .i64 v.n,.string (strB v.text),.slice pk v.keys.length ck,.slice pl v.list.length cl] (w.alloc (.cells #[.int .i64 v.kind,.bool v.b,.int .i64 v.n,.string (strB v.text),.slice pk v.keys.length ck,.slice pl v.list.length cl] 48)) :=
  ⟨Kai (Kac _) (Array.getElem?_eq_some_iff.1 hb).1 hb,Kak (Kac _) (ltOf hk) hk,heap_alloc_new w _,Kac _⟩
 have HR:=yh (show badB v.kind k0 = (decide (v.kind ≠ k0) || decide (v.kind < 1) || decide (3 < v.kind)) from rfl)
 generalize badB v.kind k0 = R at *
 generalize v.kind = k at *
 have HT:=yh hT
 clear hx hb hk hT
 go_enter Tryz.func182,Tryz.ntmps182
 go_wp2
 have hT:=HT.out
 generalize w.alloc _ = W0 at *
 have hT0 : BoxL w b g o n c k0 #[.int .i64 k,.bool v.b,.int .i64 v.n,.string (strB v.text),.slice pk v.keys.length ck,.slice pl v.list.length cl] W0.drew:=⟨hT.box,hT.first,hT.one,hT.below.drew⟩
 by_cases h1 : k = k0
 ·have hne : ∀ W : World,(binOp .neq 44 (.int .i64 k) (.int .i64 k0)).run Tryz.prog W = .ok (.bool false) W:=by
   intro W;simp [go_sem,h1]
  by_cases h2 : k < 1
  ·have hlt : ∀ W : World,(binOp .lss 44 (.int .i64 k) (.int .i64 1)).run Tryz.prog W = .ok (.bool true) W:=by
    intro W;simp [go_sem,h2]
   refine Kaj (fun W=>BoxL w b g o n c k0 #[.int .i64 k,.bool v.b,.int .i64 v.n,.string (strB v.text),.slice pk v.keys.length ck,.slice pl v.list.length cl] W) (by kernel_rfl) hT0 (fun hU0=>?_)
   refine tk 0 4 (v:=.pointer (some ⟨w.heap.size,0,none⟩)) rfl rfl (fun W hW=>Kad rfl rfl (Kbv _ _ (by decide) W)) ?_
   simp only [Act.put,sA,sZ,sS]
   refine tk 1 5 (v:=.int .i64 k) rfl rfl (fun W hW=>Kaf rfl rfl (Kag (w:=W) Tryz.underlying44 rfl (Kab hW.one rfl))) ?_
   simp only [Act.put,sA,sZ,sS]
   refine tk 2 6 (v:=.slice (some ⟨g,o,none⟩) n c) rfl rfl (fun W hW=>Kaf rfl rfl (Kag (w:=W) Tryz.underlying46 rfl (Kab hW.box rfl))) ?_
   simp only [Act.put,sA,sZ,sS]
   refine tk 3 7 (v:=.pointer (some ⟨g,o,none⟩)) rfl rfl (fun W hW=>Kao rfl rfl rfl (ia_first _ _ _ _ hn W)) ?_
   simp only [Act.put,sA,sZ,sS]
   refine tk 4 8 (v:=.pointer (some ⟨g,o,none⟩)) rfl rfl (fun W hW=>Kad rfl rfl (fa_first _ _ W)) ?_
   simp only [Act.put,sA,sZ,sS]
   refine tk 5 9 (v:=.int .i64 k0) rfl rfl (fun W hW=>Kaf rfl rfl (Kag (w:=W) Tryz.underlying44 rfl hW.first)) ?_
   simp only [Act.put,sA,sZ,sS]
   refine tk 6 10 (v:=.bool false) rfl rfl (fun W hW=>Kar rfl rfl rfl (hne W)) ?_
   simp only [Act.put,sA,sZ,sS]
   refine tk 7 11 (v:=.bool false) rfl rfl (fun W hW=>Kah rfl rfl) ?_
   simp only [Act.put,sA,sZ,sS]
   refine tk 8 12 (v:=.pointer (some ⟨w.heap.size,0,none⟩)) rfl rfl (fun W hW=>Kad rfl rfl (Kbv _ _ (by decide) W)) ?_
   simp only [Act.put,sA,sZ,sS]
   refine tk 9 13 (v:=.int .i64 k) rfl rfl (fun W hW=>Kaf rfl rfl (Kag (w:=W) Tryz.underlying44 rfl (Kab hW.one rfl))) ?_
   simp only [Act.put,sA,sZ,sS]
   refine tk 10 14 (v:=.bool true) rfl rfl (fun W hW=>Kar rfl rfl rfl (hlt W)) ?_
   simp only [Act.put,sA,sZ,sS]
   refine tk 11 15 (v:=.bool true) rfl rfl (fun W hW=>rfl) ?_
   simp only [Act.put,sA,sZ,sS]
   refine tk 12 16 (v:=.bool true) rfl rfl (fun W hW=>Kah rfl rfl) ?_
   simp only [Act.put,sA,sZ,sS]
   refine tn 13 17 rfl rfl ?_
   simp only [Act.put,sA,sZ,sS]
   refine tn 14 18 rfl rfl ?_
   simp only [Act.put,sA,sZ,sS]
   refine tn 15 19 rfl rfl ?_
   simp only [Act.put,sA,sZ,sS]
   refine tk 16 20 (v:=.bool true) rfl rfl (fun W hW=>rfl) ?_
   simp only [Act.put,sA,sZ,sS]
   refine tk 17 3 (v:=.bool true) rfl rfl (fun W hW=>Kaz rfl rfl) ?_
   simp only [Act.put,sA,sZ,sS]
   refine done (by kernel_rfl) ?_ _
   go_wp2
   go_ret
   exact ⟨Ka1 (by rw [HR.out];simp [h2]),hU0.below⟩
  ·have hlt : ∀ W : World,(binOp .lss 44 (.int .i64 k) (.int .i64 1)).run Tryz.prog W = .ok (.bool false) W:=by
    intro W;simp [go_sem];omega
   have hgt : ∀ W : World,(binOp .gtr 44 (.int .i64 k) (.int .i64 3)).run Tryz.prog W = .ok (.bool (decide (3 < k))) W:=by
    intro W;simp [go_sem]
   refine Kaj (fun W=>BoxL w b g o n c k0 #[.int .i64 k,.bool v.b,.int .i64 v.n,.string (strB v.text),.slice pk v.keys.length ck,.slice pl v.list.length cl] W) (by kernel_rfl) hT0 (fun hU0=>?_)
   refine tk 0 4 (v:=.pointer (some ⟨w.heap.size,0,none⟩)) rfl rfl (fun W hW=>Kad rfl rfl (Kbv _ _ (by decide) W)) ?_
   simp only [Act.put,sA,sZ,sS]
   refine tk 1 5 (v:=.int .i64 k) rfl rfl (fun W hW=>Kaf rfl rfl (Kag (w:=W) Tryz.underlying44 rfl (Kab hW.one rfl))) ?_
   simp only [Act.put,sA,sZ,sS]
   refine tk 2 6 (v:=.slice (some ⟨g,o,none⟩) n c) rfl rfl (fun W hW=>Kaf rfl rfl (Kag (w:=W) Tryz.underlying46 rfl (Kab hW.box rfl))) ?_
   simp only [Act.put,sA,sZ,sS]
   refine tk 3 7 (v:=.pointer (some ⟨g,o,none⟩)) rfl rfl (fun W hW=>Kao rfl rfl rfl (ia_first _ _ _ _ hn W)) ?_
   simp only [Act.put,sA,sZ,sS]
   refine tk 4 8 (v:=.pointer (some ⟨g,o,none⟩)) rfl rfl (fun W hW=>Kad rfl rfl (fa_first _ _ W)) ?_
   simp only [Act.put,sA,sZ,sS]
   refine tk 5 9 (v:=.int .i64 k0) rfl rfl (fun W hW=>Kaf rfl rfl (Kag (w:=W) Tryz.underlying44 rfl hW.first)) ?_
   simp only [Act.put,sA,sZ,sS]
   refine tk 6 10 (v:=.bool false) rfl rfl (fun W hW=>Kar rfl rfl rfl (hne W)) ?_
   simp only [Act.put,sA,sZ,sS]
   refine tk 7 11 (v:=.bool false) rfl rfl (fun W hW=>Kah rfl rfl) ?_
   simp only [Act.put,sA,sZ,sS]
   refine tk 8 12 (v:=.pointer (some ⟨w.heap.size,0,none⟩)) rfl rfl (fun W hW=>Kad rfl rfl (Kbv _ _ (by decide) W)) ?_
   simp only [Act.put,sA,sZ,sS]
   refine tk 9 13 (v:=.int .i64 k) rfl rfl (fun W hW=>Kaf rfl rfl (Kag (w:=W) Tryz.underlying44 rfl (Kab hW.one rfl))) ?_
   simp only [Act.put,sA,sZ,sS]
   refine tk 10 14 (v:=.bool false) rfl rfl (fun W hW=>Kar rfl rfl rfl (hlt W)) ?_
   simp only [Act.put,sA,sZ,sS]
   refine tk 11 15 (v:=.bool false) rfl rfl (fun W hW=>rfl) ?_
   simp only [Act.put,sA,sZ,sS]
   refine tk 12 16 (v:=.bool false) rfl rfl (fun W hW=>Kah rfl rfl) ?_
   simp only [Act.put,sA,sZ,sS]
   refine tk 13 17 (v:=.pointer (some ⟨w.heap.size,0,none⟩)) rfl rfl (fun W hW=>Kad rfl rfl (Kbv _ _ (by decide) W)) ?_
   simp only [Act.put,sA,sZ,sS]
   refine tk 14 18 (v:=.int .i64 k) rfl rfl (fun W hW=>Kaf rfl rfl (Kag (w:=W) Tryz.underlying44 rfl (Kab hW.one rfl))) ?_
   simp only [Act.put,sA,sZ,sS]
   refine tk 15 19 (v:=.bool (decide (3 < k))) rfl rfl (fun W hW=>Kar rfl rfl rfl (hgt W)) ?_
   simp only [Act.put,sA,sZ,sS]
   refine tk 16 20 (v:=.bool (decide (3 < k))) rfl rfl (fun W hW=>rfl) ?_
   simp only [Act.put,sA,sZ,sS]
   refine tk 17 3 (v:=.bool (decide (3 < k))) rfl rfl (fun W hW=>Kaz rfl rfl) ?_
   simp only [Act.put,sA,sZ,sS]
   refine done (by kernel_rfl) ?_ _
   go_wp2
   go_ret
   exact ⟨Ka1 (by rw [HR.out,show decide (k ≠ k0) = false by simp [h1],show decide (k < 1) = false by simp;omega];simp;omega),hU0.below⟩
 ·have hne : ∀ W : World,(binOp .neq 44 (.int .i64 k) (.int .i64 k0)).run Tryz.prog W = .ok (.bool true) W:=by
   intro W;simp [go_sem,h1]
  refine Kaj (fun W=>BoxL w b g o n c k0 #[.int .i64 k,.bool v.b,.int .i64 v.n,.string (strB v.text),.slice pk v.keys.length ck,.slice pl v.list.length cl] W) (by kernel_rfl) hT0 (fun hU0=>?_)
  refine tk 0 4 (v:=.pointer (some ⟨w.heap.size,0,none⟩)) rfl rfl (fun W hW=>Kad rfl rfl (Kbv _ _ (by decide) W)) ?_
  simp only [Act.put,sA,sZ,sS]
  refine tk 1 5 (v:=.int .i64 k) rfl rfl (fun W hW=>Kaf rfl rfl (Kag (w:=W) Tryz.underlying44 rfl (Kab hW.one rfl))) ?_
  simp only [Act.put,sA,sZ,sS]
  refine tk 2 6 (v:=.slice (some ⟨g,o,none⟩) n c) rfl rfl (fun W hW=>Kaf rfl rfl (Kag (w:=W) Tryz.underlying46 rfl (Kab hW.box rfl))) ?_
  simp only [Act.put,sA,sZ,sS]
  refine tk 3 7 (v:=.pointer (some ⟨g,o,none⟩)) rfl rfl (fun W hW=>Kao rfl rfl rfl (ia_first _ _ _ _ hn W)) ?_
  simp only [Act.put,sA,sZ,sS]
  refine tk 4 8 (v:=.pointer (some ⟨g,o,none⟩)) rfl rfl (fun W hW=>Kad rfl rfl (fa_first _ _ W)) ?_
  simp only [Act.put,sA,sZ,sS]
  refine tk 5 9 (v:=.int .i64 k0) rfl rfl (fun W hW=>Kaf rfl rfl (Kag (w:=W) Tryz.underlying44 rfl hW.first)) ?_
  simp only [Act.put,sA,sZ,sS]
  refine tk 6 10 (v:=.bool true) rfl rfl (fun W hW=>Kar rfl rfl rfl (hne W)) ?_
  simp only [Act.put,sA,sZ,sS]
  refine tk 7 11 (v:=.bool true) rfl rfl (fun W hW=>Kah rfl rfl) ?_
  simp only [Act.put,sA,sZ,sS]
  refine tn 8 12 rfl rfl ?_
  simp only [Act.put,sA,sZ,sS]
  refine tn 9 13 rfl rfl ?_
  simp only [Act.put,sA,sZ,sS]
  refine tn 10 14 rfl rfl ?_
  simp only [Act.put,sA,sZ,sS]
  refine tk 11 15 (v:=.bool true) rfl rfl (fun W hW=>rfl) ?_
  simp only [Act.put,sA,sZ,sS]
  refine tk 12 16 (v:=.bool true) rfl rfl (fun W hW=>Kah rfl rfl) ?_
  simp only [Act.put,sA,sZ,sS]
  refine tn 13 17 rfl rfl ?_
  simp only [Act.put,sA,sZ,sS]
  refine tn 14 18 rfl rfl ?_
  simp only [Act.put,sA,sZ,sS]
  refine tn 15 19 rfl rfl ?_
  simp only [Act.put,sA,sZ,sS]
  refine tk 16 20 (v:=.bool true) rfl rfl (fun W hW=>rfl) ?_
  simp only [Act.put,sA,sZ,sS]
  refine tk 17 3 (v:=.bool true) rfl rfl (fun W hW=>Kaz rfl rfl) ?_
  simp only [Act.put,sA,sZ,sS]
  refine done (by kernel_rfl) ?_ _
  go_wp2
  go_ret
  exact ⟨Ka1 (by rw [HR.out];simp [h1]),hU0.below⟩
theorem index_stor {w : World} {b : Nat} {p : Option Addr} {c : Nat} {l : List V} (hl : LRd w p c l) (hb : w.heap[b]? = some (.cells #[.slice p l.length c] 46 (0,0))) :
 Calls Tryz.prog 204 #[.slice p l.length c,.func (.func 182) #[] #[.pointer (some ⟨b,0,none⟩)]] w fun e w'=>(∃ i : Int,e = .returned (.int .i64 i) ∧ decide (0 ≤ i) = !(storL l)) ∧ Below w.heap.size w w':=by
 have z1 : (l.length : Int) ≤ 140737488355328:=by have:=hl.1.1;have:=hl.1.2.1;omega
 have HL:=yh (And.intro hl hb)
 clear hl hb
 go_enter Tryz.func204,Tryz.ntmps204
 go_wp2
 go_loopw [8] (fun i W=>∃ j : Nat,j ≤ l.length ∧ i = .int .i64 (j : Int) ∧ Hid (Below w.heap.size w W ∧ (l.take j).all (fun x=>!(badB x.kind ((l.map V.kind).headD 0))) = true)) (fun i _=>l.length - (intOf i).toNat)
 case atStart=>exact ⟨0,Nat.zero_le _,rfl,yh ⟨Below.refl _ _,rfl⟩⟩
 case round =>
  obtain ⟨j,hj,rfl,HJ⟩:=hrel
  by_cases hlt : j < l.length
  ·have hlt1 : j + 1 ≤ l.length:=hlt
   have hpos : 0 < l.length:=by omega
   obtain ⟨hb,hf⟩:=HJ.out
   have htk : (l.take (j + 1)).all (fun x=>!(badB x.kind ((l.map V.kind).headD 0))) = !(badB l[j].kind ((l.map V.kind).headD 0)):=by
    rw [List.take_succ_eq_append_getElem hlt,List.all_append,hf];simp
   have hbad : badB l[j].kind ((l.map V.kind).headD 0) = true → storL l = false:=fun h=>by
    unfold storL;rw [List.all_eq_false];exact ⟨l[j],List.getElem_mem hlt,by rw [h];simp⟩
   have hL2:=HL.out.1.below hb
   obtain ⟨g0,o0,pk0,ck0,pl0,cl0,hp0,⟨b0,_⟩,_⟩:=hL2.at hpos
   have hk0 : l[0].kind = (l.map V.kind).headD 0:=by cases l with
    | nil=>simp at hpos
    | cons a r=>rfl
   obtain ⟨g1,o1,pk1,ck1,pl1,cl1,rfl,⟨a0,a1,a2,a3,a4,a5⟩,hv1⟩:=hL2.at hlt
   cases hp0
   rw [hk0,Nat.zero_mul,Nat.add_zero] at b0
   have hcall:=bad_any hv1 (Kai hb (Array.getElem?_eq_some_iff.1 HL.out.2).1 HL.out.2) b0 hpos
   clear b0 hk0
   generalize (l.map V.kind).headD 0 = k0 at *
   generalize hon : badB l[j].kind k0 = on at *
   clear hon
   generalize l[j] = s1 at *
   have HD:=yh (And.intro htk (And.intro hbad (And.intro hcall hb)))
   clear htk hbad hcall hb hf hv1 HJ hL2
   cases on with
   | true =>
     go_wp2_with (go_at_call 182
                  (
                    refine HD.out.2.2.1.mono ?_
                    rintro e w1 ⟨rfl,hb1⟩
                    have HB:=yh hb1
                    clear hb1))
     go_ret
     refine ⟨⟨_,rfl,?_⟩,Kaa HD.out.2.2.2 HB.out⟩
     rw [HD.out.2.1 (by simp)];simp
   | false =>
     go_wp2_with (go_at_call 182
                  (
                    refine HD.out.2.2.1.mono ?_
                    rintro e w1 ⟨rfl,hb1⟩
                    have HB:=yh hb1
                    clear hb1))
     go_roundw
     case rel=>exact ⟨j + 1,hlt1,by go_num,yh ⟨Kaa HD.out.2.2.2 HB.out,HD.out.1⟩⟩
     case measure=>simp [intOf];omega
  ·obtain rfl : j = l.length:=by omega
   have hfin : storL l = true:=by have h:=HJ.out.2;rwa [List.take_length] at h
   have HF:=yh (And.intro hfin HJ.out.1)
   clear hfin HJ
   go_wp2
   go_ret
   exact ⟨⟨_,rfl,by rw [HF.out.1];simp⟩,HF.out.2⟩
theorem contains_stor {w : World} {b : Nat} {p : Option Addr} {c : Nat} {l : List V} (hl : LRd w p c l) (hb : w.heap[b]? = some (.cells #[.slice p l.length c] 46 (0,0))) :
 Calls Tryz.prog 183 #[.slice p l.length c,.func (.func 182) #[] #[.pointer (some ⟨b,0,none⟩)]] w fun e w'=>e = .returned (.bool (!(storL l))) ∧ Below w.heap.size w w':=by
 have HC:=yh (index_stor hl hb)
 clear hl hb
 go_enter Tryz.func183,Tryz.ntmps183
 go_wp2_with (go_at_call 204;refine HC.out.mono ?_;rintro e w1 ⟨⟨i,rfl,hi⟩,hb1⟩;have HB:=yh (And.intro hi hb1);clear hi hb1)
 go_ret
 exact ⟨Ka1 HB.out.1,HB.out.2⟩
structure StorB (w : World) (x : Array Value) (p : Option Addr) (n c : Nat) (W : World) : Prop where
 one : W.heap[w.heap.size]? = some (.cells x 48 (0,0))
 box : W.heap[w.heap.size + 2]? = some (.cells #[.slice p n c] 46 (0,0))
 below : Below w.heap.size w W
theorem stor_fine {w : World} {v : V} {c0 c1 c2 c3 c4 c5 : Value} (hE : Env w) (hx : VRd w v #[c0,c1,c2,c3,c4,c5]) (ht : totV v ≤ 1099511627776) (p : Option Addr) (n c : Nat) :
 Calls Tryz.prog 172 #[.slice (some ⟨w.heap.size + 1 + 1 + 1,0,none⟩) 1 1] ((((w.alloc (.cells #[c0,c1,c2,c3,c4,c5] 48)).alloc (.cells #[c0,c1,c2,c3,c4,c5] 48)).alloc (.cells #[.slice p n c] 46)).alloc (.cells #[c0,c1,c2,c3,c4,c5] 48))
  fun e w'=>e = .returned (.bool (okV v)) ∧ StorB w #[c0,c1,c2,c3,c4,c5] p n c w' ∧ w'.heap[w.heap.size + 1]? = some (.cells #[c0,c1,c2,c3,c4,c5] 48 (0,0)):=by
 have b1 : Below w.heap.size w (w.alloc (.cells #[c0,c1,c2,c3,c4,c5] 48)):=Kac _
 have h1:=heap_alloc_new w (.cells #[c0,c1,c2,c3,c4,c5] 48)
 have s1 : (w.alloc (.cells #[c0,c1,c2,c3,c4,c5] 48)).heap.size = w.heap.size + 1:=by simp
 generalize w.alloc (.cells #[c0,c1,c2,c3,c4,c5] 48) = w1 at *
 have b2 : Below w1.heap.size w1 (w1.alloc (.cells #[c0,c1,c2,c3,c4,c5] 48)):=Kac _
 have h2:=heap_alloc_new w1 (.cells #[c0,c1,c2,c3,c4,c5] 48)
 have s2 : (w1.alloc (.cells #[c0,c1,c2,c3,c4,c5] 48)).heap.size = w1.heap.size + 1:=by simp
 generalize w1.alloc (.cells #[c0,c1,c2,c3,c4,c5] 48) = w2 at *
 have b3 : Below w2.heap.size w2 (w2.alloc (.cells #[.slice p n c] 46)):=Kac _
 have h3:=heap_alloc_new w2 (.cells #[.slice p n c] 46)
 have s3 : (w2.alloc (.cells #[.slice p n c] 46)).heap.size = w2.heap.size + 1:=by simp
 generalize w2.alloc (.cells #[.slice p n c] 46) = w3 at *
 have b4 : Below w3.heap.size w3 (w3.alloc (.cells #[c0,c1,c2,c3,c4,c5] 48)):=Kac _
 have h4:=heap_alloc_new w3 (.cells #[c0,c1,c2,c3,c4,c5] 48)
 have e3 : w3.heap.size = w.heap.size + 1 + 1 + 1:=by omega
 rw [e3] at h4
 generalize w3.alloc (.cells #[c0,c1,c2,c3,c4,c5] 48) = w4 at *
 have g2:=Kaa b1 b2
 have g3:=Kaa g2 b3
 have g4:=Kaa g3 b4
 have hL:=LRd.one h4 (hx.below g4)
 refine (fine_any (hE.b g4) hL (by simp only [totVs];omega)).mono ?_
 rintro e w5 ⟨rfl,b5⟩
 have k1:=Kaa b2 (Kaa b3 (Kaa b4 b5))
 have k3:=Kaa b4 b5
 have e2 : w2.heap.size = w.heap.size + 2:=by omega
 have e1 : w1.heap.size = w.heap.size + 1:=by omega
 rw [e2] at h3
 rw [e1] at h2
 have k2:=Kaa b3 k3
 exact ⟨Ka1 (by simp [fineL]),⟨Kai k1 (by omega) h1,Kai k3 (by omega) h3,Kaa g4 b5⟩,Kai k2 (by omega) h2⟩
theorem storable_any {v : V} {w : World} {x : Array Value} (hE : Env w) (hx : VRd w v x) (ht : totV v ≤ 1099511627776) :
 Calls Tryz.prog 165 #[.agg x] w fun e w'=>e = .returned (.bool (okV v && storB v)) ∧ Below w.heap.size w w':=by
 obtain ⟨pk,ck,pl,cl,rfl,htx,hk1,hl1⟩:=hx.open
 have HR:=yh (show storB v = storL (if v.kind = 4 then v.list else [v]) from rfl)
 generalize storB v = R at *
 have hF:=fun p n c=>stor_fine hE hx ht p n c
 generalize okV v = ok at *
 by_cases h4 : v.kind = 4
 ·have HR2:=yh (show R = storL v.list by rw [HR.out,if_pos h4])
  have HF:=yh (hF pl v.list.length cl)
  have HC:=yh (fun (W : World) (hb : StorB w #[.int .i64 v.kind,.bool v.b,.int .i64 v.n,.string (strB v.text),.slice pk v.keys.length ck,.slice pl v.list.length cl] pl v.list.length cl W)=>contains_stor (hl1.below hb.below) hb.box)
  clear HR hF
  rw [← HR2.out] at HC
  rw [h4] at HF HC
  rw [h4]
  clear hx hl1 hE ht htx hk1 h4 HR2
  cases ok with
  | false =>
    go_enter Tryz.func165,Tryz.ntmps165
    go_wp2_with (go_at_call 172;(refine HF.out.mono ?_;rintro e w1 ⟨rfl,hS,_⟩;have HS:=yh hS;clear hS))
    go_ret
    exact ⟨rfl,HS.out.below⟩
  | true =>
    go_enter Tryz.func165,Tryz.ntmps165
    go_wp2_with (first
     | (go_at_call 172
        (
          refine HF.out.mono ?_
          rintro e w1 ⟨rfl,hS,_⟩
          have q0:=Kab (o:=0) hS.box rfl
          have HS:=yh hS
          clear hS))
     | (go_at_call 183
        (
          refine (HC.out _ HS.out).mono ?_
          rintro e w2 ⟨rfl,hb⟩
          have HB:=yh (Kaa HS.out.below hb)
          clear hb)))
    go_ret
    exact ⟨Ka1 (by simp),HB.out⟩
 ·have HR2:=yh (show R = storL [v] by rw [HR.out,if_neg h4])
  have h4f : (v.kind == 4) = false:=by rw [beq_eq_false_iff_ne];exact h4
  have HF:=yh (hF (some ⟨w.heap.size + 1,0,none⟩) 1 1)
  have HC:=yh (fun (W : World) (hb : StorB w #[.int .i64 v.kind,.bool v.b,.int .i64 v.n,.string (strB v.text),.slice pk v.keys.length ck,.slice pl v.list.length cl] (some ⟨w.heap.size + 1,0,none⟩) 1 1 W) (h : W.heap[w.heap.size + 1]? = some (.cells #[.int .i64 v.kind,.bool v.b,.int .i64 v.n,.string (strB v.text),.slice pk v.keys.length ck,.slice pl v.list.length cl] 48 (0,0))) =>
   contains_stor (l:=[v]) (LRd.one h (hx.below hb.below)) hb.box)
  clear HR hF
  rw [← HR2.out] at HC
  clear hx hl1 hE ht htx hk1 h4 HR2
  cases ok with
  | false =>
    go_enter Tryz.func165,Tryz.ntmps165
    go_wp2_with (go_at_call 172;(refine HF.out.mono ?_;rintro e w1 ⟨rfl,hS,_⟩;have HS:=yh hS;clear hS))
    go_ret
    exact ⟨rfl,HS.out.below⟩
  | true =>
    go_enter Tryz.func165,Tryz.ntmps165
    go_wp2_with (first
     | (go_at_call 172
        (
          refine HF.out.mono ?_
          rintro e w1 ⟨rfl,hS,hS2⟩
          have q0:=Kab (o:=0) hS.box rfl
          have HS:=yh (And.intro hS hS2)
          clear hS hS2))
     | (go_at_call 183
        (
          refine (HC.out _ HS.out.1 HS.out.2).mono ?_
          rintro e w2 ⟨rfl,hb⟩
          have HB:=yh (Kaa HS.out.1.below hb)
          clear hb)))
    go_ret
    exact ⟨Ka1 (by simp),HB.out⟩
def okNm (s : List UInt8) : Bool:=!s.isEmpty && decide (s.length ≤ 64) && Lib.validD s && !s.contains 0
def okSt (v : V) : Bool:=okV v && storB v
def okPs (l : List PropD) : Bool:=(l.all fun p=>okNm p.key && okSt p.val) && Kbg (l.map PropD.key)
def okN (n : NodeD) : Bool:=decide (0 ≤ n.id) && Kbg n.labels && okPs n.props && n.labels.all okNm
def okR (r : RelD) : Bool:=decide (0 ≤ r.id) && okNm r.type && okPs r.props
def Kch : List Int → Bool
 | []=>true
 | [_]=>true
 | a :: b :: r=>decide (a < b) && Kch (b :: r)
def okNs (g : GraphD) : Bool:=(g.nodes.all fun n=>okN n && decide (n.id < g.nextNode)) && Kch (g.nodes.map NodeD.id)
def hasN (g : GraphD) (i : Int) : Bool:=g.nodes.any fun n=>n.id == i
def okRs (g : GraphD) : Bool:=(g.rels.all fun r=>okR r && decide (r.id < g.nextRel) && hasN g r.src && hasN g r.dst) && Kch (g.rels.map RelD.id)
def okSz (g : GraphD) : Bool:=decide (g.nodes.length + g.rels.length ≤ 65536) && decide (0 ≤ g.nextNode) && decide (g.nextNode ≤ 4611686018427387904) && decide (0 ≤ g.nextRel) && decide (g.nextRel ≤ 4611686018427387904)
def okG (g : GraphD) : Bool:=okSz g && okNs g && okRs g
def okC (c : ChangeD) : Bool :=
 if c.kind = 0 then okG ⟨[c.node],[],4611686018427387904,4611686018427387904⟩
 else if c.kind = 1 then okG ⟨if c.rel.src = c.rel.dst then [⟨c.rel.src,[],[]⟩] else [⟨min c.rel.src c.rel.dst,[],[]⟩,⟨max c.rel.src c.rel.dst,[],[]⟩],[c.rel],4611686018427387904,4611686018427387904⟩
 else decide (2 ≤ c.kind) && decide (c.kind ≤ 4)
def toldC (c : ChangeD) : ChangeD :=
 if c.kind = 0 then ⟨0,0,0,c.node,rel0⟩ else if c.kind = 1 then ⟨1,0,0,node0,c.rel⟩ else if c.kind = 4 then ⟨4,c.id,c.other,node0,rel0⟩ else ⟨c.kind,c.id,0,node0,rel0⟩
theorem told_bytes (c : ChangeD) : Ka9 (toldC c) = Ka9 c:=by
 unfold toldC Ka9
 by_cases h0 : c.kind = 0
 ·simp [h0]
 ·by_cases h1 : c.kind = 1
  ·simp [h1]
  ·by_cases h4 : c.kind = 4
   ·simp [h4]
   ·simp [h0,h1,h4]
theorem told_ok (c : ChangeD) : okC (toldC c) = okC c:=by
 unfold toldC okC
 by_cases h0 : c.kind = 0
 ·simp [h0]
 ·by_cases h1 : c.kind = 1
  ·simp [h1]
  ·by_cases h4 : c.kind = 4
   ·simp [h4]
   ·simp [h0,h1,h4]
theorem told_all (l : List ChangeD) : Kbk (l.map toldC) = Kbk l ∧ (l.map toldC).all okC = l.all okC:=by
 unfold Kbk rowsC
 refine ⟨?_,?_⟩
 ·rw [List.length_map,List.flatMap_map]
  congr 2
  funext c
  exact told_bytes c
 ·rw [List.all_map]
  congr 1
  funext c
  exact told_ok c
theorem Kbb {α : Type} (f : α → Nat) {l : List α} {x : α} (h : x ∈ l) : f x ≤ (l.map f).sum:=by
 induction l with
 | nil=>cases h
 | cons a l ih =>
   rw [List.map_cons,List.sum_cons]
   rcases List.mem_cons.1 h with rfl | h
   ·omega
   ·have:=ih h;omega
theorem Kcb {α : Type} (f : α → Nat) {l : List α} (h : ∀ x ∈ l,1 ≤ f x) : l.length ≤ (l.map f).sum:=by
 induction l with
 | nil=>simp
 | cons a l ih =>
   rw [List.map_cons,List.sum_cons,List.length_cons]
   have:=h a (by simp)
   have:=ih fun x hx=>h x (by simp [hx])
   omega
theorem wf_of_okV {v : V} (h : okV v = true) (hr : rngV v) (ht : totV v < 18446744073709551616) : wfV 64 v:=by
 unfold okV at h
 exact wf_of_check (u:=Lib.validD) (by simpa using h) hr ht
theorem wf_of_okPs {l : List PropD} (h : okPs l = true) (hr : ∀ p ∈ l,rngP p) (ht : totPs l < 18446744073709551616) : wfPs l:=by
 unfold okPs at h
 simp only [Bool.and_eq_true,List.all_eq_true] at h
 have h1 : l.length ≤ totPs l:=Kcb totP fun p _=>by unfold totP;omega
 refine ⟨by unfold u64T;omega,fun p hp=>?_⟩
 have h2 : totP p ≤ totPs l:=Kbb totP hp
 have h3:=h.1 p hp
 unfold okSt at h3
 simp only [Bool.and_eq_true] at h3
 unfold totP at h2
 exact ⟨by unfold u64T;omega,wf_of_okV h3.2.1 (hr p hp) (by omega)⟩
theorem wf_of_okLs {l : List (List UInt8)} (ht : totLs l < 18446744073709551616) : wfLs l:=by
 have h1 : l.length ≤ totLs l:=Kcb (fun s : List UInt8=>1 + s.length) fun p _=>by omega
 refine ⟨by unfold u64T;omega,fun s hs=>?_⟩
 have h2 : 1 + s.length ≤ totLs l:=Kbb (fun s : List UInt8=>1 + s.length) hs
 unfold u64T;omega
theorem wf_of_okN {n : NodeD} (h : okN n = true) (hr : rngN n) (ht : totN n < 18446744073709551616) : wfN n:=by
 unfold okN at h
 simp only [Bool.and_eq_true] at h
 unfold totN at ht
 exact ⟨hr.1,wf_of_okLs (by omega),wf_of_okPs h.1.2 hr.2 (by omega)⟩
theorem wf_of_okR {r : RelD} (h : okR r = true) (hr : rngR r) (ht : totR r < 18446744073709551616) : wfR r:=by
 unfold okR at h
 simp only [Bool.and_eq_true] at h
 unfold totR at ht
 exact ⟨hr.1,hr.2.1,hr.2.2.1,by unfold u64T;omega,wf_of_okPs h.2 hr.2.2.2 (by omega)⟩
theorem wf_of_okG {g : GraphD} (h : okG g = true) (hr : rngG g) (ht : totG g < 18446744073709551616) : wfG g:=by
 unfold okG okNs okRs at h
 simp only [Bool.and_eq_true,List.all_eq_true] at h
 unfold totG at ht
 have h1 : g.nodes.length ≤ (g.nodes.map totN).sum:=Kcb totN fun n _=>totN_pos n
 have h2 : g.rels.length ≤ (g.rels.map totR).sum:=Kcb totR fun n _=>totR_pos n
 refine ⟨⟨by unfold u64T;omega,fun n hn=>?_⟩,⟨by unfold u64T;omega,fun r hrr=>?_⟩,hr.2.2.1,hr.2.2.2⟩
 ·exact wf_of_okN (h.1.2.1 n hn).1 (hr.1 n hn) (by have:=Kbb totN hn;omega)
 ·exact wf_of_okR (h.2.1 r hrr).1.1.1 (hr.2.1 r hrr) (by have:=Kbb totR hrr;omega)
theorem okG_node {n : NodeD} {k m : Int} {rs : List RelD} (h : okG ⟨[n],rs,k,m⟩ = true) : okN n = true:=by
 unfold okG okNs at h
 simp only [Bool.and_eq_true,List.all_eq_true] at h
 exact (h.1.2.1 n (by simp)).1
theorem okG_rel {r : RelD} {k m : Int} {ns : List NodeD} (h : okG ⟨ns,[r],k,m⟩ = true) : okR r = true:=by
 unfold okG okRs at h
 simp only [Bool.and_eq_true,List.all_eq_true] at h
 exact (h.2.1 r (by simp)).1.1.1
theorem wf_of_okC {c : ChangeD} (h : okC c = true) (hr : rngC c) (ht : totC c < 18446744073709551616) : wfC (toldC c):=by
 unfold okC at h
 unfold totC at ht
 obtain ⟨k0,k1,k2,k3,k4⟩:=hr
 unfold toldC wfC
 split at h
 ·rename_i e
  rw [if_pos e]
  exact .inl ⟨rfl,rfl,rfl,wf_of_okN (n:=c.node) (okG_node h) k3 (by omega),rfl⟩
 ·split at h
  ·rename_i e0 e
   rw [if_neg e0,if_pos e]
   exact .inr (.inl ⟨rfl,rfl,rfl,rfl,wf_of_okR (r:=c.rel) (okG_rel h) k4 (by omega)⟩)
  ·rename_i e0 e1
   simp only [Bool.and_eq_true,decide_eq_true_eq] at h
   rw [if_neg e0,if_neg e1]
   by_cases e4 : c.kind = 4
   ·rw [if_pos e4]
    exact .inr (.inr (.inr ⟨rfl,k1,k2,rfl,rfl⟩))
   ·rw [if_neg e4]
    exact .inr (.inr (.inl ⟨by simp only;omega,k1,rfl,rfl,rfl⟩))
def readW {α : Type} (d : Dec α) (ok : α → Bool) (b : List UInt8) : Option α:=match d b with
 | some (x,[])=>if ok x then some x else none
 | _=>none
section
variable {α : Type} {d : Dec α} {e : α → List UInt8} {P : α → Prop} {ok : α → Bool} {f : Rs → α × Rs} {sz : α → Nat} {R : α → Prop}
theorem readW_of {x : α} (h : RT d e P) (hP : P x) (hk : ok x = true) : readW d ok (e x) = some x:=by
 unfold readW
 have:=h.full x [] hP
 rw [List.append_nil] at this
 rw [this]
 simp only [hk,if_true]
end
theorem numB_len : ∀ (k n : Nat),n < 128 ^ k → 1 ≤ k → (numB n).length ≤ k
 | 0,n,h,hk=>by omega
 | k + 1,n,h,hk=>by
   by_cases hn : n < 128
   ·rw [Kdj hn];simp
   ·rw [Keu hn,List.length_cons]
    have hk0 : k ≠ 0:=fun e=>by subst e;simp at h;omega
    have : n / 128 < 128 ^ k:=by rw [Nat.div_lt_iff_lt_mul (by omega),← Nat.pow_succ];exact h
    have:=numB_len k (n / 128) this (by omega)
    omega
theorem Kbu {n : Nat} (h : u64T n) : (numB n).length ≤ 10:=by
 have h2 : (18446744073709551616 : Nat) ≤ 128 ^ 10:=by decide
 exact numB_len 10 n (Nat.lt_of_lt_of_le h h2) (by omega)
def all2 {α β : Type} (f : α → β → Bool) : List α → List β → Bool
 | [],[]=>true
 | a :: x,b :: y=>f a b && all2 f x y
 | _,_=>false
theorem all2_eq {α : Type} {f : α → α → Bool} : ∀ {l m : List α},(∀ x ∈ l,∀ y ∈ m,(f x y = true ↔ x = y)) → (all2 f l m = true ↔ l = m)
 | [],[],_=>by simp [all2]
 | [],_ :: _,_=>by simp [all2]
 | _ :: _,[],_=>by simp [all2]
 | a :: x,b :: y,h=>by
   have h1:=h a (by simp) b (by simp)
   have h2:=all2_eq (f:=f) (l:=x) (m:=y) fun u hu v hv=>h u (by simp [hu]) v (by simp [hv])
   rw [all2,Bool.and_eq_true,h1,h2,List.cons.injEq]
theorem all2_len {α β : Type} {f : α → β → Bool} : ∀ {l : List α} {m : List β},all2 f l m = true → l.length = m.length
 | [],[],_=>rfl
 | [],_ :: _,h=>by simp [all2] at h
 | _ :: _,[],h=>by simp [all2] at h
 | a :: x,b :: y,h=>by
   rw [all2,Bool.and_eq_true] at h
   rw [List.length_cons,List.length_cons,all2_len h.2]
def sameV (a b : V) : Bool:=okV a && okV b && decide (cmpV a b = 0)
def sameP (p q : PropD) : Bool:=decide (p.key = q.key) && sameV p.val q.val
def sameN (a b : NodeD) : Bool:=decide (a.id = b.id) && decide (a.labels = b.labels) && all2 sameP a.props b.props
def sameR (a b : RelD) : Bool:=decide (a.id = b.id) && decide (a.src = b.src) && decide (a.dst = b.dst) && decide (a.type = b.type) && all2 sameP a.props b.props
def sameG (a b : GraphD) : Bool:=decide (a.nextNode = b.nextNode) && decide (a.nextRel = b.nextRel) && all2 sameN a.nodes b.nodes && all2 sameR a.rels b.rels
theorem okV_mayV {v : V} (h : okV v = true) : mayV Lib.validD v = true:=by
 unfold okV checkV at h
 split at h
 ·assumption
 ·simp at h
theorem cmpV_refl (v : V) : cmpV v v = 0:=(ord_cmpV v).self
theorem sameV_iff {a b : V} (ha : okV a = true) (hb : okV b = true) : sameV a b = true ↔ a = b:=by
 unfold sameV
 rw [ha,hb]
 simp only [Bool.and_self,Bool.true_and,decide_eq_true_eq]
 constructor
 ·exact fun h=>cmpV_zero a (okV_mayV ha) b (okV_mayV hb) h
 ·rintro rfl;exact cmpV_refl a
theorem okPs_val {l : List PropD} (h : okPs l = true) : ∀ p ∈ l,okV p.val = true:=fun p hp=>by
 unfold okPs at h
 simp only [Bool.and_eq_true,List.all_eq_true] at h
 have:=h.1 p hp
 unfold okSt at this
 simp only [Bool.and_eq_true] at this
 exact this.2.1
theorem sameP_iff {p q : PropD} (hp : okV p.val = true) (hq : okV q.val = true) : sameP p q = true ↔ p = q:=by
 unfold sameP
 obtain ⟨k,v⟩:=p
 obtain ⟨k',v'⟩:=q
 simp only [Bool.and_eq_true,decide_eq_true_eq,PropD.mk.injEq]
 rw [sameV_iff hp hq]
theorem samePs_iff {l m : List PropD} (hl : okPs l = true) (hm : okPs m = true) : all2 sameP l m = true ↔ l = m :=
 all2_eq fun p hp q hq=>sameP_iff (okPs_val hl p hp) (okPs_val hm q hq)
theorem okN_props {n : NodeD} (h : okN n = true) : okPs n.props = true:=by
 unfold okN at h
 simp only [Bool.and_eq_true] at h
 exact h.1.2
theorem okR_props {n : RelD} (h : okR n = true) : okPs n.props = true:=by
 unfold okR at h
 simp only [Bool.and_eq_true] at h
 exact h.2
theorem sameN_iff {a b : NodeD} (ha : okN a = true) (hb : okN b = true) : sameN a b = true ↔ a = b:=by
 have:=samePs_iff (okN_props ha) (okN_props hb)
 unfold sameN
 obtain ⟨x1,x2,x3⟩:=a
 obtain ⟨y1,y2,y3⟩:=b
 simp only [Bool.and_eq_true,decide_eq_true_eq,NodeD.mk.injEq] at this ⊢
 rw [this,and_assoc]
theorem sameR_iff {a b : RelD} (ha : okR a = true) (hb : okR b = true) : sameR a b = true ↔ a = b:=by
 have:=samePs_iff (okR_props ha) (okR_props hb)
 unfold sameR
 obtain ⟨x1,x2,x3,x4,x5⟩:=a
 obtain ⟨y1,y2,y3,y4,y5⟩:=b
 simp only [Bool.and_eq_true,decide_eq_true_eq,RelD.mk.injEq] at this ⊢
 rw [this,and_assoc,and_assoc,and_assoc]
theorem okG_nodes {g : GraphD} (h : okG g = true) : ∀ n ∈ g.nodes,okN n = true:=fun n hn=>by
 unfold okG okNs at h
 simp only [Bool.and_eq_true,List.all_eq_true] at h
 exact (h.1.2.1 n hn).1
theorem okG_rels {g : GraphD} (h : okG g = true) : ∀ n ∈ g.rels,okR n = true:=fun n hn=>by
 unfold okG okRs at h
 simp only [Bool.and_eq_true,List.all_eq_true] at h
 exact (h.2.1 n hn).1.1.1
theorem sameG_iff {a b : GraphD} (ha : okG a = true) (hb : okG b = true) : sameG a b = true ↔ a = b:=by
 have h1 : all2 sameN a.nodes b.nodes = true ↔ a.nodes = b.nodes:=all2_eq fun x hx y hy=>sameN_iff (okG_nodes ha x hx) (okG_nodes hb y hy)
 have h2 : all2 sameR a.rels b.rels = true ↔ a.rels = b.rels:=all2_eq fun x hx y hy=>sameR_iff (okG_rels ha x hx) (okG_rels hb y hy)
 unfold sameG
 obtain ⟨x1,x2,x3,x4⟩:=a
 obtain ⟨y1,y2,y3,y4⟩:=b
 simp only [Bool.and_eq_true,decide_eq_true_eq,GraphD.mk.injEq] at h1 h2 ⊢
 rw [h1,h2]
 constructor
 ·rintro ⟨⟨⟨e1,e2⟩,e3⟩,e4⟩;exact ⟨e3,e4,e1,e2⟩
 ·rintro ⟨e1,e2,e3,e4⟩;exact ⟨⟨⟨e3,e4⟩,e1⟩,e2⟩
theorem risesI_step : ∀ {l : List Int} {j : Nat} (h : j + 1 < l.length),Kch (l.take (j + 2)) = (Kch (l.take (j + 1)) && decide (l[j] < l[j + 1]))
 | [],j,h=>by simp at h
 | [_],j,h=>by simp at h
 | a :: b :: r,0,h=>by simp [Kch]
 | a :: b :: r,j + 1,h=>by
   have ih:=risesI_step (l:=b :: r) (j:=j) (by simpa using h)
   simp only [List.take_succ_cons] at ih ⊢
   rw [Kch,Kch,ih]
   simp only [List.getElem_cons_succ,Bool.and_assoc]
theorem risesI_one (l : List Int) : Kch (l.take 1) = true:=by
 cases l with
 | nil=>rfl
 | cons a r=>simp [Kch]
theorem Ke1 : ∀ {l : List Int},Kch l = true → ∀ {a b : Nat} (hb : b < l.length) (h : a < b),l[a] < l[b]
 | [],_,a,b,hb,_=>by simp at hb
 | [_],_,a,b,hb,h=>by simp at hb;omega
 | x :: y :: r,hr,a,b,hb,h=>by
   rw [Kch,Bool.and_eq_true,decide_eq_true_eq] at hr
   have ih:=fun (a b : Nat) (hb : b < (y :: r).length) (h : a < b)=>Ke1 (l:=y :: r) hr.2 hb h
   cases b with
   | zero=>omega
   | succ b =>
     have hb2 : b < (y :: r).length:=by simpa using hb
     cases a with
     | zero =>
       simp only [List.getElem_cons_zero,List.getElem_cons_succ]
       cases b with
       | zero=>exact hr.1
       | succ b =>
         have:=ih 0 (b + 1) hb2 (by omega)
         simp only [List.getElem_cons_zero] at this
         have h1:=hr.1
         omega
     | succ a =>
       simp only [List.getElem_cons_succ]
       exact ih a b hb2 (by omega)
theorem found_of {l : List Int} {i : Nat} {x : Int} (h1 : ∀ t (ht : t < l.length),t < i → l[t] < x) (h2 : ∀ t (ht : t < l.length),i ≤ t → x ≤ l[t]) (hr : Kch l = true) (hi : i < l.length) : decide (l[i] = x) = l.any (· == x):=by
 by_cases e : l[i] = x
 ·rw [decide_eq_true e]
  exact (List.any_eq_true.2 ⟨l[i],List.getElem_mem hi,by simpa using e⟩).symm
 ·rw [decide_eq_false e]
  symm
  rw [List.any_eq_false]
  intro y hy hyx
  obtain ⟨t,ht,rfl⟩:=List.getElem_of_mem hy
  have hx : l[t] = x:=by simpa using hyx
  by_cases h : t < i
  ·have:=h1 t ht h;omega
  ·by_cases h' : t = i
   ·subst h';exact e hx
   ·have:=Ke1 hr ht (show i < t by omega)
    have:=h2 i hi (Nat.le_refl _)
    omega
theorem found_none {l : List Int} {x : Int} (h1 : ∀ t (ht : t < l.length),l[t] < x) : l.any (· == x) = false:=by
 rw [List.any_eq_false]
 intro y hy hyx
 obtain ⟨t,ht,rfl⟩:=List.getElem_of_mem hy
 have hx : l[t] = x:=by simpa using hyx
 have:=h1 t ht
 omega
theorem hasN_ids (g : GraphD) (x : Int) : hasN g x = (g.nodes.map NodeD.id).any (· == x):=by
 unfold hasN
 rw [List.any_map]
 rfl
def putN (n : NodeD) : List NodeD → List NodeD
 | []=>[n]
 | a :: l=>if a.id < n.id then a :: putN n l else if a.id = n.id then n :: l else n :: a :: l
def putR (r : RelD) : List RelD → List RelD
 | []=>[r]
 | a :: l=>if a.id < r.id then a :: putR r l else if a.id = r.id then r :: l else r :: a :: l
def Kc3 (g : GraphD) (c : ChangeD) : Option GraphD :=
 if c.kind = 0 then some ⟨putN c.node g.nodes,g.rels,g.nextNode,g.nextRel⟩
 else if c.kind = 1 then some ⟨g.nodes,putR c.rel g.rels,g.nextNode,g.nextRel⟩
 else if c.kind = 2 then some ⟨g.nodes.filter fun n=>!(n.id == c.id),g.rels,g.nextNode,g.nextRel⟩
 else if c.kind = 3 then some ⟨g.nodes,g.rels.filter fun n=>!(n.id == c.id),g.nextNode,g.nextRel⟩
 else if c.kind = 4 then some ⟨g.nodes,g.rels,c.id,c.other⟩
 else none
def Kck : GraphD → List ChangeD → Option GraphD
 | g,[]=>some g
 | g,c :: l=>match Kc3 g c with
   | none=>none
   | some h=>Kck h l
def Kd3 : GraphD:=⟨[],[],0,0⟩
def Kcq (g : GraphD) (l : List ChangeD) : GraphD × Int :=
 if okG g = false then (Kd3,2) else match Kck g l with
 | none=>(Kd3,2)
 | some x=>if 65536 < x.nodes.length + x.rels.length then (Kd3,151) else if okG x = false then (Kd3,2) else (x,0)
theorem apply_told (g : GraphD) (c : ChangeD) : Kc3 g (toldC c) = Kc3 g c:=by
 obtain ⟨k,i,o,n,r⟩:=c
 unfold Kc3 toldC
 simp only
 by_cases h0 : k = 0
 ·subst h0;rfl
 ·by_cases h1 : k = 1
  ·subst h1;rfl
  ·by_cases h4 : k = 4
   ·subst h4;rfl
   ·simp only [if_neg h0,if_neg h1,if_neg h4]
theorem applyL_told : ∀ (l : List ChangeD) (g : GraphD),Kck g (l.map toldC) = Kck g l
 | [],g=>rfl
 | c :: l,g=>by
   rw [List.map_cons,Kck,Kck,apply_told]
   cases Kc3 g c with
   | none=>rfl
   | some h=>exact applyL_told l h
theorem applyD_told (g : GraphD) (l : List ChangeD) : Kcq g (l.map toldC) = Kcq g l:=by
 unfold Kcq
 rw [applyL_told]
theorem applyD_same (g : GraphD) (l : List ChangeD) : sameG (Kcq g l).1 (Kcq g l).1 = true:=by
 have h0 : sameG Kd3 Kd3 = true:=rfl
 unfold Kcq
 split
 ·exact h0
 ·split
  ·exact h0
  ·split
   ·exact h0
   ·split
    ·exact h0
    ·rename_i x _ _ hx
     have hx' : okG x = true:=by simpa using hx
     exact (sameG_iff hx' hx').2 rfl
theorem read_told {l : List ChangeD} (h : l.all okC = true) (hr : ∀ c ∈ l,rngC c) (ht : (l.map totC).sum < 18446744073709551616) (hn : l.length ≤ 65536) :
 readW Kee (fun m=>decide (m.length ≤ 65536) && m.all okC) (Kbk l) = some (l.map toldC):=by
 obtain ⟨h1,h2⟩:=told_all l
 rw [← h1]
 refine readW_of rt_changes ⟨by unfold u64T;rw [List.length_map];omega,fun c hc=>?_⟩ (by rw [h2,h,List.length_map];simpa using hn)
 obtain ⟨d,hd,rfl⟩:=List.mem_map.1 hc
 exact wf_of_okC (List.all_eq_true.1 h d hd) (hr d hd) (by have:=Kbb totC hd;omega)
section
variable {α : Type} {d : Dec α} {e : α → List UInt8} {f : Rs → α × Rs}
theorem Kdu {l : List α} {j : Nat} (h : j < l.length) : (l.take (j + 1)).flatMap e = (l.take j).flatMap e ++ e l[j]:=by
 rw [List.take_succ_eq_append_getElem h,List.flatMap_append]
 simp
theorem rows_at (e : α → List UInt8) (l : List α) : numB l.length ++ (l.take l.length).flatMap e = rowsC e l:=by
 rw [List.take_length];rfl
def RepAt (d : Dec α) (n : Nat) (b : List UInt8) (l : List α) (r : List UInt8) : Prop:=l.length ≤ n ∧ d.rep n b = (d.rep (n - l.length) r).map fun p=>(l ++ p.1,p.2)
theorem RepAt.start (d : Dec α) (n : Nat) (b : List UInt8) : RepAt d n b [] b:=by
 refine ⟨by simp,?_⟩
 simp only [List.length_nil,Nat.sub_zero,List.nil_append]
 cases d.rep n b with
 | none=>rfl
 | some p=>rfl
theorem RepAt.step {n : Nat} {b r s : List UInt8} {l : List α} {x : α} (h : RepAt d n b l r) (hl : l.length < n) (hd : d r = some (x,s)) : RepAt d n b (l ++ [x]) s:=by
 refine ⟨by rw [List.length_append];simp;omega,?_⟩
 rw [h.2]
 have e1 : n - l.length = (n - (l ++ [x]).length) + 1:=by rw [List.length_append];simp;omega
 rw [e1,Dec.rep,hd]
 simp only
 cases d.rep (n - (l ++ [x]).length) s with
 | none=>rfl
 | some p=>simp
theorem RepAt.fail {n : Nat} {b r : List UInt8} {l : List α} (h : RepAt d n b l r) (hl : l.length < n) (hd : d r = none) : d.rep n b = none:=by
 rw [h.2]
 have e1 : n - l.length = (n - l.length - 1) + 1:=by omega
 rw [e1,Dec.rep,hd]
 rfl
theorem RepAt.done {n : Nat} {b r : List UInt8} {l : List α} (h : RepAt d n b l r) (hl : l.length = n) : d.rep n b = some (l,r):=by
 rw [h.2,hl,Nat.sub_self,Dec.rep]
 simp
def LoopAt (f : Rs → α × Rs) (n : Nat) (s0 : Rs) (l : List α) (s : Rs) : Prop:=l.length ≤ n ∧ Kbr f n s0 = (l ++ (Kbr f (n - l.length) s).1,(Kbr f (n - l.length) s).2)
theorem LoopAt.start (f : Rs → α × Rs) (n : Nat) (s : Rs) : LoopAt f n s [] s:=⟨by simp,by simp⟩
theorem LoopAt.step {n : Nat} {s0 s : Rs} {l : List α} (h : LoopAt f n s0 l s) (hl : l.length < n) (hb : s.2 = false) : LoopAt f n s0 (l ++ [(f s).1]) (f s).2:=by
 refine ⟨by rw [List.length_append];simp;omega,?_⟩
 rw [h.2]
 have e1 : n - l.length = (n - (l ++ [(f s).1]).length) + 1:=by rw [List.length_append];simp;omega
 rw [e1,Kbr,if_neg (by rw [hb];decide)]
 simp
end
theorem rdText_of {b r : List UInt8} {n : Nat} (h : rdN 0 0 b = some (n,r)) (hn : n ≤ r.length) : Kba b = some (r.take n,r.drop n):=by
 unfold Kba;rw [h];simp only;rw [if_pos hn]
theorem rdText_short {b r : List UInt8} {n : Nat} (h : rdN 0 0 b = some (n,r)) (hn : ¬ n ≤ r.length) : Kba b = none:=by
 unfold Kba;rw [h];simp only;rw [if_neg hn]
theorem rdText_none {b : List UInt8} (h : rdN 0 0 b = none) : Kba b = none:=by
 unfold Kba;rw [h]
theorem Ked {α : Type} {d : Dec α} {b r : List UInt8} {n : Nat} (h : rdN 0 0 b = some (n,r)) (hn : n ≤ r.length) : Ka2 d b = d.rep n r:=by
 unfold Ka2;rw [h];simp only;rw [if_pos hn]
theorem Kct {α : Type} {d : Dec α} {b r : List UInt8} {n : Nat} (h : rdN 0 0 b = some (n,r)) (hn : ¬ n ≤ r.length) : Ka2 d b = none:=by
 unfold Ka2;rw [h];simp only;rw [if_neg hn]
theorem Kc6 {α : Type} {d : Dec α} {b : List UInt8} (h : rdN 0 0 b = none) : Ka2 d b = none:=by
 unfold Ka2;rw [h]
theorem Keh {l r : List UInt8} {n : Nat} (h : rdN 0 0 l = some (n,r)) : n < 18446744073709551616:=(Kcu.sound _ _ _ h).2
theorem ofInt_nat {a : Nat} (h : a < 18446744073709551616) : (BitVec.ofInt 64 (a : Int)).toNat = a:=ofInt_u64 a h
theorem xor_m1 {a : Nat} (h1 : a < 9223372036854775808) : bits .xor .i64 (a : Int) (-1) = -(a : Int) - 1:=by
 show IntKind.i64.wrap ((BitVec.ofInt 64 (a : Int) ^^^ BitVec.ofInt 64 (-1)).toNat : Int) = _
 have e : BitVec.ofInt 64 (-1) = BitVec.allOnes 64:=by decide
 rw [e,BitVec.xor_allOnes,BitVec.toNat_not,ofInt_nat (by omega)]
 simp only [IntKind.wrap,IntKind.signed,IntKind.bits]
 simp
 omega
theorem xor_0 {a : Nat} (h1 : a < 9223372036854775808) : bits .xor .i64 (a : Int) 0 = (a : Int):=by
 show IntKind.i64.wrap ((BitVec.ofInt 64 (a : Int) ^^^ BitVec.ofInt 64 0).toNat : Int) = _
 have e : BitVec.ofInt 64 0 = 0#64:=by decide
 rw [e,BitVec.xor_zero,ofInt_nat (by omega)]
 simp only [IntKind.wrap,IntKind.signed,IntKind.bits]
 simp
 omega
theorem un_bits {n : Nat} (hn : n < 18446744073709551616) : bits .xor .i64 ((n : Int) / 2) (wrap64 (-wrap64 (bits .and .u64 (n : Int) 1))) = unzz n:=by
 have h1 : bits .and .u64 (n : Int) 1 = ((n % 2 : Nat) : Int):=by
  have h:=u64_and_nat n 1 hn (by decide)
  rw [nat_mask1] at h
  exact h
 rw [h1]
 unfold unzz
 have hev : n % 2 = 0 ∨ n % 2 = 1:=by omega
 rcases hev with e | e
 ·rw [e,if_neg (by omega)]
  have e2 : wrap64 (-wrap64 ((0 : Nat) : Int)) = 0:=by simp [wrap64]
  rw [e2]
  exact xor_0 (a:=n / 2) (by omega)
 ·rw [e,if_pos rfl]
  have e2 : wrap64 (-wrap64 ((1 : Nat) : Int)) = -1:=by simp [wrap64]
  rw [e2]
  exact xor_m1 (a:=n / 2) (by omega)
theorem Kby {w W : World} {q : Nat} {l : List UInt8} (h : RSt 141 w W q l) :
 Calls Tryz.prog 123 #[.pointer (some ⟨q,0,none⟩)] W (Reads w W q (Kbt l) fun n v _=>v = .int .i64 n):=by
 have HN:=yh (Ka0 h)
 clear h
 unfold Kbt Dec.map
 cases hr : rdN 0 0 l with
 | none =>
   rw [hr] at HN
   go_enter Tryz.func123,Tryz.ntmps123
   go_wp2_with (go_at_call 55;refine HN.out.mono ?_;rintro e W1 h1;obtain ⟨t1,hb1,rfl⟩:=h1.none;have H1:=yh (And.intro t1 hb1);clear h1 t1 hb1)
   exact ⟨rfl,H1.out.1,H1.out.2,rfl⟩
 | some p =>
   obtain ⟨n,r⟩:=p
   rw [hr] at HN
   have hn:=Keh hr
   have hev : n % 2 = 0 ∨ n % 2 = 1:=by omega
   have hun:=un_bits hn
   go_enter Tryz.func123,Tryz.ntmps123
   go_wp2_with (go_at_call 55;refine HN.out.mono ?_;rintro e W1 h1;obtain ⟨t1,hb1,v1,rfl,rfl,s1⟩:=h1.some;have H1:=yh (And.intro t1 (And.intro hb1 s1));clear h1 s1 t1 hb1)
   go_ret
   refine ⟨H1.out.1,H1.out.2.1,_,rfl,?_,H1.out.2.2⟩
   show Value.int .i64 _ = Value.int .i64 (unzz n)
   rw [← hun]
def isAggD (d : TypeDesc) : Bool:=match d with | .struct _ | .array _ _=>true | _=>false
def StT (P : Program) (t : TypeId) (K : Nat) : Prop:=∃ d i,P.underlying t = some d ∧ isAggD d = true ∧ P.info? t = some i ∧ i.size = K
theorem StT.of {P : Program} {t : TypeId} {d : TypeDesc} {K : Nat} (hu : P.underlying t = some d) (hd : isAggD d = true) (hi : (P.info? t).map (·.size) = some K) : StT P t K:=by
 obtain ⟨i,h1,h2⟩:=Option.map_eq_some_iff.1 hi
 exact ⟨d,i,hu,hd,h1,h2⟩
section
variable {P : Program} {t : TypeId} {K : Nat} {W : World} {cs : Array Value}
theorem StT.load (h : StT P t K) {g o : Nat} (hs : cs.size = K) (hc : ∀ (i : Nat) (u : Value),cs[i]? = some u → W.cell? ⟨g,o + i,none⟩ = some u) : (loadVar t ⟨g,o,none⟩).run P W = .ok (.agg cs) W:=by
 obtain ⟨d,i,hu,hd,hi,hk⟩:=h
 have hl : (loadCells ⟨g,o,none⟩ cs.toList.length).run P W = .ok cs.toList.toArray W :=
  run_loadCells_list (P:=P) W ⟨g,o,none⟩ cs.toList (fun j v hv=>by
   rw [Ka4]
   exact hc j v (by simpa using hv))
 have hagg : (isAgg t).run P W = .ok true W:=by
  cases d <;> simp_all [isAgg,isAggD,run_underlying hu]
 simp only [Array.toArray_toList,Array.length_toList,hs] at hl
 simp [loadVar,hagg,sizeOf,typeInfo,hi,hk,hl]
theorem StT.get (h : StT P t K) {g : Nat} {ty : TypeId} {fr : Nat × Nat} (hs : cs.size = K) (hg : W.heap[g]? = some (.cells cs ty fr)) : (loadVar t ⟨g,0,none⟩).run P W = .ok (.agg cs) W :=
 h.load hs fun i u hu=>by rw [Nat.zero_add,cell_of_row W g i cs ty fr hg];exact hu
theorem setRow_fresh (z : Array Value) (ty : TypeId) : (W.alloc (.cells z ty)).setRow W.heap.size cs = W.alloc (.cells cs ty):=by
 exact World.setRow_alloc_new ..
theorem StT.put (h : StT P t K) {g : Nat} {z : Array Value} {ty : TypeId} (hs : cs.size = K) (h1 : ∀ u ∈ cs.toList,u.oneCell' = true) (hg : W.heap[g]? = some (.cells z ty (0,0))) (hz : z.size = K) :
 (storeVar t ⟨g,0,none⟩ (.agg cs)).run P W = .ok () (W.setRow g cs):=by
 obtain ⟨d,i,hu,hd,hi,hk⟩:=h
 exact run_storeVar_row (P:=P) W g ty t z cs hg (by rw [hi,hs,← hk];rfl) (by rw [hz,hs]) (Array.all_eq_true_iff_forall_mem.2 fun u hu=>h1 u (by simpa using hu))
theorem StT.fresh (h : StT P t K) (hs : cs.size = K) (h1 : ∀ u ∈ cs.toList,u.oneCell' = true) (z : Array Value) (hz : z.size = K) :
 (storeVar t ⟨W.heap.size,0,none⟩ (.agg cs)).run P (W.alloc (.cells z t)) = .ok () (W.alloc (.cells cs t)):=by
 rw [h.put hs h1 (heap_alloc_new W _) hz,setRow_fresh]
end
structure EF {α : Type} (F : World → α → Array Value → Prop) (K : Nat) : Prop where
 below : ∀ {w w' : World} {x : α} {a : Array Value},F w x a → Below w.heap.size w w' → F w' x a
 size : ∀ {w : World} {x : α} {a : Array Value},F w x a → a.size = K
 ones : ∀ {w : World} {x : α} {a : Array Value},F w x a → ∀ u ∈ a.toList,u.oneCell' = true
theorem Kec : EF VRd 6:=by
 refine ⟨fun h g=>h.below g,fun h=>?_,fun h u hu=>?_⟩
 ·obtain ⟨pk,ck,pl,cl,rfl,_⟩:=h.open;rfl
 ·obtain ⟨pk,ck,pl,cl,rfl,_⟩:=h.open
  simp only [List.mem_cons,List.not_mem_nil,or_false] at hu
  rcases hu with rfl | rfl | rfl | rfl | rfl | rfl <;> rfl
theorem Kfa : EF PRd 7:=by
 refine ⟨fun h g=>h.below g,fun h=>?_,fun h=>?_⟩
 ·obtain ⟨y,rfl,_,h⟩:=h;rw [Array.size_append,Kec.size h];rfl
 ·obtain ⟨y,rfl,_,h⟩:=h;exact Kdm (by simp [Value.oneCell']) (Kec.ones h)
theorem Kek : EF NRd 3:=by
 refine ⟨fun h g=>h.below g,fun h=>?_,fun h u hu=>?_⟩
 ·obtain ⟨pl,cl,pp,cp,rfl,_⟩:=h;rfl
 ·obtain ⟨pl,cl,pp,cp,rfl,_⟩:=h
  simp only [List.mem_cons,List.not_mem_nil,or_false] at hu
  rcases hu with rfl | rfl | rfl <;> rfl
theorem ef_rel : EF RRd 5:=by
 refine ⟨fun h g=>h.below g,fun h=>?_,fun h u hu=>?_⟩
 ·obtain ⟨pp,cp,rfl,_⟩:=h;rfl
 ·obtain ⟨pp,cp,rfl,_⟩:=h
  simp only [List.mem_cons,List.not_mem_nil,or_false] at hu
  rcases hu with rfl | rfl | rfl | rfl | rfl <;> rfl
theorem Kex : EF CRd 11:=by
 refine ⟨fun h g=>h.below g,fun h=>?_,fun h=>?_⟩
 ·obtain ⟨a,b,rfl,h1,h2⟩:=h;rw [Array.size_append,Array.size_append,Kek.size h1,ef_rel.size h2];rfl
 ·obtain ⟨a,b,rfl,h1,h2⟩:=h;exact Kdm (Kdm (by simp [Value.oneCell']) (Kek.ones h1)) (ef_rel.ones h2)
theorem LRd.grd {w : World} {p : Option Addr} {c : Nat} {l : List V} (h : LRd w p c l) : GRd VRd 6 w p c l:=by
 refine ⟨h.1,fun ad had=>⟨(h.2 ad had).1,fun j v hv=>?_⟩⟩
 obtain ⟨cs,⟨c0,c1,c2,c3,c4,c5,e,h0,h1,h2,h3,h4,h5⟩,hv⟩:=(h.2 ad had).2 j v hv
 refine ⟨cs,by rw [e];rfl,fun i u hu=>?_,hv⟩
 subst e
 match i,hu with
 | 0,hu=>cases hu;exact h0
 | 1,hu=>cases hu;exact h1
 | 2,hu=>cases hu;exact h2
 | 3,hu=>cases hu;exact h3
 | 4,hu=>cases hu;exact h4
 | 5,hu=>cases hu;exact h5
 | n + 6,hu=>simp at hu
theorem Kbp : StT Tryz.prog 48 6:=.of Tryz.underlying48 (by rfl) (by kernel_rfl)
theorem Kco : StT Tryz.prog 136 7:=.of Tryz.underlying136 (by rfl) (by kernel_rfl)
theorem Kbo : StT Tryz.prog 70 3:=.of Tryz.underlying70 (by rfl) (by kernel_rfl)
theorem Kcf : StT Tryz.prog 72 5:=.of Tryz.underlying72 (by rfl) (by kernel_rfl)
theorem Kb6 : StT Tryz.prog 74 11:=.of Tryz.underlying74 (by rfl) (by kernel_rfl)
theorem Kay : StT Tryz.prog 25 4:=.of Tryz.underlying25 (by rfl) (by kernel_rfl)
def SOwn (w : World) (P : Nat → Prop) (s : List UInt8) (x : Array Value) : Prop:=x = #[.string (strB s)]
theorem el_str : EL SOwn 1:=by
 refine ⟨fun _ h=>h,fun _ h=>h,fun h=>by rw [h];rfl,fun h u hu=>?_⟩
 rw [h] at hu
 simp only [List.mem_cons,List.not_mem_nil,or_false] at hu
 subst hu;rfl
theorem info_prop : ∃ i,Tryz.prog.info? 136 = some i ∧ i.zero = some (.agg #[.string ⟨#[]⟩,.int .i64 0,.bool false,.int .i64 0,.string ⟨#[]⟩,.slice none 0 0,.slice none 0 0]) ∧ i.size = 7 ∧ i.bytes = 104:=info_parts (by kernel_rfl)
theorem info_node : ∃ i,Tryz.prog.info? 70 = some i ∧ i.zero = some (.agg #[.int .i64 0,.slice none 0 0,.slice none 0 0]) ∧ i.size = 3 ∧ i.bytes = 56:=info_parts (by kernel_rfl)
theorem info_rel : ∃ i,Tryz.prog.info? 72 = some i ∧ i.zero = some (.agg #[.int .i64 0,.int .i64 0,.int .i64 0,.string ⟨#[]⟩,.slice none 0 0]) ∧ i.size = 5 ∧ i.bytes = 64:=info_parts (by kernel_rfl)
theorem info_change : ∃ i,Tryz.prog.info? 74 = some i ∧ i.zero = some (.agg #[.int .i64 0,.int .i64 0,.int .i64 0,.int .i64 0,.slice none 0 0,.slice none 0 0,.int .i64 0,.int .i64 0,.int .i64 0,.string ⟨#[]⟩,.slice none 0 0]) ∧ i.size = 11 ∧ i.bytes = 144:=info_parts (by kernel_rfl)
theorem gt_val : GT Tryz.prog 48 46 6:=.of (bytes:=88) Tryz.underlying46 info_val rfl (by decide)
theorem gt_prop : GT Tryz.prog 136 68 7:=.of (bytes:=104) Tryz.underlying68 info_prop rfl (by decide)
theorem gt_node : GT Tryz.prog 70 22 3:=.of (bytes:=56) Tryz.underlying22 info_node rfl (by decide)
theorem gt_rel : GT Tryz.prog 72 23 5:=.of (bytes:=64) Tryz.underlying23 info_rel rfl (by decide)
theorem gt_change : GT Tryz.prog 74 58 11:=.of (bytes:=144) Tryz.underlying58 info_change rfl (by decide)
theorem gt_str : GT Tryz.prog 9 45 1:=.of (bytes:=16) Tryz.underlying45 info_str rfl (by decide)
section
variable {α : Type} {E : World → (Nat → Prop) → α → Array Value → Prop} {K : Nat} {t T R : TypeId} {w W W1 W2 : World} {q : Nat} {J : List α → World → Value → Prop} {m : List α} {kv kv' ov : Value} {l' s : List UInt8}
structure KeepJ (w W : World) (q : Nat) (J : List α → World → Value → Prop) : Prop where
 keep : ∀ {m W1 W2 kv},J m W1 kv → W1.heap.size ≤ W2.heap.size → Below w.heap.size w W2 → (∀ b,b < W1.heap.size → b ≠ q → (b < W.heap.size ∨ kv.ownBlock = some b) → W2.heap[b]? = W1.heap[b]?) → J m W2 kv
 lt : ∀ {m W1 kv},J m W1 kv → ∀ b,kv.ownBlock = some b → b < W1.heap.size
structure RInv (R : TypeId) (E : World → (Nat → Prop) → α → Array Value → Prop) (t : TypeId) (K : Nat) (w W : World) (q : Nat) (J : List α → World → Value → Prop) (m : List α) (W1 : World) (kv ov : Value) (l' : List UInt8) : Prop where
 st : RSt R w W1 q l'
 j : J m W1 kv
 row : GIn E t K (fun b=>W.heap.size ≤ b ∧ kv.ownBlock ≠ some b) W1 ov m
 size : W.heap.size ≤ W1.heap.size
 q : q < W.heap.size
structure ROne (R : TypeId) (E : World → (Nat → Prop) → α → Array Value → Prop) (w W : World) (q : Nat) (J : List α → World → Value → Prop) (m : List α) (W1 : World) (kv : Value) (x : α) (s : List UInt8) (cs : Array Value) (kv' : Value) (W2 : World) : Prop where
 size : W1.heap.size ≤ W2.heap.size
 keep : ∀ b,b < W1.heap.size → b ≠ q → W.heap.size ≤ b → kv.ownBlock ≠ some b → W2.heap[b]? = W1.heap[b]?
 it : E W2 (fun b=>W1.heap.size ≤ b ∧ kv'.ownBlock ≠ some b) x cs
 st : RSt R w W2 q s
 j : J (m ++ [x]) W2 kv'
 own : kv'.ownBlock = kv.ownBlock ∨ ∀ b,kv'.ownBlock = some b → W1.heap.size ≤ b
theorem RInv.step {Pg : Program} (hE : EL E K) (hG : GT Pg t T K) (hJ : KeepJ w W q J) (h : RInv R E t K w W q J m W1 kv ov l') {x : α} {cs : Array Value} (g : ROne R E w W q J m W1 kv x s cs kv' W2) (hm : m.length ≤ 1000000) (ty : TypeId) {W3 : World} (hb : Below W2.heap.size W2 W3) :
 ∃ v' W4,(Builtin.append_ #[T,T] ty #[ov,.slice (some ⟨W3.heap.size,0,none⟩) 1 1]).run Pg (W3.alloc (.cells cs t)) = .ok v' W4 ∧ RInv R E t K w W q J (m ++ [x]) W4 kv' v' s:=by
 have hlt:=hJ.lt g.j
 have hkl:=hJ.lt h.j
 have hs3:=hb.size
 have hsz:=g.size
 have hbs:=h.size
 have hown : ∀ b,b < W1.heap.size → kv.ownBlock ≠ some b → kv'.ownBlock ≠ some b:=fun b h1 h2=>by
  rcases g.own with e | e
  ·rw [e];exact h2
  ·intro e2;have:=e b e2;omega
 obtain ⟨v',W4,a1,a2,a3⟩:=h.row.step hE hG (P':=fun b=>W.heap.size ≤ b ∧ kv'.ownBlock ≠ some b) (W1:=W3) (v:=x) (x:=cs)
  (fun b hp hl=>(hb.block b (by omega)).trans (g.keep b hl (by have:=h.q;omega) hp.1 hp.2)) (by omega) (fun b hl hp=>⟨hp.1,hown b hl hp.2⟩) (fun b hl=>⟨by omega,fun e=>by have:=hlt b e;omega⟩)
  (hE.imp (fun b _ hp=>⟨hp.1,by have:=hp.1;omega,hp.2⟩) (hE.keep (fun b _ hl=>hb.block b hl) g.it)) hm ty
 have hb4 : Below W2.heap.size W2 (W3.alloc (.cells cs t)):=Kaa hb (Kac _)
 have hrow:=h.row.lt
 have hk4 : ∀ b,b < W2.heap.size → ov.ownBlock ≠ some b → W4.heap[b]? = W2.heap[b]?:=fun b hl ho=>(a3.block b (by have:=hb4.size;omega) ho).trans (hb4.block b hl)
 have hB4 : Below w.heap.size w W4:=by
  refine a3.below (Kaa g.st.b hb4) (fun b hl e=>?_) (by have:=g.st.b.size;have:=hb4.size;omega)
  have:=(hrow b e).2.1
  have:=g.st.base
  have:=h.q
  omega
 have hs4 : W2.heap.size ≤ W4.heap.size:=by have:=a3.size;have:=hb4.size;omega
 have hqo : ov.ownBlock ≠ some q:=fun e=>by have:=(hrow q e).2.1;have:=h.q;omega
 refine ⟨v',W4,a1,⟨?_,?_,a2,by omega,h.q⟩⟩
 ·exact g.st.other hB4 (hk4 q g.st.lt hqo)
 ·refine hJ.keep g.j hs4 hB4 fun b hl hq hor=>hk4 b hl fun e=>?_
  obtain ⟨h1,h2,h3⟩:=hrow b e
  rcases hor with h4 | h4
  ·omega
  ·exact hown b h1 h3 h4
def RPost (R : TypeId) (E : World → (Nat → Prop) → α → Array Value → Prop) (t : TypeId) (K : Nat) (w W : World) (q : Nat) (J : List α → World → Value → Prop) (Jx : World → Prop) (n0 : Nat) (r : Option (List α × List UInt8)) (e : Ending) (W' : World) : Prop:=match r with
 | some (xs,s)=>∃ v kv',e = .returned v ∧ RInv R E t K w W q J xs W' kv' v s ∧ s.length ≤ n0
 | none=>e = .panicked [{ v:=.iface 154 (.agg #[]),recovered:=false }] ∧ Jx W' ∧ Below w.heap.size w W'
theorem RPost.of_some {Jx : World → Prop} {n0 : Nat} {r : Option (List α × List UInt8)} {xs : List α} {v : Value} {W' : World} (h : r = some (xs,s)) (g : RInv R E t K w W q J xs W' kv' v s) (hs : s.length ≤ n0) : RPost R E t K w W q J Jx n0 r (.returned v) W':=by
 subst h;exact ⟨v,kv',rfl,g,hs⟩
theorem RPost.of_none {Jx : World → Prop} {n0 : Nat} {r : Option (List α × List UInt8)} {W' : World} (h : r = none) (g : Jx W' ∧ Below w.heap.size w W') : RPost R E t K w W q J Jx n0 r given W':=by
 subst h;exact ⟨rfl,g⟩
theorem RPost.cases {Jx : World → Prop} {n0 : Nat} {r : Option (List α × List UInt8)} {e : Ending} {W' : World} (h : RPost R E t K w W q J Jx n0 r e W') : (r = none ∧ e = given ∧ Jx W' ∧ Below w.heap.size w W') ∨ ∃ xs s v kv',r = some (xs,s) ∧ e = .returned v ∧ RInv R E t K w W q J xs W' kv' v s ∧ s.length ≤ n0:=by
 cases r with
 | none=>exact .inl ⟨rfl,h⟩
 | some p =>
   obtain ⟨xs,s⟩:=p
   obtain ⟨v,kv',h1,h2,h3⟩:=h
   exact .inr ⟨xs,s,v,kv',rfl,h1,h2,h3⟩
end
theorem vowns_of {α : Type} (f : α → V) {w : World} {P : Nat → Prop} : ∀ (l : List α) (xs : List (Array Value)),GOwns (fun w P a x=>VOwn w P (f a) x) w P l xs → VOwns w P (l.map f) xs
 | [],xs,h=>by
   have:=h.1
   have e : xs = []:=List.eq_nil_of_length_eq_zero (by simpa using this)
   subst e
   rw [List.map_nil,VOwns]
 | a :: l,xs,h=>by
   cases xs with
   | nil=>have:=h.1;simp at this
   | cons x q =>
     obtain ⟨y,h1,h2⟩:=h.2 0 a rfl
     cases h1
     rw [List.map_cons,VOwns]
     refine ⟨x,q,rfl,h2,vowns_of f l q ⟨by have:=h.1;simpa using this,fun j v hv=>?_⟩⟩
     have:=h.2 (j + 1) v (by simpa using hv)
     simpa using this
theorem GOwn.low {α : Type} {f : α → V} {w : World} {P : Nat → Prop} {v : Value} {l : List α} (h : GOwn (fun w P a x=>VOwn w P (f a) x) 48 6 w P v l) : LOwn w P v (l.map f):=by
 obtain ⟨xs,h1,h2⟩:=h
 exact ⟨xs,by rw [List.length_map];exact h1,vowns_of f l xs h2⟩
theorem el_pair : EL (fun w P (p : List UInt8 × V) x=>VOwn w P p.2 x) 6:=⟨fun h=>VOwn.keep h,fun h=>VOwn.imp h,VOwn.size6,VOwn.ones⟩
abbrev innerV (b : Nat) : Value:=.func (.func 122) #[] #[.pointer (some ⟨b,0,none⟩),.pointer (some ⟨b + 1,0,none⟩)]
abbrev zeroC : Array Value:=#[.int .i64 0,.bool false,.int .i64 0,.string ⟨#[]⟩,.slice none 0 0,.slice none 0 0]
structure VS (W : World) (q : Nat) (d : Int) (B : Nat) (cs : Array Value) (W' : World) : Prop where
 p2 : W'.heap[W.heap.size]? = some (.cells #[.pointer (some ⟨q,0,none⟩)] 95 (0,0))
 p3 : W'.heap[W.heap.size + 1]? = some (.cells #[.int .i64 d] 3 (0,0))
 p4 : W'.heap[W.heap.size + 2]? = some (.cells zeroC 48 (0,0))
 p5 : W'.heap[B]? = some (.cells cs 48 (0,0))
 p6 : W'.heap[B + 1]? = some (.cells #[innerV W.heap.size] 170 (0,0))
 lo : W.heap.size + 3 ≤ B
 ql : q < W.heap.size
 tr : RTo q W W'
section
variable {w W W' W'' : World} {q B : Nat} {d : Int} {cs : Array Value} {l' : List UInt8}
theorem VS.lt (h : VS W q d B cs W') : B + 1 < W'.heap.size:=(Array.getElem?_eq_some_iff.1 h.p6).1
theorem VS.keep (h : VS W q d B cs W') (hs : W'.heap.size ≤ W''.heap.size) (hk : ∀ b,b < W.heap.size ∨ b = W.heap.size ∨ b = W.heap.size + 1 ∨ b = W.heap.size + 2 ∨ b = B ∨ b = B + 1 → b ≠ q → W''.heap[b]? = W'.heap[b]?) : VS W q d B cs W'':=by
 have hq:=h.ql
 have hlo:=h.lo
 exact ⟨(hk _ (by omega) (by omega)).trans h.p2,(hk _ (by omega) (by omega)).trans h.p3,(hk _ (by omega) (by omega)).trans h.p4,(hk _ (by omega) (by omega)).trans h.p5,(hk _ (by omega) (by omega)).trans h.p6,h.lo,h.ql,
  ⟨by have:=h.tr.size;omega,fun b hb hqb=>(hk b (.inl hb) hqb).trans (h.tr.keep b hb hqb)⟩⟩
theorem VS.step (h : VS W q d B cs W') (t : RTo q W' W'') : VS W q d B cs W'' :=
 h.keep t.size fun b hb hq=>t.keep b (by have:=h.lt;have:=h.tr.size;have:=h.lo;omega) hq
theorem VS.set (h : VS W q d B cs W') (k : Nat) (u : Value) : VS W q d B (cs.setIfInBounds k u) (W'.setCell ⟨B,k,none⟩ u):=by
 have hs : ∀ b,b ≠ B → (W'.setCell ⟨B,k,none⟩ u).heap[b]? = W'.heap[b]?:=fun b hb=>Below.heap_setCell _ _ _ _ hb
 have hlo:=h.lo
 exact ⟨(hs _ (by omega)).trans h.p2,(hs _ (by omega)).trans h.p3,(hs _ (by omega)).trans h.p4,Kcd u h.p5,(hs _ (by omega)).trans h.p6,h.lo,h.ql,
  ⟨by have:=h.tr.size;simp [World.setCell];omega,fun b hb hqb=>(hs b (by omega)).trans (h.tr.keep b hb hqb)⟩⟩
theorem VS.setR (h : VS W q d B cs W') (g : RSt 141 w W' q l') (k : Nat) (u : Value) : RSt 141 w (W'.setCell ⟨B,k,none⟩ u) q l':=by
 have hlo:=h.lo
 have hq:=h.ql
 exact g.other (Kbh g.b (by have:=g.base;omega) u) (Below.heap_setCell _ _ _ _ (by show q ≠ B;omega))
theorem VS.fin (h : VS W q d B cs W') (hs : cs.size = 6) (h1 : ∀ u ∈ cs.toList,u.oneCell' = true) (g : RSt 141 w W' q l') :
 (loadVar 48 ⟨B,0,none⟩).run Tryz.prog W' = .ok (.agg cs) W' ∧ (storeVar 48 ⟨W.heap.size + 2,0,none⟩ (.agg cs)).run Tryz.prog W' = .ok () (W'.setRow (W.heap.size + 2) cs) ∧
 (loadVar 48 ⟨W.heap.size + 2,0,none⟩).run Tryz.prog (W'.setRow (W.heap.size + 2) cs) = .ok (.agg cs) (W'.setRow (W.heap.size + 2) cs) ∧ RSt 141 w (W'.setRow (W.heap.size + 2) cs) q l' ∧ RTo q W (W'.setRow (W.heap.size + 2) cs) ∧ Below w.heap.size w (W'.setRow (W.heap.size + 2) cs) ∧
 (∀ (P : Nat → Prop) (v : V),(∀ b,P b → W.heap.size + 3 ≤ b) → VOwn W' P v cs → VOwn (W'.setRow (W.heap.size + 2) cs) (fun b=>W.heap.size ≤ b) v cs):=by
 have ho : ∀ b,b ≠ W.heap.size + 2 → (W'.setRow (W.heap.size + 2) cs).heap[b]? = W'.heap[b]?:=fun b hb=>setRow_other W' _ b cs hb
 have hsz : (W'.setRow (W.heap.size + 2) cs).heap.size = W'.heap.size:=by simp
 have hq:=h.ql
 have hbase:=g.base
 have hB : Below w.heap.size w (W'.setRow (W.heap.size + 2) cs):=by
  have hgs:=g.b.size
  obtain ⟨b1,b2,b3,b4,b5⟩:=g.b
  exact ⟨b1,b2,b3,by rw [hsz];exact hgs,fun b hb=>(ho b (by omega)).trans (b5 b hb)⟩
 refine ⟨StT.get Kbp hs h.p5,StT.put Kbp hs h1 h.p4 rfl,StT.get Kbp hs (setRow_heap W' _ zeroC cs _ _ h.p4),g.other hB (ho q (by omega)),⟨by rw [hsz];exact h.tr.size,fun b hb hqb=>(ho b (by omega)).trans (h.tr.keep b hb hqb)⟩,hB,fun P v hP hv=>?_⟩
 exact (hv.keep (w':=W'.setRow (W.heap.size + 2) cs) fun b hb _=>ho b (by have:=hP b hb;omega)).imp fun b _ hb=>by have:=hP b hb;omega
end
theorem Kd0 {w : World} {ad : Addr} {n : Int} {u : Value} (hc : w.cell? ad = some u) (hf : w.frozen? ad = false) : (storeVar 2 ad (.int .i64 n)).run Tryz.prog w = .ok () (w.setCell ad (.int .i64 n)):=by
 simp [storeVar,go_sem,hc,hf]
theorem put_boo {w : World} {ad : Addr} {n : Bool} {u : Value} (hc : w.cell? ad = some u) (hf : w.frozen? ad = false) : (storeVar 4 ad (.bool n)).run Tryz.prog w = .ok () (w.setCell ad (.bool n)):=by
 simp [storeVar,go_sem,hc,hf]
theorem put_str {w : World} {ad : Addr} {s : ByteArray} {u : Value} (hc : w.cell? ad = some u) (hf : w.frozen? ad = false) : (storeVar 9 ad (.string s)).run Tryz.prog w = .ok () (w.setCell ad (.string s)):=by
 simp [storeVar,go_sem,hc,hf]
theorem put_vas {w : World} {ad : Addr} {p : Option Addr} {n c : Nat} {u : Value} (hc : w.cell? ad = some u) (hf : w.frozen? ad = false) : (storeVar 46 ad (.slice p n c)).run Tryz.prog w = .ok () (w.setCell ad (.slice p n c)):=by
 simp [storeVar,go_sem,hc,hf]
theorem put_strs {w : World} {ad : Addr} {p : Option Addr} {n c : Nat} {u : Value} (hc : w.cell? ad = some u) (hf : w.frozen? ad = false) : (storeVar 45 ad (.slice p n c)).run Tryz.prog w = .ok () (w.setCell ad (.slice p n c)):=by
 simp [storeVar,go_sem,hc,hf]
theorem Kcy {d : Nat} {l : List UInt8} (h : 0 < l.length) : rdVal (d + 1) l =
 if (l[0]).toNat = 0 then some (.mk 0 false 0 [] [] [],l.drop 1)
 else if (l[0]).toNat = 1 then rdBool (l.drop 1)
 else if (l[0]).toNat = 2 then (rdN 0 0 (l.drop 1)).map fun p=>(.mk 2 false (unzz p.1) [] [] [],p.2)
 else if (l[0]).toNat = 3 then (Kba (l.drop 1)).map fun p=>(.mk 3 false 0 p.1 [] [],p.2)
 else if (l[0]).toNat = 4 then (Ka2 (rdVal d) (l.drop 1)).map fun p=>(.mk 4 false 0 [] [] p.1,p.2)
 else if (l[0]).toNat = 5 then (Ka2 (Dec.seq Kba (rdVal d)) (l.drop 1)).map fun p=>(.mk 5 false 0 [] (p.1.map Prod.fst) (p.1.map Prod.snd),p.2)
 else if (l[0]).toNat = 6 ∨ (l[0]).toNat = 7 then (rdN 0 0 (l.drop 1)).map fun p=>(.mk ((l[0]).toNat : Int) false (toI p.1) [] [] [],p.2)
 else none:=by
 cases l with
 | nil=>simp at h
 | cons c r=>rw [rdVal];rfl
theorem rdVal_nil (d : Nat) : rdVal d [] = none:=by cases d <;> rw [rdVal]
theorem rrowsV_any {α : Type} {E : World → (Nat → Prop) → α → Array Value → Prop} (hE : EL E 6) (d : Dec α) {w W : World} {q : Nat} {l : List UInt8} {kv0 : Value} {a1 a2 : Option Addr} (hl : l.length ≤ 1000000)
 (h : RSt 141 w W q l) (J : List α → World → Value → Prop) (Jx : World → Prop) (hJ : KeepJ w W q J) (hx : ∀ m W' kv,J m W' kv → Jx W') (h0 : J [] W kv0)
 (one : ∀ m W1 kv l',J m W1 kv → W.heap.size ≤ W1.heap.size → RSt 141 w W1 q l' → l'.length ≤ 1000000 → m.length ≤ 1000000 → Calls Tryz.prog 122 #[.pointer a1,.pointer a2] W1 fun e W2=>match d l' with
   | some (x,s)=>∃ cs kv',e = .returned (.agg cs) ∧ ROne 141 E w W q J m W1 kv x s cs kv' W2 ∧ s.length ≤ l'.length
   | none=>e = given ∧ Jx W2 ∧ Below w.heap.size w W2) :
 Calls Tryz.prog 124 #[.pointer (some ⟨q,0,none⟩),.func (.func 122) #[] #[.pointer a1,.pointer a2]] W (RPost 141 E 48 6 w W q J Jx l.length (Ka2 d l)):=by
 have hqW:=h.lt
 have HN:=yh (Ka0 h)
 have HO:=yh one
 have HJ:=yh hJ
 have HX:=yh hx
 have H0:=yh h0
 clear one hJ hx h0 h
 cases hr : rdN 0 0 l with
 | none =>
   rw [hr] at HN
   clear HO
   go_enter Tryz.func124,Tryz.ntmps124
   go_wp2_with (go_at_call 55;refine HN.out.mono ?_;rintro e W1 h1;obtain ⟨t1,hb1,rfl⟩:=h1.none;have H1:=yh (And.intro t1 hb1);clear h1 t1 hb1)
   exact ⟨rfl,RPost.of_none (Kc6 hr) ⟨HX.out _ _ _ (HJ.out.keep H0.out H1.out.1.size H1.out.2 (fun b hb hq _=>H1.out.1.keep b hb hq)),H1.out.2⟩⟩
 | some p =>
   obtain ⟨n,r⟩:=p
   rw [hr] at HN
   have hn:=Keh hr
   have hrl : r.length ≤ l.length:=by
    obtain ⟨h1,_⟩:=Kcu.sound _ _ _ hr
    rw [h1,List.length_append];omega
   have z1 : (n : Int) < 18446744073709551616:=by omega
   have z2 : (r.length : Int) ≤ 1000000:=by omega
   by_cases hnr : n ≤ r.length
   ·have HRO:=yh (Ked (d:=d) hr hnr)
    have g1 : (n : Int) ≤ (r.length : Int):=by omega
    go_enter Tryz.func124,Tryz.ntmps124
    go_wp2_with (first
     | (go_at_call 55;refine HN.out.mono ?_;rintro e W1 h1
        (
         obtain ⟨t1,hb1,v1,rfl,rfl,s1⟩:=h1.some
         obtain ⟨p1,c1,hbx,_⟩:=s1.box
         have hcq:=Kab (o:=0) hbx rfl
         have H1:=yh (And.intro t1 (And.intro hb1 s1))
         clear h1 s1 t1 hb1 hbx))
     | (go_at_call 105;refine (Kax _).mono ?_;rintro e W2 ⟨rfl,rfl⟩))
    go_loopw [6,21] (fun ov i wr=>∃ (m : List α) (a : Option Addr) (n1 c1 : Nat),m.length ≤ n ∧ i = .int .u64 (m.length : Int) ∧ ov = .slice a n1 c1 ∧ Hid (∃ kv l',RInv 141 E 48 6 w W q J m wr kv (.slice a n1 c1) l' ∧ RepAt d n r m l' ∧ l'.length ≤ r.length)) (fun _ i _=>n - (intOf i).toNat)
    case atStart=>exact ⟨[],none,0,0,Nat.zero_le _,rfl,rfl,yh ⟨kv0,r,⟨H1.out.2.2,HJ.out.keep H0.out H1.out.1.size H1.out.2.1 (fun b hb hq _=>H1.out.1.keep b hb hq),GIn.start,H1.out.1.size,hqW⟩,RepAt.start _ _ _,Nat.le_refl _⟩⟩
    case round =>
     obtain ⟨m,a,n1,c1,hm,rfl,rfl,HI⟩:=hrel
     obtain ⟨kv,l',hinv,hrep,hll⟩:=HI.out
     clear HI H1 HN H0 hcq
     by_cases hlt : m.length < n
     ·have g2 : (m.length : Int) < (n : Int):=by omega
      have hone:=HO.out m wr kv l' hinv.j hinv.size hinv.st (by omega) (by omega)
      cases hd : d l' with
      | none =>
        rw [hd] at hone
        have hfail:=hrep.fail hlt hd
        have HC:=yh hone
        have HFL:=yh (HRO.out.trans hfail)
        clear hone hinv hrep hfail
        go_wp2_with (go_at_call 122;refine HC.out.mono ?_;rintro e W2 ⟨rfl,hg,hbw⟩;have HG:=yh (And.intro hg hbw);clear hg hbw HC)
        exact ⟨rfl,RPost.of_none HFL.out HG.out⟩
      | some p =>
        obtain ⟨x,s⟩:=p
        rw [hd] at hone
        have hstep:=hrep.step hlt hd
        have HC:=yh hone
        have HV:=yh (And.intro hinv hstep)
        have hlt1 : m.length + 1 ≤ n:=hlt
        have hm1 : m.length ≤ 1000000:=by omega
        clear hone hinv hrep hstep
        go_wp2_with (first
         | (go_at_call 122;refine HC.out.mono ?_;rintro e W2 ⟨cs,kv2,rfl,hone,hsl⟩
            (
             have hs:=hE.size hone.it
             have hones:=hE.ones hone.it
             have hbs:=Kap (P:=Tryz.prog) (w:=W2.alloc (.cells cs 48)) (v:=.agg cs) Tryz.underlying46 Tryz.sizeOf48 Tryz.zeroValue48 hs (by omega) (by omega)
             obtain ⟨v4,W4,ha,hinv4⟩:=HV.out.1.step hE gt_val HJ.out hone hm1 46 (Kac (w:=W2) (.cells cs 48))
             obtain ⟨a4,n4,c4,rfl⟩ : ∃ a4 n4 c4,v4 = .slice a4 n4 c4:=by obtain ⟨p,c,e⟩:=hinv4.row.slice;exact ⟨_,_,_,e⟩
             have HS:=yh (StT.fresh Kbp hs hones (W:=W2))
             have HL:=yh (StT.get Kbp hs (heap_alloc_new W2 (.cells cs 48)))
             have HB:=yh hbs
             have HA:=yh ha
             have HR:=yh (And.intro hinv4 (show s.length ≤ r.length by omega))
             clear hs hones hbs ha hinv4
             clear hone HC))
         | ((with_reducible apply Kae);exact HS.out _ rfl;exact rfl;exact rfl;clear HS)
         | ((with_reducible apply Kal);exact HL.out;exact rfl;clear HL)
         | ((with_reducible apply op_bs1);exact HB.out;exact rfl;clear HB)
         | ((with_reducible apply Kcv);exact HA.out;exact rfl;exact rfl))
        go_roundw
        case rel=>exact ⟨m ++ [x],a4,n4,c4,by rw [List.length_append];exact hlt1,by rw [List.length_append];go_num,rfl,yh ⟨kv2,s,HR.out.1,HV.out.2,HR.out.2⟩⟩
        case measure=>simp [intOf];omega
     ·have hme : m.length = n:=by omega
      have g2 : ¬ ((m.length : Int) < (n : Int)):=by omega
      have hdone:=hrep.done hme
      have HD:=yh (HRO.out.trans hdone)
      have HF:=yh (And.intro hinv (show l'.length ≤ l.length by omega))
      clear hinv hrep hdone
      go_wp2
      go_ret
      exact RPost.of_some HD.out HF.out.1 HF.out.2
   ·have HRO:=yh (Kct (d:=d) hr hnr)
    have g1 : ¬ ((n : Int) ≤ (r.length : Int)):=by omega
    clear HO
    go_enter Tryz.func124,Tryz.ntmps124
    go_wp2_with (first
     | (go_at_call 55;refine HN.out.mono ?_;rintro e W1 h1
        (
         obtain ⟨t1,hb1,v1,rfl,rfl,s1⟩:=h1.some
         obtain ⟨p1,c1,hbx,_⟩:=s1.box
         have hcq:=Kab (o:=0) hbx rfl
         have H1:=yh (And.intro t1 hb1)
         clear h1 s1 t1 hb1 hbx))
     | (go_at_call 105;refine (Ka8 _).mono ?_;rintro e W2 ⟨rfl,rfl⟩))
    exact ⟨rfl,RPost.of_none HRO.out ⟨HX.out _ _ _ (HJ.out.keep H0.out H1.out.1.size H1.out.2 (fun b hb hq _=>H1.out.1.keep b hb hq)),H1.out.2⟩⟩
theorem rrowsM_any {α : Type} {E : World → (Nat → Prop) → α → Array Value → Prop} (hE : EL E 6) (d : Dec α) {w W : World} {q : Nat} {l : List UInt8} {kv0 : Value} {a1 a2 a3 : Option Addr} (hl : l.length ≤ 1000000)
 (h : RSt 141 w W q l) (J : List α → World → Value → Prop) (Jx : World → Prop) (hJ : KeepJ w W q J) (hx : ∀ m W' kv,J m W' kv → Jx W') (h0 : J [] W kv0)
 (one : ∀ m W1 kv l',J m W1 kv → W.heap.size ≤ W1.heap.size → RSt 141 w W1 q l' → l'.length ≤ 1000000 → m.length ≤ 1000000 → Calls Tryz.prog 125 #[.pointer a1,.pointer a2,.pointer a3] W1 fun e W2=>match d l' with
   | some (x,s)=>∃ cs kv',e = .returned (.agg cs) ∧ ROne 141 E w W q J m W1 kv x s cs kv' W2 ∧ s.length ≤ l'.length
   | none=>e = given ∧ Jx W2 ∧ Below w.heap.size w W2) :
 Calls Tryz.prog 124 #[.pointer (some ⟨q,0,none⟩),.func (.func 125) #[] #[.pointer a1,.pointer a2,.pointer a3]] W (RPost 141 E 48 6 w W q J Jx l.length (Ka2 d l)):=by
 have hqW:=h.lt
 have HN:=yh (Ka0 h)
 have HO:=yh one
 have HJ:=yh hJ
 have HX:=yh hx
 have H0:=yh h0
 clear one hJ hx h0 h
 cases hr : rdN 0 0 l with
 | none =>
   rw [hr] at HN
   clear HO
   go_enter Tryz.func124,Tryz.ntmps124
   go_wp2_with (go_at_call 55;refine HN.out.mono ?_;rintro e W1 h1;obtain ⟨t1,hb1,rfl⟩:=h1.none;have H1:=yh (And.intro t1 hb1);clear h1 t1 hb1)
   exact ⟨rfl,RPost.of_none (Kc6 hr) ⟨HX.out _ _ _ (HJ.out.keep H0.out H1.out.1.size H1.out.2 (fun b hb hq _=>H1.out.1.keep b hb hq)),H1.out.2⟩⟩
 | some p =>
   obtain ⟨n,r⟩:=p
   rw [hr] at HN
   have hn:=Keh hr
   have hrl : r.length ≤ l.length:=by
    obtain ⟨h1,_⟩:=Kcu.sound _ _ _ hr
    rw [h1,List.length_append];omega
   have z1 : (n : Int) < 18446744073709551616:=by omega
   have z2 : (r.length : Int) ≤ 1000000:=by omega
   by_cases hnr : n ≤ r.length
   ·have HRO:=yh (Ked (d:=d) hr hnr)
    have g1 : (n : Int) ≤ (r.length : Int):=by omega
    go_enter Tryz.func124,Tryz.ntmps124
    go_wp2_with (first
     | (go_at_call 55;refine HN.out.mono ?_;rintro e W1 h1
        (
         obtain ⟨t1,hb1,v1,rfl,rfl,s1⟩:=h1.some
         obtain ⟨p1,c1,hbx,_⟩:=s1.box
         have hcq:=Kab (o:=0) hbx rfl
         have H1:=yh (And.intro t1 (And.intro hb1 s1))
         clear h1 s1 t1 hb1 hbx))
     | (go_at_call 105;refine (Kax _).mono ?_;rintro e W2 ⟨rfl,rfl⟩))
    go_loopw [6,21] (fun ov i wr=>∃ (m : List α) (a : Option Addr) (n1 c1 : Nat),m.length ≤ n ∧ i = .int .u64 (m.length : Int) ∧ ov = .slice a n1 c1 ∧ Hid (∃ kv l',RInv 141 E 48 6 w W q J m wr kv (.slice a n1 c1) l' ∧ RepAt d n r m l' ∧ l'.length ≤ r.length)) (fun _ i _=>n - (intOf i).toNat)
    case atStart=>exact ⟨[],none,0,0,Nat.zero_le _,rfl,rfl,yh ⟨kv0,r,⟨H1.out.2.2,HJ.out.keep H0.out H1.out.1.size H1.out.2.1 (fun b hb hq _=>H1.out.1.keep b hb hq),GIn.start,H1.out.1.size,hqW⟩,RepAt.start _ _ _,Nat.le_refl _⟩⟩
    case round =>
     obtain ⟨m,a,n1,c1,hm,rfl,rfl,HI⟩:=hrel
     obtain ⟨kv,l',hinv,hrep,hll⟩:=HI.out
     clear HI H1 HN H0 hcq
     by_cases hlt : m.length < n
     ·have g2 : (m.length : Int) < (n : Int):=by omega
      have hone:=HO.out m wr kv l' hinv.j hinv.size hinv.st (by omega) (by omega)
      cases hd : d l' with
      | none =>
        rw [hd] at hone
        have hfail:=hrep.fail hlt hd
        have HC:=yh hone
        have HFL:=yh (HRO.out.trans hfail)
        clear hone hinv hrep hfail
        go_wp2_with (go_at_call 125;refine HC.out.mono ?_;rintro e W2 ⟨rfl,hg,hbw⟩;have HG:=yh (And.intro hg hbw);clear hg hbw HC)
        exact ⟨rfl,RPost.of_none HFL.out HG.out⟩
      | some p =>
        obtain ⟨x,s⟩:=p
        rw [hd] at hone
        have hstep:=hrep.step hlt hd
        have HC:=yh hone
        have HV:=yh (And.intro hinv hstep)
        have hlt1 : m.length + 1 ≤ n:=hlt
        have hm1 : m.length ≤ 1000000:=by omega
        clear hone hinv hrep hstep
        go_wp2_with (first
         | (go_at_call 125;refine HC.out.mono ?_;rintro e W2 ⟨cs,kv2,rfl,hone,hsl⟩
            (
             have hs:=hE.size hone.it
             have hones:=hE.ones hone.it
             have hbs:=Kap (P:=Tryz.prog) (w:=W2.alloc (.cells cs 48)) (v:=.agg cs) Tryz.underlying46 Tryz.sizeOf48 Tryz.zeroValue48 hs (by omega) (by omega)
             obtain ⟨v4,W4,ha,hinv4⟩:=HV.out.1.step hE gt_val HJ.out hone hm1 46 (Kac (w:=W2) (.cells cs 48))
             obtain ⟨a4,n4,c4,rfl⟩ : ∃ a4 n4 c4,v4 = .slice a4 n4 c4:=by obtain ⟨p,c,e⟩:=hinv4.row.slice;exact ⟨_,_,_,e⟩
             have HS:=yh (StT.fresh Kbp hs hones (W:=W2))
             have HL:=yh (StT.get Kbp hs (heap_alloc_new W2 (.cells cs 48)))
             have HB:=yh hbs
             have HA:=yh ha
             have HR:=yh (And.intro hinv4 (show s.length ≤ r.length by omega))
             clear hs hones hbs ha hinv4
             clear hone HC))
         | ((with_reducible apply Kae);exact HS.out _ rfl;exact rfl;exact rfl;clear HS)
         | ((with_reducible apply Kal);exact HL.out;exact rfl;clear HL)
         | ((with_reducible apply op_bs1);exact HB.out;exact rfl;clear HB)
         | ((with_reducible apply Kcv);exact HA.out;exact rfl;exact rfl))
        go_roundw
        case rel=>exact ⟨m ++ [x],a4,n4,c4,by rw [List.length_append];exact hlt1,by rw [List.length_append];go_num,rfl,yh ⟨kv2,s,HR.out.1,HV.out.2,HR.out.2⟩⟩
        case measure=>simp [intOf];omega
     ·have hme : m.length = n:=by omega
      have g2 : ¬ ((m.length : Int) < (n : Int)):=by omega
      have hdone:=hrep.done hme
      have HD:=yh (HRO.out.trans hdone)
      have HF:=yh (And.intro hinv (show l'.length ≤ l.length by omega))
      clear hinv hrep hdone
      go_wp2
      go_ret
      exact RPost.of_some HD.out HF.out.1 HF.out.2
   ·have HRO:=yh (Kct (d:=d) hr hnr)
    have g1 : ¬ ((n : Int) ≤ (r.length : Int)):=by omega
    clear HO
    go_enter Tryz.func124,Tryz.ntmps124
    go_wp2_with (first
     | (go_at_call 55;refine HN.out.mono ?_;rintro e W1 h1
        (
         obtain ⟨t1,hb1,v1,rfl,rfl,s1⟩:=h1.some
         obtain ⟨p1,c1,hbx,_⟩:=s1.box
         have hcq:=Kab (o:=0) hbx rfl
         have H1:=yh (And.intro t1 hb1)
         clear h1 s1 t1 hb1 hbx))
     | (go_at_call 105;refine (Ka8 _).mono ?_;rintro e W2 ⟨rfl,rfl⟩))
    exact ⟨rfl,RPost.of_none HRO.out ⟨HX.out _ _ _ (HJ.out.keep H0.out H1.out.1.size H1.out.2 (fun b hb hq _=>H1.out.1.keep b hb hq)),H1.out.2⟩⟩
theorem sub_rdB {W : World} {a : Option Addr} {n c : Nat} {l : List UInt8} (h : RdB W (.slice a n c) l) (lo hi : Option Int) (l0 h0 : Nat)
 (hlo : ∀ i,lo = some i → i = (l0 : Int)) (hlo' : lo = none → l0 = 0) (hhi : ∀ i,hi = some i → i = (h0 : Int)) (hhi' : hi = none → h0 = n) (h1 : l0 ≤ h0) (h2 : h0 ≤ n) :
 ∃ a',(∀ W',(Instr.sliceAt 26 (.slice a n c) (lo.map (.int .i64)) (hi.map (.int .i64)) none).run Tryz.prog W' = .ok (.slice a' (h0 - l0) (c - l0)) W') ∧
  RdB W (.slice a' (h0 - l0) (c - l0)) ((l.drop l0).take (h0 - l0)) ∧ (∀ g,(Value.slice a' (h0 - l0) (c - l0)).ownBlock = some g → (Value.slice a n c).ownBlock = some g):=by
 obtain ⟨a1,cap,heq,⟨hn,hm,hz⟩,hcell⟩:=h
 cases heq
 have hlen : ((l.drop l0).take (h0 - l0)).length = h0 - l0:=by rw [List.length_take,List.length_drop];omega
 refine ⟨_,fun W'=>by rw [Kcx Tryz.underlying26];exact run_slice_gen (P:=Tryz.prog) Tryz.underlying26 Tryz.sizeOf5 a _ c lo hi l0 h0 hlo hlo' hhi hhi' h1 (by omega) W',?_,?_⟩
 ·refine ⟨_,_,by rw [hlen],⟨by omega,by omega,fun e=>?_⟩,fun ad had=>?_⟩
  ·split at e
   ·omega
   ·cases a with
    | none=>have:=hz rfl;omega
    | some ad=>cases e
  ·split at had
   ·rename_i hc
    subst had
    obtain ⟨hs,hcl⟩:=hcell ad rfl
    refine ⟨fun hne=>hs fun e=>hne (by rw [e];simp),fun i b hi=>?_⟩
    have : i < h0 - l0:=by
     have:=(List.getElem?_eq_some_iff.1 hi).1;omega
    omega
   ·cases a with
    | none=>cases had
    | some ad0 =>
      obtain ⟨hs,hcl⟩:=hcell ad0 rfl
      by_cases hl0 : l = []
      ·subst hl0
       exact ⟨fun h=>absurd (by simp) h,fun i b hi=>(by simp at hi)⟩
      replace hs:=hs hl0
      obtain ⟨b0,o0,sp0⟩:=ad0
      simp only at hs;subst hs
      simp only [Option.map_some,Ka4,Option.some.injEq] at had
      subst had
      refine ⟨fun _=>rfl,fun i b hi=>?_⟩
      have hi' : l[l0 + i]? = some b:=by
       rw [List.getElem?_take] at hi
       split at hi
       ·rwa [List.getElem?_drop] at hi
       ·cases hi
      have:=hcl (l0 + i) b hi'
      simpa [Nat.add_assoc] using this
 ·intro g hg
  cases a with
  | none=>split at hg <;> cases hg
  | some ad0 =>
    split at hg
    ·exact hg
    ·obtain ⟨b0,o0,sp0⟩:=ad0
     have e : ∀ (A : Addr) k,(A.add k).block = A.block:=fun A k=>by unfold Addr.add;split <;> rfl
     rw [← hg];exact congrArg some (e _ _).symm
theorem bound_u {n y : Nat} (h : n ≤ y) (code : BoundsCode) : Instr.sliceBound (.int .u64 (n : Int)) y code = Instr.sliceBound (.int .i64 (n : Int)) y code:=by
 unfold Instr.sliceBound
 simp [asIntOf,h]
theorem slice_hi (a : Option Addr) (len cap n : Nat) (h : n ≤ cap) (W : World) : (Instr.slice 26 (.slice a len cap) none (some (.int .u64 (n : Int))) none).run Tryz.prog W = (Instr.slice 26 (.slice a len cap) none (some (.int .i64 (n : Int))) none).run Tryz.prog W:=by
 have e:=fun code=>bound_u h code
 have hb : Instr.sliceBounds true len cap none (some (.int .u64 (n : Int))) none = Instr.sliceBounds true len cap none (some (.int .i64 (n : Int))) none:=by simp only [Instr.sliceBounds,pure_bind,e]
 simp only [Instr.slice,Sem.run_bind,run_underlying Tryz.underlying26,Result.andThen_ok,hb]
theorem slice_lo (a : Option Addr) (len cap n : Nat) (h : n ≤ len) (W : World) : (Instr.slice 26 (.slice a len cap) (some (.int .u64 (n : Int))) none none).run Tryz.prog W = (Instr.slice 26 (.slice a len cap) (some (.int .i64 (n : Int))) none none).run Tryz.prog W:=by
 have e:=fun code=>bound_u h code
 have hb : Instr.sliceBounds true len cap (some (.int .u64 (n : Int))) none none = Instr.sliceBounds true len cap (some (.int .i64 (n : Int))) none none:=by simp only [Instr.sliceBounds,pure_bind,e]
 simp only [Instr.slice,Sem.run_bind,run_underlying Tryz.underlying26,Result.andThen_ok,hb]
theorem foldl_push8 (l : List UInt8) : ∀ s : ByteArray,(l.map fun b=>((b.toNat : Int))).foldl (fun r n=>r.push (UInt8.ofNat n.toNat)) s = ⟨s.data ++ l.toArray⟩:=by
 induction l with
 | nil=>intro s;simp
 | cons b l ih =>
   intro s
   simp only [List.map_cons,List.foldl_cons]
   rw [ih]
   congr 1
   simp [ByteArray.push]
theorem bytes_str {w : World} {a : Option Addr} {n c : Nat} {l : List UInt8} (h : RdB w (.slice a n c) l) : (convert 26 9 (.slice a n c)).run Tryz.prog w = .ok (.string (strB l)) w:=by
 rw [run_convert_bytes_string w _ _ 5 _ _ _ Tryz.underlying26 Tryz.underlying5 Tryz.underlying9]
 obtain ⟨a',cap,heq,h1,h2⟩:=h
 cases heq
 cases a with
 | none =>
   have hn : l = []:=List.eq_nil_of_length_eq_zero (by have:=h1.2.2 rfl;omega)
   subst hn
   rfl
 | some ad =>
   have hcell:=RdB.at (w:=w) (c:=c) ⟨_,_,rfl,h1,h2⟩
   have hl:=run_loadCells_list (P:=Tryz.prog) w ad ((l.map fun b=>((b.toNat : Int))).map (Value.int .u8)) (fun j v hv=>by
    simp only [List.map_map,List.getElem?_map,Option.map_eq_some_iff] at hv
    obtain ⟨x,hx,rfl⟩:=hv
    exact hcell j x hx)
   simp only [List.length_map] at hl
   rw [run_bytesToString w ad l.length c _ hl,foldl_push8]
   simp [strB]
theorem rd_cap {W : World} {p : Option Addr} {n c : Nat} {l : List UInt8} (h : RdB W (.slice p n c) l) : n ≤ c:=by
 obtain ⟨a1,cap,heq,⟨hn,hm,hz⟩,_⟩:=h
 cases heq;exact hn
theorem Kez {w W : World} {q : Nat} {l : List UInt8} (h : RSt 141 w W q l) (hl : l.length ≤ 1000000) :
 Calls Tryz.prog 107 #[.pointer (some ⟨q,0,none⟩)] W (Reads w W q (Kba l) fun s v _=>v = .string (strB s)):=by
 have HN:=yh (Ka0 h)
 clear h
 cases hr : rdN 0 0 l with
 | none =>
   rw [hr] at HN
   rw [rdText_none hr]
   go_enter Tryz.func107,Tryz.ntmps107
   go_wp2_with (go_at_call 55;refine HN.out.mono ?_;rintro e W1 h1;obtain ⟨t1,hb1,rfl⟩:=h1.none;have H1:=yh (And.intro t1 hb1);clear h1 t1 hb1)
   exact ⟨rfl,H1.out.1,H1.out.2,rfl⟩
 | some p =>
   obtain ⟨n,r⟩:=p
   rw [hr] at HN
   have hn:=Keh hr
   have hrl : r.length ≤ l.length:=by
    obtain ⟨h1,_⟩:=Kcu.sound _ _ _ hr
    rw [h1,List.length_append];omega
   have z1 : (n : Int) < 18446744073709551616:=by omega
   have z2 : (r.length : Int) ≤ 1000000:=by omega
   by_cases hnr : n ≤ r.length
   ·rw [rdText_of hr hnr]
    have g1 : (n : Int) ≤ (r.length : Int):=by omega
    go_enter Tryz.func107,Tryz.ntmps107
    go_wp2_with (first
     | (go_at_call 55;refine HN.out.mono ?_;rintro e W1 h1
        (
         obtain ⟨t1,hb1,v1,rfl,rfl,s1⟩:=h1.some
         obtain ⟨p1,c1,p2,c2,hbx,hrd,hsl,hst,hto⟩:=s1.rest hnr
         obtain ⟨a3,hs3,hrd3,_⟩:=sub_rdB hrd none (some (n : Int)) 0 n (by simp) (by simp) (by simp) (by simp) (Nat.zero_le _) hnr
         simp only [Nat.sub_zero,List.drop_zero,Option.map_none,Option.map_some] at hs3 hrd3
         have hcq:=Kab (o:=0) hbx rfl
         have hcap:=rd_cap hrd
         have HS1:=yh (fun W'=>(Kcx Tryz.underlying26 _ _ _ _ W').trans ((slice_hi p1 r.length c1 n (by omega) W').trans ((Kcx Tryz.underlying26 _ _ _ _ W').symm.trans (hs3 W'))))
         have HCV:=yh (bytes_str hrd3)
         have HS2:=yh (fun W'=>(Kcx Tryz.underlying26 _ _ _ _ W').trans ((slice_lo p1 r.length c1 n hnr W').trans (hsl W')))
         have HST:=yh (put_bytesR (p:=p2) (n:=r.length - n) (c:=c2) hcq (Kav (o:=0) hbx))
         have H1:=yh (And.intro (t1.trans hto) hst)
         clear h1 s1 t1 hb1 hbx hrd hsl hst hto hs3 hrd3))
     | (go_at_call 105;refine (Kax _).mono ?_;rintro e W2 ⟨rfl,rfl⟩)
     | ((with_reducible apply op_slice);exact HS1.out _;exact rfl;exact rfl;exact rfl;exact rfl)
     | ((with_reducible apply Kcg);exact HCV.out;exact rfl)
     | ((with_reducible apply op_slice);exact HS2.out _;exact rfl;exact rfl;exact rfl;exact rfl)
     | ((with_reducible apply Kae);exact HST.out;exact rfl;exact rfl))
    go_ret
    exact ⟨H1.out.1,H1.out.2.b,_,rfl,rfl,H1.out.2⟩
   ·rw [rdText_short hr hnr]
    have g1 : ¬ ((n : Int) ≤ (r.length : Int)):=by omega
    go_enter Tryz.func107,Tryz.ntmps107
    go_wp2_with (first
     | (go_at_call 55;refine HN.out.mono ?_;rintro e W1 h1
        (
         obtain ⟨t1,hb1,v1,rfl,rfl,s1⟩:=h1.some
         obtain ⟨p1,c1,hbx,_⟩:=s1.box
         have hcq:=Kab (o:=0) hbx rfl
         have H1:=yh (And.intro t1 hb1)
         clear h1 s1 t1 hb1 hbx))
     | (go_at_call 105;refine (Ka8 _).mono ?_;rintro e W2 ⟨rfl,rfl⟩))
    exact ⟨rfl,H1.out.1,H1.out.2,rfl⟩
def okVal (W : World) (v : V) (x : Value) (W' : World) : Prop:=∃ cs,x = .agg cs ∧ VOwn W' (fun b=>W.heap.size ≤ b) v cs
def RVal (w : World) (d : Nat) : Prop:=∀ (W : World) (q : Nat) (l : List UInt8),RSt 141 w W q l → l.length ≤ 1000000 → Calls Tryz.prog 71 #[.pointer (some ⟨q,0,none⟩),.int .i64 (d : Int)] W (Reads w W q (rdVal d l) (okVal W))
theorem Ke9 (W : World) (P : Nat → Prop) (k : Int) (b : Bool) (n : Int) (t : List UInt8) : VOwn W P (.mk k b n t [] []) #[.int .i64 k,.bool b,.int .i64 n,.string (strB t),.slice none 0 0,.slice none 0 0] :=
 Kc0.2 ⟨_,_,rfl,⟨⟨by simp,.inl ⟨rfl,rfl⟩⟩,fun g hg=>by simp [Value.ownBlock] at hg⟩,[],⟨⟨by simp,.inl ⟨rfl,rfl⟩⟩,fun g hg=>by simp [Value.ownBlock] at hg⟩,by rw [VOwns]⟩
theorem ones6 (k : Int) (b : Bool) (n : Int) (t : ByteArray) {vk vl : Value} (h1 : vk.oneCell' = true) (h2 : vl.oneCell' = true) : ∀ u ∈ (#[.int .i64 k,.bool b,.int .i64 n,.string t,vk,vl] : Array Value).toList,u.oneCell' = true:=by
 intro u hu
 simp only [List.mem_cons,List.not_mem_nil,or_false] at hu
 rcases hu with rfl | rfl | rfl | rfl | rfl | rfl <;> first | rfl | assumption
theorem rinner_any {w W0 W : World} {d B : Nat} {cs : Array Value} {q : Nat} {l : List UInt8} (hv : RVal w d) (hd : d ≤ 64) (hs : VS W0 q ((d : Int) + 1) B cs W) (h : RSt 141 w W q l) (hl : l.length ≤ 1000000) :
 Calls Tryz.prog 122 #[.pointer (some ⟨W0.heap.size,0,none⟩),.pointer (some ⟨W0.heap.size + 1,0,none⟩)] W (Reads w W q (rdVal d l) (okVal W)):=by
 have zd : (d : Int) ≤ 64:=by omega
 have hb:=Kac (w:=W) (.cells zeroC 48)
 have hq:=h.lt
 have hbase:=h.base
 have c2:=Kak hb (ltOf (Kab (o:=0) hs.p2 rfl)) (Kab (o:=0) hs.p2 rfl)
 have c3:=Kak hb (ltOf (Kab (o:=0) hs.p3 rfl)) (Kab (o:=0) hs.p3 rfl)
 have hbx : (W.alloc (.cells zeroC 48)).heap[W.heap.size]? = some (.cells zeroC 48 (0,0)):=heap_alloc_new W _
 have HC:=yh (hv (W.alloc (.cells zeroC 48)) q l (h.below hb) hl)
 have HB:=yh (And.intro hb (And.intro hbx (And.intro hq hbase)))
 clear hb hbx hs h hv
 unfold zeroC at *
 cases hr : rdVal d l with
 | none =>
   rw [hr] at HC
   go_enter Tryz.func122,Tryz.ntmps122
   go_wp2_with (go_at_call 71;refine HC.out.mono ?_;rintro e W5 h5;obtain ⟨t5,hb5,rfl⟩:=h5.none;have H5:=yh (And.intro t5 hb5);clear h5 t5 hb5)
   exact ⟨rfl,(RTo.of_below HB.out.1).trans H5.out.1,H5.out.2,rfl⟩
 | some p =>
   obtain ⟨v,s⟩:=p
   rw [hr] at HC
   go_enter Tryz.func122,Tryz.ntmps122
   go_wp2_with (first
    | (go_at_call 71;refine HC.out.mono ?_;rintro e W5 h5
       (
        obtain ⟨t5,hb5,x,rfl,⟨cs,rfl,hown⟩,hst⟩:=h5.some
        obtain ⟨hb,hbx,hq,hbase⟩:=HB.out
        have hsz:=hb.size
        have hlt : W.heap.size < (W.alloc (.cells #[.int .i64 0,.bool false,.int .i64 0,.string ⟨#[]⟩,.slice none 0 0,.slice none 0 0] 48)).heap.size:=by simp
        have hbx5:=(t5.keep W.heap.size hlt (by omega)).trans hbx
        have h6:=hown.size6
        have h61:=hown.ones
        have HST:=yh (StT.put Kbp h6 h61 hbx5 rfl)
        have HLD:=yh (StT.get Kbp h6 (setRow_heap W5 W.heap.size _ cs _ _ hbx5))
        have ho : ∀ b,b ≠ W.heap.size → (W5.setRow W.heap.size cs).heap[b]? = W5.heap[b]?:=fun b hb=>setRow_other W5 _ b cs hb
        have hsz6 : (W5.setRow W.heap.size cs).heap.size = W5.heap.size:=by simp
        have hB6 : Below w.heap.size w (W5.setRow W.heap.size cs):=by
         have hgs:=hb5.size
         obtain ⟨b1,b2,b3,b4,b5⟩:=hb5
         exact ⟨b1,b2,b3,by rw [hsz6];exact hgs,fun b hb=>(ho b (by omega)).trans (b5 b hb)⟩
        have HF:=yh (And.intro (hst.other hB6 (ho q (by omega))) (And.intro (show RTo q W (W5.setRow W.heap.size cs) from ⟨by rw [hsz6];have:=t5.size;omega,fun b hb2 hqb=>(ho b (by omega)).trans ((t5.keep b (by omega) hqb).trans (hb.block b hb2))⟩)
         ((hown.keep (w':=W5.setRow W.heap.size cs) fun b hb2 _=>ho b (by omega)).imp (P':=fun b=>W.heap.size ≤ b) fun b _ hb2=>by omega)))
        clear h5 t5 hb5 hown hst hb hbx hq hbase hsz hlt hbx5 h6 h61 ho hsz6 hB6 HB HC))
    | ((with_reducible apply Kae);exact HST.out;exact rfl;exact rfl))
   refine bodyPost_ret (Kan rfl _ _ ⟨W.heap.size,0,none⟩ _ rfl HLD.out) rfl ?_
   exact ⟨HF.out.2.1,HF.out.1.b,_,rfl,⟨cs,rfl,HF.out.2.2⟩,HF.out.1⟩
def MapR (W0 W3 : World) (q d B : Nat) (m : List (List UInt8 × V)) (W' : World) (kv : Value) : Prop :=
 VS W0 q ((d : Int) + 1) B #[.int .i64 5,.bool false,.int .i64 0,.string ⟨#[]⟩,kv,.slice none 0 0] W' ∧ OwnsP W' (fun b=>W3.heap.size ≤ b) 9 1 kv m.length (m.map fun p=>strV p.1)
theorem MapR.keepJ {w W0 W3 : World} {q d B : Nat} (h : B + 1 < W3.heap.size) (hlo : W0.heap.size + 3 ≤ B) : KeepJ w W3 q (MapR W0 W3 q d B):=by
 refine ⟨?_,?_⟩
 ·rintro m W1 W2 kv ⟨h1,h2⟩ hsz hb hk
  refine ⟨h1.keep hsz fun b hb hq=>hk b (by have:=h1.lt;omega) hq (.inl (by omega)),?_⟩
  refine ⟨Kci h2.1 fun g hg=>?_,h2.2⟩
  have hlt:=(h2.1.lt g hg).2
  have hge:=h2.2 g hg
  exact hk g hlt (by have:=h1.ql;omega) (.inr hg)
 ·rintro m W1 kv ⟨h1,h2⟩ b hb
  exact (h2.1.lt b hb).2
theorem MapR.app {w W0 W3 W2 : World} {q d B : Nat} {m : List (List UInt8 × V)} {kv : Value} {l : List UInt8} (h : MapR W0 W3 q d B m W2 kv) (hB : B + 1 < W3.heap.size) (hst : RSt 141 w W2 q l) (s : List UInt8) (hm : m.length ≤ 1000000) (hs32 : W3.heap.size ≤ W2.heap.size) :
 ∃ pk n ck W4,(Builtin.append_ #[45,45] 45 #[kv,.slice (some ⟨W2.heap.size,0,none⟩) 1 1]).run Tryz.prog (W2.alloc (.cells #[.string (strB s)] 9)) = .ok (.slice pk n ck) W4 ∧
  (storeVar 45 ⟨B,4,none⟩ (.slice pk n ck)).run Tryz.prog W4 = .ok () (W4.setCell ⟨B,4,none⟩ (.slice pk n ck)) ∧
  VS W0 q ((d : Int) + 1) B #[.int .i64 5,.bool false,.int .i64 0,.string ⟨#[]⟩,.slice pk n ck,.slice none 0 0] (W4.setCell ⟨B,4,none⟩ (.slice pk n ck)) ∧
  OwnsP (W4.setCell ⟨B,4,none⟩ (.slice pk n ck)) (fun b=>W3.heap.size ≤ b) 9 1 (.slice pk n ck) (m.length + 1) ((m.map fun p=>strV p.1) ++ [strV s]) ∧
  RSt 141 w (W4.setCell ⟨B,4,none⟩ (.slice pk n ck)) q l ∧ (∀ b,b < W2.heap.size → b ≠ B → kv.ownBlock ≠ some b → (W4.setCell ⟨B,4,none⟩ (.slice pk n ck)).heap[b]? = W2.heap[b]?) ∧
  ((Value.slice pk n ck).ownBlock = kv.ownBlock ∨ (Value.slice pk n ck).ownBlock = some (W2.heap.size + 1)) ∧ W2.heap.size + 1 ≤ (W4.setCell ⟨B,4,none⟩ (.slice pk n ck)).heap.size:=by
 obtain ⟨hv,ho⟩:=h
 have hlo:=hv.lo
 have hql:=hv.ql
 have hbase:=hst.base
 have hlt2:=hv.lt
 have hblk:=fun g hg=>ho.2 g hg
 have hb:=Kac (w:=W2) (.cells #[.string (strB s)] 9)
 have ho1 : (W2.alloc (.cells #[.string (strB s)] 9)).ownsRow 0 9 1 kv m.length (m.map fun p=>strV p.1):=(ho.keep (w':=W2.alloc (.cells #[.string (strB s)] 9)) fun b _ hl=>hb.block b hl).1
 obtain ⟨v',W4,a1,a2,a3,a4,a5⟩:=gt_str.app ho1 (g:=W2.heap.size) (x:=#[.string (strB s)]) rfl (fun u hu=>by simp only [List.mem_cons,List.not_mem_nil,or_false] at hu;subst hu;rfl) (heap_alloc_new W2 _) hm 45
 have hs1 : (W2.alloc (.cells #[.string (strB s)] 9)).heap.size = W2.heap.size + 1:=by simp
 have hnB : kv.ownBlock ≠ some B:=fun e=>by have:=hblk B e;omega
 have hk4 : ∀ b,b < W2.heap.size → kv.ownBlock ≠ some b → W4.heap[b]? = W2.heap[b]?:=fun b hl hn=>(a3.block b (by omega) hn).trans (hb.block b hl)
 have hv4 : VS W0 q ((d : Int) + 1) B #[.int .i64 5,.bool false,.int .i64 0,.string ⟨#[]⟩,kv,.slice none 0 0] W4:=hv.keep (by omega) fun b hb1 hq=>hk4 b (by have:=hv.tr.size;omega) fun e=>by have:=hblk b e;omega
 have hB4 : Below w.heap.size w W4:=a3.below (Kaa hst.b hb) (fun b hl e=>by have:=hblk b e;omega) (by have:=hst.b.size;omega)
 have hst4 : RSt 141 w W4 q l:=hst.other hB4 (hk4 q hst.lt fun e=>by have:=hblk q e;omega)
 have how : OwnsP W4 (fun b=>W3.heap.size ≤ b) 9 1 v' (m.length + 1) ((m.map fun p=>strV p.1) ++ [strV s]):=⟨by simpa [strV] using a2,fun g hg=>by
  rcases a4 with e | e
  ·exact hblk g (e.symm.trans hg)
  ·rw [e] at hg;cases hg;omega⟩
 obtain ⟨pk,n,ck,rfl⟩ : ∃ pk n ck,v' = .slice pk n ck:=by
  rcases how.1.2 with ⟨h,_⟩ | ⟨g,cap,cur,h,_⟩ <;> exact ⟨_,_,_,h⟩
 have hnew : (Value.slice pk n ck).ownBlock ≠ some B:=fun e=>by have:=how.2 B e;omega
 have hsc : ∀ b,b ≠ B → (W4.setCell ⟨B,4,none⟩ (.slice pk n ck)).heap[b]? = W4.heap[b]?:=fun b hb=>Below.heap_setCell _ _ _ _ hb
 refine ⟨pk,n,ck,W4,a1,put_strs (Kab (o:=4) hv4.p5 rfl) (Kav (o:=4) hv4.p5),by simpa using hv4.set 4 (.slice pk n ck),⟨Kci how.1 fun g hg=>hsc g fun e=>hnew (e ▸ hg),how.2⟩,hv4.setR hst4 4 _,fun b hl hne hn=>(hsc b hne).trans (hk4 b hl hn),?_,?_⟩
 ·rcases a4 with e | e
  ·exact .inl e
  ·exact .inr (by rw [e,hs1])
 ·simp only [World.setCell,Array.size_modify] at *
  omega
theorem rkv_any {w W0 W3 W1 : World} {q d B : Nat} {m : List (List UInt8 × V)} {kv : Value} {l : List UInt8} (hv : RVal w d) (hd : d ≤ 64) (hB : B + 1 < W3.heap.size) (hj : MapR W0 W3 q d B m W1 kv) (hsz : W3.heap.size ≤ W1.heap.size) (h : RSt 141 w W1 q l) (hl : l.length ≤ 1000000) (hm : m.length ≤ 1000000) :
 Calls Tryz.prog 125 #[.pointer (some ⟨W0.heap.size,0,none⟩),.pointer (some ⟨B,0,none⟩),.pointer (some ⟨B + 1,0,none⟩)] W1 fun e W2=>match (Dec.seq Kba (rdVal d)) l with
  | some (x,s)=>∃ cs kv',e = .returned (.agg cs) ∧ ROne 141 (fun w P (p : List UInt8 × V) x=>VOwn w P p.2 x) w W3 q (MapR W0 W3 q d B) m W1 kv x s cs kv' W2 ∧ s.length ≤ l.length
  | none=>e = given ∧ RTo q W0 W2 ∧ Below w.heap.size w W2:=by
 have zd : (d : Int) ≤ 64:=by omega
 have hql:=hj.1.ql
 have hlo:=hj.1.lo
 have htr:=hj.1.tr
 have hb:=Kac (w:=W1) (.cells zeroC 48)
 have hja:=(MapR.keepJ (w:=w) hB hlo).keep hj hb.size (Kaa h.b hb) (fun b hb1 _ _=>hb.block b hb1)
 have hsa:=h.below hb
 have hbx : (W1.alloc (.cells zeroC 48)).heap[W1.heap.size]? = some (.cells zeroC 48 (0,0)):=heap_alloc_new W1 _
 have c2:=Kab (o:=0) hja.1.p2 rfl
 have HT:=yh (Kez hsa hl)
 have HB:=yh (And.intro hb (And.intro hbx (And.intro hja hsa)))
 clear hb hbx hja hsa
 unfold zeroC at *
 cases hr : Kba l with
 | none =>
   rw [hr] at HT
   have hdec : (Dec.seq Kba (rdVal d)) l = none:=by unfold Dec.seq;rw [hr]
   rw [hdec]
   go_enter Tryz.func125,Tryz.ntmps125
   go_wp2_with (go_at_call 107;refine HT.out.mono ?_;rintro e W5 h5;obtain ⟨t5,hb5,rfl⟩:=h5.none;have H5:=yh (And.intro t5 hb5);clear h5 t5 hb5)
   exact ⟨rfl,rfl,(htr.trans (RTo.of_below HB.out.1)).trans H5.out.1,H5.out.2⟩
 | some p =>
   obtain ⟨s0,r⟩:=p
   rw [hr] at HT
   have hrl : r.length ≤ l.length:=by
    obtain ⟨e1,_⟩:=Ke8.sound _ _ _ hr
    rw [e1,List.length_append];omega
   have HV:=yh hv
   have HJ1:=yh hj
   obtain ⟨pk0,n0,ck0,hkv⟩ : ∃ pk n ck,kv = .slice pk n ck:=by
    rcases hj.2.1.2 with ⟨h,_⟩ | ⟨g,cap,cur,h,_⟩ <;> exact ⟨_,_,_,h⟩
   subst hkv
   cases hr2 : rdVal d r with
   | none =>
     have hdec : (Dec.seq Kba (rdVal d)) l = none:=by unfold Dec.seq;rw [hr];simp only;rw [hr2]
     rw [hdec]
     clear hv hj h
     go_enter Tryz.func125,Tryz.ntmps125
     go_wp2_with (first
      | (go_at_call 107;refine HT.out.mono ?_;rintro e W5 h5
         (
          obtain ⟨t5,hb5,x5,rfl,rfl,hst⟩:=h5.some
          obtain ⟨hb,hbx,hja,hsa⟩:=HB.out
          have hj5:=(MapR.keepJ (w:=w) hB hlo).keep hja t5.size hb5 (fun b hb1 hq1 _=>t5.keep b hb1 hq1)
          obtain ⟨pk1,n1,ck1,W4,happ,hst1,hv6,how6,hst6,hk6,hown6,hsz6⟩:=hj5.app hB hst s0 hm (by have:=t5.size;have:=hb.size;omega)
          have HK:=yh (Kag (P:=Tryz.prog) (w:=W5) Tryz.underlying45 rfl (Kab (o:=4) hj5.1.p5 rfl))
          have HBS:=yh (Kap (P:=Tryz.prog) (w:=W5) (v:=.string (strB s0)) Tryz.underlying45 Tryz.sizeOf9 Tryz.zeroValue9 rfl (by omega) (by omega))
          have HA:=yh happ
          have HS1:=yh hst1
          have HIN:=yh (Kag (P:=Tryz.prog) (w:=W4.setCell ⟨B,4,none⟩ (.slice pk1 n1 ck1)) Tryz.underlying170 rfl (Kab (o:=0) hv6.p6 rfl))
          have HC:=yh (rinner_any HV.out hd hv6 hst6 (by omega))
          rw [hr2] at HC
          have HF:=yh (And.intro hv6.tr hst6)
          clear h5 t5 hb5 hst hj5 happ hst1 hv6 how6 hst6 hk6 hown6 hsz6))
      | ((with_reducible apply Kal);exact HK.out;exact rfl;clear HK)
      | ((with_reducible apply op_bs1);exact HBS.out;exact rfl;clear HBS)
      | ((with_reducible apply Kcv);exact HA.out;exact rfl;exact rfl)
      | ((with_reducible apply Kae);exact HS1.out;exact rfl;exact rfl;clear HS1)
      | ((with_reducible apply Kal);exact HIN.out;exact rfl;clear HIN)
      | (go_at_call 122;refine HC.out.mono ?_;rintro e W7 h7;obtain ⟨t7,hb7,rfl⟩:=h7.none;have H7:=yh (And.intro t7 hb7);clear h7 t7 hb7))
     exact ⟨rfl,rfl,HF.out.1.trans H7.out.1,H7.out.2⟩
   | some p2 =>
     obtain ⟨v,s⟩:=p2
     have hdec : (Dec.seq Kba (rdVal d)) l = some ((s0,v),s):=by unfold Dec.seq;rw [hr];simp only;rw [hr2]
     have hsr : s.length ≤ l.length:=by
      obtain ⟨e1,_⟩:=(rt_val d).sound _ _ _ hr2
      have:=congrArg List.length e1
      rw [List.length_append] at this
      omega
     rw [hdec]
     clear hv hj h
     go_enter Tryz.func125,Tryz.ntmps125
     go_wp2_with (first
      | (go_at_call 107;refine HT.out.mono ?_;rintro e W5 h5
         (
          obtain ⟨t5,hb5,x5,rfl,rfl,hst⟩:=h5.some
          obtain ⟨hb,hbx,hja,hsa⟩:=HB.out
          have hj5:=(MapR.keepJ (w:=w) hB hlo).keep hja t5.size hb5 (fun b hb1 hq1 _=>t5.keep b hb1 hq1)
          obtain ⟨pk1,n1,ck1,W4,happ,hst1,hv6,how6,hst6,hk6,hown6,hsz6⟩:=hj5.app hB hst s0 hm (by have:=t5.size;have:=hb.size;omega)
          have HK:=yh (Kag (P:=Tryz.prog) (w:=W5) Tryz.underlying45 rfl (Kab (o:=4) hj5.1.p5 rfl))
          have HBS:=yh (Kap (P:=Tryz.prog) (w:=W5) (v:=.string (strB s0)) Tryz.underlying45 Tryz.sizeOf9 Tryz.zeroValue9 rfl (by omega) (by omega))
          have HA:=yh happ
          have HS1:=yh hst1
          have HIN:=yh (Kag (P:=Tryz.prog) (w:=W4.setCell ⟨B,4,none⟩ (.slice pk1 n1 ck1)) Tryz.underlying170 rfl (Kab (o:=0) hv6.p6 rfl))
          have HC:=yh (rinner_any HV.out hd hv6 hst6 (by omega))
          rw [hr2] at HC
          have hkall : ∀ b,b < W1.heap.size → b ≠ q → W3.heap.size ≤ b → (Value.slice pk0 n0 ck0).ownBlock ≠ some b → (W4.setCell ⟨B,4,none⟩ (.slice pk1 n1 ck1)).heap[b]? = W1.heap[b]?:=fun b hb1 hq1 hge hno =>
           (hk6 b (by have:=t5.size;have:=HB.out.1.size;omega) (by omega) hno).trans ((t5.keep b (by have:=HB.out.1.size;omega) hq1).trans (HB.out.1.block b hb1))
          have hkb : (W4.setCell ⟨B,4,none⟩ (.slice pk1 n1 ck1)).heap[W1.heap.size]? = some (.cells #[.int .i64 0,.bool false,.int .i64 0,.string ⟨#[]⟩,.slice none 0 0,.slice none 0 0] 48 (0,0)):=by
           have hlt : W1.heap.size < (W1.alloc (.cells #[.int .i64 0,.bool false,.int .i64 0,.string ⟨#[]⟩,.slice none 0 0,.slice none 0 0] 48)).heap.size:=by simp
           refine (hk6 _ (by have:=t5.size;omega) (by omega) fun e=>?_).trans ((t5.keep _ hlt (by have:=HJ1.out.1.tr.size;omega)).trans HB.out.2.1)
           have:=(HJ1.out.2.1.lt _ e).2
           omega
          have hgo : W1.heap.size < (W4.setCell ⟨B,4,none⟩ (.slice pk1 n1 ck1)).heap.size:=by have:=t5.size;have : W1.heap.size < (W1.alloc (.cells #[.int .i64 0,.bool false,.int .i64 0,.string ⟨#[]⟩,.slice none 0 0,.slice none 0 0] 48)).heap.size:=(by simp);omega
          have hown7 : (Value.slice pk1 n1 ck1).ownBlock = (Value.slice pk0 n0 ck0).ownBlock ∨ ∀ b,(Value.slice pk1 n1 ck1).ownBlock = some b → W1.heap.size < b:=by
           rcases hown6 with e | e
           ·exact .inl e
           ·refine .inr fun b hb=>?_
            rw [e] at hb;cases hb
            have:=t5.size
            have : W1.heap.size < (W1.alloc (.cells #[.int .i64 0,.bool false,.int .i64 0,.string ⟨#[]⟩,.slice none 0 0,.slice none 0 0] 48)).heap.size:=(by simp)
            omega
          have HF:=yh (And.intro hv6 (And.intro how6 (And.intro hst6 (And.intro hkall (And.intro hkb (And.intro hgo hown7))))))
          clear h5 t5 hb5 hst hj5 happ hst1 hv6 how6 hst6 hk6 hown6 hsz6 hkall hkb hgo hown7))
      | ((with_reducible apply Kal);exact HK.out;exact rfl;clear HK)
      | ((with_reducible apply op_bs1);exact HBS.out;exact rfl;clear HBS)
      | ((with_reducible apply Kcv);exact HA.out;exact rfl;exact rfl)
      | ((with_reducible apply Kae);exact HS1.out;exact rfl;exact rfl;clear HS1)
      | ((with_reducible apply Kal);exact HIN.out;exact rfl;clear HIN)
      | (go_at_call 122;refine HC.out.mono ?_;rintro e W7 h7
         (
          obtain ⟨t7,hb7,x7,rfl,⟨cs,rfl,hown⟩,hst7⟩:=h7.some
          obtain ⟨hv6,how6,hst6,hkall,hkb,hgo,hown7⟩:=HF.out
          have hqW : W1.heap.size ≠ q:=by have:=HJ1.out.1.tr.size;omega
          have hkb7:=(t7.keep _ hgo hqW).trans hkb
          have HST:=yh (StT.put Kbp hown.size6 hown.ones hkb7 rfl)
          have HLD:=yh (StT.get Kbp hown.size6 (setRow_heap W7 W1.heap.size _ cs _ _ hkb7))
          have ho : ∀ b,b ≠ W1.heap.size → (W7.setRow W1.heap.size cs).heap[b]? = W7.heap[b]?:=fun b hb=>setRow_other W7 _ b cs hb
          have hs8 : (W7.setRow W1.heap.size cs).heap.size = W7.heap.size:=by simp
          have hB8 : Below w.heap.size w (W7.setRow W1.heap.size cs):=by
           have hgs:=hb7.size
           have h0:=hst6.base
           have h1:=HJ1.out.1.tr.size
           obtain ⟨b1,b2,b3,b4,b5⟩:=hb7
           exact ⟨b1,b2,b3,by rw [hs8];exact hgs,fun b hb=>(ho b (by omega)).trans (b5 b hb)⟩
          have hnotB : (Value.slice pk1 n1 ck1).ownBlock ≠ some W1.heap.size:=fun e=>by
           rcases hown7 with e7 | e7
           ·have:=(HJ1.out.2.1.lt _ (e7.symm.trans e)).2;omega
           ·have:=e7 _ e;omega
          have hv8 : VS W0 q ((d : Int) + 1) B #[.int .i64 5,.bool false,.int .i64 0,.string ⟨#[]⟩,.slice pk1 n1 ck1,.slice none 0 0] (W7.setRow W1.heap.size cs) :=
           (hv6.step t7).keep (by rw [hs8];exact Nat.le_refl _) fun b hb1 hq1=>ho b (by have:=HJ1.out.1.tr.size;have:=HJ1.out.1.lt;omega)
          have how8 : OwnsP (W7.setRow W1.heap.size cs) (fun b=>W3.heap.size ≤ b) 9 1 (.slice pk1 n1 ck1) (m.length + 1) ((m.map fun p=>strV p.1) ++ [strV s0]) :=
           ⟨Kci how6.1 fun g hg=>(ho g fun e=>hnotB (e ▸ hg)).trans (t7.keep g (how6.1.lt g hg).2 (by have:=how6.2 g hg;omega)),how6.2⟩
          have hone : ROne 141 (fun w P (p : List UInt8 × V) x=>VOwn w P p.2 x) w W3 q (MapR W0 W3 q d B) m W1 (.slice pk0 n0 ck0) (s0,v) s cs (.slice pk1 n1 ck1) (W7.setRow W1.heap.size cs):=by
           refine ⟨by rw [hs8];have:=t7.size;omega,fun b hb1 hq1 hge hno=>(ho b (by omega)).trans ((t7.keep b (by omega) hq1).trans (hkall b hb1 hq1 hge hno)),?_,hst7.other hB8 (ho q (by omega)),⟨hv8,by rw [List.length_append,List.map_append];exact how8⟩,?_⟩
           ·exact (hown.keep (w':=W7.setRow W1.heap.size cs) fun b hb1 _=>ho b (by omega)).imp fun b _ hb1=>⟨by omega,fun e=>by have:=(how6.1.lt b e).2;omega⟩
           ·rcases hown7 with e7 | e7
            ·exact .inl e7
            ·exact .inr fun b hb=>by have:=e7 b hb;omega
          have HR:=yh hone
          clear h7 t7 hb7 hown hst7 hv6 how6 hst6 hkall hkb hgo hown7 hqW hkb7 ho hs8 hB8 hnotB hv8 how8 hone HC HF))
      | ((with_reducible apply Kae);exact HST.out;exact rfl;exact rfl))
     refine bodyPost_ret (Kan rfl _ _ ⟨W1.heap.size,0,none⟩ _ rfl HLD.out) rfl ?_
     exact ⟨cs,_,rfl,HR.out,hsr⟩
theorem Reads.of {α : Type} {w W W' : World} {q : Nat} {r r' : Option (α × List UInt8)} {ok : α → Value → World → Prop} {e : Ending} (h : r = r') (g : Reads w W q r' ok e W') : Reads w W q r ok e W':=by rw [h];exact g
theorem Kb7 {w W W1 : World} {q : Nat} {d : Int} {r : List UInt8} (hq : q < W.heap.size) (t1 : RTo q (((W.alloc (.cells #[.pointer (some ⟨q,0,none⟩)] 95)).alloc (.cells #[.int .i64 d] 3)).alloc (.cells #[.int .i64 0,.bool false,.int .i64 0,.string ⟨#[]⟩,.slice none 0 0,.slice none 0 0] 48)) W1)
 (s1 : RSt 141 w W1 q r) (cs0 : Array Value) :
 (storeVar 170 ⟨W1.heap.size + 1,0,none⟩ (innerV W.heap.size)).run Tryz.prog ((W1.alloc (.cells cs0 48)).alloc (.cells #[.nilFunc] 170)) = .ok () (((W1.alloc (.cells cs0 48)).alloc (.cells #[.nilFunc] 170)).setRow (W1.heap.size + 1) #[innerV W.heap.size]) ∧
 VS W q d W1.heap.size cs0 (((W1.alloc (.cells cs0 48)).alloc (.cells #[.nilFunc] 170)).setRow (W1.heap.size + 1) #[innerV W.heap.size]) ∧
 RSt 141 w (((W1.alloc (.cells cs0 48)).alloc (.cells #[.nilFunc] 170)).setRow (W1.heap.size + 1) #[innerV W.heap.size]) q r:=by
 have hsc : (((W.alloc (.cells #[.pointer (some ⟨q,0,none⟩)] 95)).alloc (.cells #[.int .i64 d] 3)).alloc (.cells #[.int .i64 0,.bool false,.int .i64 0,.string ⟨#[]⟩,.slice none 0 0,.slice none 0 0] 48)).heap.size = W.heap.size + 3:=by simp
 have p2 : (((W.alloc (.cells #[.pointer (some ⟨q,0,none⟩)] 95)).alloc (.cells #[.int .i64 d] 3)).alloc (.cells #[.int .i64 0,.bool false,.int .i64 0,.string ⟨#[]⟩,.slice none 0 0,.slice none 0 0] 48)).heap[W.heap.size]? = some (.cells #[.pointer (some ⟨q,0,none⟩)] 95 (0,0)):=by
  simp only [Kam,World.size_alloc];rw [if_neg (by omega),if_neg (by omega),if_pos trivial]
 have p3 : (((W.alloc (.cells #[.pointer (some ⟨q,0,none⟩)] 95)).alloc (.cells #[.int .i64 d] 3)).alloc (.cells #[.int .i64 0,.bool false,.int .i64 0,.string ⟨#[]⟩,.slice none 0 0,.slice none 0 0] 48)).heap[W.heap.size + 1]? = some (.cells #[.int .i64 d] 3 (0,0)):=by
  simp only [Kam,World.size_alloc];rw [if_neg (by omega),if_pos trivial]
 have p4 : (((W.alloc (.cells #[.pointer (some ⟨q,0,none⟩)] 95)).alloc (.cells #[.int .i64 d] 3)).alloc (.cells #[.int .i64 0,.bool false,.int .i64 0,.string ⟨#[]⟩,.slice none 0 0,.slice none 0 0] 48)).heap[W.heap.size + 2]? = some (.cells zeroC 48 (0,0)):=by
  have e : W.heap.size + 2 = W.heap.size + 1 + 1:=rfl
  rw [e];simp only [Kam,World.size_alloc];rw [if_pos trivial]
 have hb0 : Below W.heap.size W (((W.alloc (.cells #[.pointer (some ⟨q,0,none⟩)] 95)).alloc (.cells #[.int .i64 d] 3)).alloc (.cells #[.int .i64 0,.bool false,.int .i64 0,.string ⟨#[]⟩,.slice none 0 0,.slice none 0 0] 48)):=((Kac _).alloc (by simp) _).alloc (by simp;omega) _
 generalize ((W.alloc (.cells #[.pointer (some ⟨q,0,none⟩)] 95)).alloc (.cells #[.int .i64 d] 3)).alloc (.cells #[.int .i64 0,.bool false,.int .i64 0,.string ⟨#[]⟩,.slice none 0 0,.slice none 0 0] 48) = Wc at *
 have hs1:=t1.size
 have hb : Below W1.heap.size W1 ((W1.alloc (.cells cs0 48)).alloc (.cells #[.nilFunc] 170)):=(Kac _).alloc (by simp) _
 have hk5 : ((W1.alloc (.cells cs0 48)).alloc (.cells #[.nilFunc] 170)).heap[W1.heap.size]? = some (.cells cs0 48 (0,0)):=by
  simp only [Kam,World.size_alloc];rw [if_neg (by omega),if_pos trivial]
 have hk6 : ((W1.alloc (.cells cs0 48)).alloc (.cells #[.nilFunc] 170)).heap[W1.heap.size + 1]? = some (.cells #[.nilFunc] 170 (0,0)):=by
  simp only [Kam,World.size_alloc];rw [if_pos trivial]
 have hb3:=s1.b.size
 have hbase:=s1.base
 have hbk : Below w.heap.size w ((W1.alloc (.cells cs0 48)).alloc (.cells #[.nilFunc] 170)):=Kaa s1.b hb
 generalize (W1.alloc (.cells cs0 48)).alloc (.cells #[.nilFunc] 170) = Wk at *
 have ho : ∀ b,b ≠ W1.heap.size + 1 → (Wk.setRow (W1.heap.size + 1) #[innerV W.heap.size]).heap[b]? = Wk.heap[b]?:=fun b hb=>setRow_other Wk _ b _ hb
 have hwk:=hb.size
 refine ⟨?_,⟨?_,?_,?_,?_,?_,by omega,hq,⟨?_,fun b hb1 hq1=>?_⟩⟩,?_⟩
 ·exact run_storeVar_row (P:=Tryz.prog) Wk (W1.heap.size + 1) 170 170 _ #[innerV W.heap.size] hk6 (by kernel_rfl) rfl (by simp [Value.oneCell'])
 ·exact (ho _ (by omega)).trans ((hb.block _ (by omega)).trans ((t1.keep _ (by omega) (by omega)).trans p2))
 ·exact (ho _ (by omega)).trans ((hb.block _ (by omega)).trans ((t1.keep _ (by omega) (by omega)).trans p3))
 ·exact (ho _ (by omega)).trans ((hb.block _ (by omega)).trans ((t1.keep _ (by omega) (by omega)).trans p4))
 ·exact (ho _ (by omega)).trans hk5
 ·exact setRow_heap Wk _ _ _ _ _ hk6
 ·have hsz : (Wk.setRow (W1.heap.size + 1) #[innerV W.heap.size]).heap.size = Wk.heap.size:=by simp
  omega
 ·exact (ho _ (by omega)).trans ((hb.block _ (by omega)).trans ((t1.keep _ (by omega) hq1).trans (hb0.block b hb1)))
 ·have hsz : (Wk.setRow (W1.heap.size + 1) #[innerV W.heap.size]).heap.size = Wk.heap.size:=by simp
  have hbk2 : Below w.heap.size w (Wk.setRow (W1.heap.size + 1) #[innerV W.heap.size]):=by
   have hgs:=hbk.size
   obtain ⟨b1,b2,b3,b4,b5⟩:=hbk
   exact ⟨b1,b2,b3,by rw [hsz];exact hgs,fun b hb=>(ho b (by omega)).trans (b5 b hb)⟩
  exact s1.other hbk2 ((ho _ (by omega)).trans (hb.block _ s1.lt))
theorem rdSigned_none {r : List UInt8} (h : rdN 0 0 r = none) : Kbt r = none:=by unfold Kbt Dec.map;rw [h];rfl
theorem rdSigned_some {r s : List UInt8} {n : Nat} (h : rdN 0 0 r = some (n,s)) : Kbt r = some (unzz n,s):=by unfold Kbt Dec.map;rw [h];rfl
theorem conv_i64 {n : Nat} (h : n < 18446744073709551616) (W : World) : (convert 79 2 (.int .u64 (n : Int))).run Tryz.prog W = .ok (.int .i64 (toI n)) W:=by
 have e : IntKind.i64.wrap (n : Int) = toI n:=by
  rw [IntKind.wrap_i64]
  unfold toI
  split <;> omega
 rw [← e]
 simp [convert,go_sem]
theorem rvalue_zero (w : World) : RVal w 0:=by
 intro W q l h hl
 have hb : Below W.heap.size W (((W.alloc (.cells #[.pointer (some ⟨q,0,none⟩)] 95)).alloc (.cells #[.int .i64 0] 3)).alloc (.cells #[.int .i64 0,.bool false,.int .i64 0,.string ⟨#[]⟩,.slice none 0 0,.slice none 0 0] 48)):=((Kac _).alloc (by simp) _).alloc (by simp;omega) _
 have HB:=yh (And.intro hb (Kaa h.b hb))
 have hz : rdVal 0 l = none:=by rw [rdVal]
 have HZ:=yh hz
 clear hb h hz
 go_enter Tryz.func71,Tryz.ntmps71
 go_wp2_with (go_at_call 105;refine (Ka8 _).mono ?_;rintro e W2 ⟨rfl,rfl⟩)
 exact ⟨rfl,Reads.of HZ.out ⟨RTo.of_below HB.out.1,HB.out.2,rfl⟩⟩
theorem rvalue_nul {w : World} {d : Nat} (hv : RVal w d) (hd : d + 1 ≤ 64) {W : World} {q : Nat} {l : List UInt8} (h : RSt 141 w W q l) (hl : l.length ≤ 1000000) (hlp : 0 < l.length) {c : Nat} (hc0 : (l[0]).toNat = c) (hc : c = 0) :
 Calls Tryz.prog 71 #[.pointer (some ⟨q,0,none⟩),.int .i64 ((d : Int) + 1)] W (Reads w W q (rdVal (d + 1) l) (okVal W)):=by
 have zd : (d : Int) ≤ 63:=by omega
 have hb : Below W.heap.size W (((W.alloc (.cells #[.pointer (some ⟨q,0,none⟩)] 95)).alloc (.cells #[.int .i64 ((d : Int) + 1)] 3)).alloc (.cells #[.int .i64 0,.bool false,.int .i64 0,.string ⟨#[]⟩,.slice none 0 0,.slice none 0 0] 48)):=((Kac _).alloc (by simp) _).alloc (by simp;omega) _
 have h1:=h.below hb
 have hq:=h.lt
 have hcons:=Kcy (d:=d) hlp
 have hc256:=(l[0]).toNat_lt
 have HC:=yh (Kcw h1 hlp)
 rw [hc0] at hcons hc256 HC
 have hrl : (l.drop 1).length ≤ 1000000:=by rw [List.length_drop];omega
 generalize l.drop 1 = r at *
 subst hc;rw [if_pos rfl] at hcons
 have HCONS:=yh hcons
 clear hb h1 h hcons hc0
 go_enter Tryz.func71,Tryz.ntmps71
 ·go_wp2_with (first
   | (go_at_call 105;refine (Kax _).mono ?_;rintro e W2 ⟨rfl,rfl⟩)
   | (go_at_call 110;refine HC.out.mono ?_;rintro e W1 ⟨rfl,s1,t1⟩
      (
       obtain ⟨hfs,hv3,st3⟩:=Kb7 hq t1 s1 #[.int .i64 0,.bool false,.int .i64 0,.string ⟨#[]⟩,.slice none 0 0,.slice none 0 0]
       have c50:=Kab (o:=0) hv3.p5 rfl
       have c2:=Kab (o:=0) hv3.p2 rfl
       have HFS:=yh hfs
       have HV3:=yh (And.intro hv3 st3)
       have hVn:=hv3
       have hstn:=st3
       obtain ⟨f1,f2,f3,f4,f5,f6,f7⟩:=hVn.fin rfl (ones6 _ _ _ _ rfl rfl) hstn
       have HL5:=yh f1
       have HS4:=yh f2
       have HLD:=yh f3
       have HF:=yh (And.intro f4 (And.intro f5 (And.intro f6 f7)))
       clear f1 f2 f3 f4 f5 f6 f7
       clear hVn hstn
       clear hfs hv3 st3 s1 t1 HC))
   | ((with_reducible apply Kae);exact HFS.out;exact rfl;exact rfl;clear HFS;generalize hW3 : World.setRow _ _ _ = W3 at *;clear hW3)
   | ((with_reducible apply Kal);exact HL5.out;exact rfl)
   | ((with_reducible apply Kae);exact HS4.out;exact rfl;exact rfl))
  refine bodyPost_ret (Kan rfl _ _ ⟨W.heap.size + 2,0,none⟩ _ rfl HLD.out) rfl ?_
  exact Reads.of HCONS.out ⟨HF.out.2.1,HF.out.2.2.1,_,rfl,⟨_,rfl,HF.out.2.2.2 (fun b=>W.heap.size + 3 ≤ b) _ (fun b hb=>hb) (Ke9 _ _ _ _ _ _)⟩,HF.out.1⟩
theorem rvalue_bad {w : World} {d : Nat} (hv : RVal w d) (hd : d + 1 ≤ 64) {W : World} {q : Nat} {l : List UInt8} (h : RSt 141 w W q l) (hl : l.length ≤ 1000000) (hlp : 0 < l.length) {c : Nat} (hc0 : (l[0]).toNat = c) (hc : 8 ≤ c) :
 Calls Tryz.prog 71 #[.pointer (some ⟨q,0,none⟩),.int .i64 ((d : Int) + 1)] W (Reads w W q (rdVal (d + 1) l) (okVal W)):=by
 have zd : (d : Int) ≤ 63:=by omega
 have hb : Below W.heap.size W (((W.alloc (.cells #[.pointer (some ⟨q,0,none⟩)] 95)).alloc (.cells #[.int .i64 ((d : Int) + 1)] 3)).alloc (.cells #[.int .i64 0,.bool false,.int .i64 0,.string ⟨#[]⟩,.slice none 0 0,.slice none 0 0] 48)):=((Kac _).alloc (by simp) _).alloc (by simp;omega) _
 have h1:=h.below hb
 have hq:=h.lt
 have hcons:=Kcy (d:=d) hlp
 have hc256:=(l[0]).toNat_lt
 have HC:=yh (Kcw h1 hlp)
 rw [hc0] at hcons hc256 HC
 have hrl : (l.drop 1).length ≤ 1000000:=by rw [List.length_drop];omega
 generalize l.drop 1 = r at *
 rw [if_neg (by omega),if_neg (by omega),if_neg (by omega),if_neg (by omega),if_neg (by omega),if_neg (by omega),if_neg (by omega)] at hcons
 have k0 : ((c : Int) == 0) = false:=by rw [beq_eq_false_iff_ne];omega
 have k1 : ((c : Int) == 1) = false:=by rw [beq_eq_false_iff_ne];omega
 have k2 : ((c : Int) == 2) = false:=by rw [beq_eq_false_iff_ne];omega
 have k3 : ((c : Int) == 3) = false:=by rw [beq_eq_false_iff_ne];omega
 have k4 : ((c : Int) == 4) = false:=by rw [beq_eq_false_iff_ne];omega
 have k5 : ((c : Int) == 5) = false:=by rw [beq_eq_false_iff_ne];omega
 have k6 : ((c : Int) == 6) = false:=by rw [beq_eq_false_iff_ne];omega
 have k7 : ((c : Int) == 7) = false:=by rw [beq_eq_false_iff_ne];omega
 have HCONS:=yh hcons
 clear hb h1 h hcons hc0
 go_enter Tryz.func71,Tryz.ntmps71
 ·go_wp2_with (first
   | (go_at_call 105;first | (refine (Kax _).mono ?_;rintro e W2 ⟨rfl,rfl⟩) | (refine (Ka8 _).mono ?_;rintro e W2 ⟨rfl,rfl⟩))
   | (go_at_call 110;refine HC.out.mono ?_;rintro e W1 ⟨rfl,s1,t1⟩
      (
       obtain ⟨hfs,hv3,st3⟩:=Kb7 hq t1 s1 #[.int .i64 (c : Int),.bool false,.int .i64 0,.string ⟨#[]⟩,.slice none 0 0,.slice none 0 0]
       have c50:=Kab (o:=0) hv3.p5 rfl
       have c2:=Kab (o:=0) hv3.p2 rfl
       have HFS:=yh hfs
       have HV3:=yh (And.intro hv3 st3)
       clear hfs hv3 st3 s1 t1 HC))
   | ((with_reducible apply Kae);exact HFS.out;exact rfl;exact rfl;clear HFS;generalize hW3 : World.setRow _ _ _ = W3 at *;clear hW3))
  exact ⟨rfl,Reads.of HCONS.out ⟨HV3.out.1.tr,HV3.out.2.b,rfl⟩⟩
theorem rvalue_int {w : World} {d : Nat} (hv : RVal w d) (hd : d + 1 ≤ 64) {W : World} {q : Nat} {l : List UInt8} (h : RSt 141 w W q l) (hl : l.length ≤ 1000000) (hlp : 0 < l.length) {c : Nat} (hc0 : (l[0]).toNat = c) (hc : c = 2) :
 Calls Tryz.prog 71 #[.pointer (some ⟨q,0,none⟩),.int .i64 ((d : Int) + 1)] W (Reads w W q (rdVal (d + 1) l) (okVal W)):=by
 have zd : (d : Int) ≤ 63:=by omega
 have hb : Below W.heap.size W (((W.alloc (.cells #[.pointer (some ⟨q,0,none⟩)] 95)).alloc (.cells #[.int .i64 ((d : Int) + 1)] 3)).alloc (.cells #[.int .i64 0,.bool false,.int .i64 0,.string ⟨#[]⟩,.slice none 0 0,.slice none 0 0] 48)):=((Kac _).alloc (by simp) _).alloc (by simp;omega) _
 have h1:=h.below hb
 have hq:=h.lt
 have hcons:=Kcy (d:=d) hlp
 have hc256:=(l[0]).toNat_lt
 have HC:=yh (Kcw h1 hlp)
 rw [hc0] at hcons hc256 HC
 have hrl : (l.drop 1).length ≤ 1000000:=by rw [List.length_drop];omega
 generalize l.drop 1 = r at *
 subst hc;rw [if_neg (by decide),if_neg (by decide),if_pos rfl] at hcons
 have HCONS:=yh hcons
 clear hb h1 h hcons hc0
 go_enter Tryz.func71,Tryz.ntmps71
 ·cases hr : rdN 0 0 r with
  | none =>
    have hdn : rdVal (0 + d + 1) l = none:=by rw [Nat.zero_add];refine HCONS.out.trans ?_;rw [hr];rfl
    rw [Nat.zero_add] at hdn
    have HDN:=yh hdn
    clear hdn HCONS
    go_wp2_with (first
     | (go_at_call 105;refine (Kax _).mono ?_;rintro e W2 ⟨rfl,rfl⟩)
     | (go_at_call 110;refine HC.out.mono ?_;rintro e W1 ⟨rfl,s1,t1⟩
        (
         obtain ⟨hfs,hv3,st3⟩:=Kb7 hq t1 s1 #[.int .i64 2,.bool false,.int .i64 0,.string ⟨#[]⟩,.slice none 0 0,.slice none 0 0]
         have c50:=Kab (o:=0) hv3.p5 rfl
         have c2:=Kab (o:=0) hv3.p2 rfl
         have HFS:=yh hfs
         have HV3:=yh (And.intro hv3 st3)
         have HN:=yh (Kby st3)
         rw [rdSigned_none hr] at HN
         clear hfs hv3 st3 s1 t1 HC))
     | ((with_reducible apply Kae);exact HFS.out;exact rfl;exact rfl;clear HFS;generalize hW3 : World.setRow _ _ _ = W3 at *;clear hW3)
     | (go_at_call 123;refine HN.out.mono ?_;rintro e W5 h5;obtain ⟨t5,hb5,rfl⟩:=h5.none;have H5:=yh (And.intro t5 hb5);clear h5 t5 hb5))
    exact ⟨rfl,Reads.of HDN.out ⟨HV3.out.1.tr.trans H5.out.1,H5.out.2,rfl⟩⟩
  | some p =>
    obtain ⟨x,s⟩:=p
    have hds : rdVal (0 + d + 1) l = some (.mk 2 false (unzz x) [] [] [],s):=by rw [Nat.zero_add];refine HCONS.out.trans ?_;rw [hr];rfl
    rw [Nat.zero_add] at hds
    clear HCONS
    have HCONS:=yh hds
    clear hds
    go_wp2_with (first
     | (go_at_call 105;refine (Kax _).mono ?_;rintro e W2 ⟨rfl,rfl⟩)
     | (go_at_call 110;refine HC.out.mono ?_;rintro e W1 ⟨rfl,s1,t1⟩
        (
         obtain ⟨hfs,hv3,st3⟩:=Kb7 hq t1 s1 #[.int .i64 2,.bool false,.int .i64 0,.string ⟨#[]⟩,.slice none 0 0,.slice none 0 0]
         have c50:=Kab (o:=0) hv3.p5 rfl
         have c2:=Kab (o:=0) hv3.p2 rfl
         have HFS:=yh hfs
         have HV3:=yh (And.intro hv3 st3)
         have HN:=yh (Kby st3)
         rw [rdSigned_some hr] at HN
         clear hfs hv3 st3 s1 t1 HC))
     | ((with_reducible apply Kae);exact HFS.out;exact rfl;exact rfl;clear HFS;generalize hW3 : World.setRow _ _ _ = W3 at *;clear hW3)
     | (go_at_call 123;refine HN.out.mono ?_;rintro e W5 h5
        (
         obtain ⟨t5,hb5,x5,rfl,rfl,hstm⟩:=h5.some
         have hV5:=HV3.out.1.step t5
         have hVn : VS W q ((d : Int) + 1) W1.heap.size #[.int .i64 2,.bool false,.int .i64 (unzz x),.string ⟨#[]⟩,.slice none 0 0,.slice none 0 0] (W5.setCell ⟨W1.heap.size,2,none⟩ (.int .i64 (unzz x))):=by simpa using hV5.set 2 (.int .i64 (unzz x))
         have hstn:=hV5.setR hstm 2 (.int .i64 (unzz x))
         have HST:=yh (Kd0 (n:=unzz x) (Kab (o:=2) hV5.p5 rfl) (Kav (o:=2) hV5.p5))
         obtain ⟨f1,f2,f3,f4,f5,f6,f7⟩:=hVn.fin rfl (ones6 _ _ _ _ rfl rfl) hstn
         have HL5:=yh f1
         have HS4:=yh f2
         have HLD:=yh f3
         have HF:=yh (And.intro f4 (And.intro f5 (And.intro f6 f7)))
         clear f1 f2 f3 f4 f5 f6 f7
         clear h5 t5 hb5 hstm hV5 hVn hstn HN))
     | ((with_reducible apply Kae);exact HST.out;exact rfl;exact rfl;clear HST)
     | ((with_reducible apply Kal);exact HL5.out;exact rfl)
     | ((with_reducible apply Kae);exact HS4.out;exact rfl;exact rfl))
    refine bodyPost_ret (Kan rfl _ _ ⟨W.heap.size + 2,0,none⟩ _ rfl HLD.out) rfl ?_
    exact Reads.of HCONS.out ⟨HF.out.2.1,HF.out.2.2.1,_,rfl,⟨_,rfl,HF.out.2.2.2 (fun b=>W.heap.size + 3 ≤ b) _ (fun b hb=>hb) (Ke9 _ _ _ _ _ _)⟩,HF.out.1⟩
theorem rvalue_txt {w : World} {d : Nat} (hv : RVal w d) (hd : d + 1 ≤ 64) {W : World} {q : Nat} {l : List UInt8} (h : RSt 141 w W q l) (hl : l.length ≤ 1000000) (hlp : 0 < l.length) {c : Nat} (hc0 : (l[0]).toNat = c) (hc : c = 3) :
 Calls Tryz.prog 71 #[.pointer (some ⟨q,0,none⟩),.int .i64 ((d : Int) + 1)] W (Reads w W q (rdVal (d + 1) l) (okVal W)):=by
 have zd : (d : Int) ≤ 63:=by omega
 have hb : Below W.heap.size W (((W.alloc (.cells #[.pointer (some ⟨q,0,none⟩)] 95)).alloc (.cells #[.int .i64 ((d : Int) + 1)] 3)).alloc (.cells #[.int .i64 0,.bool false,.int .i64 0,.string ⟨#[]⟩,.slice none 0 0,.slice none 0 0] 48)):=((Kac _).alloc (by simp) _).alloc (by simp;omega) _
 have h1:=h.below hb
 have hq:=h.lt
 have hcons:=Kcy (d:=d) hlp
 have hc256:=(l[0]).toNat_lt
 have HC:=yh (Kcw h1 hlp)
 rw [hc0] at hcons hc256 HC
 have hrl : (l.drop 1).length ≤ 1000000:=by rw [List.length_drop];omega
 generalize l.drop 1 = r at *
 subst hc;rw [if_neg (by decide),if_neg (by decide),if_neg (by decide),if_pos rfl] at hcons
 have HCONS:=yh hcons
 clear hb h1 h hcons hc0
 go_enter Tryz.func71,Tryz.ntmps71
 ·cases hr : Kba r with
  | none =>
    have hdn : rdVal (0 + d + 1) l = none:=by rw [Nat.zero_add];refine HCONS.out.trans ?_;rw [hr];rfl
    rw [Nat.zero_add] at hdn
    have HDN:=yh hdn
    clear hdn HCONS
    go_wp2_with (first
     | (go_at_call 105;refine (Kax _).mono ?_;rintro e W2 ⟨rfl,rfl⟩)
     | (go_at_call 110;refine HC.out.mono ?_;rintro e W1 ⟨rfl,s1,t1⟩
        (
         obtain ⟨hfs,hv3,st3⟩:=Kb7 hq t1 s1 #[.int .i64 3,.bool false,.int .i64 0,.string ⟨#[]⟩,.slice none 0 0,.slice none 0 0]
         have c50:=Kab (o:=0) hv3.p5 rfl
         have c2:=Kab (o:=0) hv3.p2 rfl
         have HFS:=yh hfs
         have HV3:=yh (And.intro hv3 st3)
         have HN:=yh (Kez st3 hrl)
         rw [hr] at HN
         clear hfs hv3 st3 s1 t1 HC))
     | ((with_reducible apply Kae);exact HFS.out;exact rfl;exact rfl;clear HFS;generalize hW3 : World.setRow _ _ _ = W3 at *;clear hW3)
     | (go_at_call 107;refine HN.out.mono ?_;rintro e W5 h5;obtain ⟨t5,hb5,rfl⟩:=h5.none;have H5:=yh (And.intro t5 hb5);clear h5 t5 hb5))
    exact ⟨rfl,Reads.of HDN.out ⟨HV3.out.1.tr.trans H5.out.1,H5.out.2,rfl⟩⟩
  | some p =>
    obtain ⟨x,s⟩:=p
    have hds : rdVal (0 + d + 1) l = some (.mk 3 false 0 x [] [],s):=by rw [Nat.zero_add];refine HCONS.out.trans ?_;rw [hr];rfl
    rw [Nat.zero_add] at hds
    clear HCONS
    have HCONS:=yh hds
    clear hds
    go_wp2_with (first
     | (go_at_call 105;refine (Kax _).mono ?_;rintro e W2 ⟨rfl,rfl⟩)
     | (go_at_call 110;refine HC.out.mono ?_;rintro e W1 ⟨rfl,s1,t1⟩
        (
         obtain ⟨hfs,hv3,st3⟩:=Kb7 hq t1 s1 #[.int .i64 3,.bool false,.int .i64 0,.string ⟨#[]⟩,.slice none 0 0,.slice none 0 0]
         have c50:=Kab (o:=0) hv3.p5 rfl
         have c2:=Kab (o:=0) hv3.p2 rfl
         have HFS:=yh hfs
         have HV3:=yh (And.intro hv3 st3)
         have HN:=yh (Kez st3 hrl)
         rw [hr] at HN
         clear hfs hv3 st3 s1 t1 HC))
     | ((with_reducible apply Kae);exact HFS.out;exact rfl;exact rfl;clear HFS;generalize hW3 : World.setRow _ _ _ = W3 at *;clear hW3)
     | (go_at_call 107;refine HN.out.mono ?_;rintro e W5 h5
        (
         obtain ⟨t5,hb5,x5,rfl,rfl,hstm⟩:=h5.some
         have hV5:=HV3.out.1.step t5
         have hVn : VS W q ((d : Int) + 1) W1.heap.size #[.int .i64 3,.bool false,.int .i64 0,.string (strB x),.slice none 0 0,.slice none 0 0] (W5.setCell ⟨W1.heap.size,3,none⟩ (.string (strB x))):=by simpa using hV5.set 3 (.string (strB x))
         have hstn:=hV5.setR hstm 3 (.string (strB x))
         have HST:=yh (put_str (s:=strB x) (Kab (o:=3) hV5.p5 rfl) (Kav (o:=3) hV5.p5))
         obtain ⟨f1,f2,f3,f4,f5,f6,f7⟩:=hVn.fin rfl (ones6 _ _ _ _ rfl rfl) hstn
         have HL5:=yh f1
         have HS4:=yh f2
         have HLD:=yh f3
         have HF:=yh (And.intro f4 (And.intro f5 (And.intro f6 f7)))
         clear f1 f2 f3 f4 f5 f6 f7
         clear h5 t5 hb5 hstm hV5 hVn hstn HN))
     | ((with_reducible apply Kae);exact HST.out;exact rfl;exact rfl;clear HST)
     | ((with_reducible apply Kal);exact HL5.out;exact rfl)
     | ((with_reducible apply Kae);exact HS4.out;exact rfl;exact rfl))
    refine bodyPost_ret (Kan rfl _ _ ⟨W.heap.size + 2,0,none⟩ _ rfl HLD.out) rfl ?_
    exact Reads.of HCONS.out ⟨HF.out.2.1,HF.out.2.2.1,_,rfl,⟨_,rfl,HF.out.2.2.2 (fun b=>W.heap.size + 3 ≤ b) _ (fun b hb=>hb) (Ke9 _ _ _ _ _ _)⟩,HF.out.1⟩
theorem rvalue_nod {w : World} {d : Nat} (hv : RVal w d) (hd : d + 1 ≤ 64) {W : World} {q : Nat} {l : List UInt8} (h : RSt 141 w W q l) (hl : l.length ≤ 1000000) (hlp : 0 < l.length) {c : Nat} (hc0 : (l[0]).toNat = c) (hc : c = 6) :
 Calls Tryz.prog 71 #[.pointer (some ⟨q,0,none⟩),.int .i64 ((d : Int) + 1)] W (Reads w W q (rdVal (d + 1) l) (okVal W)):=by
 have zd : (d : Int) ≤ 63:=by omega
 have hb : Below W.heap.size W (((W.alloc (.cells #[.pointer (some ⟨q,0,none⟩)] 95)).alloc (.cells #[.int .i64 ((d : Int) + 1)] 3)).alloc (.cells #[.int .i64 0,.bool false,.int .i64 0,.string ⟨#[]⟩,.slice none 0 0,.slice none 0 0] 48)):=((Kac _).alloc (by simp) _).alloc (by simp;omega) _
 have h1:=h.below hb
 have hq:=h.lt
 have hcons:=Kcy (d:=d) hlp
 have hc256:=(l[0]).toNat_lt
 have HC:=yh (Kcw h1 hlp)
 rw [hc0] at hcons hc256 HC
 have hrl : (l.drop 1).length ≤ 1000000:=by rw [List.length_drop];omega
 generalize l.drop 1 = r at *
 subst hc;rw [if_neg (by decide),if_neg (by decide),if_neg (by decide),if_neg (by decide),if_neg (by decide),if_neg (by decide),if_pos (by decide)] at hcons
 have HCONS:=yh hcons
 clear hb h1 h hcons hc0
 go_enter Tryz.func71,Tryz.ntmps71
 ·cases hr : rdN 0 0 r with
  | none =>
    have hdn : rdVal (0 + d + 1) l = none:=by rw [Nat.zero_add];refine HCONS.out.trans ?_;rw [hr];rfl
    rw [Nat.zero_add] at hdn
    have HDN:=yh hdn
    clear hdn HCONS
    go_wp2_with (first
     | (go_at_call 105;refine (Kax _).mono ?_;rintro e W2 ⟨rfl,rfl⟩)
     | (go_at_call 110;refine HC.out.mono ?_;rintro e W1 ⟨rfl,s1,t1⟩
        (
         obtain ⟨hfs,hv3,st3⟩:=Kb7 hq t1 s1 #[.int .i64 6,.bool false,.int .i64 0,.string ⟨#[]⟩,.slice none 0 0,.slice none 0 0]
         have c50:=Kab (o:=0) hv3.p5 rfl
         have c2:=Kab (o:=0) hv3.p2 rfl
         have HFS:=yh hfs
         have HV3:=yh (And.intro hv3 st3)
         have HN:=yh (Ka0 st3)
         rw [hr] at HN
         clear hfs hv3 st3 s1 t1 HC))
     | ((with_reducible apply Kae);exact HFS.out;exact rfl;exact rfl;clear HFS;generalize hW3 : World.setRow _ _ _ = W3 at *;clear hW3)
     | (go_at_call 55;refine HN.out.mono ?_;rintro e W5 h5;obtain ⟨t5,hb5,rfl⟩:=h5.none;have H5:=yh (And.intro t5 hb5);clear h5 t5 hb5))
    exact ⟨rfl,Reads.of HDN.out ⟨HV3.out.1.tr.trans H5.out.1,H5.out.2,rfl⟩⟩
  | some p =>
    obtain ⟨x,s⟩:=p
    have hds : rdVal (0 + d + 1) l = some (.mk 6 false (toI x) [] [] [],s):=by rw [Nat.zero_add];refine HCONS.out.trans ?_;rw [hr];rfl
    rw [Nat.zero_add] at hds
    clear HCONS
    have HCONS:=yh hds
    clear hds
    have HCV:=yh (fun W' : World=>conv_i64 (Keh hr) W')
    go_wp2_with (first
     | (go_at_call 105;refine (Kax _).mono ?_;rintro e W2 ⟨rfl,rfl⟩)
     | (go_at_call 110;refine HC.out.mono ?_;rintro e W1 ⟨rfl,s1,t1⟩
        (
         obtain ⟨hfs,hv3,st3⟩:=Kb7 hq t1 s1 #[.int .i64 6,.bool false,.int .i64 0,.string ⟨#[]⟩,.slice none 0 0,.slice none 0 0]
         have c50:=Kab (o:=0) hv3.p5 rfl
         have c2:=Kab (o:=0) hv3.p2 rfl
         have HFS:=yh hfs
         have HV3:=yh (And.intro hv3 st3)
         have HN:=yh (Ka0 st3)
         rw [hr] at HN
         clear hfs hv3 st3 s1 t1 HC))
     | ((with_reducible apply Kae);exact HFS.out;exact rfl;exact rfl;clear HFS;generalize hW3 : World.setRow _ _ _ = W3 at *;clear hW3)
     | (go_at_call 55;refine HN.out.mono ?_;rintro e W5 h5
        (
         obtain ⟨t5,hb5,x5,rfl,rfl,hstm⟩:=h5.some
         have hV5:=HV3.out.1.step t5
         have hVn : VS W q ((d : Int) + 1) W1.heap.size #[.int .i64 6,.bool false,.int .i64 (toI x),.string ⟨#[]⟩,.slice none 0 0,.slice none 0 0] (W5.setCell ⟨W1.heap.size,2,none⟩ (.int .i64 (toI x))):=by simpa using hV5.set 2 (.int .i64 (toI x))
         have hstn:=hV5.setR hstm 2 (.int .i64 (toI x))
         have HST:=yh (Kd0 (n:=toI x) (Kab (o:=2) hV5.p5 rfl) (Kav (o:=2) hV5.p5))
         obtain ⟨f1,f2,f3,f4,f5,f6,f7⟩:=hVn.fin rfl (ones6 _ _ _ _ rfl rfl) hstn
         have HL5:=yh f1
         have HS4:=yh f2
         have HLD:=yh f3
         have HF:=yh (And.intro f4 (And.intro f5 (And.intro f6 f7)))
         clear f1 f2 f3 f4 f5 f6 f7
         clear h5 t5 hb5 hstm hV5 hVn hstn HN))
     | ((with_reducible apply Kcg);exact HCV.out _;exact rfl)
     | ((with_reducible apply Kae);exact HST.out;exact rfl;exact rfl;clear HST)
     | ((with_reducible apply Kal);exact HL5.out;exact rfl)
     | ((with_reducible apply Kae);exact HS4.out;exact rfl;exact rfl))
    refine bodyPost_ret (Kan rfl _ _ ⟨W.heap.size + 2,0,none⟩ _ rfl HLD.out) rfl ?_
    exact Reads.of HCONS.out ⟨HF.out.2.1,HF.out.2.2.1,_,rfl,⟨_,rfl,HF.out.2.2.2 (fun b=>W.heap.size + 3 ≤ b) _ (fun b hb=>hb) (Ke9 _ _ _ _ _ _)⟩,HF.out.1⟩
theorem rvalue_rel {w : World} {d : Nat} (hv : RVal w d) (hd : d + 1 ≤ 64) {W : World} {q : Nat} {l : List UInt8} (h : RSt 141 w W q l) (hl : l.length ≤ 1000000) (hlp : 0 < l.length) {c : Nat} (hc0 : (l[0]).toNat = c) (hc : c = 7) :
 Calls Tryz.prog 71 #[.pointer (some ⟨q,0,none⟩),.int .i64 ((d : Int) + 1)] W (Reads w W q (rdVal (d + 1) l) (okVal W)):=by
 have zd : (d : Int) ≤ 63:=by omega
 have hb : Below W.heap.size W (((W.alloc (.cells #[.pointer (some ⟨q,0,none⟩)] 95)).alloc (.cells #[.int .i64 ((d : Int) + 1)] 3)).alloc (.cells #[.int .i64 0,.bool false,.int .i64 0,.string ⟨#[]⟩,.slice none 0 0,.slice none 0 0] 48)):=((Kac _).alloc (by simp) _).alloc (by simp;omega) _
 have h1:=h.below hb
 have hq:=h.lt
 have hcons:=Kcy (d:=d) hlp
 have hc256:=(l[0]).toNat_lt
 have HC:=yh (Kcw h1 hlp)
 rw [hc0] at hcons hc256 HC
 have hrl : (l.drop 1).length ≤ 1000000:=by rw [List.length_drop];omega
 generalize l.drop 1 = r at *
 subst hc;rw [if_neg (by decide),if_neg (by decide),if_neg (by decide),if_neg (by decide),if_neg (by decide),if_neg (by decide),if_pos (by decide)] at hcons
 have HCONS:=yh hcons
 clear hb h1 h hcons hc0
 go_enter Tryz.func71,Tryz.ntmps71
 ·cases hr : rdN 0 0 r with
  | none =>
    have hdn : rdVal (0 + d + 1) l = none:=by rw [Nat.zero_add];refine HCONS.out.trans ?_;rw [hr];rfl
    rw [Nat.zero_add] at hdn
    have HDN:=yh hdn
    clear hdn HCONS
    go_wp2_with (first
     | (go_at_call 105;refine (Kax _).mono ?_;rintro e W2 ⟨rfl,rfl⟩)
     | (go_at_call 110;refine HC.out.mono ?_;rintro e W1 ⟨rfl,s1,t1⟩
        (
         obtain ⟨hfs,hv3,st3⟩:=Kb7 hq t1 s1 #[.int .i64 7,.bool false,.int .i64 0,.string ⟨#[]⟩,.slice none 0 0,.slice none 0 0]
         have c50:=Kab (o:=0) hv3.p5 rfl
         have c2:=Kab (o:=0) hv3.p2 rfl
         have HFS:=yh hfs
         have HV3:=yh (And.intro hv3 st3)
         have HN:=yh (Ka0 st3)
         rw [hr] at HN
         clear hfs hv3 st3 s1 t1 HC))
     | ((with_reducible apply Kae);exact HFS.out;exact rfl;exact rfl;clear HFS;generalize hW3 : World.setRow _ _ _ = W3 at *;clear hW3)
     | (go_at_call 55;refine HN.out.mono ?_;rintro e W5 h5;obtain ⟨t5,hb5,rfl⟩:=h5.none;have H5:=yh (And.intro t5 hb5);clear h5 t5 hb5))
    exact ⟨rfl,Reads.of HDN.out ⟨HV3.out.1.tr.trans H5.out.1,H5.out.2,rfl⟩⟩
  | some p =>
    obtain ⟨x,s⟩:=p
    have hds : rdVal (0 + d + 1) l = some (.mk 7 false (toI x) [] [] [],s):=by rw [Nat.zero_add];refine HCONS.out.trans ?_;rw [hr];rfl
    rw [Nat.zero_add] at hds
    clear HCONS
    have HCONS:=yh hds
    clear hds
    have HCV:=yh (fun W' : World=>conv_i64 (Keh hr) W')
    go_wp2_with (first
     | (go_at_call 105;refine (Kax _).mono ?_;rintro e W2 ⟨rfl,rfl⟩)
     | (go_at_call 110;refine HC.out.mono ?_;rintro e W1 ⟨rfl,s1,t1⟩
        (
         obtain ⟨hfs,hv3,st3⟩:=Kb7 hq t1 s1 #[.int .i64 7,.bool false,.int .i64 0,.string ⟨#[]⟩,.slice none 0 0,.slice none 0 0]
         have c50:=Kab (o:=0) hv3.p5 rfl
         have c2:=Kab (o:=0) hv3.p2 rfl
         have HFS:=yh hfs
         have HV3:=yh (And.intro hv3 st3)
         have HN:=yh (Ka0 st3)
         rw [hr] at HN
         clear hfs hv3 st3 s1 t1 HC))
     | ((with_reducible apply Kae);exact HFS.out;exact rfl;exact rfl;clear HFS;generalize hW3 : World.setRow _ _ _ = W3 at *;clear hW3)
     | (go_at_call 55;refine HN.out.mono ?_;rintro e W5 h5
        (
         obtain ⟨t5,hb5,x5,rfl,rfl,hstm⟩:=h5.some
         have hV5:=HV3.out.1.step t5
         have hVn : VS W q ((d : Int) + 1) W1.heap.size #[.int .i64 7,.bool false,.int .i64 (toI x),.string ⟨#[]⟩,.slice none 0 0,.slice none 0 0] (W5.setCell ⟨W1.heap.size,2,none⟩ (.int .i64 (toI x))):=by simpa using hV5.set 2 (.int .i64 (toI x))
         have hstn:=hV5.setR hstm 2 (.int .i64 (toI x))
         have HST:=yh (Kd0 (n:=toI x) (Kab (o:=2) hV5.p5 rfl) (Kav (o:=2) hV5.p5))
         obtain ⟨f1,f2,f3,f4,f5,f6,f7⟩:=hVn.fin rfl (ones6 _ _ _ _ rfl rfl) hstn
         have HL5:=yh f1
         have HS4:=yh f2
         have HLD:=yh f3
         have HF:=yh (And.intro f4 (And.intro f5 (And.intro f6 f7)))
         clear f1 f2 f3 f4 f5 f6 f7
         clear h5 t5 hb5 hstm hV5 hVn hstn HN))
     | ((with_reducible apply Kcg);exact HCV.out _;exact rfl)
     | ((with_reducible apply Kae);exact HST.out;exact rfl;exact rfl;clear HST)
     | ((with_reducible apply Kal);exact HL5.out;exact rfl)
     | ((with_reducible apply Kae);exact HS4.out;exact rfl;exact rfl))
    refine bodyPost_ret (Kan rfl _ _ ⟨W.heap.size + 2,0,none⟩ _ rfl HLD.out) rfl ?_
    exact Reads.of HCONS.out ⟨HF.out.2.1,HF.out.2.2.1,_,rfl,⟨_,rfl,HF.out.2.2.2 (fun b=>W.heap.size + 3 ≤ b) _ (fun b hb=>hb) (Ke9 _ _ _ _ _ _)⟩,HF.out.1⟩
theorem rvalue_boo {w : World} {d : Nat} (hv : RVal w d) (hd : d + 1 ≤ 64) {W : World} {q : Nat} {l : List UInt8} (h : RSt 141 w W q l) (hl : l.length ≤ 1000000) (hlp : 0 < l.length) {c : Nat} (hc0 : (l[0]).toNat = c) (hc : c = 1) :
 Calls Tryz.prog 71 #[.pointer (some ⟨q,0,none⟩),.int .i64 ((d : Int) + 1)] W (Reads w W q (rdVal (d + 1) l) (okVal W)):=by
 have zd : (d : Int) ≤ 63:=by omega
 have hb : Below W.heap.size W (((W.alloc (.cells #[.pointer (some ⟨q,0,none⟩)] 95)).alloc (.cells #[.int .i64 ((d : Int) + 1)] 3)).alloc (.cells #[.int .i64 0,.bool false,.int .i64 0,.string ⟨#[]⟩,.slice none 0 0,.slice none 0 0] 48)):=((Kac _).alloc (by simp) _).alloc (by simp;omega) _
 have h1:=h.below hb
 have hq:=h.lt
 have hcons:=Kcy (d:=d) hlp
 have hc256:=(l[0]).toNat_lt
 have HC:=yh (Kcw h1 hlp)
 rw [hc0] at hcons hc256 HC
 have hrl : (l.drop 1).length ≤ 1000000:=by rw [List.length_drop];omega
 generalize l.drop 1 = r at *
 subst hc;rw [if_neg (by decide),if_pos rfl] at hcons
 have HCONS:=yh hcons
 clear hb h1 h hcons hc0
 go_enter Tryz.func71,Tryz.ntmps71
 ·by_cases hrp : 0 < r.length
  ·have hx256:=(r[0]).toNat_lt
   have hbo : rdBool r = if (r[0]).toNat < 2 then some (.mk 1 ((r[0]).toNat == 1) 0 [] [] [],r.drop 1) else none:=by
    cases r with
    | nil=>simp at hrp
    | cons y ys=>rw [rdBool];rfl
   have HBY:=yh (fun (W' : World) (g : RSt 141 w W' q r)=>Kcw g hrp)
   generalize hx : (r[0]).toNat = x at *
   by_cases hx2 : x < 2
   ·rw [if_pos hx2] at hbo
    have HDS:=yh (HCONS.out.trans hbo)
    clear HCONS hbo
    have HCONS:=HDS
    clear HDS
    have x2 : (x : Int) < 2:=by omega
    go_wp2_with (first
     | (go_at_call 105;refine (Kax _).mono ?_;rintro e W2 ⟨rfl,rfl⟩)
     | (go_at_call 110;refine HB2.out.mono ?_;rintro e W5 ⟨rfl,hstm,t5⟩
        (
         have hV5:=HV3.out.1.step t5
         have hVn : VS W q ((d : Int) + 1) W1.heap.size #[.int .i64 1,.bool ((x : Int) == 1),.int .i64 0,.string ⟨#[]⟩,.slice none 0 0,.slice none 0 0] (W5.setCell ⟨W1.heap.size,1,none⟩ (.bool ((x : Int) == 1))):=by simpa using hV5.set 1 (.bool ((x : Int) == 1))
         have hstn:=hV5.setR hstm 1 (.bool ((x : Int) == 1))
         have HST:=yh (put_boo (n:=((x : Int) == 1)) (Kab (o:=1) hV5.p5 rfl) (Kav (o:=1) hV5.p5))
         obtain ⟨f1,f2,f3,f4,f5,f6,f7⟩:=hVn.fin rfl (ones6 _ _ _ _ rfl rfl) hstn
         have HL5:=yh f1
         have HS4:=yh f2
         have HLD:=yh f3
         have HF:=yh (And.intro f4 (And.intro f5 (And.intro f6 f7)))
         clear f1 f2 f3 f4 f5 f6 f7
         clear t5 hstm hV5 hVn hstn HB2))
     | (go_at_call 110;refine HC.out.mono ?_;rintro e W1 ⟨rfl,s1,t1⟩
        (
         obtain ⟨hfs,hv3,st3⟩:=Kb7 hq t1 s1 #[.int .i64 1,.bool false,.int .i64 0,.string ⟨#[]⟩,.slice none 0 0,.slice none 0 0]
         have c50:=Kab (o:=0) hv3.p5 rfl
         have c2:=Kab (o:=0) hv3.p2 rfl
         have HFS:=yh hfs
         have HV3:=yh (And.intro hv3 st3)
         have HB2:=yh (HBY.out _ st3)
         clear hfs hv3 st3 s1 t1 HC))
     | ((with_reducible apply Kae);exact HFS.out;exact rfl;exact rfl;clear HFS;generalize hW3 : World.setRow _ _ _ = W3 at *;clear hW3)
     | ((with_reducible apply Kae);exact HST.out;exact rfl;exact rfl;clear HST)
     | ((with_reducible apply Kal);exact HL5.out;exact rfl)
     | ((with_reducible apply Kae);exact HS4.out;exact rfl;exact rfl))
    refine bodyPost_ret (Kan rfl _ _ ⟨W.heap.size + 2,0,none⟩ _ rfl HLD.out) rfl ?_
    exact Reads.of HCONS.out ⟨HF.out.2.1,HF.out.2.2.1,_,rfl,⟨_,rfl,HF.out.2.2.2 (fun b=>W.heap.size + 3 ≤ b) _ (fun b hb=>hb) (by have e : (x == 1) = ((x : Int) == 1):=(by rw [Bool.eq_iff_iff,beq_iff_eq,beq_iff_eq];omega);rw [e];exact Ke9 _ _ _ _ _ _)⟩,HF.out.1⟩
   ·rw [if_neg hx2] at hbo
    have HDS:=yh (HCONS.out.trans hbo)
    clear HCONS hbo
    have x2 : decide ((x : Int) < 2) = false:=by rw [decide_eq_false_iff_not];omega
    go_wp2_with (first
     | (go_at_call 105;first | (refine (Kax _).mono ?_;rintro e W2 ⟨rfl,rfl⟩) | (refine (Ka8 _).mono ?_;rintro e W2 ⟨rfl,rfl⟩))
     | (go_at_call 110;refine HB2.out.mono ?_;rintro e W5 ⟨rfl,hstm,t5⟩;have H5:=yh (And.intro hstm t5);clear hstm t5)
     | (go_at_call 110;refine HC.out.mono ?_;rintro e W1 ⟨rfl,s1,t1⟩
        (
         obtain ⟨hfs,hv3,st3⟩:=Kb7 hq t1 s1 #[.int .i64 1,.bool false,.int .i64 0,.string ⟨#[]⟩,.slice none 0 0,.slice none 0 0]
         have c50:=Kab (o:=0) hv3.p5 rfl
         have c2:=Kab (o:=0) hv3.p2 rfl
         have HFS:=yh hfs
         have HV3:=yh (And.intro hv3 st3)
         have HB2:=yh (HBY.out _ st3)
         clear hfs hv3 st3 s1 t1 HC))
     | ((with_reducible apply Kae);exact HFS.out;exact rfl;exact rfl;clear HFS;generalize hW3 : World.setRow _ _ _ = W3 at *;clear hW3))
    exact ⟨rfl,Reads.of HDS.out ⟨HV3.out.1.tr.trans H5.out.2,H5.out.1.b,rfl⟩⟩
  ·obtain rfl : r = []:=List.eq_nil_of_length_eq_zero (by omega)
   have HDS:=yh (HCONS.out.trans (by rw [rdBool]))
   clear HCONS
   go_wp2_with (first
    | (go_at_call 105;refine (Kax _).mono ?_;rintro e W2 ⟨rfl,rfl⟩)
    | (go_at_call 110;refine HB2.out.mono ?_;rintro e W5 ⟨rfl,rfl⟩)
    | (go_at_call 110;refine HC.out.mono ?_;rintro e W1 ⟨rfl,s1,t1⟩
       (
        obtain ⟨hfs,hv3,st3⟩:=Kb7 hq t1 s1 #[.int .i64 1,.bool false,.int .i64 0,.string ⟨#[]⟩,.slice none 0 0,.slice none 0 0]
        have c50:=Kab (o:=0) hv3.p5 rfl
        have c2:=Kab (o:=0) hv3.p2 rfl
        have HFS:=yh hfs
        have HV3:=yh (And.intro hv3 st3)
        have HB2:=yh (byte_bad st3)
        clear hfs hv3 st3 s1 t1 HC))
    | ((with_reducible apply Kae);exact HFS.out;exact rfl;exact rfl;clear HFS;generalize hW3 : World.setRow _ _ _ = W3 at *;clear hW3))
   exact ⟨rfl,Reads.of HDS.out ⟨HV3.out.1.tr,HV3.out.2.b,rfl⟩⟩
theorem rvalue_lst {w : World} {d : Nat} (hv : RVal w d) (hd : d + 1 ≤ 64) {W : World} {q : Nat} {l : List UInt8} (h : RSt 141 w W q l) (hl : l.length ≤ 1000000) (hlp : 0 < l.length) {c : Nat} (hc0 : (l[0]).toNat = c) (hc : c = 4) :
 Calls Tryz.prog 71 #[.pointer (some ⟨q,0,none⟩),.int .i64 ((d : Int) + 1)] W (Reads w W q (rdVal (d + 1) l) (okVal W)):=by
 have zd : (d : Int) ≤ 63:=by omega
 have hb : Below W.heap.size W (((W.alloc (.cells #[.pointer (some ⟨q,0,none⟩)] 95)).alloc (.cells #[.int .i64 ((d : Int) + 1)] 3)).alloc (.cells #[.int .i64 0,.bool false,.int .i64 0,.string ⟨#[]⟩,.slice none 0 0,.slice none 0 0] 48)):=((Kac _).alloc (by simp) _).alloc (by simp;omega) _
 have h1:=h.below hb
 have hq:=h.lt
 have hcons:=Kcy (d:=d) hlp
 have hc256:=(l[0]).toNat_lt
 have HC:=yh (Kcw h1 hlp)
 rw [hc0] at hcons hc256 HC
 have hrl : (l.drop 1).length ≤ 1000000:=by rw [List.length_drop];omega
 generalize l.drop 1 = r at *
 subst hc;rw [if_neg (by decide),if_neg (by decide),if_neg (by decide),if_neg (by decide),if_pos rfl] at hcons
 have HCONS:=yh hcons
 clear hb h1 h hcons hc0
 go_enter Tryz.func71,Tryz.ntmps71
 ·have HN0:=yh hv
  clear hv
  cases hr : Ka2 (rdVal d) r with
  | none =>
    have HDN:=yh (HCONS.out.trans (show _ = none by rw [hr];rfl))
    clear HCONS
    go_wp2_with (first
     | (go_at_call 105;refine (Kax _).mono ?_;rintro e W2 ⟨rfl,rfl⟩)
     | (go_at_call 110;refine HC.out.mono ?_;rintro e W1 ⟨rfl,s1,t1⟩
        (
         obtain ⟨hfs,hv3,st3⟩:=Kb7 hq t1 s1 #[.int .i64 4,.bool false,.int .i64 0,.string ⟨#[]⟩,.slice none 0 0,.slice none 0 0]
         have c50:=Kab (o:=0) hv3.p5 rfl
         have c2:=Kab (o:=0) hv3.p2 rfl
         have HFS:=yh hfs
         have HV3:=yh (And.intro hv3 st3)
         have HN:=yh (rrowsV_any (a1:=some ⟨W.heap.size,0,none⟩) (a2:=some ⟨W.heap.size + 1,0,none⟩) el_val (rdVal d) (kv0:=.slice none 0 0) hrl st3 (fun _ W' kv=>VS W q ((d : Int) + 1) W1.heap.size #[.int .i64 4,.bool false,.int .i64 0,.string ⟨#[]⟩,.slice none 0 0,.slice none 0 0] W' ∧ kv = .slice none 0 0) (fun W'=>RTo q W W')
         ⟨fun {m Wx Wy kv} hj hsz hbw hk=>⟨hj.1.keep hsz fun b hb1 hq1=>hk b (by have:=hj.1.lt;have:=hj.1.tr.size;have:=hj.1.lo;omega) hq1 (.inl (by have:=hv3.lt;have:=hv3.tr.size;have:=hv3.lo;omega)),hj.2⟩,fun {m Wx kv} hj b hb1=>(by rw [hj.2] at hb1;simp [Value.ownBlock] at hb1)⟩
         (fun m W' kv hj=>hj.1.tr) ⟨hv3,rfl⟩ (fun m Wx kv l' hj hsz hstx hlx _=>(rinner_any HN0.out (by omega) hj.1 hstx hlx).mono fun e W' hres=>by
           cases hdx : rdVal d l' with
           | none=>rw [hdx] at hres;obtain ⟨ta,hba,hea⟩:=hres.none;exact ⟨hea,hj.1.tr.trans ta,hba⟩
           | some px =>
             obtain ⟨vx,sx⟩:=px
             rw [hdx] at hres
             obtain ⟨ta,hba,vv,hea,⟨csx,hcx,hox⟩,hsx⟩:=hres.some
             subst hcx
             have hle : sx.length ≤ l'.length:=by
              obtain ⟨e1,_⟩:=(rt_val d).sound _ _ _ hdx
              have:=congrArg List.length e1
              rw [List.length_append] at this
              omega
             exact ⟨csx,.slice none 0 0,hea,⟨ta.size,fun b hb1 hq1 _ _=>ta.keep b hb1 hq1,hox.imp fun b _ hb1=>⟨hb1,by simp [Value.ownBlock]⟩,hsx,⟨hj.1.step ta,rfl⟩,.inl (by rw [hj.2])⟩,hle⟩))
         rw [hr] at HN
         have HIN:=yh (Kag (P:=Tryz.prog) Tryz.underlying170 rfl (Kab (o:=0) hv3.p6 rfl))
         clear hfs hv3 st3 s1 t1 HC))
     | ((with_reducible apply Kae);exact HFS.out;exact rfl;exact rfl;clear HFS;generalize hW3 : World.setRow _ _ _ = W3 at *;clear hW3)
     | ((with_reducible apply Kal);exact HIN.out;exact rfl;clear HIN)
     | (go_at_call 124;refine HN.out.mono ?_;rintro e W5 ⟨rfl,h5⟩;have H5:=yh h5;clear h5))
    exact ⟨rfl,Reads.of HDN.out ⟨H5.out.1,H5.out.2,rfl⟩⟩
  | some p =>
    obtain ⟨xs,s⟩:=p
    have HDS:=yh (HCONS.out.trans (show _ = some (.mk 4 false 0 [] [] xs,s) by rw [hr];rfl))
    clear HCONS
    have HCONS:=HDS
    clear HDS
    go_wp2_with (first
     | (go_at_call 105;refine (Kax _).mono ?_;rintro e W2 ⟨rfl,rfl⟩)
     | (go_at_call 110;refine HC.out.mono ?_;rintro e W1 ⟨rfl,s1,t1⟩
        (
         obtain ⟨hfs,hv3,st3⟩:=Kb7 hq t1 s1 #[.int .i64 4,.bool false,.int .i64 0,.string ⟨#[]⟩,.slice none 0 0,.slice none 0 0]
         have c50:=Kab (o:=0) hv3.p5 rfl
         have c2:=Kab (o:=0) hv3.p2 rfl
         have HFS:=yh hfs
         have HV3:=yh (And.intro hv3 st3)
         have HN:=yh (rrowsV_any (a1:=some ⟨W.heap.size,0,none⟩) (a2:=some ⟨W.heap.size + 1,0,none⟩) el_val (rdVal d) (kv0:=.slice none 0 0) hrl st3 (fun _ W' kv=>VS W q ((d : Int) + 1) W1.heap.size #[.int .i64 4,.bool false,.int .i64 0,.string ⟨#[]⟩,.slice none 0 0,.slice none 0 0] W' ∧ kv = .slice none 0 0) (fun W'=>RTo q W W')
         ⟨fun {m Wx Wy kv} hj hsz hbw hk=>⟨hj.1.keep hsz fun b hb1 hq1=>hk b (by have:=hj.1.lt;have:=hj.1.tr.size;have:=hj.1.lo;omega) hq1 (.inl (by have:=hv3.lt;have:=hv3.tr.size;have:=hv3.lo;omega)),hj.2⟩,fun {m Wx kv} hj b hb1=>(by rw [hj.2] at hb1;simp [Value.ownBlock] at hb1)⟩
         (fun m W' kv hj=>hj.1.tr) ⟨hv3,rfl⟩ (fun m Wx kv l' hj hsz hstx hlx _=>(rinner_any HN0.out (by omega) hj.1 hstx hlx).mono fun e W' hres=>by
           cases hdx : rdVal d l' with
           | none=>rw [hdx] at hres;obtain ⟨ta,hba,hea⟩:=hres.none;exact ⟨hea,hj.1.tr.trans ta,hba⟩
           | some px =>
             obtain ⟨vx,sx⟩:=px
             rw [hdx] at hres
             obtain ⟨ta,hba,vv,hea,⟨csx,hcx,hox⟩,hsx⟩:=hres.some
             subst hcx
             have hle : sx.length ≤ l'.length:=by
              obtain ⟨e1,_⟩:=(rt_val d).sound _ _ _ hdx
              have:=congrArg List.length e1
              rw [List.length_append] at this
              omega
             exact ⟨csx,.slice none 0 0,hea,⟨ta.size,fun b hb1 hq1 _ _=>ta.keep b hb1 hq1,hox.imp fun b _ hb1=>⟨hb1,by simp [Value.ownBlock]⟩,hsx,⟨hj.1.step ta,rfl⟩,.inl (by rw [hj.2])⟩,hle⟩))
         rw [hr] at HN
         have HIN:=yh (Kag (P:=Tryz.prog) Tryz.underlying170 rfl (Kab (o:=0) hv3.p6 rfl))
         clear hfs hv3 st3 s1 t1 HC))
     | ((with_reducible apply Kae);exact HFS.out;exact rfl;exact rfl;clear HFS;generalize hW3 : World.setRow _ _ _ = W3 at *;clear hW3)
     | ((with_reducible apply Kal);exact HIN.out;exact rfl;clear HIN)
     | (go_at_call 124;refine HN.out.mono ?_;rintro e W5 ⟨vr,kv,rfl,hinv,_⟩
        (
         obtain ⟨pl,cl,rfl⟩:=hinv.row.slice
         have hV5:=hinv.j.1
         have howns : VOwn ((W5.setCell ⟨W1.heap.size,5,none⟩ (.slice pl xs.length cl))) (fun b=>W.heap.size + 3 ≤ b) (.mk 4 false 0 [] [] xs) #[.int .i64 4,.bool false,.int .i64 0,.string ⟨#[]⟩,.slice none 0 0,.slice pl xs.length cl]:=by
          have hg:=hinv.row.own el_val
          have hlow:=GOwn.low (f:=fun v=>v) hg
          rw [List.map_id'] at hlow
          have hset : ∀ b,b ≠ W1.heap.size → (W5.setCell ⟨W1.heap.size,5,none⟩ (.slice pl xs.length cl)).heap[b]? = W5.heap[b]?:=fun b hb1=>Below.heap_setCell _ _ _ _ hb1
          have hx : VOwn W5 (fun b=>W3.heap.size ≤ b) (.mk 4 false 0 [] [] xs) #[.int .i64 4,.bool false,.int .i64 0,.string ⟨#[]⟩,.slice none 0 0,.slice pl xs.length cl] :=
           Kc0.2 ⟨_,_,rfl,⟨⟨by simp,.inl ⟨rfl,rfl⟩⟩,fun g hg=>by simp [Value.ownBlock] at hg⟩,hlow.imp fun b _ hb1=>hb1.1⟩
          exact (hx.keep (w':=W5.setCell ⟨W1.heap.size,5,none⟩ (.slice pl xs.length cl)) fun b hb1 _=>hset b (by have:=HV3.out.1.lt;omega)).imp fun b _ hb1=>by have:=HV3.out.1.lt;have:=HV3.out.1.lo;omega
         generalize xs.length = nl at *
         have hVn : VS W q ((d : Int) + 1) W1.heap.size #[.int .i64 4,.bool false,.int .i64 0,.string ⟨#[]⟩,.slice none 0 0,.slice pl nl cl] (W5.setCell ⟨W1.heap.size,5,none⟩ (.slice pl nl cl)):=by simpa using hV5.set 5 (.slice pl nl cl)
         have hstn:=hV5.setR hinv.st 5 (.slice pl nl cl)
         have HST:=yh (put_vas (p:=pl) (n:=nl) (c:=cl) (Kab (o:=5) hV5.p5 rfl) (Kav (o:=5) hV5.p5))
         obtain ⟨f1,f2,f3,f4,f5,f6,f7⟩:=hVn.fin rfl (ones6 _ _ _ _ rfl rfl) hstn
         have HL5:=yh f1
         have HS4:=yh f2
         have HLD:=yh f3
         have HF:=yh (And.intro f4 (And.intro f5 (And.intro f6 f7)))
         clear f1 f2 f3 f4 f5 f6 f7
         have HO:=yh howns
         clear hV5 hVn hstn howns HN))
     | ((with_reducible apply Kae);exact HST.out;exact rfl;exact rfl;clear HST)
     | ((with_reducible apply Kal);exact HL5.out;exact rfl)
     | ((with_reducible apply Kae);exact HS4.out;exact rfl;exact rfl))
    refine bodyPost_ret (Kan rfl _ _ ⟨W.heap.size + 2,0,none⟩ _ rfl HLD.out) rfl ?_
    exact Reads.of HCONS.out ⟨HF.out.2.1,HF.out.2.2.1,_,rfl,⟨_,rfl,HF.out.2.2.2 (fun b=>W.heap.size + 3 ≤ b) _ (fun b hb=>hb) HO.out⟩,HF.out.1⟩
theorem rvalue_map {w : World} {d : Nat} (hv : RVal w d) (hd : d + 1 ≤ 64) {W : World} {q : Nat} {l : List UInt8} (h : RSt 141 w W q l) (hl : l.length ≤ 1000000) (hlp : 0 < l.length) {c : Nat} (hc0 : (l[0]).toNat = c) (hc : c = 5) :
 Calls Tryz.prog 71 #[.pointer (some ⟨q,0,none⟩),.int .i64 ((d : Int) + 1)] W (Reads w W q (rdVal (d + 1) l) (okVal W)):=by
 have zd : (d : Int) ≤ 63:=by omega
 have hb : Below W.heap.size W (((W.alloc (.cells #[.pointer (some ⟨q,0,none⟩)] 95)).alloc (.cells #[.int .i64 ((d : Int) + 1)] 3)).alloc (.cells #[.int .i64 0,.bool false,.int .i64 0,.string ⟨#[]⟩,.slice none 0 0,.slice none 0 0] 48)):=((Kac _).alloc (by simp) _).alloc (by simp;omega) _
 have h1:=h.below hb
 have hq:=h.lt
 have hcons:=Kcy (d:=d) hlp
 have hc256:=(l[0]).toNat_lt
 have HC:=yh (Kcw h1 hlp)
 rw [hc0] at hcons hc256 HC
 have hrl : (l.drop 1).length ≤ 1000000:=by rw [List.length_drop];omega
 generalize l.drop 1 = r at *
 subst hc;rw [if_neg (by decide),if_neg (by decide),if_neg (by decide),if_neg (by decide),if_neg (by decide),if_pos rfl] at hcons
 have HCONS:=yh hcons
 clear hb h1 h hcons hc0
 go_enter Tryz.func71,Tryz.ntmps71
 ·have HN0:=yh hv
  clear hv
  cases hr : Ka2 (Dec.seq Kba (rdVal d)) r with
  | none =>
    have HDN:=yh (HCONS.out.trans (show _ = none by rw [hr];rfl))
    clear HCONS
    go_wp2_with (first
     | (go_at_call 105;refine (Kax _).mono ?_;rintro e W2 ⟨rfl,rfl⟩)
     | (go_at_call 110;refine HC.out.mono ?_;rintro e W1 ⟨rfl,s1,t1⟩
        (
         obtain ⟨hfs,hv3,st3⟩:=Kb7 hq t1 s1 #[.int .i64 5,.bool false,.int .i64 0,.string ⟨#[]⟩,.slice none 0 0,.slice none 0 0]
         have c50:=Kab (o:=0) hv3.p5 rfl
         have c2:=Kab (o:=0) hv3.p2 rfl
         have HFS:=yh hfs
         have HV3:=yh (And.intro hv3 st3)
         have HN:=yh (rrowsM_any (a1:=some ⟨W.heap.size,0,none⟩) (a2:=some ⟨W1.heap.size,0,none⟩) (a3:=some ⟨W1.heap.size + 1,0,none⟩) el_pair (Dec.seq Kba (rdVal d)) (kv0:=.slice none 0 0) hrl st3 (MapR W (((W1.alloc (.cells #[.int .i64 5,.bool false,.int .i64 0,.string ⟨#[]⟩,.slice none 0 0,.slice none 0 0] 48)).alloc (.cells #[.nilFunc] 170)).setRow (W1.heap.size + 1) #[innerV W.heap.size]) q d W1.heap.size) (fun W'=>RTo q W W')
         (MapR.keepJ hv3.lt hv3.lo) (fun m W' kv hj=>hj.1.tr) ⟨hv3,⟨⟨by simp,.inl ⟨rfl,rfl⟩⟩,fun g hg=>by simp [Value.ownBlock] at hg⟩⟩
         (fun m Wx kv l' hj hsz hstx hlx hmx=>(rkv_any HN0.out (by omega) hv3.lt hj hsz hstx hlx hmx).mono fun e W' hres=>by
           cases hdx : Dec.seq Kba (rdVal d) l' with
           | none=>rw [hdx] at hres;exact hres
           | some px=>rw [hdx] at hres;exact hres))
         rw [hr] at HN
         have HIN:=yh (Kag (P:=Tryz.prog) Tryz.underlying170 rfl (Kab (o:=0) hv3.p6 rfl))
         clear hfs hv3 st3 s1 t1 HC))
     | ((with_reducible apply Kae);exact HFS.out;exact rfl;exact rfl;clear HFS;generalize hW3 : World.setRow _ _ _ = W3 at *;clear hW3)
     | ((with_reducible apply Kal);exact HIN.out;exact rfl;clear HIN)
     | (go_at_call 124;refine HN.out.mono ?_;rintro e W5 ⟨rfl,h5⟩;have H5:=yh h5;clear h5))
    exact ⟨rfl,Reads.of HDN.out ⟨H5.out.1,H5.out.2,rfl⟩⟩
  | some p =>
    obtain ⟨xs,s⟩:=p
    have HDS:=yh (HCONS.out.trans (show _ = some (.mk 5 false 0 [] (xs.map Prod.fst) (xs.map Prod.snd),s) by rw [hr];rfl))
    clear HCONS
    have HCONS:=HDS
    clear HDS
    go_wp2_with (first
     | (go_at_call 105;refine (Kax _).mono ?_;rintro e W2 ⟨rfl,rfl⟩)
     | (go_at_call 110;refine HC.out.mono ?_;rintro e W1 ⟨rfl,s1,t1⟩
        (
         obtain ⟨hfs,hv3,st3⟩:=Kb7 hq t1 s1 #[.int .i64 5,.bool false,.int .i64 0,.string ⟨#[]⟩,.slice none 0 0,.slice none 0 0]
         have c50:=Kab (o:=0) hv3.p5 rfl
         have c2:=Kab (o:=0) hv3.p2 rfl
         have HFS:=yh hfs
         have HV3:=yh (And.intro hv3 st3)
         have HN:=yh (rrowsM_any (a1:=some ⟨W.heap.size,0,none⟩) (a2:=some ⟨W1.heap.size,0,none⟩) (a3:=some ⟨W1.heap.size + 1,0,none⟩) el_pair (Dec.seq Kba (rdVal d)) (kv0:=.slice none 0 0) hrl st3 (MapR W (((W1.alloc (.cells #[.int .i64 5,.bool false,.int .i64 0,.string ⟨#[]⟩,.slice none 0 0,.slice none 0 0] 48)).alloc (.cells #[.nilFunc] 170)).setRow (W1.heap.size + 1) #[innerV W.heap.size]) q d W1.heap.size) (fun W'=>RTo q W W')
         (MapR.keepJ hv3.lt hv3.lo) (fun m W' kv hj=>hj.1.tr) ⟨hv3,⟨⟨by simp,.inl ⟨rfl,rfl⟩⟩,fun g hg=>by simp [Value.ownBlock] at hg⟩⟩
         (fun m Wx kv l' hj hsz hstx hlx hmx=>(rkv_any HN0.out (by omega) hv3.lt hj hsz hstx hlx hmx).mono fun e W' hres=>by
           cases hdx : Dec.seq Kba (rdVal d) l' with
           | none=>rw [hdx] at hres;exact hres
           | some px=>rw [hdx] at hres;exact hres))
         rw [hr] at HN
         have HIN:=yh (Kag (P:=Tryz.prog) Tryz.underlying170 rfl (Kab (o:=0) hv3.p6 rfl))
         clear hfs hv3 st3 s1 t1 HC))
     | ((with_reducible apply Kae);exact HFS.out;exact rfl;exact rfl;clear HFS;generalize hW3 : World.setRow _ _ _ = W3 at *;clear hW3)
     | ((with_reducible apply Kal);exact HIN.out;exact rfl;clear HIN)
     | (go_at_call 124;refine HN.out.mono ?_;rintro e W5 ⟨vr,kv,rfl,hinv,_⟩
        (
         obtain ⟨pl,cl,rfl⟩:=hinv.row.slice
         have hV5:=hinv.j.1
         obtain ⟨pk,nk,ck,rfl⟩ : ∃ pk nk ck,kv = .slice pk nk ck:=by
          rcases hinv.j.2.1.2 with ⟨h,_⟩ | ⟨g,cap,cur,h,_⟩ <;> exact ⟨_,_,_,h⟩
         have howns : VOwn ((W5.setCell ⟨W1.heap.size,5,none⟩ (.slice pl xs.length cl))) (fun b=>W.heap.size + 3 ≤ b) (.mk 5 false 0 [] (xs.map Prod.fst) (xs.map Prod.snd)) #[.int .i64 5,.bool false,.int .i64 0,.string ⟨#[]⟩,.slice pk nk ck,.slice pl xs.length cl]:=by
          have hlow:=GOwn.low (f:=fun p : List UInt8 × V=>p.2) (hinv.row.own el_pair)
          have hset : ∀ b,b ≠ W1.heap.size → (W5.setCell ⟨W1.heap.size,5,none⟩ (.slice pl xs.length cl)).heap[b]? = W5.heap[b]?:=fun b hb1=>Below.heap_setCell _ _ _ _ hb1
          have hx : VOwn W5 (fun b=>W3.heap.size ≤ b) (.mk 5 false 0 [] (xs.map Prod.fst) (xs.map Prod.snd)) #[.int .i64 5,.bool false,.int .i64 0,.string ⟨#[]⟩,.slice pk nk ck,.slice pl xs.length cl] :=
           Kc0.2 ⟨_,_,rfl,by have hk:=hinv.j.2;rw [List.length_map,List.map_map];exact hk,hlow.imp fun b _ hb1=>hb1.1⟩
          exact (hx.keep (w':=W5.setCell ⟨W1.heap.size,5,none⟩ (.slice pl xs.length cl)) fun b hb1 _=>hset b (by have:=HV3.out.1.lt;omega)).imp fun b _ hb1=>by have:=HV3.out.1.lt;have:=HV3.out.1.lo;omega
         generalize xs.length = nl at *
         have hVn : VS W q ((d : Int) + 1) W1.heap.size #[.int .i64 5,.bool false,.int .i64 0,.string ⟨#[]⟩,.slice pk nk ck,.slice pl nl cl] (W5.setCell ⟨W1.heap.size,5,none⟩ (.slice pl nl cl)):=by simpa using hV5.set 5 (.slice pl nl cl)
         have hstn:=hV5.setR hinv.st 5 (.slice pl nl cl)
         have HST:=yh (put_vas (p:=pl) (n:=nl) (c:=cl) (Kab (o:=5) hV5.p5 rfl) (Kav (o:=5) hV5.p5))
         obtain ⟨f1,f2,f3,f4,f5,f6,f7⟩:=hVn.fin rfl (ones6 _ _ _ _ rfl rfl) hstn
         have HL5:=yh f1
         have HS4:=yh f2
         have HLD:=yh f3
         have HF:=yh (And.intro f4 (And.intro f5 (And.intro f6 f7)))
         clear f1 f2 f3 f4 f5 f6 f7
         have HO:=yh howns
         clear hV5 hVn hstn howns HN))
     | ((with_reducible apply Kae);exact HST.out;exact rfl;exact rfl;clear HST)
     | ((with_reducible apply Kal);exact HL5.out;exact rfl)
     | ((with_reducible apply Kae);exact HS4.out;exact rfl;exact rfl))
    refine bodyPost_ret (Kan rfl _ _ ⟨W.heap.size + 2,0,none⟩ _ rfl HLD.out) rfl ?_
    exact Reads.of HCONS.out ⟨HF.out.2.1,HF.out.2.2.1,_,rfl,⟨_,rfl,HF.out.2.2.2 (fun b=>W.heap.size + 3 ≤ b) _ (fun b hb=>hb) HO.out⟩,HF.out.1⟩
theorem rvalue_end {w : World} {d : Nat} (hd : d + 1 ≤ 64) {W : World} {q : Nat} (h : RSt 141 w W q []) :
 Calls Tryz.prog 71 #[.pointer (some ⟨q,0,none⟩),.int .i64 ((d : Int) + 1)] W (Reads w W q (rdVal (d + 1) []) (okVal W)):=by
 have zd : (d : Int) ≤ 63:=by omega
 have hb : Below W.heap.size W (((W.alloc (.cells #[.pointer (some ⟨q,0,none⟩)] 95)).alloc (.cells #[.int .i64 ((d : Int) + 1)] 3)).alloc (.cells #[.int .i64 0,.bool false,.int .i64 0,.string ⟨#[]⟩,.slice none 0 0,.slice none 0 0] 48)):=((Kac _).alloc (by simp) _).alloc (by simp;omega) _
 have HC:=yh (byte_bad (h.below hb))
 have HB:=yh (And.intro hb (Kaa h.b hb))
 clear hb h
 rw [rdVal_nil]
 go_enter Tryz.func71,Tryz.ntmps71
 go_wp2_with (first
  | (go_at_call 105;refine (Kax _).mono ?_;rintro e W2 ⟨rfl,rfl⟩)
  | (go_at_call 110;refine HC.out.mono ?_;rintro e W1 ⟨rfl,rfl⟩))
 exact ⟨rfl,RTo.of_below HB.out.1,HB.out.2,rfl⟩
theorem rvalue_any (w : World) : ∀ d,d ≤ 64 → RVal w d
 | 0,_=>rvalue_zero w
 | d + 1,hd=>by
   have hv:=rvalue_any w d (by omega)
   intro W q l h hl
   have zc : (((d + 1 : Nat) : Int)) = (d : Int) + 1:=by omega
   rw [zc]
   by_cases hlp : 0 < l.length
   ·have hc : (l[0]).toNat = 0 ∨ (l[0]).toNat = 1 ∨ (l[0]).toNat = 2 ∨ (l[0]).toNat = 3 ∨ (l[0]).toNat = 4 ∨ (l[0]).toNat = 5 ∨ (l[0]).toNat = 6 ∨ (l[0]).toNat = 7 ∨ 8 ≤ (l[0]).toNat:=by omega
    rcases hc with hc | hc | hc | hc | hc | hc | hc | hc | hc
    ·exact rvalue_nul hv hd h hl hlp hc rfl
    ·exact rvalue_boo hv hd h hl hlp hc rfl
    ·exact rvalue_int hv hd h hl hlp hc rfl
    ·exact rvalue_txt hv hd h hl hlp hc rfl
    ·exact rvalue_lst hv hd h hl hlp hc rfl
    ·exact rvalue_map hv hd h hl hlp hc rfl
    ·exact rvalue_nod hv hd h hl hlp hc rfl
    ·exact rvalue_rel hv hd h hl hlp hc rfl
    ·exact rvalue_bad hv hd h hl hlp rfl hc
   ·obtain rfl : l = []:=List.eq_nil_of_length_eq_zero (by omega)
    exact rvalue_end hd h
structure BX (T : TypeId) (W : World) (q : Nat) (z : Array Value) (B : Nat) (cs : Array Value) (W' : World) : Prop where
 p2 : W'.heap[W.heap.size]? = some (.cells z T (0,0))
 p3 : W'.heap[B]? = some (.cells cs T (0,0))
 lo : W.heap.size + 1 ≤ B
 ql : q < W.heap.size
 tr : RTo q W W'
section
variable {T t : TypeId} {K k : Nat} {z cs : Array Value} {w W W1 W' W'' : World} {q B : Nat} {l' : List UInt8}
theorem BX.lt (h : BX T W q z B cs W') : B < W'.heap.size:=(Array.getElem?_eq_some_iff.1 h.p3).1
theorem BX.step (h : BX T W q z B cs W') (t : RTo q W' W'') : BX T W q z B cs W'':=by
 have h1:=h.lt
 have h2:=h.lo
 have h3:=h.ql
 exact ⟨(t.keep _ (by omega) (by omega)).trans h.p2,(t.keep _ h1 (by omega)).trans h.p3,h.lo,h.ql,h.tr.trans t⟩
theorem BX.start (hq : q < W.heap.size) (t1 : RTo q (W.alloc (.cells z T)) W1) : BX T W q z W1.heap.size cs (W1.alloc (.cells cs T)):=by
 have hs : (W.alloc (.cells z T)).heap.size = W.heap.size + 1:=by simp
 have h1:=t1.size
 have hb:=Kac (w:=W1) (.cells cs T)
 have hb0:=Kac (w:=W) (.cells z T)
 exact ⟨(hb.block _ (by omega)).trans ((t1.keep _ (by omega) (by omega)).trans (heap_alloc_new W _)),heap_alloc_new W1 _,by omega,hq,
  ⟨by have:=hb.size;omega,fun b hb1 hq1=>(hb.block _ (by omega)).trans ((t1.keep _ (by omega) hq1).trans (hb0.block b hb1))⟩⟩
theorem BX.turn (h : BX T W q z B cs W') {cs' : Array Value} (hB : W''.heap[B]? = some (.cells cs' T (0,0))) (ho : ∀ b,b ≠ B → W''.heap[b]? = W'.heap[b]?) (hs : W''.heap.size = W'.heap.size) : BX T W q z B cs' W'':=by
 have h2:=h.lo
 exact ⟨(ho _ (by omega)).trans h.p2,hB,h.lo,h.ql,⟨by rw [hs];exact h.tr.size,fun b hb1 hq1=>(ho _ (by omega)).trans (h.tr.keep b hb1 hq1)⟩⟩
theorem BX.set (h : BX T W q z B cs W') (i : Nat) (u : Value) : BX T W q z B (cs.setIfInBounds i u) (W'.setCell ⟨B,i,none⟩ u) :=
 h.turn (Kcd u h.p3) (fun b hb=>Below.heap_setCell _ _ _ _ hb) (by simp [World.setCell])
theorem BX.other (h : BX T W q z B cs W') (g : RSt 141 w W' q l') (ho : ∀ b,b ≠ B → W''.heap[b]? = W'.heap[b]?) (hB : Below w.heap.size w W'') : RSt 141 w W'' q l' :=
 g.other hB (ho q (by have:=h.lo;have:=h.ql;omega))
theorem BX.setR (h : BX T W q z B cs W') (g : RSt 141 w W' q l') (i : Nat) (u : Value) : RSt 141 w (W'.setCell ⟨B,i,none⟩ u) q l' :=
 h.other g (fun b hb=>Below.heap_setCell _ _ _ _ hb) (Kbh g.b (by have:=g.base;have:=h.lo;have:=h.ql;omega) u)
theorem Kbz (h : Below w.heap.size w W') (hB : w.heap.size ≤ B) (x : Array Value) : Below w.heap.size w (W'.setRow B x):=by
 have hs : (W'.setRow B x).heap.size = W'.heap.size:=by simp
 have hgs:=h.size
 obtain ⟨b1,b2,b3,b4,b5⟩:=h
 exact ⟨b1,b2,b3,by rw [hs];exact hgs,fun b hb=>(setRow_other W' B b x (by omega)).trans (b5 b hb)⟩
theorem BX.fin (hT : StT Tryz.prog T K) (h : BX T W q z B cs W') (hs : cs.size = K) (hz : z.size = K) (h1 : ∀ u ∈ cs.toList,u.oneCell' = true) (g : RSt 141 w W' q l') :
 (loadVar T ⟨B,0,none⟩).run Tryz.prog W' = .ok (.agg cs) W' ∧ (storeVar T ⟨W.heap.size,0,none⟩ (.agg cs)).run Tryz.prog W' = .ok () (W'.setRow W.heap.size cs) ∧
 (loadVar T ⟨W.heap.size,0,none⟩).run Tryz.prog (W'.setRow W.heap.size cs) = .ok (.agg cs) (W'.setRow W.heap.size cs) ∧ RSt 141 w (W'.setRow W.heap.size cs) q l' ∧ RTo q W (W'.setRow W.heap.size cs) ∧ Below w.heap.size w (W'.setRow W.heap.size cs) ∧
 (∀ b,b ≠ W.heap.size → (W'.setRow W.heap.size cs).heap[b]? = W'.heap[b]?):=by
 have ho : ∀ b,b ≠ W.heap.size → (W'.setRow W.heap.size cs).heap[b]? = W'.heap[b]?:=fun b hb=>setRow_other W' _ b cs hb
 have hq:=h.ql
 have hbase:=g.base
 have hsz : (W'.setRow W.heap.size cs).heap.size = W'.heap.size:=by simp
 have hB : Below w.heap.size w (W'.setRow W.heap.size cs):=Kbz g.b (by omega) cs
 exact ⟨hT.get hs h.p3,hT.put hs h1 h.p2 hz,hT.get hs (setRow_heap W' _ z cs _ _ h.p2),g.other hB (ho q (by omega)),⟨by rw [hsz];exact h.tr.size,fun b hb hqb=>(ho b (by omega)).trans (h.tr.keep b hb hqb)⟩,hB,ho⟩
end
theorem put_props {w : World} {ad : Addr} {p : Option Addr} {n c : Nat} {u : Value} (hc : w.cell? ad = some u) (hf : w.frozen? ad = false) : (storeVar 68 ad (.slice p n c)).run Tryz.prog w = .ok () (w.setCell ad (.slice p n c)):=by
 simp [storeVar,go_sem,hc,hf]
theorem rrowsS_any {α : Type} {E : World → (Nat → Prop) → α → Array Value → Prop} (hE : EL E 1) (hstr : ∀ w P x a,E w P x a → ∃ s : List UInt8,a = #[.string (strB s)]) (d : Dec α) {w W : World} {q : Nat} {l : List UInt8} {kv0 : Value} (hl : l.length ≤ 1000000)
 (h : RSt 141 w W q l) (J : List α → World → Value → Prop) (Jx : World → Prop) (hJ : KeepJ w W q J) (hx : ∀ m W' kv,J m W' kv → Jx W') (h0 : J [] W kv0)
 (one : ∀ m W1 kv l',J m W1 kv → W.heap.size ≤ W1.heap.size → RSt 141 w W1 q l' → l'.length ≤ 1000000 → m.length ≤ 1000000 → Calls Tryz.prog 107 #[.pointer (some ⟨q,0,none⟩)] W1 fun e W2=>match d l' with
   | some (x,s)=>∃ cs kv',e = .returned (cs.getD 0 undef) ∧ ROne 141 E w W q J m W1 kv x s cs kv' W2 ∧ s.length ≤ l'.length
   | none=>e = given ∧ Jx W2 ∧ Below w.heap.size w W2) :
 Calls Tryz.prog 106 #[.pointer (some ⟨q,0,none⟩),.func (.func 107) #[.pointer (some ⟨q,0,none⟩)] #[]] W (RPost 141 E 9 1 w W q J Jx l.length (Ka2 d l)):=by
 have hqW:=h.lt
 have HN:=yh (Ka0 h)
 have HO:=yh one
 have HJ:=yh hJ
 have HX:=yh hx
 have H0:=yh h0
 clear one hJ hx h0 h
 cases hr : rdN 0 0 l with
 | none =>
   rw [hr] at HN
   clear HO
   go_enter Tryz.func106,Tryz.ntmps106
   go_wp2_with (go_at_call 55;refine HN.out.mono ?_;rintro e W1 h1;obtain ⟨t1,hb1,rfl⟩:=h1.none;have H1:=yh (And.intro t1 hb1);clear h1 t1 hb1)
   exact ⟨rfl,RPost.of_none (Kc6 hr) ⟨HX.out _ _ _ (HJ.out.keep H0.out H1.out.1.size H1.out.2 (fun b hb hq _=>H1.out.1.keep b hb hq)),H1.out.2⟩⟩
 | some p =>
   obtain ⟨n,r⟩:=p
   rw [hr] at HN
   have hn:=Keh hr
   have hrl : r.length ≤ l.length:=by
    obtain ⟨h1,_⟩:=Kcu.sound _ _ _ hr
    rw [h1,List.length_append];omega
   have z1 : (n : Int) < 18446744073709551616:=by omega
   have z2 : (r.length : Int) ≤ 1000000:=by omega
   by_cases hnr : n ≤ r.length
   ·have HRO:=yh (Ked (d:=d) hr hnr)
    have g1 : (n : Int) ≤ (r.length : Int):=by omega
    go_enter Tryz.func106,Tryz.ntmps106
    go_wp2_with (first
     | (go_at_call 55;refine HN.out.mono ?_;rintro e W1 h1
        (
         obtain ⟨t1,hb1,v1,rfl,rfl,s1⟩:=h1.some
         obtain ⟨p1,c1,hbx,_⟩:=s1.box
         have hcq:=Kab (o:=0) hbx rfl
         have H1:=yh (And.intro t1 (And.intro hb1 s1))
         clear h1 s1 t1 hb1 hbx))
     | (go_at_call 105;refine (Kax _).mono ?_;rintro e W2 ⟨rfl,rfl⟩))
    go_loopw [6,21] (fun ov i wr=>∃ (m : List α) (a : Option Addr) (n1 c1 : Nat),m.length ≤ n ∧ i = .int .u64 (m.length : Int) ∧ ov = .slice a n1 c1 ∧ Hid (∃ kv l',RInv 141 E 9 1 w W q J m wr kv (.slice a n1 c1) l' ∧ RepAt d n r m l' ∧ l'.length ≤ r.length)) (fun _ i _=>n - (intOf i).toNat)
    case atStart=>exact ⟨[],none,0,0,Nat.zero_le _,rfl,rfl,yh ⟨kv0,r,⟨H1.out.2.2,HJ.out.keep H0.out H1.out.1.size H1.out.2.1 (fun b hb hq _=>H1.out.1.keep b hb hq),GIn.start,H1.out.1.size,hqW⟩,RepAt.start _ _ _,Nat.le_refl _⟩⟩
    case round =>
     obtain ⟨m,a,n1,c1,hm,rfl,rfl,HI⟩:=hrel
     obtain ⟨kv,l',hinv,hrep,hll⟩:=HI.out
     clear HI H1 HN H0 hcq
     by_cases hlt : m.length < n
     ·have g2 : (m.length : Int) < (n : Int):=by omega
      have hone:=HO.out m wr kv l' hinv.j hinv.size hinv.st (by omega) (by omega)
      cases hd : d l' with
      | none =>
        rw [hd] at hone
        have hfail:=hrep.fail hlt hd
        have HC:=yh hone
        have HFL:=yh (HRO.out.trans hfail)
        clear hone hinv hrep hfail
        go_wp2_with (go_at_call 107;refine HC.out.mono ?_;rintro e W2 ⟨rfl,hg,hbw⟩;have HG:=yh (And.intro hg hbw);clear hg hbw HC)
        exact ⟨rfl,RPost.of_none HFL.out HG.out⟩
      | some p =>
        obtain ⟨x,s⟩:=p
        rw [hd] at hone
        have hstep:=hrep.step hlt hd
        have HC:=yh hone
        have HV:=yh (And.intro hinv hstep)
        have hlt1 : m.length + 1 ≤ n:=hlt
        have hm1 : m.length ≤ 1000000:=by omega
        clear hone hinv hrep hstep
        go_wp2_with (first
         | (go_at_call 107;refine HC.out.mono ?_;rintro e W2 ⟨cs,kv2,rfl,hone,hsl⟩
            (
             obtain ⟨s0,rfl⟩:=hstr _ _ _ _ hone.it
             obtain ⟨v4,W4,ha,hinv4⟩:=HV.out.1.step hE gt_str HJ.out hone hm1 45 (Below.refl _ _)
             obtain ⟨a4,n4,c4,rfl⟩ : ∃ a4 n4 c4,v4 = .slice a4 n4 c4:=by obtain ⟨p,c,e⟩:=hinv4.row.slice;exact ⟨_,_,_,e⟩
             have HA:=yh ha
             have HR:=yh (And.intro hinv4 (show s.length ≤ r.length by omega))
             clear ha hinv4
             clear hone HC))
         | ((with_reducible apply Kcv);exact HA.out;exact rfl;exact rfl))
        go_roundw
        case rel=>exact ⟨m ++ [x],a4,n4,c4,by rw [List.length_append];exact hlt1,by rw [List.length_append];go_num,rfl,yh ⟨kv2,s,HR.out.1,HV.out.2,HR.out.2⟩⟩
        case measure=>simp [intOf];omega
     ·have hme : m.length = n:=by omega
      have g2 : ¬ ((m.length : Int) < (n : Int)):=by omega
      have hdone:=hrep.done hme
      have HD:=yh (HRO.out.trans hdone)
      have HF:=yh (And.intro hinv (show l'.length ≤ l.length by omega))
      clear hinv hrep hdone
      go_wp2
      go_ret
      exact RPost.of_some HD.out HF.out.1 HF.out.2
   ·have HRO:=yh (Kct (d:=d) hr hnr)
    have g1 : ¬ ((n : Int) ≤ (r.length : Int)):=by omega
    clear HO
    go_enter Tryz.func106,Tryz.ntmps106
    go_wp2_with (first
     | (go_at_call 55;refine HN.out.mono ?_;rintro e W1 h1
        (
         obtain ⟨t1,hb1,v1,rfl,rfl,s1⟩:=h1.some
         obtain ⟨p1,c1,hbx,_⟩:=s1.box
         have hcq:=Kab (o:=0) hbx rfl
         have H1:=yh (And.intro t1 hb1)
         clear h1 s1 t1 hb1 hbx))
     | (go_at_call 105;refine (Ka8 _).mono ?_;rintro e W2 ⟨rfl,rfl⟩))
    exact ⟨rfl,RPost.of_none HRO.out ⟨HX.out _ _ _ (HJ.out.keep H0.out H1.out.1.size H1.out.2 (fun b hb hq _=>H1.out.1.keep b hb hq)),H1.out.2⟩⟩
theorem rrowsS_reads {α : Type} {E : World → (Nat → Prop) → α → Array Value → Prop} (hE : EL E 1) (hstr : ∀ w P x a,E w P x a → ∃ s : List UInt8,a = #[.string (strB s)]) (d : Dec α) {w W : World} {q : Nat} {l : List UInt8} (hl : l.length ≤ 1000000)
 (h : RSt 141 w W q l)
 (one : ∀ W1 l',RSt 141 w W1 q l' → l'.length ≤ 1000000 → Calls Tryz.prog 107 #[.pointer (some ⟨q,0,none⟩)] W1 (Reads w W1 q (d l') fun x v W2=>∃ cs,v = cs.getD 0 undef ∧ E W2 (fun b=>W1.heap.size ≤ b) x cs))
 (hsh : ∀ l' x s,d l' = some (x,s) → s.length ≤ l'.length) :
 Calls Tryz.prog 106 #[.pointer (some ⟨q,0,none⟩),.func (.func 107) #[.pointer (some ⟨q,0,none⟩)] #[]] W (Reads w W q (Ka2 d l) fun xs v W'=>GOwn E 9 1 W' (fun b=>W.heap.size ≤ b) v xs):=by
 have hq:=h.lt
 refine (rrowsS_any hE hstr d (kv0:=.slice none 0 0) hl h (fun _ W' kv=>RTo q W W' ∧ kv = .slice none 0 0) (fun W'=>RTo q W W') ⟨?_,?_⟩ (fun m W' kv hj=>hj.1) ⟨RTo.refl _ _,rfl⟩ ?_).mono ?_
 ·rintro m W1 W2 kv ⟨h1,rfl⟩ h2 h3 h4
  exact ⟨⟨by have:=h1.size;omega,fun b hb hqb=>(h4 b (by have:=h1.size;omega) hqb (.inl hb)).trans (h1.keep b hb hqb)⟩,rfl⟩
 ·rintro m W1 kv ⟨h1,rfl⟩ b hb
  simp [Value.ownBlock] at hb
 ·rintro m W1 kv l' ⟨h1,rfl⟩ hsz h2 h3 _
  refine (one W1 l' h2 h3).mono ?_
  intro e W2 hr
  cases hd : d l' with
  | none =>
    rw [hd] at hr
    obtain ⟨t,hb,he⟩:=hr.none
    exact ⟨he,h1.trans t,hb⟩
  | some p =>
    obtain ⟨x,s⟩:=p
    rw [hd] at hr
    obtain ⟨t,hb,v,he,⟨cs,rfl,hit⟩,hst⟩:=hr.some
    exact ⟨cs,.slice none 0 0,he,⟨t.size,fun b hb hqb _ _=>t.keep b hb hqb,hE.imp (fun b _ hp=>⟨hp,by simp [Value.ownBlock]⟩) hit,hst,⟨h1.trans t,rfl⟩,.inl rfl⟩,hsh _ _ _ hd⟩
 ·intro e W' hr
  rcases hr.cases with ⟨h1,rfl,h2,h3⟩ | ⟨xs,s,v,kv,h1,rfl,hi,_⟩
  ·rw [h1]
   exact ⟨h2,h3,rfl⟩
  ·rw [h1]
   exact ⟨hi.j.1,hi.st.b,v,rfl,(hi.row.own hE).imp hE fun b _ hp=>hp.1,hi.st⟩
end Go.Proofs.YthdfedfholmbmaaGreatDoor
