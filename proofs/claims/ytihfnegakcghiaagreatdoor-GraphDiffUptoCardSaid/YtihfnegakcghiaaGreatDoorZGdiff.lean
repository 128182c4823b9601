/- GraphDiff, for what is of bulk at most 1048576: the law returns true, and the arguments read as they did. The listed tables of Go's library read as the program's text lays them. -/
import Derived.Test.YtihfnegakcghiaaGreatDoorZGdiffb
import Derived.Test.YtihfnegakcghiaaGreatDoorZGdiffd
import Derived.Test.YtihfnegakcghiaaGreatDoorZGdiffe
import Derived.Test.YtihfnegakcghiaaGreatDoorCards
import Derived.Test.YtihfnegakcghiaaGreatDoorTie
set_option linter.unusedSimpArgs false
set_option linter.unusedVariables false
set_option linter.unnecessarySimpa false
set_option maxRecDepth 100000
set_option maxHeartbeats 64000000
namespace Go.Proofs.YtihfnegakcghiaaGreatDoor
open Go.RowKit
theorem chgRd_flat (W : World) (k i o : Int) : CRd W ⟨k,i,o,node0,rel0⟩ #[.int .i64 k,.int .i64 i,.int .i64 o,.int .i64 0,.slice none 0 0,.slice none 0 0,.int .i64 0,.int .i64 0,.int .i64 0,.string ⟨#[]⟩,.slice none 0 0] :=
 ⟨nodeZ,relZ,rfl,⟨none,0,none,0,rfl,RdS.none W,⟨Nat.le_refl _,by simp [node0],fun _=>rfl⟩,fun ad had=>by cases had⟩,⟨none,0,rfl,by simp [rel0],⟨Nat.le_refl _,by simp [rel0],fun _=>rfl⟩,fun ad had=>by cases had⟩⟩
theorem chgRd_node {W : World} {n : NodeD} {cs : Array Value} (h : NRd W n cs) : CRd W (comeN n) (#[.int .i64 0,.int .i64 0,.int .i64 0] ++ cs ++ relZ) :=
 ⟨cs,relZ,rfl,h,⟨none,0,rfl,by simp [rel0,comeN],⟨Nat.le_refl _,by simp [rel0,comeN],fun _=>rfl⟩,fun ad had=>by cases had⟩⟩
theorem chgRd_rel {W : World} {n : RelD} {cs : Array Value} (h : RRd W n cs) : CRd W (comeR n) (#[.int .i64 1,.int .i64 0,.int .i64 0] ++ nodeZ ++ cs) :=
 ⟨nodeZ,cs,rfl,⟨none,0,none,0,rfl,RdS.none W,⟨Nat.le_refl _,by simp [node0,comeR],fun _=>rfl⟩,fun ad had=>by cases had⟩,h⟩
theorem fa_idR (b o : Nat) (W : World) : (Instr.fieldAt 49 (.pointer (some ⟨b,o,none⟩)) 0).run Tryz.prog W = .ok (.pointer (some ⟨b,o,none⟩)) W:=by simp [go_sem]
theorem fa_idN (b o : Nat) (W : World) : (Instr.fieldAt 45 (.pointer (some ⟨b,o,none⟩)) 0).run Tryz.prog W = .ok (.pointer (some ⟨b,o,none⟩)) W:=by simp [go_sem]
def diffQ (a b : GraphD) : List ChangeD :=
 (leftD RelD.id a.rels b.rels).map goneR ++ (leftD NodeD.id a.nodes b.nodes).map goneN ++ (newD NodeD.id Kbc a.nodes b.nodes).map comeN ++ (newD RelD.id Kbd a.rels b.rels).map comeR ++ (if a.nextNode = b.nextNode ∧ a.nextRel = b.nextRel then [] else [⟨4,b.nextNode,b.nextRel,node0,rel0⟩])
theorem VRow.len {α : Type} {F : World → α → Array Value → Prop} {t : TypeId} {K : Nat} {V w W : World} {v : Value} {l m : List α} (h : VRow F t K V w W v l) (e : l = m) : VRow F t K V w W v m:=e ▸ h
section
variable {w W : World} {a b : GraphD} {pn cn2 pr cr qn dn qr dr : Option Addr}
end
structure DfF (w W : World) (a b : GraphD) (pn pr qn qr : Option Addr) (cn cr dn dr : Nat) : Prop where
 x0 : W.cell? ⟨w.heap.size,0,none⟩ = some (.slice pn a.nodes.length cn)
 x1 : W.cell? ⟨w.heap.size,1,none⟩ = some (.slice pr a.rels.length cr)
 x2 : W.cell? ⟨w.heap.size,2,none⟩ = some (.int .i64 a.nextNode)
 x3 : W.cell? ⟨w.heap.size,3,none⟩ = some (.int .i64 a.nextRel)
 y0 : W.cell? ⟨w.heap.size + 1,0,none⟩ = some (.slice qn b.nodes.length dn)
 y1 : W.cell? ⟨w.heap.size + 1,1,none⟩ = some (.slice qr b.rels.length dr)
 y2 : W.cell? ⟨w.heap.size + 1,2,none⟩ = some (.int .i64 b.nextNode)
 y3 : W.cell? ⟨w.heap.size + 1,3,none⟩ = some (.int .i64 b.nextRel)
theorem DfF.below {w W W' : World} {a b : GraphD} {pn pr qn qr : Option Addr} {cn cr dn dr : Nat} (h : DfF w W a b pn pr qn qr cn cr dn dr) (g : Below W.heap.size W W') : DfF w W' a b pn pr qn qr cn cr dn dr :=
 ⟨Kad g (ltOf h.x0) h.x0,Kad g (ltOf h.x1) h.x1,Kad g (ltOf h.x2) h.x2,Kad g (ltOf h.x3) h.x3,Kad g (ltOf h.y0) h.y0,Kad g (ltOf h.y1) h.y1,Kad g (ltOf h.y2) h.y2,Kad g (ltOf h.y3) h.y3⟩
theorem refdiff_any {w : World} {a b : GraphD} {x y : Array Value} (ha : GrRd w a x) (hb : GrRd w b y) (hra : Rise NodeD.id a.nodes ∧ Rise RelD.id a.rels) (hla : a.nodes.length + a.rels.length ≤ 65536) (hlb : b.nodes.length + b.rels.length ≤ 65536) : Calls Tryz.prog 30 #[.agg x,.agg y] w fun e w'=>∃ q d,e = .returned (.slice q (diffQ a b).length d) ∧ GRd CRd 11 w' q d (diffQ a b) ∧ Below w.heap.size w w':=by
 have hq0:=LQ2.start ha hb
 obtain ⟨pn,cn,pr,cr,rfl,h1n,h1r⟩:=ha
 obtain ⟨qn,dn,qr,dr,rfl,h2n,h2r⟩:=hb
 have H1:=yh (And.intro h1n h1r)
 have H2:=yh (And.intro h2n h2r)
 have HRI:=yh hra
 have HLN:=yh (And.intro hla hlb)
 have z1 : (a.nodes.length : Int) ≤ 65536:=by omega
 have z2 : (a.rels.length : Int) ≤ 65536:=by omega
 have z3 : (b.nodes.length : Int) ≤ 65536:=by omega
 have z4 : (b.rels.length : Int) ≤ 65536:=by omega
 have HQ0:=yh hq0
 have HD0:=yh (show DfF w ((w.alloc (.cells #[.slice pn a.nodes.length cn,.slice pr a.rels.length cr,.int .i64 a.nextNode,.int .i64 a.nextRel] 25)).alloc (.cells #[.slice qn b.nodes.length dn,.slice qr b.rels.length dr,.int .i64 b.nextNode,.int .i64 b.nextRel] 25)) a b pn pr qn qr cn cr dn dr from
  ⟨Kae (o:=0) hq0.b1 rfl,Kae (o:=1) hq0.b1 rfl,Kae (o:=2) hq0.b1 rfl,Kae (o:=3) hq0.b1 rfl,Kae (o:=0) hq0.b2 rfl,Kae (o:=1) hq0.b2 rfl,Kae (o:=2) hq0.b2 rfl,Kae (o:=3) hq0.b2 rfl⟩)
 have HB2:=yh hq0.b
 clear h1n h1r h2n h2r hra hla hlb hq0
 go_enter Tryz.func30,Tryz.ntmps30
 go_wp2
 generalize hwb : (w.alloc (.cells #[.slice pn a.nodes.length cn,.slice pr a.rels.length cr,.int .i64 a.nextNode,.int .i64 a.nextRel] 25)).alloc (.cells #[.slice qn b.nodes.length dn,.slice qr b.rels.length dr,.int .i64 b.nextNode,.int .i64 b.nextRel] 25) = wb at *
 clear hwb
 obtain ⟨P0,hP0⟩ : ∃ m : List ChangeD,m = []:=⟨_,rfl⟩
 have HP0:=yh (show P0.length ≤ 0 by rw [hP0];simp)
 obtain ⟨qz,dz,wz,hqz,hdz,hwz⟩ : ∃ (q : Option Addr) (d : Nat) (W : World),q = none ∧ d = 0 ∧ W = wb:=⟨_,_,_,rfl,rfl,rfl⟩
 have HR0:=yh (show VRow CRd 55 11 w wb wz (.slice qz P0.length dz) P0 from by rw [hP0,hqz,hdz,hwz];exact .nil (Below.refl _ _))
 have HE0:=yh hP0
 have hs0 : (Value.slice none 0 0) = .slice qz P0.length dz:=by rw [hP0,hqz,hdz];rfl
 rw [hs0,← hwz]
 have HW0:=yh hwz
 clear hs0 hP0 hqz hdz hwz
 have HS0:=yh (show VRow CRd 55 11 w wb wz (.slice qz (P0 ++ (leftD RelD.id (a.rels.take 0) b.rels).map goneR).length dz) (P0 ++ (leftD RelD.id (a.rels.take 0) b.rels).map goneR) from by rw [show ((leftD RelD.id (a.rels.take 0) b.rels).map goneR) = [] from by simp [leftD,newD],List.append_nil];exact HR0.out)
 have hz0 : P0.length = (P0 ++ (leftD RelD.id (a.rels.take 0) b.rels).map goneR).length:=by rw [show ((leftD RelD.id (a.rels.take 0) b.rels).map goneR) = [] from by simp [leftD,newD],List.append_nil]
 go_loopw [5,6] (fun o i W=>∃ (j : Nat) (q : Option Addr) (d : Nat),j ≤ a.rels.length ∧ i = .int .i64 (j : Int) ∧ o = .slice q (P0 ++ (leftD RelD.id (a.rels.take j) b.rels).map goneR).length d ∧ Hid (VRow CRd 55 11 w wb W (.slice q (P0 ++ (leftD RelD.id (a.rels.take j) b.rels).map goneR).length d) (P0 ++ (leftD RelD.id (a.rels.take j) b.rels).map goneR))) (fun _ i _=>a.rels.length - (intOf i).toNat)
 case atStart=>exact ⟨0,qz,dz,Nat.zero_le _,rfl,by rw [← hz0],HS0⟩
 case round =>
  rename_i wr
  clear HS0 hz0 HR0
  obtain ⟨j,q,d,hj,rfl,rfl,HI⟩:=hrel
  generalize hm : (P0 ++ (leftD RelD.id (a.rels.take j) b.rels).map goneR).length = m at HI ⊢
  have HM:=yh hm
  clear hm
  have HQ:=yh (HQ0.out.below HI.out.b)
  have HDF:=yh (HD0.out.below HI.out.b)
  by_cases hlt : j < a.rels.length
  ·have hlt1:=Nat.succ_le_of_lt hlt
   have x1:=HDF.out.x1
   obtain ⟨b1,o1,cs,e1,hsz,hcc,hv⟩:=(H1.out.2).get hlt
   subst e1
   have hbw:=Kaa HB2.out HI.out.b
   have hcw : ∀ (i : Nat) (u : Value),cs[i]? = some u → wr.cell? ⟨b1,o1 + j * 5 + i,none⟩ = some u:=fun i u hu=>Kad hbw (ltOf (hcc i u hu)) (hcc i u hu)
   have hvw:=RRd.below hv hbw
   have c1 : wr.cell? ⟨b1,o1 + j * 5,none⟩ = some (.int .i64 a.rels[j].id):=hcw 0 _ (id_firstR hv)
   have hi1 : ∀ W' : World,(Instr.indexAt 23 (.slice (some ⟨b1,o1,none⟩) a.rels.length cr) (.int .i64 (j : Int))).run Tryz.prog W' = .ok (.pointer (some ⟨b1,o1 + j * 5,none⟩)) W':=fun W'=>by simp [go_sem,hlt]
   have hcall:=fun W (g : Below wr.heap.size wr W)=>reffindr_any ((HQ.out.below g).ox) a.rels[j].id
   have hneg:=Kd8 (b.rels.map RelD.id) a.rels[j].id
   rw [List.any_map] at hneg
   have htk : a.rels.take (j + 1) = a.rels.take j ++ [a.rels[j]]:=List.take_succ_eq_append_getElem hlt
   have hlen : (P0 ++ (leftD RelD.id (a.rels.take j) b.rels).map goneR).length ≤ 1100000:=by
    have h0 : ((leftD RelD.id (a.rels.take j) b.rels).map goneR).length ≤ a.rels.length:=by
     rw [List.length_map]
     refine Nat.le_trans (List.length_filter_le _ _) ?_
     rw [List.length_take];omega
    have h3:=HP0.out
    have h4:=HLN.out
    rw [List.length_append]
    omega
   have hany : (b.rels.any ((· == a.rels[j].id) ∘ RelD.id)) = b.rels.any fun s=>s.id == a.rels[j].id:=rfl
   rw [hany] at hneg
   have hsn:=lost_snoc RelD.id (a.rels.take j) b.rels a.rels[j]
   rw [← htk] at hsn
   have HSN:=yh (show leftD RelD.id (a.rels.take (j + 1)) b.rels = leftD RelD.id (a.rels.take j) b.rels ++ if (b.rels.any fun s=>s.id == a.rels[j].id) = true then [] else [a.rels[j]] from hsn)
   have hgo : goneR a.rels[j] = ⟨3,a.rels[j].id,0,node0,rel0⟩:=rfl
   generalize a.rels[j] = aj at *
   generalize aj.id = idj at *
   generalize (b.rels.any fun s=>s.id == idj) = bq at *
   generalize Kcj (b.rels.map RelD.id) idj = kf at *
   have HY:=yh (And.intro c1 (And.intro hi1 (And.intro hcall (And.intro hneg hlen))))
   have HGO:=yh hgo
   clear hgo hcc hv hcw hvw c1 hi1 hcall hneg htk hlen hsn hany hbw hsz
   go_wp2
   obtain ⟨c1,hi1,hcall,hneg,hlen⟩:=HY.out
   have hB0 : Below wr.heap.size wr wr.drew:=(Below.refl _ wr).drew
   have hqq:=HQ.out
   have hdf:=HDF.out
   refine Kag (fun W=>Below wr.heap.size wr W) (by kernel_rfl) hB0 (fun hS=>?_)
   refine tk 0 19 (v:=.agg #[.slice qn b.nodes.length dn,.slice qr b.rels.length dr,.int .i64 b.nextNode,.int .i64 b.nextRel]) rfl rfl (fun W hW=>Kac rfl rfl ((hqq.below hW).lo)) ?_;simp only [zP]
   refine tk 1 20 (v:=.pointer (some ⟨w.heap.size,1,none⟩)) rfl rfl (fun W hW=>Kab rfl rfl (fa_api 1 (by omega) _ W)) ?_;simp only [zP]
   refine tk 2 21 (v:=.slice (some ⟨b1,o1,none⟩) a.rels.length cr) rfl rfl (fun W hW=>Kac rfl rfl (Kaf (w:=W) Tryz.underlying23 rfl (hdf.below hW).x1)) ?_;simp only [zP]
   refine tm 3 22 (v:=.int .i64 (j : Int)) rfl rfl rfl ?_;simp only [zP]
   refine tk 4 23 (v:=.pointer (some ⟨b1,o1 + j * 5,none⟩)) rfl rfl (fun W hW=>Kai rfl rfl rfl (hi1 W)) ?_;simp only [zP]
   refine tk 5 24 (v:=.pointer (some ⟨b1,o1 + j * 5,none⟩)) rfl rfl (fun W hW=>Kab rfl rfl (fa_idR _ _ W)) ?_;simp only [zP]
   refine tk 6 25 (v:=.int .i64 idj) rfl rfl (fun W hW=>Kac rfl rfl (Kaf (w:=W) Tryz.underlying2 rfl (Kad hW (ltOf c1) c1))) ?_;simp only [zP]
   refine Kan 7 26 rfl rfl (by kernel_rfl) rfl (Kam [.agg #[.slice qn b.nodes.length dn,.slice qr b.rels.length dr,.int .i64 b.nextNode,.int .i64 b.nextRel],.int .i64 idj] rfl rfl Tryz.func69 (by kernel_rfl) (by kernel_rfl)) ?_
   refine (hcall _ hS).mono ?_
   rintro e W7 ⟨rfl,hb7⟩
   have hS7:=Kaa hS hb7
   refine ⟨_,rfl,.inr hS7,?_⟩;simp only [zP]
   refine tk 8 27 (v:=.bool (!bq)) rfl rfl (fun W hW=>Kal rfl rfl rfl (by rw [lss_0,hneg])) ?_;simp only [zP]
   refine done (by kernel_rfl) ?_ _
   have HI7:=yh (HI.out.below hS7)
   have HDF7:=yh (hdf.below hS7)
   have HC7:=yh (Kad hS7 (ltOf c1) c1)
   have HLN7:=yh hlen
   clear hS hS7 hb7 hB0 c1 hi1 hcall hneg hlen hqq hdf HY HI x1
   have x1:=HDF7.out.x1
   have c1:=HC7.out
   cases bq with
   | true =>
     have hs:=HSN.out
     rw [if_pos rfl,List.append_nil] at hs
     have HN:=yh (show P0 ++ (leftD RelD.id (a.rels.take (j + 1)) b.rels).map goneR = P0 ++ (leftD RelD.id (a.rels.take j) b.rels).map goneR by rw [hs])
     clear hs HSN
     go_wp2
     go_roundw
     case rel=>exact ⟨j + 1,q,d,hlt1,by go_num,by rw [HN.out,HM.out],yh (by rw [HN.out,HM.out];exact HI7.out)⟩
     case measure=>simp [intOf];omega
   | false =>
     have hs:=HSN.out
     rw [if_neg (by simp)] at hs
     have hn : P0 ++ (leftD RelD.id (a.rels.take (j + 1)) b.rels).map goneR = (P0 ++ (leftD RelD.id (a.rels.take j) b.rels).map goneR) ++ [⟨3,idj,0,node0,rel0⟩]:=by rw [hs,List.map_append,← List.append_assoc,← HGO.out];rfl
     obtain ⟨v2,W9,a2,r2⟩:=HI7.out.one Kbv Kcx (chgRd_flat w 3 idj 0) HLN7.out 52
     rw [← hn] at r2
     obtain ⟨p2,d2,rfl⟩:=r2.slice
     have HBS:=yh (Kar (P:=Tryz.prog) (w:=W7) (v:=.agg #[.int .i64 3,.int .i64 idj,.int .i64 0,.int .i64 0,.slice none 0 0,.slice none 0 0,.int .i64 0,.int .i64 0,.int .i64 0,.string ⟨#[]⟩,.slice none 0 0]) Tryz.underlying52 Tryz.sizeOf55 Tryz.zeroValue55 rfl (by omega) (by omega))
     have HA2:=yh a2
     have HR2:=yh r2
     clear hs hn a2 r2 HSN HGO
     go_wp2_with (first
      | ((with_reducible apply Kd9);exact HBS.out;exact rfl;clear HBS)
      | ((with_reducible apply Kbz);exact HA2.out;exact rfl;exact rfl;clear HA2))
     go_roundw
     case rel=>exact ⟨j + 1,p2,d2,hlt1,by go_num,by simp,HR2⟩
     case measure=>simp [intOf];omega
  ·obtain rfl : j = a.rels.length:=by omega
   have hr:=HI.out
   rw [List.take_length] at hr
   obtain ⟨P1,hP1⟩ : ∃ m,m = P0 ++ (leftD RelD.id a.rels b.rels).map goneR:=⟨_,rfl⟩
   have HP1:=yh (show P1.length ≤ 65536 by
    have h3:=HP0.out
    have h4:=HLN.out
    have h0 : ((leftD RelD.id a.rels b.rels).map goneR).length ≤ a.rels.length:=by rw [List.length_map];exact List.length_filter_le _ _
    rw [hP1,List.length_append];omega)
   have hpl : m = P1.length:=by rw [← HM.out,List.take_length,hP1]
   subst hpl
   rw [← hP1] at hr
   have HE1:=yh hP1
   have HR1:=yh hr
   have x1:=HDF.out.x1
   clear hP1 hr HI hj hlt HM
   generalize q = qz at *
   generalize d = dz at *
   generalize wr = wz at *
   go_wp2
   have HS1:=yh (show VRow CRd 55 11 w wb wz (.slice qz (P1 ++ (leftD NodeD.id (a.nodes.take 0) b.nodes).map goneN).length dz) (P1 ++ (leftD NodeD.id (a.nodes.take 0) b.nodes).map goneN) from by rw [show ((leftD NodeD.id (a.nodes.take 0) b.nodes).map goneN) = [] from by simp [leftD,newD],List.append_nil];exact HR1.out)
   have hz0 : P1.length = (P1 ++ (leftD NodeD.id (a.nodes.take 0) b.nodes).map goneN).length:=by rw [show ((leftD NodeD.id (a.nodes.take 0) b.nodes).map goneN) = [] from by simp [leftD,newD],List.append_nil]
   go_loopw [5,7] (fun o i W=>∃ (j : Nat) (q : Option Addr) (d : Nat),j ≤ a.nodes.length ∧ i = .int .i64 (j : Int) ∧ o = .slice q (P1 ++ (leftD NodeD.id (a.nodes.take j) b.nodes).map goneN).length d ∧ Hid (VRow CRd 55 11 w wb W (.slice q (P1 ++ (leftD NodeD.id (a.nodes.take j) b.nodes).map goneN).length d) (P1 ++ (leftD NodeD.id (a.nodes.take j) b.nodes).map goneN))) (fun _ i _=>a.nodes.length - (intOf i).toNat)
   case atStart=>exact ⟨0,qz,dz,Nat.zero_le _,rfl,by rw [← hz0],HS1⟩
   case round =>
    rename_i wr
    clear HS1 hz0 HR1
    obtain ⟨j,q,d,hj,rfl,rfl,HI⟩:=hrel
    generalize hm : (P1 ++ (leftD NodeD.id (a.nodes.take j) b.nodes).map goneN).length = m at HI ⊢
    have HM:=yh hm
    clear hm
    have HQ:=yh (HQ0.out.below HI.out.b)
    have HDF:=yh (HD0.out.below HI.out.b)
    by_cases hlt : j < a.nodes.length
    ·have hlt1:=Nat.succ_le_of_lt hlt
     have x0:=HDF.out.x0
     obtain ⟨b1,o1,cs,e1,hsz,hcc,hv⟩:=(H1.out.1).get hlt
     subst e1
     have hbw:=Kaa HB2.out HI.out.b
     have hcw : ∀ (i : Nat) (u : Value),cs[i]? = some u → wr.cell? ⟨b1,o1 + j * 3 + i,none⟩ = some u:=fun i u hu=>Kad hbw (ltOf (hcc i u hu)) (hcc i u hu)
     have hvw:=NRd.below hv hbw
     have c1 : wr.cell? ⟨b1,o1 + j * 3,none⟩ = some (.int .i64 a.nodes[j].id):=hcw 0 _ (id_firstN hv)
     have hi1 : ∀ W' : World,(Instr.indexAt 22 (.slice (some ⟨b1,o1,none⟩) a.nodes.length cn) (.int .i64 (j : Int))).run Tryz.prog W' = .ok (.pointer (some ⟨b1,o1 + j * 3,none⟩)) W':=fun W'=>by simp [go_sem,hlt]
     have hcall:=fun W (g : Below wr.heap.size wr W)=>Keq ((HQ.out.below g).ox) a.nodes[j].id
     have hneg:=Kd8 (b.nodes.map NodeD.id) a.nodes[j].id
     rw [List.any_map] at hneg
     have htk : a.nodes.take (j + 1) = a.nodes.take j ++ [a.nodes[j]]:=List.take_succ_eq_append_getElem hlt
     have hlen : (P1 ++ (leftD NodeD.id (a.nodes.take j) b.nodes).map goneN).length ≤ 1100000:=by
      have h0 : ((leftD NodeD.id (a.nodes.take j) b.nodes).map goneN).length ≤ a.nodes.length:=by
       rw [List.length_map]
       refine Nat.le_trans (List.length_filter_le _ _) ?_
       rw [List.length_take];omega
      have h3:=HP1.out
      have h4:=HLN.out
      rw [List.length_append]
      omega
     have hany : (b.nodes.any ((· == a.nodes[j].id) ∘ NodeD.id)) = b.nodes.any fun s=>s.id == a.nodes[j].id:=rfl
     rw [hany] at hneg
     have hsn:=lost_snoc NodeD.id (a.nodes.take j) b.nodes a.nodes[j]
     rw [← htk] at hsn
     have HSN:=yh (show leftD NodeD.id (a.nodes.take (j + 1)) b.nodes = leftD NodeD.id (a.nodes.take j) b.nodes ++ if (b.nodes.any fun s=>s.id == a.nodes[j].id) = true then [] else [a.nodes[j]] from hsn)
     have hgo : goneN a.nodes[j] = ⟨2,a.nodes[j].id,0,node0,rel0⟩:=rfl
     generalize a.nodes[j] = aj at *
     generalize aj.id = idj at *
     generalize (b.nodes.any fun s=>s.id == idj) = bq at *
     generalize Kcj (b.nodes.map NodeD.id) idj = kf at *
     have HY:=yh (And.intro c1 (And.intro hi1 (And.intro hcall (And.intro hneg hlen))))
     have HGO:=yh hgo
     clear hgo hcc hv hcw hvw c1 hi1 hcall hneg htk hlen hsn hany hbw hsz
     go_wp2
     obtain ⟨c1,hi1,hcall,hneg,hlen⟩:=HY.out
     have hB0 : Below wr.heap.size wr wr.drew:=(Below.refl _ wr).drew
     have hqq:=HQ.out
     have hdf:=HDF.out
     refine Kag (fun W=>Below wr.heap.size wr W) (by kernel_rfl) hB0 (fun hS=>?_)
     refine tk 0 45 (v:=.agg #[.slice qn b.nodes.length dn,.slice qr b.rels.length dr,.int .i64 b.nextNode,.int .i64 b.nextRel]) rfl rfl (fun W hW=>Kac rfl rfl ((hqq.below hW).lo)) ?_;simp only [zP]
     refine tk 1 46 (v:=.pointer (some ⟨w.heap.size,0,none⟩)) rfl rfl (fun W hW=>Kab rfl rfl (fa_api 0 (by omega) _ W)) ?_;simp only [zP]
     refine tk 2 47 (v:=.slice (some ⟨b1,o1,none⟩) a.nodes.length cn) rfl rfl (fun W hW=>Kac rfl rfl (Kaf (w:=W) Tryz.underlying22 rfl (hdf.below hW).x0)) ?_;simp only [zP]
     refine tm 3 48 (v:=.int .i64 (j : Int)) rfl rfl rfl ?_;simp only [zP]
     refine tk 4 49 (v:=.pointer (some ⟨b1,o1 + j * 3,none⟩)) rfl rfl (fun W hW=>Kai rfl rfl rfl (hi1 W)) ?_;simp only [zP]
     refine tk 5 50 (v:=.pointer (some ⟨b1,o1 + j * 3,none⟩)) rfl rfl (fun W hW=>Kab rfl rfl (fa_idN _ _ W)) ?_;simp only [zP]
     refine tk 6 51 (v:=.int .i64 idj) rfl rfl (fun W hW=>Kac rfl rfl (Kaf (w:=W) Tryz.underlying2 rfl (Kad hW (ltOf c1) c1))) ?_;simp only [zP]
     refine Kan 7 52 rfl rfl (by kernel_rfl) rfl (Kam [.agg #[.slice qn b.nodes.length dn,.slice qr b.rels.length dr,.int .i64 b.nextNode,.int .i64 b.nextRel],.int .i64 idj] rfl rfl Tryz.func36 (by kernel_rfl) (by kernel_rfl)) ?_
     refine (hcall _ hS).mono ?_
     rintro e W7 ⟨rfl,hb7⟩
     have hS7:=Kaa hS hb7
     refine ⟨_,rfl,.inr hS7,?_⟩;simp only [zP]
     refine tk 8 53 (v:=.bool (!bq)) rfl rfl (fun W hW=>Kal rfl rfl rfl (by rw [lss_0,hneg])) ?_;simp only [zP]
     refine done (by kernel_rfl) ?_ _
     have HI7:=yh (HI.out.below hS7)
     have HDF7:=yh (hdf.below hS7)
     have HC7:=yh (Kad hS7 (ltOf c1) c1)
     have HLN7:=yh hlen
     clear hS hS7 hb7 hB0 c1 hi1 hcall hneg hlen hqq hdf HY HI x0
     have x0:=HDF7.out.x0
     have c1:=HC7.out
     cases bq with
     | true =>
       have hs:=HSN.out
       rw [if_pos rfl,List.append_nil] at hs
       have HN:=yh (show P1 ++ (leftD NodeD.id (a.nodes.take (j + 1)) b.nodes).map goneN = P1 ++ (leftD NodeD.id (a.nodes.take j) b.nodes).map goneN by rw [hs])
       clear hs HSN
       go_wp2
       go_roundw
       case rel=>exact ⟨j + 1,q,d,hlt1,by go_num,by rw [HN.out,HM.out],yh (by rw [HN.out,HM.out];exact HI7.out)⟩
       case measure=>simp [intOf];omega
     | false =>
       have hs:=HSN.out
       rw [if_neg (by simp)] at hs
       have hn : P1 ++ (leftD NodeD.id (a.nodes.take (j + 1)) b.nodes).map goneN = (P1 ++ (leftD NodeD.id (a.nodes.take j) b.nodes).map goneN) ++ [⟨2,idj,0,node0,rel0⟩]:=by rw [hs,List.map_append,← List.append_assoc,← HGO.out];rfl
       obtain ⟨v2,W9,a2,r2⟩:=HI7.out.one Kbv Kcx (chgRd_flat w 2 idj 0) HLN7.out 52
       rw [← hn] at r2
       obtain ⟨p2,d2,rfl⟩:=r2.slice
       have HBS:=yh (Kar (P:=Tryz.prog) (w:=W7) (v:=.agg #[.int .i64 2,.int .i64 idj,.int .i64 0,.int .i64 0,.slice none 0 0,.slice none 0 0,.int .i64 0,.int .i64 0,.int .i64 0,.string ⟨#[]⟩,.slice none 0 0]) Tryz.underlying52 Tryz.sizeOf55 Tryz.zeroValue55 rfl (by omega) (by omega))
       have HA2:=yh a2
       have HR2:=yh r2
       clear hs hn a2 r2 HSN HGO
       go_wp2_with (first
        | ((with_reducible apply Kd9);exact HBS.out;exact rfl;clear HBS)
        | ((with_reducible apply Kbz);exact HA2.out;exact rfl;exact rfl;clear HA2))
       go_roundw
       case rel=>exact ⟨j + 1,p2,d2,hlt1,by go_num,by simp,HR2⟩
       case measure=>simp [intOf];omega
    ·obtain rfl : j = a.nodes.length:=by omega
     have hr:=HI.out
     rw [List.take_length] at hr
     obtain ⟨P2,hP2⟩ : ∃ m,m = P1 ++ (leftD NodeD.id a.nodes b.nodes).map goneN:=⟨_,rfl⟩
     have HP2:=yh (show P2.length ≤ 131072 by
      have h3:=HP1.out
      have h4:=HLN.out
      have h0 : ((leftD NodeD.id a.nodes b.nodes).map goneN).length ≤ a.nodes.length:=by rw [List.length_map];exact List.length_filter_le _ _
      rw [hP2,List.length_append];omega)
     have hpl : m = P2.length:=by rw [← HM.out,List.take_length,hP2]
     subst hpl
     rw [← hP2] at hr
     have HE2:=yh hP2
     have HR2:=yh hr
     have x0:=HDF.out.x0
     clear hP2 hr HI hj hlt HM
     generalize q = qz at *
     generalize d = dz at *
     generalize wr = wz at *
     go_wp2
     have HS2:=yh (show VRow CRd 55 11 w wb wz (.slice qz (P2 ++ (newD NodeD.id Kbc a.nodes (b.nodes.take 0)).map comeN).length dz) (P2 ++ (newD NodeD.id Kbc a.nodes (b.nodes.take 0)).map comeN) from by rw [show ((newD NodeD.id Kbc a.nodes (b.nodes.take 0)).map comeN) = [] from by simp [leftD,newD],List.append_nil];exact HR2.out)
     have hz0 : P2.length = (P2 ++ (newD NodeD.id Kbc a.nodes (b.nodes.take 0)).map comeN).length:=by rw [show ((newD NodeD.id Kbc a.nodes (b.nodes.take 0)).map comeN) = [] from by simp [leftD,newD],List.append_nil]
     go_loopw [5,8] (fun o i W=>∃ (j : Nat) (q : Option Addr) (d : Nat),j ≤ b.nodes.length ∧ i = .int .i64 (j : Int) ∧ o = .slice q (P2 ++ (newD NodeD.id Kbc a.nodes (b.nodes.take j)).map comeN).length d ∧ Hid (VRow CRd 55 11 w wb W (.slice q (P2 ++ (newD NodeD.id Kbc a.nodes (b.nodes.take j)).map comeN).length d) (P2 ++ (newD NodeD.id Kbc a.nodes (b.nodes.take j)).map comeN))) (fun _ i _=>b.nodes.length - (intOf i).toNat)
     case atStart=>exact ⟨0,qz,dz,Nat.zero_le _,rfl,by rw [← hz0],HS2⟩
     case round =>
      rename_i wr
      clear HS2 hz0 HR2
      obtain ⟨j,q,d,hj,rfl,rfl,HI⟩:=hrel
      generalize hm : (P2 ++ (newD NodeD.id Kbc a.nodes (b.nodes.take j)).map comeN).length = m at HI ⊢
      have HM:=yh hm
      clear hm
      have HQ:=yh (HQ0.out.below HI.out.b)
      have HDF:=yh (HD0.out.below HI.out.b)
      by_cases hlt : j < b.nodes.length
      ·have hlt1:=Nat.succ_le_of_lt hlt
       have y0:=HDF.out.y0
       obtain ⟨b1,o1,cs,e1,hsz,hcc,hv⟩:=(H2.out.1).get hlt
       subst e1
       have hbw:=Kaa HB2.out HI.out.b
       have hcw : ∀ (i : Nat) (u : Value),cs[i]? = some u → wr.cell? ⟨b1,o1 + j * 3 + i,none⟩ = some u:=fun i u hu=>Kad hbw (ltOf (hcc i u hu)) (hcc i u hu)
       have hvw:=NRd.below hv hbw
       have c1 : wr.cell? ⟨b1,o1 + j * 3,none⟩ = some (.int .i64 b.nodes[j].id):=hcw 0 _ (id_firstN hv)
       have hi1 : ∀ W' : World,(Instr.indexAt 22 (.slice (some ⟨b1,o1,none⟩) b.nodes.length dn) (.int .i64 (j : Int))).run Tryz.prog W' = .ok (.pointer (some ⟨b1,o1 + j * 3,none⟩)) W':=fun W'=>by simp [go_sem,hlt]
       have hcall:=fun W (g : Below wr.heap.size wr W)=>Keq ((HQ.out.below g).gx) b.nodes[j].id
       have hneg:=Kd8 (a.nodes.map NodeD.id) b.nodes[j].id
       rw [List.any_map] at hneg
       have htk : b.nodes.take (j + 1) = b.nodes.take j ++ [b.nodes[j]]:=List.take_succ_eq_append_getElem hlt
       have hlen : (P2 ++ (newD NodeD.id Kbc a.nodes (b.nodes.take j)).map comeN).length ≤ 1100000:=by
        have h0 : ((newD NodeD.id Kbc a.nodes (b.nodes.take j)).map comeN).length ≤ b.nodes.length:=by
         rw [List.length_map]
         refine Nat.le_trans (List.length_filter_le _ _) ?_
         rw [List.length_take];omega
        have h3:=HP2.out
        have h4:=HLN.out
        rw [List.length_append]
        omega
       have hany : (a.nodes.any ((· == b.nodes[j].id) ∘ NodeD.id)) = a.nodes.any fun s=>s.id == b.nodes[j].id:=rfl
       rw [hany] at hneg
       obtain ⟨rid,rl,rm,rk,rp,rn,rc,hcs⟩ : ∃ i1 p1 n1 c1 p n c,cs = #[.int .i64 i1,.slice p1 n1 c1,.slice p n c]:=by obtain ⟨pl,cl,pp,cp,rfl,_,_⟩:=hv;exact ⟨_,_,_,_,_,_,_,rfl⟩
       subst hcs
       have hcr:=chgRd_node hv
       have hsn:=newD_snoc NodeD.id Kbc a.nodes (b.nodes.take j) b.nodes[j]
       rw [← htk] at hsn
       have hfs:=fun (h : 0 ≤ Kcj (a.nodes.map NodeD.id) (b.nodes[j]'hlt).id)=>findAt_some (l:=a.nodes.map NodeD.id) (x:=(b.nodes[j]'hlt).id) h
       have hnl:=newD_no NodeD.id Kbc (a:=a.nodes) (y:=b.nodes[j]'hlt)
       have hn1:=fun (x : NodeD) (hx : x ∈ a.nodes) (he : x.id = (b.nodes[j]'hlt).id)=>newD_one NodeD.id Kbc HRI.out.1 (x:=x) (y:=b.nodes[j]'hlt) hx he
       have HLD:=yh (fun W (g : Below wr.heap.size wr W)=>StT.load (P:=Tryz.prog) (W:=W) (g:=b1) (o:=o1 + j * 3) Kay hsz fun i u hu=>Kad g (ltOf (hcw i u hu)) (hcw i u hu))
       generalize b.nodes[j] = bj at *
       generalize hidj : bj.id = idj at *
       generalize (a.nodes.any fun s=>s.id == idj) = bq at *
       generalize Kcj (a.nodes.map NodeD.id) idj = kf at *
       have HIDJ:=yh hidj
       have HY:=yh (And.intro c1 (And.intro hi1 (And.intro hcall (And.intro hneg (And.intro hlen (And.intro hvw (And.intro hcr (And.intro hsn (And.intro hfs (And.intro hnl hn1))))))))))
       clear hcc hv hcw hvw c1 hi1 hcall hneg htk hlen hsn hany hbw hcr hfs hnl hn1 hidj
       go_wp2
       obtain ⟨c1,hi1,hcall,hneg,hlen,hvw,hcr,hsn,hfs,hnl,hn1⟩:=HY.out
       have hB0 : Below wr.heap.size wr wr.drew:=(Below.refl _ wr).drew
       have hqq:=HQ.out
       have hdf:=HDF.out
       refine Kag (fun W=>Below wr.heap.size wr W) (by kernel_rfl) hB0 (fun hS=>?_)
       refine tk 0 71 (v:=.agg #[.slice pn a.nodes.length cn,.slice pr a.rels.length cr,.int .i64 a.nextNode,.int .i64 a.nextRel]) rfl rfl (fun W hW=>Kac rfl rfl ((hqq.below hW).lg)) ?_;simp only [zP]
       refine tk 1 72 (v:=.pointer (some ⟨w.heap.size + 1,0,none⟩)) rfl rfl (fun W hW=>Kab rfl rfl (fa_api 0 (by omega) _ W)) ?_;simp only [zP]
       refine tk 2 73 (v:=.slice (some ⟨b1,o1,none⟩) b.nodes.length dn) rfl rfl (fun W hW=>Kac rfl rfl (Kaf (w:=W) Tryz.underlying22 rfl (hdf.below hW).y0)) ?_;simp only [zP]
       refine tm 3 74 (v:=.int .i64 (j : Int)) rfl rfl rfl ?_;simp only [zP]
       refine tk 4 75 (v:=.pointer (some ⟨b1,o1 + j * 3,none⟩)) rfl rfl (fun W hW=>Kai rfl rfl rfl (hi1 W)) ?_;simp only [zP]
       refine tk 5 76 (v:=.pointer (some ⟨b1,o1 + j * 3,none⟩)) rfl rfl (fun W hW=>Kab rfl rfl (fa_idN _ _ W)) ?_;simp only [zP]
       refine tk 6 77 (v:=.int .i64 idj) rfl rfl (fun W hW=>Kac rfl rfl (Kaf (w:=W) Tryz.underlying2 rfl (Kad hW (ltOf c1) c1))) ?_;simp only [zP]
       refine Kan 7 78 rfl rfl (by kernel_rfl) rfl (Kam [.agg #[.slice pn a.nodes.length cn,.slice pr a.rels.length cr,.int .i64 a.nextNode,.int .i64 a.nextRel],.int .i64 idj] rfl rfl Tryz.func36 (by kernel_rfl) (by kernel_rfl)) ?_
       refine (hcall _ hS).mono ?_
       rintro e W7 ⟨rfl,hb7⟩
       have hS7:=Kaa hS hb7
       refine ⟨_,rfl,.inr hS7,?_⟩;simp only [zP]
       refine tk 8 9 (v:=.int .i64 kf) rfl rfl (fun W hW=>Kaw rfl rfl) ?_;simp only [zP]
       refine done (by kernel_rfl) ?_ _
       have HB7:=yh hS7
       have HX7:=yh (And.intro hneg (And.intro hlen (And.intro hvw (And.intro hcr (And.intro hsn (And.intro hfs (And.intro hnl (And.intro hn1 hi1))))))))
       clear hS hS7 hb7 hB0 c1 hi1 hcall hneg hlen hvw hcr hsn hfs hnl hn1 hqq hdf HY y0
       cases bq with
       | false =>
         have HNEW:=yh (HX7.out.2.2.2.2.2.2.1 rfl)
         go_wp2
         obtain ⟨hneg,hlen,hvw,hcr,hsn,hfs,hnl,hn1,hi1⟩:=HX7.out
         have hB7:=HB7.out
         have hBd : Below wr.heap.size wr W7.drew:=hB7.drew
         have hqq:=HQ.out
         have hdf:=HDF.out
         refine Kag (fun W=>Below wr.heap.size wr W) (by kernel_rfl) hBd (fun hS=>?_)
         refine tm 0 79 (v:=.int .i64 kf) rfl rfl rfl ?_;simp only [zP]
         refine tk 1 80 (v:=.bool true) rfl rfl (fun W hW=>Kal rfl rfl rfl (by rw [lss_0,hneg];rfl)) ?_;simp only [zP]
         refine tm 2 81 (v:=.bool true) rfl rfl rfl ?_;simp only [zP]
         refine tx 3 82 ?_;simp only [zP]
         refine tx 4 83 ?_;simp only [zP]
         refine tx 5 84 ?_;simp only [zP]
         refine tx 6 85 ?_;simp only [zP]
         refine tx 7 86 ?_;simp only [zP]
         refine tx 8 87 ?_;simp only [zP]
         refine tx 9 88 ?_;simp only [zP]
         refine tx 10 89 ?_;simp only [zP]
         refine tx 11 90 ?_;simp only [zP]
         refine tx 12 91 ?_;simp only [zP]
         refine Kas 13 92 rfl rfl (by kernel_rfl) rfl ?_ (.inr (by assumption));simp only [zP]
         refine tx 14 93 ?_;simp only [zP]
         refine tk 15 94 (v:=.bool true) rfl rfl (fun W hW=>rfl) ?_;simp only [zP]
         refine done (by kernel_rfl) ?_ _
         have HI8:=yh (HI.out.below hS)
         have HDF8:=yh (hdf.below hS)
         have HB8:=yh hS
         have HLN8:=yh hlen
         have HCR:=yh hcr
         have HSN:=yh hsn
         have hs:=HSN.out
         rw [if_neg (by rw [HNEW.out];simp)] at hs
         have hn : P2 ++ (newD NodeD.id Kbc a.nodes (b.nodes.take (j + 1))).map comeN = (P2 ++ (newD NodeD.id Kbc a.nodes (b.nodes.take j)).map comeN) ++ [comeN bj]:=by rw [hs,List.map_append,← List.append_assoc];rfl
         obtain ⟨v2,W9,a2,r2⟩:=HI8.out.one Kbv Kcx HCR.out HLN8.out 52
         rw [← hn] at r2
         obtain ⟨p2,d2,rfl⟩:=r2.slice
         have HBS:=yh (Kar (P:=Tryz.prog) (w:=W7.drew) (v:=.agg #[.int .i64 0,.int .i64 0,.int .i64 0,.int .i64 rid,.slice rl rm rk,.slice rp rn rc,.int .i64 0,.int .i64 0,.int .i64 0,.string ⟨#[]⟩,.slice none 0 0]) Tryz.underlying52 Tryz.sizeOf55 Tryz.zeroValue55 rfl (by omega) (by omega))
         have HA2:=yh a2
         have HR2:=yh r2
         have y0:=HDF8.out.y0
         clear hs hn a2 r2 HSN
         clear hneg hlen hvw hcr hsn hfs hnl hn1 hi1 hB7 hBd hqq hdf hS HX7 HB7 HI
         go_wp2_with (first
          | ((with_reducible apply Kao);exact HLD.out _ HB8.out;exact rfl)
          | ((with_reducible apply Kd9);exact HBS.out;exact rfl;clear HBS)
          | ((with_reducible apply Kbz);exact HA2.out;exact rfl;exact rfl;clear HA2))
         go_roundw
         case rel=>exact ⟨j + 1,p2,d2,hlt1,by go_num,by simp,HR2⟩
         case measure=>simp [intOf];omega
       | true =>
         obtain ⟨i,hi,hik,hid⟩:=HX7.out.2.2.2.2.2.1 (by have:=HX7.out.1;simp at this;exact this)
         subst hik
         rw [List.length_map] at hi
         rw [List.getElem_map] at hid
         obtain ⟨b2,o2,cs2,e2,hsz2,hcc2,hv2⟩:=(H1.out.1).get hi
         subst e2
         have hbw:=Kaa HB2.out HI.out.b
         have hld2 : ∀ W : World,Below wr.heap.size wr W → (loadVar 45 ⟨b2,o2 + i * 3,none⟩).run Tryz.prog W = .ok (.agg cs2) W:=fun W g=>StT.load (P:=Tryz.prog) (W:=W) Kay hsz2 fun k u hu=>Kad (Kaa hbw g) (ltOf (hcc2 k u hu)) (hcc2 k u hu)
         have hi2 : ∀ W' : World,(Instr.indexAt 22 (.slice (some ⟨b2,o2,none⟩) a.nodes.length cn) (.int .i64 (i : Int))).run Tryz.prog W' = .ok (.pointer (some ⟨b2,o2 + i * 3,none⟩)) W':=fun W'=>by simp [go_sem,hi]
         have hnew:=HX7.out.2.2.2.2.2.2.2.1 a.nodes[i] (List.getElem_mem hi) hid
         have hsm:=fun W (g : Below wr.heap.size wr W)=>Kep (NRd.below hv2 (Kaa hbw g)) (NRd.below HX7.out.2.2.1 g)
         generalize a.nodes[i] = xi at *
         have HI2:=yh (And.intro hld2 (And.intro hi2 hsm))
         clear hcc2 hv2 hbw hld2 hi2 hsm hid hsz2
         generalize Kbc xi bj = bs at hnew HI2
         have HNEW:=yh hnew
         clear hnew
         go_wp2
         obtain ⟨hneg,hlen,hvw,hcr,hsn,hfs,hnl,hn1,hi1⟩:=HX7.out
         obtain ⟨hld2,hi2,hsm⟩:=HI2.out
         have hB7:=HB7.out
         have hBd : Below wr.heap.size wr W7.drew:=hB7.drew
         have hqq:=HQ.out
         have hdf:=HDF.out
         refine Kag (fun W=>Below wr.heap.size wr W) (by kernel_rfl) hBd (fun hS=>?_)
         refine tm 0 79 (v:=.int .i64 (i : Int)) rfl rfl rfl ?_;simp only [zP]
         refine tk 1 80 (v:=.bool false) rfl rfl (fun W hW=>Kal rfl rfl rfl (by rw [lss_0,hneg];rfl)) ?_;simp only [zP]
         refine tm 2 81 (v:=.bool false) rfl rfl rfl ?_;simp only [zP]
         refine tk 3 82 (v:=.pointer (some ⟨w.heap.size,0,none⟩)) rfl rfl (fun W hW=>Kab rfl rfl (fa_api 0 (by omega) _ W)) ?_;simp only [zP]
         refine tk 4 83 (v:=.slice (some ⟨b2,o2,none⟩) a.nodes.length cn) rfl rfl (fun W hW=>Kac rfl rfl (Kaf (w:=W) Tryz.underlying22 rfl (hdf.below hW).x0)) ?_;simp only [zP]
         refine tm 5 84 (v:=.int .i64 (i : Int)) rfl rfl rfl ?_;simp only [zP]
         refine tk 6 85 (v:=.pointer (some ⟨b2,o2 + i * 3,none⟩)) rfl rfl (fun W hW=>Kai rfl rfl rfl (hi2 W)) ?_;simp only [zP]
         refine tk 7 86 (v:=.agg cs2) rfl rfl (fun W hW=>Kac rfl rfl (hld2 W hW)) ?_;simp only [zP]
         refine tk 8 87 (v:=.pointer (some ⟨w.heap.size + 1,0,none⟩)) rfl rfl (fun W hW=>Kab rfl rfl (fa_api 0 (by omega) _ W)) ?_;simp only [zP]
         refine tk 9 88 (v:=.slice (some ⟨b1,o1,none⟩) b.nodes.length dn) rfl rfl (fun W hW=>Kac rfl rfl (Kaf (w:=W) Tryz.underlying22 rfl (hdf.below hW).y0)) ?_;simp only [zP]
         refine tm 10 89 (v:=.int .i64 (j : Int)) rfl rfl rfl ?_;simp only [zP]
         refine tk 11 90 (v:=.pointer (some ⟨b1,o1 + j * 3,none⟩)) rfl rfl (fun W hW=>Kai rfl rfl rfl (hi1 W)) ?_;simp only [zP]
         refine tk 12 91 (v:=.agg #[.int .i64 rid,.slice rl rm rk,.slice rp rn rc]) rfl rfl (fun W hW=>Kac rfl rfl (HLD.out W hW)) ?_;simp only [zP]
         refine Kan 13 92 rfl rfl (by kernel_rfl) rfl (Kam [.agg cs2,.agg #[.int .i64 rid,.slice rl rm rk,.slice rp rn rc]] rfl rfl Tryz.func54 (by kernel_rfl) (by kernel_rfl)) ?_
         refine (hsm _ hS).mono ?_
         rintro e W13 ⟨rfl,hb13⟩
         have hS13:=Kaa hS hb13
         refine ⟨_,rfl,.inr hS13,?_⟩;simp only [zP]
         refine tk 14 93 (v:=.bool (!bs)) rfl rfl (fun W hW=>Kap (b:=bs) rfl rfl) ?_;simp only [zP]
         refine tk 15 94 (v:=.bool (!bs)) rfl rfl (fun W hW=>rfl) ?_;simp only [zP]
         refine done (by kernel_rfl) ?_ _
         have HI8:=yh (HI.out.below hS13)
         have HDF8:=yh (hdf.below hS13)
         have HB8:=yh hS13
         have HLN8:=yh hlen
         have HCR:=yh hcr
         have HSN:=yh hsn
         clear hneg hlen hvw hcr hsn hfs hnl hn1 hi1 hB7 hBd hqq hdf hS HX7 HB7 HI hS13 hb13 hi2 hld2 hsm
         cases bs with
         | true =>
           have hs:=HSN.out
           rw [if_pos HNEW.out,List.append_nil] at hs
           have HN:=yh (show P2 ++ (newD NodeD.id Kbc a.nodes (b.nodes.take (j + 1))).map comeN = P2 ++ (newD NodeD.id Kbc a.nodes (b.nodes.take j)).map comeN by rw [hs])
           clear hs HSN
           go_wp2
           go_roundw
           case rel=>exact ⟨j + 1,q,d,hlt1,by go_num,by rw [HN.out,HM.out],yh (by rw [HN.out,HM.out];exact HI8.out)⟩
           case measure=>simp [intOf];omega
         | false =>
           have hs:=HSN.out
           rw [if_neg (by rw [HNEW.out];simp)] at hs
           have hn : P2 ++ (newD NodeD.id Kbc a.nodes (b.nodes.take (j + 1))).map comeN = (P2 ++ (newD NodeD.id Kbc a.nodes (b.nodes.take j)).map comeN) ++ [comeN bj]:=by rw [hs,List.map_append,← List.append_assoc];rfl
           obtain ⟨v2,W9,a2,r2⟩:=HI8.out.one Kbv Kcx HCR.out HLN8.out 52
           rw [← hn] at r2
           obtain ⟨p2,d2,rfl⟩:=r2.slice
           have HBS:=yh (Kar (P:=Tryz.prog) (w:=W13) (v:=.agg #[.int .i64 0,.int .i64 0,.int .i64 0,.int .i64 rid,.slice rl rm rk,.slice rp rn rc,.int .i64 0,.int .i64 0,.int .i64 0,.string ⟨#[]⟩,.slice none 0 0]) Tryz.underlying52 Tryz.sizeOf55 Tryz.zeroValue55 rfl (by omega) (by omega))
           have HA2:=yh a2
           have HR2:=yh r2
           have y0:=HDF8.out.y0
           clear hs hn a2 r2 HSN
           go_wp2_with (first
            | ((with_reducible apply Kao);exact HLD.out _ HB8.out;exact rfl)
            | ((with_reducible apply Kd9);exact HBS.out;exact rfl;clear HBS)
            | ((with_reducible apply Kbz);exact HA2.out;exact rfl;exact rfl;clear HA2))
           go_roundw
           case rel=>exact ⟨j + 1,p2,d2,hlt1,by go_num,by simp,HR2⟩
           case measure=>simp [intOf];omega
      ·obtain rfl : j = b.nodes.length:=by omega
       have hr:=HI.out
       rw [List.take_length] at hr
       obtain ⟨P3,hP3⟩ : ∃ m,m = P2 ++ (newD NodeD.id Kbc a.nodes b.nodes).map comeN:=⟨_,rfl⟩
       have HP3:=yh (show P3.length ≤ 196608 by
        have h3:=HP2.out
        have h4:=HLN.out
        have h0 : ((newD NodeD.id Kbc a.nodes b.nodes).map comeN).length ≤ b.nodes.length:=by rw [List.length_map];exact List.length_filter_le _ _
        rw [hP3,List.length_append];omega)
       have hpl : m = P3.length:=by rw [← HM.out,List.take_length,hP3]
       subst hpl
       rw [← hP3] at hr
       have HE3:=yh hP3
       have HR3:=yh hr
       have y0:=HDF.out.y0
       clear hP3 hr HI hj hlt HM
       generalize q = qz at *
       generalize d = dz at *
       generalize wr = wz at *
       go_wp2
       have HS3:=yh (show VRow CRd 55 11 w wb wz (.slice qz (P3 ++ (newD RelD.id Kbd a.rels (b.rels.take 0)).map comeR).length dz) (P3 ++ (newD RelD.id Kbd a.rels (b.rels.take 0)).map comeR) from by rw [show ((newD RelD.id Kbd a.rels (b.rels.take 0)).map comeR) = [] from by simp [leftD,newD],List.append_nil];exact HR3.out)
       have hz0 : P3.length = (P3 ++ (newD RelD.id Kbd a.rels (b.rels.take 0)).map comeR).length:=by rw [show ((newD RelD.id Kbd a.rels (b.rels.take 0)).map comeR) = [] from by simp [leftD,newD],List.append_nil]
       go_loopw [5,10] (fun o i W=>∃ (j : Nat) (q : Option Addr) (d : Nat),j ≤ b.rels.length ∧ i = .int .i64 (j : Int) ∧ o = .slice q (P3 ++ (newD RelD.id Kbd a.rels (b.rels.take j)).map comeR).length d ∧ Hid (VRow CRd 55 11 w wb W (.slice q (P3 ++ (newD RelD.id Kbd a.rels (b.rels.take j)).map comeR).length d) (P3 ++ (newD RelD.id Kbd a.rels (b.rels.take j)).map comeR))) (fun _ i _=>b.rels.length - (intOf i).toNat)
       case atStart=>exact ⟨0,qz,dz,Nat.zero_le _,rfl,by rw [← hz0],HS3⟩
       case round =>
        rename_i wr
        clear HS3 hz0 HR3
        obtain ⟨j,q,d,hj,rfl,rfl,HI⟩:=hrel
        generalize hm : (P3 ++ (newD RelD.id Kbd a.rels (b.rels.take j)).map comeR).length = m at HI ⊢
        have HM:=yh hm
        clear hm
        have HQ:=yh (HQ0.out.below HI.out.b)
        have HDF:=yh (HD0.out.below HI.out.b)
        by_cases hlt : j < b.rels.length
        ·have hlt1:=Nat.succ_le_of_lt hlt
         have y1:=HDF.out.y1
         obtain ⟨b1,o1,cs,e1,hsz,hcc,hv⟩:=(H2.out.2).get hlt
         subst e1
         have hbw:=Kaa HB2.out HI.out.b
         have hcw : ∀ (i : Nat) (u : Value),cs[i]? = some u → wr.cell? ⟨b1,o1 + j * 5 + i,none⟩ = some u:=fun i u hu=>Kad hbw (ltOf (hcc i u hu)) (hcc i u hu)
         have hvw:=RRd.below hv hbw
         have c1 : wr.cell? ⟨b1,o1 + j * 5,none⟩ = some (.int .i64 b.rels[j].id):=hcw 0 _ (id_firstR hv)
         have hi1 : ∀ W' : World,(Instr.indexAt 23 (.slice (some ⟨b1,o1,none⟩) b.rels.length dr) (.int .i64 (j : Int))).run Tryz.prog W' = .ok (.pointer (some ⟨b1,o1 + j * 5,none⟩)) W':=fun W'=>by simp [go_sem,hlt]
         have hcall:=fun W (g : Below wr.heap.size wr W)=>reffindr_any ((HQ.out.below g).gx) b.rels[j].id
         have hneg:=Kd8 (a.rels.map RelD.id) b.rels[j].id
         rw [List.any_map] at hneg
         have htk : b.rels.take (j + 1) = b.rels.take j ++ [b.rels[j]]:=List.take_succ_eq_append_getElem hlt
         have hlen : (P3 ++ (newD RelD.id Kbd a.rels (b.rels.take j)).map comeR).length ≤ 1100000:=by
          have h0 : ((newD RelD.id Kbd a.rels (b.rels.take j)).map comeR).length ≤ b.rels.length:=by
           rw [List.length_map]
           refine Nat.le_trans (List.length_filter_le _ _) ?_
           rw [List.length_take];omega
          have h3:=HP3.out
          have h4:=HLN.out
          rw [List.length_append]
          omega
         have hany : (a.rels.any ((· == b.rels[j].id) ∘ RelD.id)) = a.rels.any fun s=>s.id == b.rels[j].id:=rfl
         rw [hany] at hneg
         obtain ⟨rid,rsrc,rdst,rty,rp,rn,rc,hcs⟩ : ∃ i1 i2 i3 s p n c,cs = #[.int .i64 i1,.int .i64 i2,.int .i64 i3,.string s,.slice p n c]:=by obtain ⟨pp,cp,rfl,_,_⟩:=hv;exact ⟨_,_,_,_,_,_,_,rfl⟩
         subst hcs
         have hcr:=chgRd_rel hv
         have hsn:=newD_snoc RelD.id Kbd a.rels (b.rels.take j) b.rels[j]
         rw [← htk] at hsn
         have hfs:=fun (h : 0 ≤ Kcj (a.rels.map RelD.id) (b.rels[j]'hlt).id)=>findAt_some (l:=a.rels.map RelD.id) (x:=(b.rels[j]'hlt).id) h
         have hnl:=newD_no RelD.id Kbd (a:=a.rels) (y:=b.rels[j]'hlt)
         have hn1:=fun (x : RelD) (hx : x ∈ a.rels) (he : x.id = (b.rels[j]'hlt).id)=>newD_one RelD.id Kbd HRI.out.2 (x:=x) (y:=b.rels[j]'hlt) hx he
         have HLD:=yh (fun W (g : Below wr.heap.size wr W)=>StT.load (P:=Tryz.prog) (W:=W) (g:=b1) (o:=o1 + j * 5) Kbb hsz fun i u hu=>Kad g (ltOf (hcw i u hu)) (hcw i u hu))
         generalize b.rels[j] = bj at *
         generalize hidj : bj.id = idj at *
         generalize (a.rels.any fun s=>s.id == idj) = bq at *
         generalize Kcj (a.rels.map RelD.id) idj = kf at *
         have HIDJ:=yh hidj
         have HY:=yh (And.intro c1 (And.intro hi1 (And.intro hcall (And.intro hneg (And.intro hlen (And.intro hvw (And.intro hcr (And.intro hsn (And.intro hfs (And.intro hnl hn1))))))))))
         clear hcc hv hcw hvw c1 hi1 hcall hneg htk hlen hsn hany hbw hcr hfs hnl hn1 hidj
         go_wp2
         obtain ⟨c1,hi1,hcall,hneg,hlen,hvw,hcr,hsn,hfs,hnl,hn1⟩:=HY.out
         have hB0 : Below wr.heap.size wr wr.drew:=(Below.refl _ wr).drew
         have hqq:=HQ.out
         have hdf:=HDF.out
         refine Kag (fun W=>Below wr.heap.size wr W) (by kernel_rfl) hB0 (fun hS=>?_)
         refine tk 0 111 (v:=.agg #[.slice pn a.nodes.length cn,.slice pr a.rels.length cr,.int .i64 a.nextNode,.int .i64 a.nextRel]) rfl rfl (fun W hW=>Kac rfl rfl ((hqq.below hW).lg)) ?_;simp only [zP]
         refine tk 1 112 (v:=.pointer (some ⟨w.heap.size + 1,1,none⟩)) rfl rfl (fun W hW=>Kab rfl rfl (fa_api 1 (by omega) _ W)) ?_;simp only [zP]
         refine tk 2 113 (v:=.slice (some ⟨b1,o1,none⟩) b.rels.length dr) rfl rfl (fun W hW=>Kac rfl rfl (Kaf (w:=W) Tryz.underlying23 rfl (hdf.below hW).y1)) ?_;simp only [zP]
         refine tm 3 114 (v:=.int .i64 (j : Int)) rfl rfl rfl ?_;simp only [zP]
         refine tk 4 115 (v:=.pointer (some ⟨b1,o1 + j * 5,none⟩)) rfl rfl (fun W hW=>Kai rfl rfl rfl (hi1 W)) ?_;simp only [zP]
         refine tk 5 116 (v:=.pointer (some ⟨b1,o1 + j * 5,none⟩)) rfl rfl (fun W hW=>Kab rfl rfl (fa_idR _ _ W)) ?_;simp only [zP]
         refine tk 6 117 (v:=.int .i64 idj) rfl rfl (fun W hW=>Kac rfl rfl (Kaf (w:=W) Tryz.underlying2 rfl (Kad hW (ltOf c1) c1))) ?_;simp only [zP]
         refine Kan 7 118 rfl rfl (by kernel_rfl) rfl (Kam [.agg #[.slice pn a.nodes.length cn,.slice pr a.rels.length cr,.int .i64 a.nextNode,.int .i64 a.nextRel],.int .i64 idj] rfl rfl Tryz.func69 (by kernel_rfl) (by kernel_rfl)) ?_
         refine (hcall _ hS).mono ?_
         rintro e W7 ⟨rfl,hb7⟩
         have hS7:=Kaa hS hb7
         refine ⟨_,rfl,.inr hS7,?_⟩;simp only [zP]
         refine tk 8 11 (v:=.int .i64 kf) rfl rfl (fun W hW=>Kaw rfl rfl) ?_;simp only [zP]
         refine done (by kernel_rfl) ?_ _
         have HB7:=yh hS7
         have HX7:=yh (And.intro hneg (And.intro hlen (And.intro hvw (And.intro hcr (And.intro hsn (And.intro hfs (And.intro hnl (And.intro hn1 hi1))))))))
         clear hS hS7 hb7 hB0 c1 hi1 hcall hneg hlen hvw hcr hsn hfs hnl hn1 hqq hdf HY y1
         cases bq with
         | false =>
           have HNEW:=yh (HX7.out.2.2.2.2.2.2.1 rfl)
           go_wp2
           obtain ⟨hneg,hlen,hvw,hcr,hsn,hfs,hnl,hn1,hi1⟩:=HX7.out
           have hB7:=HB7.out
           have hBd : Below wr.heap.size wr W7.drew:=hB7.drew
           have hqq:=HQ.out
           have hdf:=HDF.out
           refine Kag (fun W=>Below wr.heap.size wr W) (by kernel_rfl) hBd (fun hS=>?_)
           refine tm 0 119 (v:=.int .i64 kf) rfl rfl rfl ?_;simp only [zP]
           refine tk 1 120 (v:=.bool true) rfl rfl (fun W hW=>Kal rfl rfl rfl (by rw [lss_0,hneg];rfl)) ?_;simp only [zP]
           refine tm 2 121 (v:=.bool true) rfl rfl rfl ?_;simp only [zP]
           refine tx 3 122 ?_;simp only [zP]
           refine tx 4 123 ?_;simp only [zP]
           refine tx 5 124 ?_;simp only [zP]
           refine tx 6 125 ?_;simp only [zP]
           refine tx 7 126 ?_;simp only [zP]
           refine tx 8 127 ?_;simp only [zP]
           refine tx 9 128 ?_;simp only [zP]
           refine tx 10 129 ?_;simp only [zP]
           refine tx 11 130 ?_;simp only [zP]
           refine tx 12 131 ?_;simp only [zP]
           refine Kas 13 132 rfl rfl (by kernel_rfl) rfl ?_ (.inr (by assumption));simp only [zP]
           refine tx 14 133 ?_;simp only [zP]
           refine tk 15 134 (v:=.bool true) rfl rfl (fun W hW=>rfl) ?_;simp only [zP]
           refine done (by kernel_rfl) ?_ _
           have HI8:=yh (HI.out.below hS)
           have HDF8:=yh (hdf.below hS)
           have HB8:=yh hS
           have HLN8:=yh hlen
           have HCR:=yh hcr
           have HSN:=yh hsn
           have hs:=HSN.out
           rw [if_neg (by rw [HNEW.out];simp)] at hs
           have hn : P3 ++ (newD RelD.id Kbd a.rels (b.rels.take (j + 1))).map comeR = (P3 ++ (newD RelD.id Kbd a.rels (b.rels.take j)).map comeR) ++ [comeR bj]:=by rw [hs,List.map_append,← List.append_assoc];rfl
           obtain ⟨v2,W9,a2,r2⟩:=HI8.out.one Kbv Kcx HCR.out HLN8.out 52
           rw [← hn] at r2
           obtain ⟨p2,d2,rfl⟩:=r2.slice
           have HBS:=yh (Kar (P:=Tryz.prog) (w:=W7.drew) (v:=.agg #[.int .i64 1,.int .i64 0,.int .i64 0,.int .i64 0,.slice none 0 0,.slice none 0 0,.int .i64 rid,.int .i64 rsrc,.int .i64 rdst,.string rty,.slice rp rn rc]) Tryz.underlying52 Tryz.sizeOf55 Tryz.zeroValue55 rfl (by omega) (by omega))
           have HA2:=yh a2
           have HR2:=yh r2
           have y1:=HDF8.out.y1
           clear hs hn a2 r2 HSN
           clear hneg hlen hvw hcr hsn hfs hnl hn1 hi1 hB7 hBd hqq hdf hS HX7 HB7 HI
           go_wp2_with (first
            | ((with_reducible apply Kao);exact HLD.out _ HB8.out;exact rfl)
            | ((with_reducible apply Kd9);exact HBS.out;exact rfl;clear HBS)
            | ((with_reducible apply Kbz);exact HA2.out;exact rfl;exact rfl;clear HA2))
           go_roundw
           case rel=>exact ⟨j + 1,p2,d2,hlt1,by go_num,by simp,HR2⟩
           case measure=>simp [intOf];omega
         | true =>
           obtain ⟨i,hi,hik,hid⟩:=HX7.out.2.2.2.2.2.1 (by have:=HX7.out.1;simp at this;exact this)
           subst hik
           rw [List.length_map] at hi
           rw [List.getElem_map] at hid
           obtain ⟨b2,o2,cs2,e2,hsz2,hcc2,hv2⟩:=(H1.out.2).get hi
           subst e2
           have hbw:=Kaa HB2.out HI.out.b
           have hld2 : ∀ W : World,Below wr.heap.size wr W → (loadVar 49 ⟨b2,o2 + i * 5,none⟩).run Tryz.prog W = .ok (.agg cs2) W:=fun W g=>StT.load (P:=Tryz.prog) (W:=W) Kbb hsz2 fun k u hu=>Kad (Kaa hbw g) (ltOf (hcc2 k u hu)) (hcc2 k u hu)
           have hi2 : ∀ W' : World,(Instr.indexAt 23 (.slice (some ⟨b2,o2,none⟩) a.rels.length cr) (.int .i64 (i : Int))).run Tryz.prog W' = .ok (.pointer (some ⟨b2,o2 + i * 5,none⟩)) W':=fun W'=>by simp [go_sem,hi]
           have hnew:=HX7.out.2.2.2.2.2.2.2.1 a.rels[i] (List.getElem_mem hi) hid
           have hsm:=fun W (g : Below wr.heap.size wr W)=>sameRelD_any (RRd.below hv2 (Kaa hbw g)) (RRd.below HX7.out.2.2.1 g)
           generalize a.rels[i] = xi at *
           have HI2:=yh (And.intro hld2 (And.intro hi2 hsm))
           clear hcc2 hv2 hbw hld2 hi2 hsm hid hsz2
           generalize Kbd xi bj = bs at hnew HI2
           have HNEW:=yh hnew
           clear hnew
           go_wp2
           obtain ⟨hneg,hlen,hvw,hcr,hsn,hfs,hnl,hn1,hi1⟩:=HX7.out
           obtain ⟨hld2,hi2,hsm⟩:=HI2.out
           have hB7:=HB7.out
           have hBd : Below wr.heap.size wr W7.drew:=hB7.drew
           have hqq:=HQ.out
           have hdf:=HDF.out
           refine Kag (fun W=>Below wr.heap.size wr W) (by kernel_rfl) hBd (fun hS=>?_)
           refine tm 0 119 (v:=.int .i64 (i : Int)) rfl rfl rfl ?_;simp only [zP]
           refine tk 1 120 (v:=.bool false) rfl rfl (fun W hW=>Kal rfl rfl rfl (by rw [lss_0,hneg];rfl)) ?_;simp only [zP]
           refine tm 2 121 (v:=.bool false) rfl rfl rfl ?_;simp only [zP]
           refine tk 3 122 (v:=.pointer (some ⟨w.heap.size,1,none⟩)) rfl rfl (fun W hW=>Kab rfl rfl (fa_api 1 (by omega) _ W)) ?_;simp only [zP]
           refine tk 4 123 (v:=.slice (some ⟨b2,o2,none⟩) a.rels.length cr) rfl rfl (fun W hW=>Kac rfl rfl (Kaf (w:=W) Tryz.underlying23 rfl (hdf.below hW).x1)) ?_;simp only [zP]
           refine tm 5 124 (v:=.int .i64 (i : Int)) rfl rfl rfl ?_;simp only [zP]
           refine tk 6 125 (v:=.pointer (some ⟨b2,o2 + i * 5,none⟩)) rfl rfl (fun W hW=>Kai rfl rfl rfl (hi2 W)) ?_;simp only [zP]
           refine tk 7 126 (v:=.agg cs2) rfl rfl (fun W hW=>Kac rfl rfl (hld2 W hW)) ?_;simp only [zP]
           refine tk 8 127 (v:=.pointer (some ⟨w.heap.size + 1,1,none⟩)) rfl rfl (fun W hW=>Kab rfl rfl (fa_api 1 (by omega) _ W)) ?_;simp only [zP]
           refine tk 9 128 (v:=.slice (some ⟨b1,o1,none⟩) b.rels.length dr) rfl rfl (fun W hW=>Kac rfl rfl (Kaf (w:=W) Tryz.underlying23 rfl (hdf.below hW).y1)) ?_;simp only [zP]
           refine tm 10 129 (v:=.int .i64 (j : Int)) rfl rfl rfl ?_;simp only [zP]
           refine tk 11 130 (v:=.pointer (some ⟨b1,o1 + j * 5,none⟩)) rfl rfl (fun W hW=>Kai rfl rfl rfl (hi1 W)) ?_;simp only [zP]
           refine tk 12 131 (v:=.agg #[.int .i64 rid,.int .i64 rsrc,.int .i64 rdst,.string rty,.slice rp rn rc]) rfl rfl (fun W hW=>Kac rfl rfl (HLD.out W hW)) ?_;simp only [zP]
           refine Kan 13 132 rfl rfl (by kernel_rfl) rfl (Kam [.agg cs2,.agg #[.int .i64 rid,.int .i64 rsrc,.int .i64 rdst,.string rty,.slice rp rn rc]] rfl rfl Tryz.func55 (by kernel_rfl) (by kernel_rfl)) ?_
           refine (hsm _ hS).mono ?_
           rintro e W13 ⟨rfl,hb13⟩
           have hS13:=Kaa hS hb13
           refine ⟨_,rfl,.inr hS13,?_⟩;simp only [zP]
           refine tk 14 133 (v:=.bool (!bs)) rfl rfl (fun W hW=>Kap (b:=bs) rfl rfl) ?_;simp only [zP]
           refine tk 15 134 (v:=.bool (!bs)) rfl rfl (fun W hW=>rfl) ?_;simp only [zP]
           refine done (by kernel_rfl) ?_ _
           have HI8:=yh (HI.out.below hS13)
           have HDF8:=yh (hdf.below hS13)
           have HB8:=yh hS13
           have HLN8:=yh hlen
           have HCR:=yh hcr
           have HSN:=yh hsn
           clear hneg hlen hvw hcr hsn hfs hnl hn1 hi1 hB7 hBd hqq hdf hS HX7 HB7 HI hS13 hb13 hi2 hld2 hsm
           cases bs with
           | true =>
             have hs:=HSN.out
             rw [if_pos HNEW.out,List.append_nil] at hs
             have HN:=yh (show P3 ++ (newD RelD.id Kbd a.rels (b.rels.take (j + 1))).map comeR = P3 ++ (newD RelD.id Kbd a.rels (b.rels.take j)).map comeR by rw [hs])
             clear hs HSN
             go_wp2
             go_roundw
             case rel=>exact ⟨j + 1,q,d,hlt1,by go_num,by rw [HN.out,HM.out],yh (by rw [HN.out,HM.out];exact HI8.out)⟩
             case measure=>simp [intOf];omega
           | false =>
             have hs:=HSN.out
             rw [if_neg (by rw [HNEW.out];simp)] at hs
             have hn : P3 ++ (newD RelD.id Kbd a.rels (b.rels.take (j + 1))).map comeR = (P3 ++ (newD RelD.id Kbd a.rels (b.rels.take j)).map comeR) ++ [comeR bj]:=by rw [hs,List.map_append,← List.append_assoc];rfl
             obtain ⟨v2,W9,a2,r2⟩:=HI8.out.one Kbv Kcx HCR.out HLN8.out 52
             rw [← hn] at r2
             obtain ⟨p2,d2,rfl⟩:=r2.slice
             have HBS:=yh (Kar (P:=Tryz.prog) (w:=W13) (v:=.agg #[.int .i64 1,.int .i64 0,.int .i64 0,.int .i64 0,.slice none 0 0,.slice none 0 0,.int .i64 rid,.int .i64 rsrc,.int .i64 rdst,.string rty,.slice rp rn rc]) Tryz.underlying52 Tryz.sizeOf55 Tryz.zeroValue55 rfl (by omega) (by omega))
             have HA2:=yh a2
             have HR2:=yh r2
             have y1:=HDF8.out.y1
             clear hs hn a2 r2 HSN
             go_wp2_with (first
              | ((with_reducible apply Kao);exact HLD.out _ HB8.out;exact rfl)
              | ((with_reducible apply Kd9);exact HBS.out;exact rfl;clear HBS)
              | ((with_reducible apply Kbz);exact HA2.out;exact rfl;exact rfl;clear HA2))
             go_roundw
             case rel=>exact ⟨j + 1,p2,d2,hlt1,by go_num,by simp,HR2⟩
             case measure=>simp [intOf];omega
        ·obtain rfl : j = b.rels.length:=by omega
         have hr:=HI.out
         rw [List.take_length] at hr
         obtain ⟨P4,hP4⟩ : ∃ m,m = P3 ++ (newD RelD.id Kbd a.rels b.rels).map comeR:=⟨_,rfl⟩
         have HP4:=yh (show P4.length ≤ 262144 by
          have h3:=HP3.out
          have h4:=HLN.out
          have h0 : ((newD RelD.id Kbd a.rels b.rels).map comeR).length ≤ b.rels.length:=by rw [List.length_map];exact List.length_filter_le _ _
          rw [hP4,List.length_append];omega)
         have hpl : m = P4.length:=by rw [← HM.out,List.take_length,hP4]
         subst hpl
         rw [← hP4] at hr
         have HE4:=yh hP4
         have HR4:=yh hr
         have y1:=HDF.out.y1
         clear hP4 hr HI hj hlt HM
         generalize q = qz at *
         generalize d = dz at *
         generalize wr = wz at *
         have HR5:=yh (HR4.out)
         have HDZ:=yh HDF.out
         have x2:=HDF.out.x2
         have x3:=HDF.out.x3
         have y2:=HDF.out.y2
         have y3:=HDF.out.y3
         by_cases hnx : a.nextNode = b.nextNode ∧ a.nextRel = b.nextRel
         ·have HNX:=yh hnx
          have e1 : (a.nextNode == b.nextNode) = true:=by rw [beq_iff_eq];exact hnx.1
          have e2 : (a.nextRel == b.nextRel) = true:=by rw [beq_iff_eq];exact hnx.2
          have e1' : (a.nextNode != b.nextNode) = false:=by simp [hnx.1]
          have e2' : (a.nextRel != b.nextRel) = false:=by simp [hnx.2]
          clear hnx
          have hfin : diffQ a b = P4:=by
           unfold diffQ
           rw [if_pos HNX.out,List.append_nil,HE4.out,HE3.out,HE2.out,HE1.out,HE0.out,List.nil_append]
          have HFIN:=yh hfin
          clear hfin
          generalize a.nextNode = n1 at *
          generalize a.nextRel = n2 at *
          generalize b.nextNode = n3 at *
          generalize b.nextRel = n4 at *
          go_wp2
          go_ret
          have hr:=HR5.out
          rw [← HFIN.out] at hr
          obtain ⟨p,c,e,hg⟩:=hr.rd (U:=wz) Kbv (fun h=>CRd.below h (Kaa HB2.out hr.b)) (fun _ _ _=>rfl) (by rw [HFIN.out];have:=HP4.out;omega)
          cases e
          exact ⟨_,_,by rw [HFIN.out];rfl,hg,Kaa HB2.out hr.b⟩
         ·have HNX:=yh hnx
          have hfin : diffQ a b = P4 ++ [⟨4,b.nextNode,b.nextRel,node0,rel0⟩]:=by
           unfold diffQ
           rw [if_neg HNX.out,HE4.out,HE3.out,HE2.out,HE1.out,HE0.out,List.nil_append]
          have hlen : P4.length ≤ 1100000:=by have:=HP4.out;omega
          obtain ⟨v2,W9,a2,r2⟩:=HR5.out.one Kbv Kcx (chgRd_flat w 4 b.nextNode b.nextRel) hlen 52
          rw [← hfin] at r2
          obtain ⟨p2,d2,rfl⟩:=r2.slice
          have HFIN:=yh hfin
          have HBS:=yh (Kar (P:=Tryz.prog) (w:=wz) (v:=.agg #[.int .i64 4,.int .i64 b.nextNode,.int .i64 b.nextRel,.int .i64 0,.slice none 0 0,.slice none 0 0,.int .i64 0,.int .i64 0,.int .i64 0,.string ⟨#[]⟩,.slice none 0 0]) Tryz.underlying52 Tryz.sizeOf55 Tryz.zeroValue55 rfl (by omega) (by omega))
          have HA2:=yh a2
          have HR2:=yh r2
          clear hfin hlen a2 r2
          have hd : (a.nextNode == b.nextNode) = false ∨ ((a.nextNode == b.nextNode) = true ∧ (a.nextRel == b.nextRel) = false):=by
           by_cases h : a.nextNode = b.nextNode
           ·exact .inr ⟨by rw [beq_iff_eq];exact h,by rw [beq_eq_false_iff_ne];exact fun g=>hnx ⟨h,g⟩⟩
           ·exact .inl (by rw [beq_eq_false_iff_ne];exact h)
          clear hnx
          generalize a.nextNode = n1 at *
          generalize a.nextRel = n2 at *
          generalize b.nextNode = n3 at *
          generalize b.nextRel = n4 at *
          rcases hd with e1 | ⟨e1,e2⟩
          ·have e1' : (n1 != n3) = true:=by simp [bne,e1]
           go_wp2_with (first
            | ((with_reducible apply Kd9);exact HBS.out;exact rfl;clear HBS)
            | ((with_reducible apply Kbz);exact HA2.out;exact rfl;exact rfl;clear HA2))
           go_ret
           obtain ⟨p,c,e,hg⟩:=HR2.out.rd (U:=W9) Kbv (fun h=>CRd.below h (Kaa HB2.out HR2.out.b)) (fun _ _ _=>rfl) (by rw [HFIN.out,List.length_append];have:=HP4.out;simp;omega)
           cases e
           exact ⟨_,_,rfl,hg,Kaa HB2.out HR2.out.b⟩
          ·have e1' : (n1 != n3) = false:=by simp [bne,e1]
           have e2' : (n2 != n4) = true:=by simp [bne,e2]
           go_wp2_with (first
            | ((with_reducible apply Kd9);exact HBS.out;exact rfl;clear HBS)
            | ((with_reducible apply Kbz);exact HA2.out;exact rfl;exact rfl;clear HA2))
           go_ret
           obtain ⟨p,c,e,hg⟩:=HR2.out.rd (U:=W9) Kbv (fun h=>CRd.below h (Kaa HB2.out HR2.out.b)) (fun _ _ _=>rfl) (by rw [HFIN.out,List.length_append];have:=HP4.out;simp;omega)
           cases e
           exact ⟨_,_,rfl,hg,Kaa HB2.out HR2.out.b⟩
theorem Gath.turn {w W W' : World} {c : Nat} {l : List ChangeD} {D : Nat → Prop} (h : Gath w W c l) (g : Touch D W W') (hD : ∀ b,D b → b < w.heap.size ∧ b ≠ c) : Gath w W' c l:=by
 obtain ⟨p,k,h4,h5⟩:=h
 exact ⟨p,k,(g.block c (Array.getElem?_eq_some_iff.1 h4).1 fun hd=>(hD c hd).2 rfl).trans h4,h5.keep Kcw fun b hb hl=>g.block b hl fun hd=>by have:=(hD b hd).1;omega⟩
theorem COwn.rdO {w : World} {P : Nat → Prop} {c : ChangeD} {x : Array Value} (h : COwn w P c x) (hn : NOk c.node) (hr : ROk c.rel) : CRd w c x:=by
 obtain ⟨a,b,e,h1,h2⟩:=h
 exact ⟨a,b,e,h1.rdO hn,h2.rdO hr⟩
theorem node0_ok : NOk node0:=⟨by simp [node0],fun s hs=>by simp [node0] at hs,by simp [node0],fun p hp=>by simp [node0] at hp⟩
theorem rel0_ok : ROk rel0:=⟨by simp [rel0],by simp [rel0],fun p hp=>by simp [rel0] at hp⟩
theorem Gath.rd {w W : World} {c : Nat} {l : List ChangeD} (h : Gath w W c l) (hk : ∀ x ∈ l,NOk x.node ∧ ROk x.rel) (hl : l.length ≤ 140737488355328) : ∃ p k,W.cell? ⟨c,0,none⟩ = some (.slice p l.length k) ∧ GRd CRd 11 W p k l:=by
 obtain ⟨p,k,h4,h5⟩:=h
 obtain ⟨p',k',e,hg⟩:=h5.rd (F:=CRd) Kcw hl fun v hv x hx=>hx.rdO (hk v hv).1 (hk v hv).2
 cases e
 exact ⟨_,_,Kae (o:=0) h4 rfl,hg⟩
theorem four_rows {W : World} {g : Nat} {l1 l2 l3 l4 : List ChangeD} {v1 v2 v3 v4 : Value} (hg : W.heap[g]? = some (.cells #[v1,v2,v3,v4] 52 (0,0))) (h1 : CsRd W l1 #[v1]) (h2 : CsRd W l2 #[v2]) (h3 : CsRd W l3 #[v3]) (h4 : CsRd W l4 #[v4]) : GRd CsRd 1 W (some ⟨g,0,none⟩) 4 [l1,l2,l3,l4]:=by
 refine ⟨⟨Nat.le_refl _,by simp,fun h=>by cases h⟩,fun ad had=>⟨fun _=>by cases had;rfl,fun j v hv=>?_⟩⟩
 cases had
 match j,hv with
 | 0,hv=>cases hv;exact ⟨_,rfl,fun i u hu=>by match i,hu with
   | 0,hu=>cases hu;exact Kae (o:=0) hg rfl,h1⟩
 | 1,hv=>cases hv;exact ⟨_,rfl,fun i u hu=>by match i,hu with
   | 0,hu=>cases hu;exact Kae (o:=1) hg rfl,h2⟩
 | 2,hv=>cases hv;exact ⟨_,rfl,fun i u hu=>by match i,hu with
   | 0,hu=>cases hu;exact Kae (o:=2) hg rfl,h3⟩
 | 3,hv=>cases hv;exact ⟨_,rfl,fun i u hu=>by match i,hu with
   | 0,hu=>cases hu;exact Kae (o:=3) hg rfl,h4⟩
 | n + 4,hv=>simp at hv
theorem gone_ok {l : List ChangeD} (h : ∀ x ∈ l,x.node = node0 ∧ x.rel = rel0) : ∀ x ∈ l,NOk x.node ∧ ROk x.rel:=fun x hx=>by rw [(h x hx).1,(h x hx).2];exact ⟨node0_ok,rel0_ok⟩
theorem diffD_rows (a b : GraphD) : diffD a b = [(leftD RelD.id a.rels b.rels).map goneR,(leftD NodeD.id a.nodes b.nodes).map goneN,(newD NodeD.id sameN a.nodes b.nodes).map comeN,(newD RelD.id sameR a.rels b.rels).map comeR].flatten ++ (if a.nextNode = b.nextNode ∧ a.nextRel = b.nextRel then [] else [⟨4,b.nextNode,b.nextRel,node0,rel0⟩]):=by
 unfold diffD
 simp only [List.flatten_cons,List.flatten_nil,List.append_nil,List.append_assoc]
 rfl
theorem sameN_sym {a b : NodeD} (ha : okN a = true) (hb : okN b = true) : sameN b a = sameN a b:=by
 rw [Bool.eq_iff_iff,sameN_iff hb ha,sameN_iff ha hb];exact eq_comm
theorem sameR_sym {a b : RelD} (ha : okR a = true) (hb : okR b = true) : sameR b a = sameR a b:=by
 rw [Bool.eq_iff_iff,sameR_iff hb ha,sameR_iff ha hb];exact eq_comm
theorem run_bs4 {p0 p1 p2 p3 : Option Addr} {n0 n1 n2 n3 k0 k1 k2 k3 : Nat} (w : World) : (Instr.buildSlice 167 4 #[(0,.slice p0 n0 k0),(1,.slice p1 n1 k1),(2,.slice p2 n2 k2),(3,.slice p3 n3 k3)]).run Tryz.prog w = .ok (.slice (some ⟨w.heap.size,0,none⟩) 4 4) (w.alloc (.cells #[.slice p0 n0 k0,.slice p1 n1 k1,.slice p2 n2 k2,.slice p3 n3 k3] 52)):=by
 simp [go_sem]
def DiffPost (w : World) (a b : GraphD) (e : Ending) (w' : World) : Prop:=Below w.heap.size w w' ∧ (okG a = true → okG b = true → ∃ q d,e = .returned (.tuple #[.slice q (diffD a b).length d,.int .i64 0]) ∧ GRd CRd 11 w' q d (diffD a b)) ∧ ((okG a && okG b) = false → e = .returned (.tuple #[.slice none 0 0,.int .i64 2]))
theorem DiffPost.no {w w' : World} {a b : GraphD} (h : Below w.heap.size w w') (g : (okG a && okG b) = false) : DiffPost w a b (.returned (.tuple #[.slice none 0 0,.int .i64 2])) w':=⟨h,(fun h1 h2=>by rw [h1,h2] at g;cases g),fun _=>rfl⟩
theorem DiffPost.yes {w w' : World} {a b : GraphD} {q : Option Addr} {d : Nat} {e : Ending} (h : Below w.heap.size w w') (h1 : okG a = true) (h2 : okG b = true) (he : e = .returned (.tuple #[.slice q (diffD a b).length d,.int .i64 0])) (g : GRd CRd 11 w' q d (diffD a b)) : DiffPost w a b e w':=⟨h,fun _ _=>⟨q,d,he,g⟩,(fun h3=>by rw [h1,h2] at h3;cases h3)⟩
theorem diffG_any {w : World} (hE : Env w) {a b : GraphD} {x y : Array Value} (ha : GrRd w a x) (hb : GrRd w b y) (ka : GOk a) (kb : GOk b) : Calls Tryz.prog 28 #[.agg x,.agg y] w (DiffPost w a b):=by
 have HQ:=yh (LQ2.start ha hb)
 have HE:=yh hE
 have HK:=yh (And.intro ka kb)
 clear ha hb hE ka kb
 cases hoa : okG a with
 | false =>
   have HOA:=yh hoa
   clear hoa
   have HCK1:=yh True.intro
   go_enter Tryz.func28,Tryz.ntmps28
   go_wp2_with (first
    | ((with_reducible apply Kao);exact HQ.out.lg;exact rfl)
    | ((with_reducible apply Kao);exact HQ.out.lo;exact rfl)
    | (go_at_call 24
       (
        have hk9:=HCK1.out
        have hck:=Kcr (HE.out.b HQ.out.b) HQ.out.gx HK.out.1
        rw [HOA.out,show errG false = (2 : Int) from rfl] at hck
        refine hck.mono ?_
        rintro e wc1 ⟨rfl,hb⟩
        replace HQ:=yh (HQ.out.below hb)
        clear hb hck hk9 HCK1)))
   go_ret2
   exact DiffPost.no HQ.out.b (by rw [HOA.out];rfl)
 | true =>
   cases hob : okG b with
   | false =>
     have HOA:=yh hoa
     have HOB:=yh hob
     clear hoa hob
     have HCK1:=yh True.intro
     have HCK2:=yh True.intro
     go_enter Tryz.func28,Tryz.ntmps28
     go_wp2_with (first
      | ((with_reducible apply Kao);exact HQ.out.lg;exact rfl)
      | ((with_reducible apply Kbl);exact HQ.out.lo;exact rfl;exact rfl)
      | (go_at_call 24
         (
          have hk9:=HCK1.out
          have hck:=Kcr (HE.out.b HQ.out.b) HQ.out.gx HK.out.1
          rw [HOA.out,show errG true = (0 : Int) from rfl] at hck
          refine hck.mono ?_
          rintro e wc1 ⟨rfl,hb⟩
          replace HQ:=yh (HQ.out.below hb)
          clear hb hck hk9 HCK1))
      | (go_at_call 24
         (
          have hk9:=HCK2.out
          have hck:=Kcr (HE.out.b HQ.out.b) HQ.out.ox HK.out.2
          rw [HOB.out,show errG false = (2 : Int) from rfl] at hck
          refine hck.mono ?_
          rintro e wc2 ⟨rfl,hb⟩
          replace HQ:=yh (HQ.out.below hb)
          clear hb hck hk9 HCK2)))
     go_ret2
     exact DiffPost.no HQ.out.b (by rw [HOA.out,HOB.out];rfl)
   | true =>
     obtain ⟨⟨a1,a2,a3,a4,a5⟩,a6,a7,a8,a9⟩:=(Kch a).1 hoa
     obtain ⟨⟨b1,b2,b3,b4,b5⟩,b6,b7,b8,b9⟩:=(Kch b).1 hob
     have HEA:=yh (show (∀ x ∈ a.rels,∀ y ∈ b.rels,sameR y x = sameR x y) ∧ Rise RelD.id a.rels ∧ Rise RelD.id b.rels ∧ a.rels.length ≤ 1000000 ∧ b.rels.length ≤ 1000000 from
      ⟨fun x hx y hy=>sameR_sym (a8 x hx).1 (b8 y hy).1,Kbj _ a9,Kbj _ b9,by omega,by omega⟩)
     have HEN:=yh (show (∀ x ∈ a.nodes,∀ y ∈ b.nodes,sameN y x = sameN x y) ∧ Rise NodeD.id a.nodes ∧ Rise NodeD.id b.nodes ∧ a.nodes.length ≤ 1000000 ∧ b.nodes.length ≤ 1000000 from
      ⟨fun x hx y hy=>sameN_sym (a6 x hx).1 (b6 y hy).1,Kbj _ a7,Kbj _ b7,by omega,by omega⟩)
     have hln : ((leftD RelD.id a.rels b.rels).map goneR).length ≤ 65536 ∧ ((leftD NodeD.id a.nodes b.nodes).map goneN).length ≤ 65536 ∧ ((newD NodeD.id sameN a.nodes b.nodes).map comeN).length ≤ 65536 ∧ ((newD RelD.id sameR a.rels b.rels).map comeR).length ≤ 65536:=by
      simp only [List.length_map]
      have h1 : (leftD RelD.id a.rels b.rels).length ≤ a.rels.length:=List.length_filter_le _ _
      have h2 : (leftD NodeD.id a.nodes b.nodes).length ≤ a.nodes.length:=List.length_filter_le _ _
      have h3 : (newD NodeD.id sameN a.nodes b.nodes).length ≤ b.nodes.length:=List.length_filter_le _ _
      have h4 : (newD RelD.id sameR a.rels b.rels).length ≤ b.rels.length:=List.length_filter_le _ _
      omega
     have hdf:=diffD_rows a b
     have hk1 : ∀ x ∈ (leftD RelD.id a.rels b.rels).map goneR,NOk x.node ∧ ROk x.rel:=gone_ok fun x hx=>by obtain ⟨r,_,rfl⟩:=List.mem_map.1 hx;exact ⟨rfl,rfl⟩
     have hk2 : ∀ x ∈ (leftD NodeD.id a.nodes b.nodes).map goneN,NOk x.node ∧ ROk x.rel:=gone_ok fun x hx=>by obtain ⟨r,_,rfl⟩:=List.mem_map.1 hx;exact ⟨rfl,rfl⟩
     have hk3 : ∀ x ∈ (newD NodeD.id sameN a.nodes b.nodes).map comeN,NOk x.node ∧ ROk x.rel:=fun x hx=>by obtain ⟨r,hr,rfl⟩:=List.mem_map.1 hx;exact ⟨HK.out.2.2.2.1 r (List.mem_filter.1 hr).1,rel0_ok⟩
     have hk4 : ∀ x ∈ (newD RelD.id sameR a.rels b.rels).map comeR,NOk x.node ∧ ROk x.rel:=fun x hx=>by obtain ⟨r,hr,rfl⟩:=List.mem_map.1 hx;exact ⟨node0_ok,HK.out.2.2.2.2 r (List.mem_filter.1 hr).1⟩
     have hdd : ((a.nextNode == b.nextNode) = true ∧ (a.nextNode != b.nextNode) = false ∧ (a.nextRel == b.nextRel) = true ∧ (a.nextRel != b.nextRel) = false ∧ (if a.nextNode = b.nextNode ∧ a.nextRel = b.nextRel then [] else [(⟨4,b.nextNode,b.nextRel,node0,rel0⟩ : ChangeD)]) = []) ∨
      ((((a.nextNode == b.nextNode) = false ∧ (a.nextNode != b.nextNode) = true) ∨ ((a.nextNode == b.nextNode) = true ∧ (a.nextNode != b.nextNode) = false ∧ (a.nextRel == b.nextRel) = false ∧ (a.nextRel != b.nextRel) = true)) ∧ (if a.nextNode = b.nextNode ∧ a.nextRel = b.nextRel then [] else [(⟨4,b.nextNode,b.nextRel,node0,rel0⟩ : ChangeD)]) = [⟨4,b.nextNode,b.nextRel,node0,rel0⟩]):=by
      by_cases h1 : a.nextNode = b.nextNode
      ·by_cases h2 : a.nextRel = b.nextRel
       ·exact .inl (by simp [h1,h2])
       ·exact .inr (by simp [h1,h2])
      ·exact .inr (by simp [h1])
     have HDD:=yh hdd
     clear hdd
     have HG:=yh (And.intro hln (And.intro hk1 (And.intro hk2 (And.intro hk3 hk4))))
     have HDF:=yh hdf
     have HOA:=yh hoa
     have HOB:=yh hob
     have HOB9:=yh hob
     have HCK1:=yh True.intro
     have HCK2:=yh True.intro
     clear a1 a2 a3 a4 a5 a6 a7 a8 a9 b1 b2 b3 b4 b5 b6 b7 b8 b9 hln hdf hk1 hk2 hk3 hk4 hoa hob
     have HX:=yh HQ.out.gx
     obtain ⟨pn,cn,pr,cr,hxe,_,_⟩:=HQ.out.gx
     obtain ⟨qn,dn,qr,dr,hye,_,_⟩:=HQ.out.ox
     subst hxe hye
     clear HX
     go_enter Tryz.func28,Tryz.ntmps28
     go_wp2_with (first
      | ((with_reducible apply Kao);exact HQ.out.lg;exact rfl)
      | ((with_reducible apply Kbl);exact HQ.out.lo;exact rfl;exact rfl)
      | (go_at_call 24
         (
          have hk9:=HCK1.out
          have hck:=Kcr (HE.out.b HQ.out.b) HQ.out.gx HK.out.1
          rw [HOA.out,show errG true = (0 : Int) from rfl] at hck
          refine hck.mono ?_
          rintro e wc1 ⟨rfl,hb⟩
          replace HQ:=yh (HQ.out.below hb)
          clear hb hck hk9 HCK1))
      | (go_at_call 24
         (
          have hck:=Kcr (HE.out.b HQ.out.b) HQ.out.ox HK.out.2
          rw [HOB.out,show errG true = (0 : Int) from rfl] at hck
          refine hck.mono ?_
          rintro e wu ⟨rfl,hb⟩
          have HQU:=yh (HQ.out.below hb)
          obtain ⟨pn',cn',pr',cr',e1,rn,rr⟩:=HQU.out.gx
          cases e1
          obtain ⟨qn',dn',qr',dr',e2,sn,sr⟩:=HQU.out.ox
          cases e2
          have HR:=yh (And.intro rn (And.intro rr (And.intro sn sr)))
          have HCE:=yh (And.intro (Kae (o:=0) HQU.out.b1 rfl) (And.intro (Kae (o:=1) HQU.out.b1 rfl) (And.intro (Kae (o:=0) HQU.out.b2 rfl) (And.intro (Kae (o:=1) HQU.out.b2 rfl) (And.intro (Kae (o:=2) HQU.out.b1 rfl) (And.intro (Kae (o:=3) HQU.out.b1 rfl) (And.intro (Kae (o:=2) HQU.out.b2 rfl) (Kae (o:=3) HQU.out.b2 rfl))))))))
          have hb4 : Below wu.heap.size wu ((((wu.alloc (.cells #[.slice none 0 0] 52)).alloc (.cells #[.slice none 0 0] 52)).alloc (.cells #[.slice none 0 0] 52)).alloc (.cells #[.slice none 0 0] 52)):=((((Below.refl _ wu).alloc (Nat.le_refl _) _).alloc (by simp) _).alloc (by simp;omega) _).alloc (by simp;omega) _
          have hs4 : ((((wu.alloc (.cells #[.slice none 0 0] 52)).alloc (.cells #[.slice none 0 0] 52)).alloc (.cells #[.slice none 0 0] 52)).alloc (.cells #[.slice none 0 0] 52)).heap.size = wu.heap.size + 4:=by simp
          have hc : ∀ k,k < 4 → ((((wu.alloc (.cells #[.slice none 0 0] 52)).alloc (.cells #[.slice none 0 0] 52)).alloc (.cells #[.slice none 0 0] 52)).alloc (.cells #[.slice none 0 0] 52)).heap[wu.heap.size + k]? = some (.cells #[.slice none 0 0] 52 (0,0)):=fun k hk=>by
           simp only [Kbk,World.size_alloc]
           match k,hk with
           | 0,_=>rw [if_neg (by omega),if_neg (by omega),if_neg (by omega),if_pos (by omega)]
           | 1,_=>rw [if_neg (by omega),if_neg (by omega),if_pos (by omega)]
           | 2,_=>rw [if_neg (by omega),if_pos (by omega)]
           | 3,_=>rw [if_pos (by omega)]
          have cn0:=Kad hb4 (ltOf HCE.out.2.1) HCE.out.2.1
          have cn1:=Kad hb4 (ltOf HCE.out.2.2.2.1) HCE.out.2.2.2.1
          generalize hw4 : (((wu.alloc (.cells #[.slice none 0 0] 52)).alloc (.cells #[.slice none 0 0] 52)).alloc (.cells #[.slice none 0 0] 52)).alloc (.cells #[.slice none 0 0] 52) = w4 at *
          have HER:=yh (eachR_any (w:=w4) (U:=wu) (HE.out.b HQU.out.b) hb4 HR.out.2.1 HR.out.2.2.2 HK.out.1.2.2.2 HK.out.2.2.2.2 HEA.out.1 HEA.out.2.1 HEA.out.2.2.1 HEA.out.2.2.2.1 HEA.out.2.2.2.2 (c1:=wu.heap.size) (c2:=wu.heap.size + 1 + 1 + 1) (hc 0 (by omega)) (hc 3 (by omega)) (by omega) (by omega))
          have HB4:=yh (And.intro hb4 (And.intro hs4 (And.intro (hc 1 (by omega)) (hc 2 (by omega)))))
          have HW4:=yh hw4
          subst hw4
          clear hb hck HCK2 rn rr sn sr hb4 hs4 hc HQ HOB))
      | (go_at_call 84
         (
          refine HER.out.mono ?_
          rintro e w5 ⟨rfl,g1,g4,hT5⟩
          have hU5 : Below wu.heap.size wu w5:=hT5.below HB4.out.1 (fun y hy e=>by omega) (by have:=HB4.out.1.size;omega)
          have hs4:=HB4.out.2.1
          have hc2:=(hT5.block (wu.heap.size + 1) (by omega) (by omega)).trans HB4.out.2.2.1
          have hc3:=(hT5.block (wu.heap.size + 2) (by omega) (by omega)).trans HB4.out.2.2.2
          have HEN2:=yh (eachN_any (w:=w5) (U:=wu) (HE.out.b HQU.out.b) hU5 HR.out.1 HR.out.2.2.1 HK.out.1.2.2.1 HK.out.2.2.2.1 HEN.out.1 HEN.out.2.1 HEN.out.2.2.1 HEN.out.2.2.2.1 HEN.out.2.2.2.2 (c1:=wu.heap.size + 1) (c2:=wu.heap.size + 1 + 1) hc2 hc3 (by omega) (by omega))
          have dn0:=Kad hU5 (ltOf HCE.out.1) HCE.out.1
          have dn1:=Kad hU5 (ltOf HCE.out.2.2.1) HCE.out.2.2.1
          have HG5:=yh (And.intro g1 (And.intro g4 (And.intro hU5 (And.intro hs4 hT5.size))))
          clear g1 g4 hT5 hU5 hs4 hc2 hc3 HER cn0 cn1))
      | (go_at_call 88
         (
          refine HEN2.out.mono ?_
          rintro e w6 ⟨rfl,g2,g3,hT6⟩
          have hs5:=HG5.out.2.2.2.2
          have hs4:=HG5.out.2.2.2.1
          have hU6 : Below wu.heap.size wu w6:=hT6.below HG5.out.2.2.1 (fun y hy e=>by omega) (by omega)
          have g1:=HG5.out.1.turn hT6 (fun b hb=>by omega)
          have g4:=HG5.out.2.1.turn hT6 (fun b hb=>by omega)
          obtain ⟨p1,k1,f1,r1⟩:=g1.rd HG.out.2.1 (by have:=HG.out.1.1;omega)
          obtain ⟨p4,k4,f4,r4⟩:=g4.rd HG.out.2.2.2.2 (by have:=HG.out.1.2.2.2;omega)
          obtain ⟨p2,k2,f2,r2⟩:=g2.rd HG.out.2.2.1 (by have:=HG.out.1.2.1;omega)
          obtain ⟨p3,k3,f3,r3⟩:=g3.rd HG.out.2.2.2.1 (by have:=HG.out.1.2.2.1;omega)
          generalize hm1 : ((leftD RelD.id a.rels b.rels).map goneR).length = m1 at f1
          generalize hm2 : ((leftD NodeD.id a.nodes b.nodes).map goneN).length = m2 at f2
          generalize hm3 : ((newD NodeD.id sameN a.nodes b.nodes).map comeN).length = m3 at f3
          generalize hm4 : ((newD RelD.id sameR a.rels b.rels).map comeR).length = m4 at f4
          have hbs4:=fun W=>run_bs4 (p0:=p1) (p1:=p2) (p2:=p3) (p3:=p4) (n0:=m1) (n1:=m2) (n2:=m3) (n3:=m4) (k0:=k1) (k1:=k2) (k2:=k3) (k3:=k4) W
          have hn7:=Kah (w:=w6) (.cells #[.slice p1 m1 k1,.slice p2 m2 k2,.slice p3 m3 k3,.slice p4 m4 k4] 52)
          have h4r:=four_rows (heap_alloc_new w6 (.cells #[.slice p1 m1 k1,.slice p2 m2 k2,.slice p3 m3 k3,.slice p4 m4 k4] 52)) (l1:=(leftD RelD.id a.rels b.rels).map goneR) (l2:=(leftD NodeD.id a.nodes b.nodes).map goneN) (l3:=(newD NodeD.id sameN a.nodes b.nodes).map comeN) (l4:=(newD RelD.id sameR a.rels b.rels).map comeR)
           ⟨p1,k1,by rw [hm1],GRd.below (fun h=>CRd.below h hn7) r1 hn7⟩ ⟨p2,k2,by rw [hm2],GRd.below (fun h=>CRd.below h hn7) r2 hn7⟩ ⟨p3,k3,by rw [hm3],GRd.below (fun h=>CRd.below h hn7) r3 hn7⟩ ⟨p4,k4,by rw [hm4],GRd.below (fun h=>CRd.below h hn7) r4 hn7⟩
          have HCC:=yh (concatC_any h4r (by have:=HG.out.1;simp only [List.flatten_cons,List.flatten_nil,List.append_nil,List.length_append];omega) (by simp))
          have HB7:=yh (Kaa hU6 hn7)
          clear hn7 h4r hm1 hm2 hm3 hm4
          clear hs5 hs4 hU6 g1 g2 g3 g4 r1 r2 r3 r4 hT6 HEN2 HG5 dn0 dn1))
      | (go_at_call 92
         (
          refine HCC.out.mono ?_
          rintro e w8 ⟨q,d,rfl,hv⟩
          generalize hls : ([(leftD RelD.id a.rels b.rels).map goneR,(leftD NodeD.id a.nodes b.nodes).map goneN,(newD NodeD.id sameN a.nodes b.nodes).map comeN,(newD RelD.id sameR a.rels b.rels).map comeR] : List (List ChangeD)).flatten = ls at *
          generalize hmL : ls.length = mL at hv ⊢
          have hlen : ls.length ≤ 1000000:=by have:=HG.out.1;rw [← hls];simp only [List.flatten_cons,List.flatten_nil,List.append_nil,List.length_append];omega
          have hb8:=Kaa HB7.out hv.b
          have x2:=Kad hb8 (ltOf HCE.out.2.2.2.2.1) HCE.out.2.2.2.2.1
          have x3:=Kad hb8 (ltOf HCE.out.2.2.2.2.2.1) HCE.out.2.2.2.2.2.1
          have y2:=Kad hb8 (ltOf HCE.out.2.2.2.2.2.2.1) HCE.out.2.2.2.2.2.2.1
          have y3:=Kad hb8 (ltOf HCE.out.2.2.2.2.2.2.2) HCE.out.2.2.2.2.2.2.2
          have hbw:=Kaa HQU.out.b hb8
          have HBS:=yh (Kar (P:=Tryz.prog) (w:=w8) (v:=.agg #[.int .i64 4,.int .i64 b.nextNode,.int .i64 b.nextRel,.int .i64 0,.slice none 0 0,.slice none 0 0,.int .i64 0,.int .i64 0,.int .i64 0,.string ⟨#[]⟩,.slice none 0 0]) Tryz.underlying52 Tryz.sizeOf55 Tryz.zeroValue55 rfl (by omega) (by omega))
          obtain ⟨p9,k9,e9,hg9⟩:=hv.rd (U:=w8) Kbv (fun h=>CRd.below h hv.b) (fun _ _ _=>rfl) (by omega)
          have hq9 : p9 = q:=by injection e9 with h1 _ _;exact h1.symm
          have hk9 : k9 = d:=by injection e9 with _ _ h3;exact h3.symm
          subst hq9 hk9
          have HF1:=yh (And.intro hbw (And.intro hmL hg9))
          obtain ⟨v2,W9,a2,r2⟩:=hv.one Kbv Kcx (chgRd_flat _ 4 b.nextNode b.nextRel) (by omega) 52
          obtain ⟨p8,k8,e8,hg8⟩:=r2.rd (U:=W9) Kbv (fun h=>CRd.below h r2.b) (fun _ _ _=>rfl) (by rw [List.length_append];simp;omega)
          have hb9:=Kaa (Kaa HQU.out.b HB7.out) r2.b
          subst e8
          obtain ⟨nD,hnD⟩ : ∃ n,(ls ++ [(⟨4,b.nextNode,b.nextRel,node0,rel0⟩ : ChangeD)]).length = n:=⟨_,rfl⟩
          rw [hnD] at a2
          have HA2:=yh a2
          have HF2:=yh (And.intro hb9 (And.intro hnD hg8))
          clear hls hmL hlen hb8 hbw hg9 hv HCC a2 r2 e9 hg8 hb9 hnD
          rcases HDD.out with ⟨e1,e1',e2,e2',hnn⟩ | ⟨⟨e1,e1'⟩ | ⟨e1,e1',e2,e2'⟩,hnn⟩
          all_goals (have HNN:=yh hnn;clear hnn)))
      | ((with_reducible apply Kd9);exact HBS.out;exact rfl;clear HBS)
      | ((with_reducible apply Kbz);exact HA2.out;exact rfl;exact rfl;clear HA2))
     ·go_ret2
      exact DiffPost.yes HF1.out.1 HOA.out HOB9.out (by rw [HDF.out,HNN.out,List.append_nil,HF1.out.2.1];rfl) (by rw [HDF.out,HNN.out,List.append_nil];exact HF1.out.2.2)
     all_goals (go_ret2;exact DiffPost.yes HF2.out.1 HOA.out HOB9.out (by rw [HDF.out,HNN.out,HF2.out.2.1];rfl) (by rw [HDF.out,HNN.out];exact HF2.out.2.2))
theorem newD_congr {α : Type} (id : α → Int) {f g : α → α → Bool} {a b : List α} (h : ∀ x ∈ a,∀ y ∈ b,f x y = g x y) : newD id f a b = newD id g a b:=by
 unfold newD
 apply List.filter_congr
 intro y hy
 congr 1
 rw [Bool.eq_iff_iff,List.any_eq_true,List.any_eq_true]
 constructor
 ·rintro ⟨x,hx,e⟩;exact ⟨x,hx,by rwa [← h x hx y hy]⟩
 ·rintro ⟨x,hx,e⟩;exact ⟨x,hx,by rwa [h x hx y hy]⟩
theorem diffQ_eq {a b : GraphD} (ha : okG a = true) (hb : okG b = true) : diffQ a b = diffD a b:=by
 obtain ⟨_,a6,a7,a8,a9⟩:=(Kch a).1 ha
 obtain ⟨_,b6,b7,b8,b9⟩:=(Kch b).1 hb
 have h1 : newD NodeD.id Kbc a.nodes b.nodes = newD NodeD.id sameN a.nodes b.nodes:=newD_congr NodeD.id fun x hx y hy=>by rw [Bool.eq_iff_iff,sameNQ_iff,sameN_iff (a6 x hx).1 (b6 y hy).1]
 have h2 : newD RelD.id Kbd a.rels b.rels = newD RelD.id sameR a.rels b.rels:=newD_congr RelD.id fun x hx y hy=>by rw [Bool.eq_iff_iff,sameRQ_iff,sameR_iff (a8 x hx).1 (b8 y hy).1]
 rw [diffD_rows]
 unfold diffQ
 rw [h1,h2]
 simp only [List.flatten_cons,List.flatten_nil,List.append_nil,List.append_assoc]
theorem mem_diff {a b : GraphD} {c : ChangeD} (h : c ∈ diffD a b) : (c.node = node0 ∨ c.node ∈ b.nodes) ∧ (c.rel = rel0 ∨ c.rel ∈ b.rels):=by
 rw [diffD_rows] at h
 simp only [List.flatten_cons,List.flatten_nil,List.append_nil,List.mem_append,List.mem_map] at h
 rcases h with (⟨r,hr,rfl⟩ | ⟨r,hr,rfl⟩ | ⟨r,hr,rfl⟩ | ⟨r,hr,rfl⟩) | h
 ·exact ⟨.inl rfl,.inl rfl⟩
 ·exact ⟨.inl rfl,.inl rfl⟩
 ·exact ⟨.inr (List.mem_filter.1 hr).1,.inl rfl⟩
 ·exact ⟨.inl rfl,.inr (List.mem_filter.1 hr).1⟩
 ·split at h
  ·cases h
  ·rw [List.mem_singleton.1 h];exact ⟨.inl rfl,.inl rfl⟩
theorem len_diff {a b : GraphD} (ha : okG a = true) (hb : okG b = true) : (diffD a b).length ≤ 262145:=by
 obtain ⟨⟨a1,_⟩,_⟩:=(Kch a).1 ha
 obtain ⟨⟨b1,_⟩,_⟩:=(Kch b).1 hb
 have h1 : (leftD RelD.id a.rels b.rels).length ≤ a.rels.length:=List.length_filter_le _ _
 have h2 : (leftD NodeD.id a.nodes b.nodes).length ≤ a.nodes.length:=List.length_filter_le _ _
 have h3 : (newD NodeD.id sameN a.nodes b.nodes).length ≤ b.nodes.length:=List.length_filter_le _ _
 have h4 : (newD RelD.id sameR a.rels b.rels).length ≤ b.rels.length:=List.length_filter_le _ _
 have h5 : (if a.nextNode = b.nextNode ∧ a.nextRel = b.nextRel then [] else [(⟨4,b.nextNode,b.nextRel,node0,rel0⟩ : ChangeD)]).length ≤ 1:=by split <;> simp
 rw [diffD_rows]
 simp only [List.flatten_cons,List.flatten_nil,List.append_nil,List.length_append,List.length_map]
 omega
theorem all2_refl {α : Type} {f : α → α → Bool} (h : ∀ x,f x x = true) : ∀ l : List α,all2 f l l = true
 | []=>rfl
 | a :: l=>by simp [all2,h a,all2_refl h l]
theorem gdiff_any {w : World} (hE : Env w) {a b : GraphD} {x y : Array Value} (h1 : GrRd w a x) (h2 : GrRd w b y) (k1 : GOk a) (k2 : GOk b) : Calls Tryz.prog 8 #[.agg x,.agg y] w fun e w'=>e = .returned (.bool true) ∧ Below w.heap.size w w':=by
 have HQ:=yh (LQ2.start h1 h2)
 have HE:=yh hE
 have HK:=yh (And.intro (And.intro k1 k1.tot) (And.intro k2 k2.tot))
 clear h1 h2 hE k1 k2
 cases hoa : okG a with
 | false =>
   have HOA:=yh hoa
   clear hoa
   have HV1:=yh True.intro
   have HV2:=yh True.intro
   have HD1:=yh True.intro
   have HR1:=yh True.intro
   go_enter Tryz.func8,Tryz.ntmps8
   go_wp2_with (first
    | ((with_reducible apply Kao);exact HQ.out.lg;exact rfl)
    | ((with_reducible apply Kao);exact HQ.out.lo;exact rfl)
    | ((with_reducible apply Kbl);exact HQ.out.lg;exact rfl;exact rfl)
    | ((with_reducible apply Kbl);exact HQ.out.lo;exact rfl;exact rfl)
    | (go_at_call 9
       (
        have hk9:=HV1.out
        refine (vast_any HQ.out.gx HK.out.1.2).mono ?_
        rintro e wv1 ⟨⟨bv,rfl⟩,hb⟩
        replace HQ:=yh (HQ.out.below hb)
        clear hb
        cases bv
        clear hk9 HV1))
    | (go_at_call 9
       (
        have hk9:=HV2.out
        refine (vast_any HQ.out.ox HK.out.2.2).mono ?_
        rintro e wv2 ⟨⟨bv,rfl⟩,hb⟩
        replace HQ:=yh (HQ.out.below hb)
        clear hb
        cases bv
        clear hk9 HV2))
    | (go_at_call 28
       (
        have hk9:=HD1.out
        refine (diffG_any (HE.out.b HQ.out.b) HQ.out.gx HQ.out.ox HK.out.1.1 HK.out.2.1).mono ?_
        rintro e wd ⟨hb,_,h3⟩
        obtain rfl:=h3 (by rw [HOA.out];rfl)
        replace HQ:=yh (HQ.out.below hb)
        clear hb h3
        clear hk9 HD1))
    | (go_at_call 11
       (
        have hk9:=HR1.out
        have hrc:=Kde HQ.out.gx HK.out.1.2
        rw [HOA.out] at hrc
        refine hrc.mono ?_
        rintro e wr1 ⟨rfl,hb⟩
        replace HQ:=yh (HQ.out.below hb)
        clear hb hrc
        clear hk9 HR1))
    | (go_at_call 12;refine (known_any (HE.out.b HQ.out.b)).mono ?_;rintro e wk ⟨rfl,hb⟩;have HKB:=yh (Kaa HQ.out.b hb);clear hb))
   all_goals (go_ret;exact ⟨rfl,HKB.out⟩)
 | true =>
   cases hob : okG b with
   | false =>
     have HOA:=yh hoa
     have HOB:=yh hob
     clear hoa hob
     have HV1:=yh True.intro
     have HV2:=yh True.intro
     have HD1:=yh True.intro
     have HR1:=yh True.intro
     have HR2:=yh True.intro
     go_enter Tryz.func8,Tryz.ntmps8
     go_wp2_with (first
      | ((with_reducible apply Kao);exact HQ.out.lg;exact rfl)
      | ((with_reducible apply Kao);exact HQ.out.lo;exact rfl)
      | ((with_reducible apply Kbl);exact HQ.out.lg;exact rfl;exact rfl)
      | ((with_reducible apply Kbl);exact HQ.out.lo;exact rfl;exact rfl)
      | (go_at_call 9
         (
          have hk9:=HV1.out
          refine (vast_any HQ.out.gx HK.out.1.2).mono ?_
          rintro e wv1 ⟨⟨bv,rfl⟩,hb⟩
          replace HQ:=yh (HQ.out.below hb)
          clear hb
          cases bv
          clear hk9 HV1))
      | (go_at_call 9
         (
          have hk9:=HV2.out
          refine (vast_any HQ.out.ox HK.out.2.2).mono ?_
          rintro e wv2 ⟨⟨bv,rfl⟩,hb⟩
          replace HQ:=yh (HQ.out.below hb)
          clear hb
          cases bv
          clear hk9 HV2))
      | (go_at_call 28
         (
          have hk9:=HD1.out
          refine (diffG_any (HE.out.b HQ.out.b) HQ.out.gx HQ.out.ox HK.out.1.1 HK.out.2.1).mono ?_
          rintro e wd ⟨hb,_,h3⟩
          obtain rfl:=h3 (by rw [HOA.out,HOB.out];rfl)
          replace HQ:=yh (HQ.out.below hb)
          clear hb h3
          clear hk9 HD1))
      | (go_at_call 11
         (
          have hk9:=HR1.out
          have hrc:=Kde HQ.out.gx HK.out.1.2
          rw [HOA.out] at hrc
          refine hrc.mono ?_
          rintro e wr1 ⟨rfl,hb⟩
          replace HQ:=yh (HQ.out.below hb)
          clear hb hrc
          clear hk9 HR1))
      | (go_at_call 11
         (
          have hk9:=HR2.out
          have hrc:=Kde HQ.out.ox HK.out.2.2
          rw [HOB.out] at hrc
          refine hrc.mono ?_
          rintro e wr2 ⟨rfl,hb⟩
          replace HQ:=yh (HQ.out.below hb)
          clear hb hrc
          clear hk9 HR2))
      | (go_at_call 12;refine (known_any (HE.out.b HQ.out.b)).mono ?_;rintro e wk ⟨rfl,hb⟩;have HKB:=yh (Kaa HQ.out.b hb);clear hb))
     all_goals (go_ret;exact ⟨rfl,HKB.out⟩)
   | true =>
     obtain ⟨⟨a1,a2,a3,a4,a5⟩,a6,a7,a8,a9⟩:=(Kch a).1 hoa
     obtain ⟨⟨b1,b2,b3,b4,b5⟩,b6,b7,b8,b9⟩:=(Kch b).1 hob
     have hids : ∀ c ∈ diffD a b,i64R c.node.id ∧ i64R c.rel.id:=fun c hc=>by
      obtain ⟨h1,h2⟩:=mem_diff hc
      constructor
      ·rcases h1 with h1 | h1
       ·rw [h1];unfold i64R node0;simp
       ·have:=(b6 _ h1).2
        have h3:=(b6 _ h1).1
        unfold okN at h3
        simp only [Bool.and_eq_true,decide_eq_true_eq] at h3
        unfold i64R;omega
      ·rcases h2 with h2 | h2
       ·rw [h2];unfold i64R rel0;simp
       ·have:=(b8 _ h2).2.1
        have h3:=(b8 _ h2).1
        unfold okR at h3
        simp only [Bool.and_eq_true,decide_eq_true_eq] at h3
        unfold i64R;omega
     have hcs : ∀ c ∈ diffD a b,NOk c.node ∧ ROk c.rel:=fun c hc=>by
      obtain ⟨h1,h2⟩:=mem_diff hc
      constructor
      ·rcases h1 with h1 | h1
       ·rw [h1];exact node0_ok
       ·exact HK.out.2.1.2.2.1 _ h1
      ·rcases h2 with h2 | h2
       ·rw [h2];exact rel0_ok
       ·exact HK.out.2.1.2.2.2 _ h2
     have hln:=len_diff hoa hob
     have hap : GApt a (diffD a b).length:=⟨HK.out.1.1.2.2.1,HK.out.1.1.2.2.2,by omega⟩
     have HI:=yh (And.intro hids (And.intro hap hcs))
     have HI9:=yh (And.intro (And.intro (Kbj NodeD.id a7) (Kbj RelD.id a9)) (And.intro a1 b1))
     have HOA:=yh hoa
     have HOB:=yh hob
     clear hoa hob a1 a2 a3 a4 a5 a6 a7 a8 a9 b1 b2 b3 b4 b5 b6 b7 b8 b9 hids hcs hln hap
     have HV1:=yh True.intro
     have HV2:=yh True.intro
     have HD1:=yh True.intro
     have HR1:=yh True.intro
     have HR2:=yh True.intro
     have HA1:=yh True.intro
     have HF1:=yh True.intro
     have HS1:=yh True.intro
     have HZ1:=yh True.intro
     go_enter Tryz.func8,Tryz.ntmps8
     go_wp2_with (first
      | ((with_reducible apply Kao);exact HQ.out.lg;exact rfl)
      | ((with_reducible apply Kao);exact HQ.out.lo;exact rfl)
      | ((with_reducible apply Kbl);exact HQ.out.lg;exact rfl;exact rfl)
      | ((with_reducible apply Kbl);exact HQ.out.lo;exact rfl;exact rfl)
      | (go_at_call 9
         (
          have hk9:=HV1.out
          refine (vast_any HQ.out.gx HK.out.1.2).mono ?_
          rintro e wv1 ⟨⟨bv,rfl⟩,hb⟩
          replace HQ:=yh (HQ.out.below hb)
          clear hb
          cases bv
          clear hk9 HV1))
      | (go_at_call 9
         (
          have hk9:=HV2.out
          refine (vast_any HQ.out.ox HK.out.2.2).mono ?_
          rintro e wv2 ⟨⟨bv,rfl⟩,hb⟩
          replace HQ:=yh (HQ.out.below hb)
          clear hb
          cases bv
          clear hk9 HV2))
      | (go_at_call 28
         (
          have hk9:=HD1.out
          refine (diffG_any (HE.out.b HQ.out.b) HQ.out.gx HQ.out.ox HK.out.1.1 HK.out.2.1).mono ?_
          rintro e wd ⟨hb,h3,_⟩
          obtain ⟨q,d,rfl,hg⟩:=h3 HOA.out HOB.out
          replace HQ:=yh (HQ.out.below hb)
          have HG:=yh hg
          generalize hnD : (diffD a b).length = nD
          have HND:=yh hnD
          clear hb h3 hg hnD
          clear hk9 HD1))
      | (go_at_call 11
         (
          have hk9:=HR1.out
          have hrc:=Kde HQ.out.gx HK.out.1.2
          rw [HOA.out] at hrc
          refine hrc.mono ?_
          rintro e wr1 ⟨rfl,hb⟩
          replace HQ:=yh (HQ.out.below hb)
          have HG':=yh (GRd.below (fun h=>CRd.below h hb) HG.out hb)
          clear HG
          have HG:=HG'
          clear HG'
          clear hb hrc
          clear hk9 HR1))
      | (go_at_call 11
         (
          have hk9:=HR2.out
          have hrc:=Kde HQ.out.ox HK.out.2.2
          rw [HOB.out] at hrc
          refine hrc.mono ?_
          rintro e wr2 ⟨rfl,hb⟩
          replace HQ:=yh (HQ.out.below hb)
          have HG':=yh (GRd.below (fun h=>CRd.below h hb) HG.out hb)
          clear HG
          have HG:=HG'
          clear HG'
          clear hb hrc
          clear hk9 HR2))
      | (go_at_call 18
         (
          have hk9:=HA1.out
          have hap:=apply_any (HE.out.b HQ.out.b) HQ.out.gx HG.out HI.out.1 HI.out.2.1 HI.out.2.2
          rw [applyD_diff HOA.out HOB.out,HND.out] at hap
          refine hap.mono ?_
          rintro e wa ⟨y7,rfl,hy,hb⟩
          have hyr:=hy.rdO HK.out.2.1
          have hn:=Kah (w:=wa) (.cells y7 25)
          have hba:=Kaa hb hn
          have HST:=yh (StT.fresh (P:=Tryz.prog) (W:=wa) Ka5 (Kcy.size hyr) (Kcy.ones hyr))
          have HL7:=yh (show Lies wa.heap.size 25 y7 (wa.alloc (.cells y7 25)) from heap_alloc_new wa _)
          have HR7:=yh (hyr.below hn)
          replace HQ:=yh (HQ.out.below hba)
          have HG':=yh (GRd.below (fun h=>CRd.below h hba) HG.out hba)
          clear HG
          have HG:=HG'
          clear HG' hb hy hyr hn hba hap
          clear hk9 HA1))
      | ((with_reducible apply Kaq);exact HST.out _ rfl;exact rfl;exact rfl;clear HST)
      | ((with_reducible apply Kao);exact HL7.out.get (Kcy.size HR7.out);exact rfl)
      | ((with_reducible apply Kbl);exact HL7.out.get (Kcy.size HR7.out);exact rfl;exact rfl)
      | (go_at_call 30
         (
          have hk9:=HF1.out
          have hrd:=refdiff_any HQ.out.gx HQ.out.ox HI9.out.1 HI9.out.2.1 HI9.out.2.2
          rw [diffQ_eq HOA.out HOB.out] at hrd
          refine hrd.mono ?_
          rintro e w8 ⟨q8,d8,rfl,hg8,hb⟩
          rw [HND.out]
          replace HQ:=yh (HQ.out.below hb)
          have hg:=GRd.below (fun h=>CRd.below h hb) HG.out hb
          have hl7:=HL7.out.below hb
          have hr7:=HR7.out.below hb
          have hsc:=sameChanges_any hg hg8
          rw [all2_refl (fun x=>(sameCQ_iff x x).2 rfl),HND.out] at hsc
          have HSC:=yh hsc
          clear HL7 HR7 HG
          have HL7:=yh hl7
          have HR7:=yh hr7
          clear hb hrd hg hg8 hl7 hr7 hsc
          clear hk9 HF1))
      | (go_at_call 29
         (
          have hk9:=HS1.out
          refine HSC.out.mono ?_
          rintro e w9 ⟨rfl,hb⟩
          replace HQ:=yh (HQ.out.below hb)
          have hl7:=HL7.out.below hb
          have hr7:=HR7.out.below hb
          clear HL7 HR7
          have HL7:=yh hl7
          have HR7:=yh hr7
          clear hb HSC hl7 hr7
          clear hk9 HS1))
      | (go_at_call 17
         (
          have hk9:=HZ1.out
          have hs:=sameRefG_any HR7.out HQ.out.ox
          rw [(sameGQ_iff b b).2 rfl] at hs
          refine hs.mono ?_
          rintro e w10 ⟨rfl,hb⟩
          replace HQ:=yh (HQ.out.below hb)
          clear hb hs
          clear hk9 HZ1))
      | (go_at_call 12;refine (known_any (HE.out.b HQ.out.b)).mono ?_;rintro e wk ⟨rfl,hb⟩;have HKB:=yh (Kaa HQ.out.b hb);clear hb))
     all_goals (go_ret;exact ⟨rfl,HKB.out⟩)
end Go.Proofs.YtihfnegakcghiaaGreatDoor
namespace Go.Proofs.YtihfnegakcghiaaGreatDoor
open Go.ChangeShapes Go.WideShapes Go.ChangeAt Go.RowKit Go.Joins
theorem graphDiff_reads (os : Os) {H : Type} (enc : TypeId × Value → H) : ∃ x : List (DataW H) × List (DataW H) × List MemPlace,DataW.whole enc Tryz.checked.prog ((World.laidAll Tryz.prog os LD).forCall (fun _ _=>0) ⟨#[],#[.agg #[.slice none 0 0,.slice none 0 0,.int .i64 0,.int .i64 0],.agg #[.slice none 0 0,.slice none 0 0,.int .i64 0,.int .i64 0]],[]⟩).memory Tryz.f8.params.toList (Rows.OpenSpec.upto Rows.graphDiffSpec).vars false #[.agg #[.slice none 0 0,.slice none 0 0,.int .i64 0,.int .i64 0],.agg #[.slice none 0 0,.slice none 0 0,.int .i64 0,.int .i64 0]].toList 8 = some x ∧ Rows.uptoSmall H (x.1 ++ x.2.1) = true:=by
 refine ⟨([.agg [.nil,.nil,.lit (.int .i64 0),.lit (.int .i64 0)],.agg [.nil,.nil,.lit (.int .i64 0),.lit (.int .i64 0)]],[],[]),?_,?_⟩
 ·kernel_rfl
 ·kernel_rfl
theorem graphDiff_lifted (os : Os) (started : os.Started) (H : Type) (enc : TypeId × Value → H) (F : Stop.Interp) :
 ReturnsInHanded {} Tryz.checked os 8 .any ((Rows.OpenSpec.upto Rows.graphDiffSpec).preRow enc Tryz.prog Tryz.f8 [] false LD) (((Rows.OpenSpec.upto Rows.graphDiffSpec).at F).post enc Tryz.prog Tryz.f8 false true false false):=by
 obtain ⟨xr,hxr,hsm⟩:=graphDiff_reads os enc
 refine returns_upto started (by kernel_rfl) Tryz.func8 #[.agg #[.slice none 0 0,.slice none 0 0,.int .i64 0,.int .i64 0],.agg #[.slice none 0 0,.slice none 0 0,.int .i64 0,.int .i64 0]] (by kernel_rfl) (by kernel_rfl) (by kernel_rfl) hxr hsm (by kernel_rfl) (wit_laid _ _) ?_
 intro W base args ds gs before hval0 hW hbk hz hE
 have hval : ∀ (j : Nat) t v,Tryz.f8.params[j]? = some t → args[j]? = some v → Value.okWide Tryz.prog W .any base t v:=hval0
 have hW':=hW
 obtain ⟨p,q,hA0,hV,rfl,hfz,hnd⟩:=hW
 have hA : DataW.TrodAll enc Tryz.prog W 0 (fun _=>true) true Tryz.f8.params.toList args.toList ds p:=hA0
 rw [Tryz.params8] at hA hval
 obtain ⟨v0,vs0,d0,ds0,p0,q0,hargs,rfl,rfl,h0,r0⟩:=trodAll_cons hA
 obtain ⟨v1,vs1,d1,ds1,p1,q1,rfl,rfl,rfl,h1,r1⟩:=trodAll_cons r0
 obtain ⟨rfl,rfl,rfl⟩:=trodAll_nil r1
 obtain ⟨rfl,rfl⟩:=trodVars_none hV
 obtain rfl : args = #[v0,v1]:=by cases args;simp_all
 rw [Tryz.params8] at hz
 simp only [List.append_nil,Rows.uptoBulkAll] at hbk
 obtain ⟨z0,z1⟩:=fits_two hz
 obtain ⟨a0,x0,rfl,hx0,hr0,hk0⟩:=graph_inU (hval 0 25 v0 rfl rfl) h0 z0
 have hk0:=hk0 (by omega)
 obtain ⟨a1,x1,rfl,hx1,hr1,hk1⟩:=graph_inU (hval 1 25 v1 rfl rfl) h1 z1
 have hk1:=hk1 (by omega)
 clear hA0 hval0
 refine (gdiff_any hE hx0 hx1 hk0 hk1).mono fun e W' ⟨he,hg⟩=>?_
 subst he
 exact ⟨_,rfl,law_post laidT (by decide +kernel) Tryz.underlying4 (by kernel_rfl) rfl hW' rfl hg⟩
theorem graphDiff_row : Rows.GraphDiffUptoSaid :=
 OpenClaim.holds_of_cond 8 Tryz.f8 rfl rfl rfl rfl rfl rfl rfl ⟨rfl,rfl,rfl,rfl,rfl⟩ rfl rfl rfl rfl rfl (by kernel_rfl) Tryz.func8 (by kernel_rfl)
  (of_decide_eq_true (by kernel_rfl)) (by unfold Func.isWrapper;first | (rw [if_pos (by decide +kernel)];kernel_rfl) | (rw [if_neg (by decide +kernel)];exact ⟨rfl,rfl⟩))
  (fun os started H enc _ F=>by rw [OpenClaim.pre_eq_preRow];exact graphDiff_lifted os started H enc F)
theorem gdiff_law_holds : Rows.GraphDiffUptoCardSaid :=
 Claim7.holds_tied_plain_at .later [] _ _ _ _
  graphDiff_row (fun _ h=>by cases h) (by kernel_rfl) (fun _ h=>by cases h) graphDiffUpto_row_tie rfl ⟨rfl,rfl⟩ (by kernel_rfl) rfl
  (fun f fn hf hfn=>by
    obtain rfl : f = 8 := Option.some.inj ((show Tryz.prog.funcNamed "lattice/latticelaw05.GraphDiff" = some 8 by kernel_rfl).symm.trans hf) |>.symm
    obtain rfl : fn = Tryz.f8:=(Option.some.inj (Tryz.func8.symm.trans hfn)).symm
    exact ⟨by kernel_rfl,fun j t ht=>by
     rw [Tryz.params8] at ht
     have hm : t ∈ [25,25]:=by simpa using Array.mem_of_getElem? ht
     have hall : ([25,25].all fun u=>!Tryz.prog.wantsStandIn u) = true:=by kernel_rfl
     exact (show Tryz.prog.wantsStandIn t = false by simpa using List.all_eq_true.1 hall t hm)⟩)
  (by kernel_rfl)
#print axioms gdiff_law_holds
end Go.Proofs.YtihfnegakcghiaaGreatDoor
