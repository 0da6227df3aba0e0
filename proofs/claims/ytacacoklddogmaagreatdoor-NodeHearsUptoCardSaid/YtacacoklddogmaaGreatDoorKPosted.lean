/- Lemmas. -/
import Derived.Test.YtacacoklddogmaaGreatDoorKJAH
namespace Go.Proofs.YtacacoklddogmaaGreatDoor
set_option maxHeartbeats 4000000
open Go.ChangeShapes Go.WideShapes Go.ChangeAt Go.RowKit
set_option maxRecDepth 100000
theorem lw_{W w5 W4:World}{ob:Option Nat}(hg:W.grownBy w5 ob)(hb:Below W4.heap.size W4 W): ∃WQ,WQ=W∧WQ.grownBy w5 ob∧Below W4.heap.size W4 WQ:=⟨W,rfl,hg,hb⟩
theorem vy_(w:World)(X:Nat)(n:NodeV)(A:OA_)(c:Nat)(L:List PostV)(R:Value)(s:Nat)(hs:s<n.S.length)(pA:OA_)(pc:Nat)(K:List PacketV)(h:WorkAt 35 w X n A c L R)
 (hp:Sl (fun b=>b<w.heap.size∧b≠X∧(Value.slice A L.length c).ownBlock≠some b) w 9 pA K.length (K.flatMap PacketV.cells))
 (ho: ∀p∈K,OpIn (fun b=>(X+1≤b∧b<w.heap.size)∧(Value.slice A L.length c).ownBlock≠some b) w p.f.o.A p.f.o.ps) (hl:L.length+K.length≤1099511627776):
 Calls Tryz.prog 39 #[.pointer (some ⟨X,0,none⟩),.int .i64 s,.slice pA K.length pc] w fun e w'=>e= .returned (.tuple #[])∧ ∃A' c',PostedTo 35 w X n A L.length c (L++K.map (PostV.mk n.S[s].p)) R A' c' w':=by
 obtain⟨i0,hi0,hz0,hz1,hz2⟩:=info_parts infoPost;have HW:=h_ h;have HP:=h_ hp;have HO:=h_ ho;have hX:=h.lt;clear h hp ho;go_enter Tryz.func39,Tryz.ntmps39
 go_wp2_with fail
 go_loopw [6] (fun i wr=> ∃(k:Nat) (A':Option Addr) (c':Nat) (L':List PostV),k≤K.length∧i= .int .i64 k∧L'.length≤L.length+k∧Hid (L'=L++(K.take k).map (PostV.mk n.S[s].p))∧Hid (PostedTo 35 w X n A L.length c L' R A' c' wr)) (fun i _=>K.length - (intOf i).toNat)
 case atStart=>exact⟨0,A,c,L,Nat.zero_le _,rfl,Nat.le_refl _,h_ (by simp),h_ (PostedTo.self HW.o (Below.refl _ _))⟩
 case round=>
  obtain⟨k,A1,c1,L1,hk,rfl,hlen,HL1,HR⟩:=hrel;by_cases hlt:k<K.length
  ·have k88_:K_ (∀(P:Prop) (h:P:=by
   have HAX:=HR.o.at_;have HAX:=h_ HAX;have hX2:=HAX.o.lt;have hNE:=s_ HAX.o.posts.row HAX.o.blk (by decide);obtain⟨x0,x1,x2,x3,x4,x5,x6,x7,x8,x9,xz⟩:=j_ HAX.o.blk;obtain⟨b2,o2,hA2,hbs2,hc2⟩:=bh_ SideV.cells 10 SideV.cells_len HAX.o.sides hs;have s0:wr.cell? ⟨b2,o2+s*10,none⟩=some (.int .i64 n.S[s].p):=hc2 0 _ rfl;rw [hA2]at x5;clear hc2;go_wp2_with(refine z_ ?_)
   refine⟨?_⟩;clear x0 x1 x2 x3 x4 x6 x7 x9 HW HP HO hbs;have hl1:L1.length+1≤1099511627776:=(by omega);have hk1:k+1≤K.length:=hlt;have hkb:k+1≤1099511627776:=(by omega);have hl2:L1.length+1≤L.length+(k+1):=(by omega);have HN2:=h_ (And.intro hk1 hl2);clear hlen hl hk hk1 hl2;go_region_law (first
    | (refine bg_ _ rfl _ _ 32 rfl (X+1) 79 i0 (.agg #[.int .i64 0,.int .i64 0,.int .i64 0,.bool false,.int .i64 0,.int .i64 0,.int .i64 0,.int .i64 0,.slice none 0 0,.string ⟨#[]⟩]) 10 104 Tryz.underlying32 hi0 hz0 hz1 hz2 rfl (by decide) _ _ _ rfl (HAX.o.posts.la bz_).row (fun _=>True) _ _ _ _ rfl (bl_ (by rfl) (by simp)) ?_ ?_ ?_ ?_ ?_;(intro u hu;simp at hu;rcases hu with rfl | rfl | rfl | rfl | rfl | rfl | rfl | rfl | rfl | rfl <;> rfl);(unfold maxLen;omega);omega;(simp;omega);intro A' c' w3 hown' hgrow hat;obtain⟨_,_,_,_,_,_,_,_,v8,_,_⟩:=j_ ((hgrow.block X (Nat.lt_of_lt_of_le hX2 (show Below wr.heap.size wr _ from bz_).size) (fun e1=>hNE e1.symm)).trans (((show Below wr.heap.size wr _ from bz_).block X hX2).trans HAX.o.blk));have f8:=tenF ((hgrow.block X (Nat.lt_of_lt_of_le hX2 (show Below wr.heap.size wr _ from bz_).size) (fun e1=>hNE e1.symm)).trans (((show Below wr.heap.size wr _ from bz_).block X hX2).trans HAX.o.blk)) 8))
   all_goals(
    obtain⟨WQ,hWQ,hgQ,hbQ⟩:=lw_ (W4:=wr) hgrow bz_;rw [←hWQ]at hat;have hPT:=WorkAt.post (x:=⟨n.S[s].p,⟨pe,pn,pb,pa,⟨fk,fh,fe,⟨fA,fc,fp⟩,fs⟩⟩⟩) (by decide) HR.o.at_ hbQ HOP.o hgQ hown' hat;refine u_ (fun G=>PostedTo 35 w X n A L.length c (L1++ [⟨n.S[s].p,⟨pe,pn,pb,pa,⟨fk,fh,fe,⟨fA,fc,fp⟩,fs⟩⟩⟩]) R A' c' G) (HR.o.trans hPT) ?_;clear hWQ hgQ hbQ hPT hat hown' hgrow v8 f8 x5 x8 s0 ce0 ce1 ce2 ce3 ce4 ce5 ce6 ce7 ce8;exact m191_)
   ),P):=⟨@q6_⟩
   exact m88_
  ·obtain hk':k=K.length:=(by omega);subst hk';go_wp2_with fail
   have HF:=h_ (show PostedTo 35 w X n A L.length c (L++K.map (PostV.mk n.S[s].p)) R A1 c1 wr by have h1:=HR.o;rw [HL1.o,List.take_length]at h1;exact h1);exact bodyPost_end (results_none rfl _ _ _) rfl ⟨rfl,A1,c1,HF.o⟩
end Go.Proofs.YtacacoklddogmaaGreatDoor
