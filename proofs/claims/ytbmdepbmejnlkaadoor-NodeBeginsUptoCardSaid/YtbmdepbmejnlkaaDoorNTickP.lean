/-
  What node.Tick answers (no walk): the posts of its sides' ticks; the blocks of its call.
-/
import Derived.Test.YtbmdepbmejnlkaaDoorRows
import Derived.Test.YtbmdepbmejnlkaaDoorTickS
import Derived.Test.YtbmdepbmejnlkaaDoorPostP
import Derived.Test.YtbmdepbmejnlkaaDoorBM
namespace Go.Proofs.YtbmdepbmejnlkaaDoor
open Go.ChangeShapes Go.WideShapes Go.ChangeAt Go.RowKit
set_option maxRecDepth 100000
/-- The posts of the ticks of these sides. -/
def ticksD (S : List SideV) : List PostD := S.flatMap fun x => (tickD x.k).map (PostD.mk x.p)
theorem ticksD_take {S : List SideV} {k : Nat} (hk : k < S.length) : ticksD (S.take (k + 1)) = ticksD (S.take k) ++ (tickD S[k].k).map (PostD.mk S[k].p) := by
  unfold ticksD
  rw [List.take_succ_eq_append_getElem hk, List.flatMap_append]
  simp
theorem ticksD_d : ∀ {S S' : List SideV}, S'.map SideV.d = S.map SideV.d → ticksD S' = ticksD S
  | [], [], _ => rfl
  | [], _ :: _, h => by cases h
  | _ :: _, [], h => by cases h
  | x :: S, y :: S', h => by
    simp only [List.map_cons, List.cons.injEq] at h
    obtain ⟨h1, h2⟩ := h
    have ih := ticksD_d h2
    simp only [SideV.d, SideD.mk.injEq] at h1
    unfold ticksD at ih ⊢
    simp only [List.flatMap_cons]
    rw [ih, h1.1, tickD_d h1.2.2.2.2.2]
theorem ticksD_len {S : List SideV} (h : ∀ x ∈ S, linkMay x.k) : (ticksD S).length ≤ S.length * 8 := by
  induction S with
  | nil => simp [ticksD]
  | cons x S ih =>
    have h1 := ih fun y hy => h y (by simp [hy])
    have h2 := tickD_eight (h x (by simp))
    unfold ticksD at h1 ⊢
    simp only [List.flatMap_cons, List.length_append, List.length_map, List.length_cons]
    omega
theorem ticksD_small {S : List SideV} (h : ∀ x ∈ S, linkMay x.k ∧ x.Small) : ∀ p ∈ ticksD S, p.p.frame.op.length ≤ 1048576 := by
  intro p hp
  obtain ⟨x, hx, hq⟩ := List.mem_flatMap.1 hp
  obtain ⟨q, hq1, rfl⟩ := List.mem_map.1 hq
  exact (tickD_small (h x hx).1 (h x hx).2.link).2 q hq1
theorem ntick_posts {L : List PostV} {K : List PacketV} {P : List PostD} {D : List PacketD} {who : Int} (h : L.map PostV.d = P) (hK : K.map PacketV.d = D) : (L ++ K.map (PostV.mk who)).map PostV.d = P ++ D.map (PostD.mk who) := by
  rw [List.map_append, h, ← hK, List.map_map, List.map_map]
  rfl
theorem nodeFault_may {zs : List Int} {n : NodeV} (h : nodeFault zs n = 0) : nodeMay zs n := by
  unfold nodeFault at h
  split at h
  · exact absurd h (by assumption)
  · split at h
    · assumption
    · cases h
theorem nodeFault_links {zs : List Int} {n : NodeV} (h : nodeFault zs n = 0) : ∀ x ∈ n.S, linkMay x.k := by
  intro x hx
  obtain ⟨i, hi, rfl⟩ := List.mem_iff_getElem.1 hx
  exact ((nodeFault_may h).2.2.2.1 i hi).2.1.2
/-- A call that hands back a turn that writes nothing, and an error. -/
def RetTurnP (w : World) (d : NodeD) (D : List PostD) (er : Int) (e : Ending) (w' : World) : Prop :=
  ∃ (n : NodeV) (A : Option Addr) (c : Nat) (L : List PostV), e = .returned (.tuple #[.agg (turnCells n (.slice A L.length c) (.slice none 0 0)), .int .i64 er]) ∧ n.d = d ∧ n.InS (fun b => w.heap.size ≤ b ∧ b < w'.heap.size) w' ∧ L.map PostV.d = D ∧ PostsOwn w' w.heap.size A c L ∧ Below w.heap.size w w'
abbrev zeroT : Array Value := #[.int .i64 0, .int .i64 0, .int .i64 0, .bool false, .string ⟨#[]⟩, .slice none 0 0, .slice none 0 0, .slice none 0 0, .slice none 0 0, .slice none 0 0]
/-- The blocks of a call that takes a node and hands back a turn. -/
structure TickAt (w : World) (R : Nat) (nv : Array Value) (W : World) : Prop where
  nd : W.heap[w.heap.size]? = some (.cells nv 28 (0, 0))
  r : W.heap[R]? = some (.cells #[.int .i64 0, .int .i64 0, .int .i64 0, .bool false, .string ⟨#[]⟩, .slice none 0 0, .slice none 0 0, .slice none 0 0, .slice none 0 0, .slice none 0 0] 35 (0, 0))
  b : Below w.heap.size w W
  hr : w.heap.size < R
  rz : R < W.heap.size
theorem TickAt.later {w W W' : World} {R : Nat} {nv : Array Value} (k : TickAt w R nv W) (hb : Below W.heap.size W W') : TickAt w R nv W' := by
  have h1 := k.hr
  have h2 := k.rz
  have h3 := hb.size
  exact ⟨(hb.block _ (by omega)).trans k.nd, (hb.block _ h2).trans k.r, bThen k.b hb, h1, by omega⟩
theorem TickAt.new (w : World) (nv : Array Value) : TickAt w (w.heap.size + 1) nv ((w.alloc (.cells nv 28)).alloc (.cells #[.int .i64 0, .int .i64 0, .int .i64 0, .bool false, .string ⟨#[]⟩, .slice none 0 0, .slice none 0 0, .slice none 0 0, .slice none 0 0, .slice none 0 0] 35)) := by
  refine ⟨(heap_alloc_old _ _ _ (by simp)).trans (World.alloc_heap_new _ _), ?_, bAlloc (bAlloc (Below.refl _ _) _) _, by omega, by simp⟩
  have := World.alloc_heap_new (w.alloc (.cells nv 28)) (.cells #[.int .i64 0, .int .i64 0, .int .i64 0, .bool false, .string ⟨#[]⟩, .slice none 0 0, .slice none 0 0, .slice none 0 0, .slice none 0 0, .slice none 0 0] 35)
  rwa [World.size_alloc] at this
/-- Behind posts. -/
theorem TickAt.turned {w W W' : World} {R : Nat} {nv : Array Value} (k : TickAt w R nv W) {X : Nat} (hX : R < X) (ht : Turned W W' X none) : TickAt w R nv W' := by
  have h1 := k.hr
  have h2 := k.rz
  have h3 := ht.size
  have h4 := k.b.size
  exact ⟨(ht.block _ (by omega) (by omega) (by simp)).trans k.nd, (ht.block _ h2 (by omega) (by simp)).trans k.r, k.b.trans (ht.below (by omega) (by simp) h4), h1, by omega⟩
/-- The turn that goes, laid into the result's block. -/
theorem tickFin {w W0 wr : World} {R X : Nat} {nv : Array Value} {n' : NodeV} {T : TypeId} {A : Option Addr} {c : Nat} {L : List PostV} (hB : TickAt w R nv wr) (hp : PostedTo T W0 X n' none 0 0 L (.slice none 0 0) A c wr) (hR : R < X) (hX : X < W0.heap.size) (hin : n'.InS (fun b => R < b ∧ b < X) W0) :
    ((((((((((wr.setCell ⟨R, 0, none⟩ (.int .i64 n'.me)).setCell ⟨R, 1, none⟩ (.int .i64 n'.ep)).setCell ⟨R, 2, none⟩ (.int .i64 n'.up)).setCell ⟨R, 3, none⟩ (.bool n'.rd)).setCell ⟨R, 4, none⟩ (.string n'.t)).setCell ⟨R, 5, none⟩ (.slice n'.sA n'.S.length n'.sc)).setCell ⟨R, 6, none⟩ (.slice n'.uA n'.U.length n'.uc)).setCell ⟨R, 7, none⟩ (.slice n'.mA n'.M.length n'.mc)).setCell ⟨R, 8, none⟩ (.slice A L.length c)).setCell ⟨R, 9, none⟩ (.slice none 0 0)).heap[R]? = some (.cells (turnCells n' (.slice A L.length c) (.slice none 0 0)) 35 (0, 0)) ∧ n'.InS (fun b => w.heap.size ≤ b ∧ b < ((((((((((wr.setCell ⟨R, 0, none⟩ (.int .i64 n'.me)).setCell ⟨R, 1, none⟩ (.int .i64 n'.ep)).setCell ⟨R, 2, none⟩ (.int .i64 n'.up)).setCell ⟨R, 3, none⟩ (.bool n'.rd)).setCell ⟨R, 4, none⟩ (.string n'.t)).setCell ⟨R, 5, none⟩ (.slice n'.sA n'.S.length n'.sc)).setCell ⟨R, 6, none⟩ (.slice n'.uA n'.U.length n'.uc)).setCell ⟨R, 7, none⟩ (.slice n'.mA n'.M.length n'.mc)).setCell ⟨R, 8, none⟩ (.slice A L.length c)).setCell ⟨R, 9, none⟩ (.slice none 0 0)).heap.size) ((((((((((wr.setCell ⟨R, 0, none⟩ (.int .i64 n'.me)).setCell ⟨R, 1, none⟩ (.int .i64 n'.ep)).setCell ⟨R, 2, none⟩ (.int .i64 n'.up)).setCell ⟨R, 3, none⟩ (.bool n'.rd)).setCell ⟨R, 4, none⟩ (.string n'.t)).setCell ⟨R, 5, none⟩ (.slice n'.sA n'.S.length n'.sc)).setCell ⟨R, 6, none⟩ (.slice n'.uA n'.U.length n'.uc)).setCell ⟨R, 7, none⟩ (.slice n'.mA n'.M.length n'.mc)).setCell ⟨R, 8, none⟩ (.slice A L.length c)).setCell ⟨R, 9, none⟩ (.slice none 0 0)) ∧ PostsOwn ((((((((((wr.setCell ⟨R, 0, none⟩ (.int .i64 n'.me)).setCell ⟨R, 1, none⟩ (.int .i64 n'.ep)).setCell ⟨R, 2, none⟩ (.int .i64 n'.up)).setCell ⟨R, 3, none⟩ (.bool n'.rd)).setCell ⟨R, 4, none⟩ (.string n'.t)).setCell ⟨R, 5, none⟩ (.slice n'.sA n'.S.length n'.sc)).setCell ⟨R, 6, none⟩ (.slice n'.uA n'.U.length n'.uc)).setCell ⟨R, 7, none⟩ (.slice n'.mA n'.M.length n'.mc)).setCell ⟨R, 8, none⟩ (.slice A L.length c)).setCell ⟨R, 9, none⟩ (.slice none 0 0)) w.heap.size A c L ∧ Below w.heap.size w ((((((((((wr.setCell ⟨R, 0, none⟩ (.int .i64 n'.me)).setCell ⟨R, 1, none⟩ (.int .i64 n'.ep)).setCell ⟨R, 2, none⟩ (.int .i64 n'.up)).setCell ⟨R, 3, none⟩ (.bool n'.rd)).setCell ⟨R, 4, none⟩ (.string n'.t)).setCell ⟨R, 5, none⟩ (.slice n'.sA n'.S.length n'.sc)).setCell ⟨R, 6, none⟩ (.slice n'.uA n'.U.length n'.uc)).setCell ⟨R, 7, none⟩ (.slice n'.mA n'.M.length n'.mc)).setCell ⟨R, 8, none⟩ (.slice A L.length c)).setCell ⟨R, 9, none⟩ (.slice none 0 0)) := by
  have hO : Only R wr ((((((((((wr.setCell ⟨R, 0, none⟩ (.int .i64 n'.me)).setCell ⟨R, 1, none⟩ (.int .i64 n'.ep)).setCell ⟨R, 2, none⟩ (.int .i64 n'.up)).setCell ⟨R, 3, none⟩ (.bool n'.rd)).setCell ⟨R, 4, none⟩ (.string n'.t)).setCell ⟨R, 5, none⟩ (.slice n'.sA n'.S.length n'.sc)).setCell ⟨R, 6, none⟩ (.slice n'.uA n'.U.length n'.uc)).setCell ⟨R, 7, none⟩ (.slice n'.mA n'.M.length n'.mc)).setCell ⟨R, 8, none⟩ (.slice A L.length c)).setCell ⟨R, 9, none⟩ (.slice none 0 0)) := (((((((((Only.set _ _ _).trans (Only.set _ _ _)).trans (Only.set _ _ _)).trans (Only.set _ _ _)).trans (Only.set _ _ _)).trans (Only.set _ _ _)).trans (Only.set _ _ _)).trans (Only.set _ _ _)).trans (Only.set _ _ _)).trans (Only.set _ _ _)
  have hr := hB.hr
  have hs := hO.size
  have ht := hp.turned.size
  refine ⟨ten_sets hB.r _ _ _ _ _ _ _ _ _ _, hin.moved fun b hb => ⟨⟨by have := hb.1; omega, by have := hb.2; omega⟩, (hO.block b (by have := hb.2; omega) (by have := hb.1; omega)).trans (hp.turned.block b (by have := hb.2; omega) (by have := hb.2; omega) (by simp [Value.ownBlock]))⟩, ?_, hB.b.trans (hO.below (by omega) hB.b.size)⟩
  exact (hp.at_.posts.kept hs fun b hb hl => hO.block b hl (by omega)).mono (by omega)
end Go.Proofs.YtbmdepbmejnlkaaDoor
