/- The walk of More: a sum that goes on over a text's bytes; conditions: at most a million bytes, a number of 32 bits. -/
import Derived.Test.YtmldoinenfpofaaC
import Derived.Shelf.RegionOpen
namespace Go.Proofs.Ytmldoinenfpofaa
open Go.RowKit Go.Shelf
attribute [local go_sem] Oper.semAt_some

def lo (x : Int) : Int := x % 65536 % 65535
def hi (x : Int) : Int := x / 65536 % 65535
/-- A sum that goes on over the bytes l. -/
def more (x : Int) (l : List UInt8) : Int := (hi x + f2 l + lo x * l.length) % 65535 * 65536 + (lo x + f1 l) % 65535
def piece (l : List UInt8) (k : Nat) : List UInt8 := (l.drop (256 * k)).take 256
def wstep (l : List UInt8) (p : Int × Int) (k : Nat) : Int × Int :=
  ((p.1 + f1 (piece l k)) % 65535, (p.2 + f2 (piece l k) + p.1 % 65535 * (piece l k).length) % 65535)
def wfold (l : List UInt8) (x : Int) (pre : List Nat) : Int × Int := pre.foldl (wstep l) (lo x, hi x)
theorem wfold_snoc (l : List UInt8) (x : Int) (pre : List Nat) (k : Nat) : wfold l x (pre ++ [k]) = wstep l (wfold l x pre) k := by simp [wfold]
theorem wfold_range (l : List UInt8) (x : Int) (k : Nat) :
    wfold l x (List.range k) = ((lo x + f1 (l.take (256 * k))) % 65535, (hi x + f2 (l.take (256 * k)) + lo x * (l.take (256 * k)).length) % 65535) := by
  induction k with
  | zero => simp [wfold, f1, f2, w2, lo, hi]
  | succ k ih =>
    rw [List.range_succ, wfold_snoc, ih, wstep]
    have e : l.take (256 * (k + 1)) = l.take (256 * k) ++ piece l k := by
      rw [show 256 * (k + 1) = 256 * k + 256 from by omega, List.take_add]; rfl
    rw [e, f1_append, f2_append, List.length_append]
    generalize piece l k = c
    generalize l.take (256 * k) = d
    generalize lo x = a
    generalize hi x = b
    dsimp only
    have e1 : ((f1 d + f1 c : Nat) : Int) = f1 d + f1 c := by simp
    have e2 : ((f2 d + f1 d * c.length + f2 c : Nat) : Int) = f2 d + f1 d * c.length + f2 c := by simp
    have e3 : ((d.length + c.length : Nat) : Int) = d.length + c.length := by simp
    rw [e1, e2, e3]
    generalize (f1 d : Int) = p
    generalize (f2 d : Int) = q
    generalize (f1 c : Int) = r
    generalize (f2 c : Int) = s
    generalize (d.length : Int) = u
    generalize (c.length : Int) = v
    refine Prod.ext ?_ ?_ <;> dsimp only
    · rw [Int.emod_add_emod, Int.add_assoc]
    · rw [Int.emod_emod]
      have h1 : ((b + q + a * u) % 65535 + s + (a + p) % 65535 * v) % 65535 = ((b + q + a * u) + s + (a + p) * v) % 65535 := by
        rw [Int.add_emod, Int.emod_add_emod (b + q + a * u), Int.mul_emod, Int.emod_emod, ← Int.mul_emod, ← Int.add_emod]
      rw [h1]; congr 1
      rw [Int.add_mul, Int.mul_add]; omega

theorem wfold_all (l : List UInt8) (x : Int) : (wfold l x (chunks l.length)).2 * 65536 + (wfold l x (chunks l.length)).1 = more x l := by
  unfold chunks
  rw [wfold_range, List.take_of_length_le (by omega)]; rfl
theorem wfold_bd (l : List UInt8) (x : Int) (pre : List Nat) : 0 ≤ (wfold l x pre).1 ∧ (wfold l x pre).1 < 65535 ∧ 0 ≤ (wfold l x pre).2 ∧ (wfold l x pre).2 < 65535 := by
  rcases List.eq_nil_or_concat pre with rfl | ⟨p, k, rfl⟩
  · simp only [wfold, List.foldl_nil, lo, hi]; omega
  · rw [List.concat_eq_append, wfold_snoc]; simp only [wstep]; omega
theorem piece_length (l : List UInt8) (k : Nat) : (piece l k).length = min 256 (l.length - 256 * k) := by simp [piece]
theorem f1_piece (l : List UInt8) (k : Nat) : f1 (piece l k) ≤ 255 * 256 := by
  have h1 := f1_le (piece l k); have h2 := piece_length l k
  exact Nat.le_trans h1 (Nat.mul_le_mul_left _ (by omega))
theorem f2_piece (l : List UInt8) (k : Nat) : f2 (piece l k) ≤ 255 * 256 * 256 := by
  have h1 := w2_le (piece l k).length (piece l k); have h2 := piece_length l k
  exact Nat.le_trans h1 (Nat.mul_le_mul (Nat.mul_le_mul_left _ (by omega)) (by omega))

/-- weigh at a chunk of a block that holds the bytes l. -/
theorem weigh_piece (b : Nat) (l : List UInt8) (k : Nat) (w : World) (hb : b < w.heap.size) (hc : bytesAt w b 0 l) :
    Calls Try.prog 24 #[.slice (some ⟨b, 256 * k, none⟩) (min 256 (l.length - 256 * k)) (min 256 (l.length - 256 * k))] w fun e w' =>
      e = .returned (.agg #[.int .u64 (f1 (piece l k)), .int .u64 (f2 (piece l k)), .int .u64 (piece l k).length]) ∧ Below w.heap.size w w' := by
  have h := weigh_any b (256 * k) (min 256 (l.length - 256 * k)) (piece l k) w hb (fun j hj => by
    have h1 := piece_length l k
    have h2 := hc (256 * k + j) (by omega)
    rw [Nat.zero_add] at h2
    rw [h2]
    unfold piece
    rw [List.getElem?_take, if_pos (by omega), List.getElem?_drop]) (by rw [piece_length]; omega)
  rw [piece_length] at h
  rw [piece_length]
  exact h

theorem chunk_any (v : Value) (w : World) (hv : ∃ a n c, v = .slice a n c) :
    Calls Try.prog 22 #[v, .int .i64 256] w fun e w' => e = .returned (.func (.func 28) #[] #[.pointer (some ⟨w.heap.size, 0, none⟩), .pointer (some ⟨w.heap.size + 1, 0, none⟩)]) ∧
      w' = (w.alloc (.cells #[v] 33)).alloc (.cells #[.int .i64 256] 3) := by
  obtain ⟨a, n, c, rfl⟩ := hv
  go_enter Try.func22, Try.ntmps22
  go_wp2
  go_ret
  exact ⟨rfl, rfl⟩

theorem keeps_below {W W' : World} (h : Below W.heap.size W W') : KeepsOthers W W' :=
  ⟨h.size, fun k _ ho _ => (h.block k (Array.getElem?_eq_some_iff.1 ho).1).trans ho⟩

/-- What a round leaves: the three cells of the weight that goes on are written in a world that lies on the round's own. -/
theorem body_end {L : List UInt8} {x : Int} {pre : List Nat} {k : Nat} {w W W1 W2 : World} {m : Nat} {c : Int} {v0 v1 v2 : Value}
    (hbe : Below w.heap.size w W) (hsz : m + 4 ≤ W.heap.size) (hb1 : Below W.drew.heap.size W.drew W1) (hb2 : Below W1.heap.size W1 W2) (hm : w.heap.size ≤ m)
    (k0 : W2.cell? ⟨m, 0, none⟩ = some v0) (k1 : W2.cell? ⟨m, 1, none⟩ = some v1) (k2 : W2.cell? ⟨m, 2, none⟩ = some v2)
    (j0 : W2.frozen? ⟨m, 0, none⟩ = false) (j1 : W2.frozen? ⟨m, 1, none⟩ = false) (j2 : W2.frozen? ⟨m, 2, none⟩ = false) (hby : bytesAt W (m + 1) 0 L) (W3 : World)
    (h3 : W3 = ((W2.setCell ⟨m, 0, none⟩ (.int .u64 (wfold L x (pre ++ [k])).1)).setCell ⟨m, 1, none⟩ (.int .u64 (wfold L x (pre ++ [k])).2)).setCell ⟨m, 2, none⟩ (.int .u64 c)) :
    KeepsOthers W W3 ∧ Same2 (m + 1 + 1) (m + 1 + 1 + 1) W W3 ∧
      ((W3.cell? ⟨m, 0, none⟩ = some (.int .u64 (wfold L x (pre ++ [k])).1) ∧ W3.cell? ⟨m, 1, none⟩ = some (.int .u64 (wfold L x (pre ++ [k])).2) ∧ (∃ z, W3.cell? ⟨m, 2, none⟩ = some (.int .u64 z)) ∧
      W3.frozen? ⟨m, 0, none⟩ = false ∧ W3.frozen? ⟨m, 1, none⟩ = false ∧ W3.frozen? ⟨m, 2, none⟩ = false ∧ bytesAt W3 (m + 1) 0 L) ∧ (m + 4 ≤ W3.heap.size ∧ Below w.heap.size w W3)) := by
  have hB2 : Below W.heap.size W W2 := (Below.refl _ _).drew.trans (hb1.trans (hb2.mono hb1.size))
  have hblk : ∀ b, b < W.heap.size → b ≠ m → W3.heap[b]? = W.heap[b]? := fun b hb hne => by
    rw [h3, Below.heap_setCell _ _ _ _ hne, Below.heap_setCell _ _ _ _ hne, Below.heap_setCell _ _ _ _ hne]
    exact hB2.block b hb
  have hs3 : W3.heap.size = W2.heap.size := by simp [h3, World.setCell]
  have q1 : ∀ (u : World) (i j : Nat) (v : Value), i ≠ j → (u.setCell ⟨m, i, none⟩ v).cell? ⟨m, j, none⟩ = u.cell? ⟨m, j, none⟩ := fun u i j v hij =>
    World.cell?_setCell_other _ _ _ _ (by intro e; exact hij (by injection e))
  refine ⟨?_, ⟨hblk _ (by omega) (by omega), hblk _ (by omega) (by omega)⟩, ⟨?_, ?_, ⟨c, ?_⟩, ?_, ?_, ?_, ?_⟩, ?_, ?_⟩
  · rw [h3]; exact ((keeps_below hB2).trans (KeepsOthers.setCell _ _ _)).trans ((KeepsOthers.setCell _ _ _).trans (KeepsOthers.setCell _ _ _))
  · rw [h3, q1 _ _ _ _ (by decide), q1 _ _ _ _ (by decide)]; exact World.cell?_setCell_same _ _ _ k0
  · rw [h3, q1 _ _ _ _ (by decide)]; exact World.cell?_setCell_same _ _ _ (by rw [q1 _ _ _ _ (by decide)]; exact k1)
  · rw [h3]; exact World.cell?_setCell_same _ _ _ (by rw [q1 _ _ _ _ (by decide), q1 _ _ _ _ (by decide)]; exact k2)
  · simp [h3, World.frozen?_setCell, j0]
  · simp [h3, World.frozen?_setCell, j1]
  · simp [h3, World.frozen?_setCell, j2]
  · intro j hj
    rw [← hby j hj]
    exact World.cell?_of_block (hblk (m + 1) (by omega) (by omega))
  · rw [hs3]; have := hB2.size; omega
  · rw [h3]; exact ((hbe.trans (hB2.mono hbe.size)).setCell (p := ⟨m, 0, none⟩) hm _ |>.setCell (p := ⟨m, 1, none⟩) hm _).setCell (p := ⟨m, 2, none⟩) hm _

set_option maxRecDepth 100000 in
set_option maxHeartbeats 2000000 in
theorem more_any (x : Int) (s : ByteArray) (w : World) (hx0 : 0 ≤ x) (hx1 : x < 4294967296) (hs : s.size ≤ 1000000) :
    Calls Try.prog 13 #[.int .u32 x, .string s] w fun e w' => e = .returned (.int .u32 (more x s.data.toList)) ∧ Below w.heap.size w w' := by
  have kc := fun (w : World) => run_bytes_of_string (P := Try.prog) w 9 33 5 s Try.underlying9 Try.underlying33 Try.underlying5
  refine (callsIn_wide (n := 4)).1 ?_
  refine callsIn_of_wp_marks Try.func13 rfl trivial ?_ rfl
  simp only [Try.ntmps13, List.size_toArray, List.length_cons, List.length_nil, Nat.reduceAdd, Nat.reduceSub, Array.replicate_succ, Array.replicate_zero, List.push_toArray, List.append_toArray, List.nil_append, List.cons_append]
  gi_wp2_with (first
    | (refine ⟨trivial, ?_⟩; gi_at_call 21; refine (callsIn_wide.2 (of_any _ _ _ hx0 hx1)).mono ?_; rintro e w1 ⟨rfl, hb1⟩)
    | (refine ⟨trivial, ?_⟩; gi_at_call 22; refine (callsIn_wide.2 (chunk_any _ _ ⟨_, _, _, rfl⟩)).mono ?_; rintro e w2 ⟨rfl, rfl⟩))
  have hge := grownCap_ge (w1.alloc (.cells #[.int .u64 (x % 65536 % 65535), .int .u64 (x / 65536 % 65535), .int .u64 0] 42)) s.size 0 5
  generalize grownCap (w1.alloc (.cells #[.int .u64 (x % 65536 % 65535), .int .u64 (x / 65536 % 65535), .int .u64 0] 42)) s.size 0 5 = cap at hge ⊢
  generalize hW : World.alloc (World.alloc _ _) _ = W0
  have hz : W0.heap.size = w1.heap.size + 4 := by rw [← hW]; simp [go_sem]
  have hB : Below w.heap.size w W0.drew := by
    rw [← hW]
    exact (hb1.trans (Below.mono (B := w1.heap.size) (by go_grown) hb1.size)).drew
  have c0 : W0.drew.cell? ⟨w1.heap.size, 0, none⟩ = some (.int .u64 (lo x)) := by rw [← hW]; simp [go_sem, lo]
  have c1 : W0.drew.cell? ⟨w1.heap.size, 1, none⟩ = some (.int .u64 (hi x)) := by rw [← hW]; simp [go_sem, hi]
  have c2 : W0.drew.cell? ⟨w1.heap.size, 2, none⟩ = some (.int .u64 0) := by rw [← hW]; simp [go_sem]
  have hf : ∀ o, W0.drew.frozen? ⟨w1.heap.size, o, none⟩ = false := by intro o; rw [← hW]; simp [go_sem]
  have hby : bytesAt W0.drew (w1.heap.size + 1) 0 s.data.toList := by
    intro j hj
    have hj' : j < s.data.size := by simpa using hj
    have h1 : W0.drew.cell? ⟨w1.heap.size + 1, j, none⟩ = (bytesRow s cap)[j]? := by
      rw [← hW]
      have h2 := World.cell?_alloc_mark (w1.alloc (.cells #[.int .u64 (x % 65536 % 65535), .int .u64 (x / 65536 % 65535), .int .u64 0] 42)) (bytesRow s cap) 5 ((bytesRow s cap).size, (bytesRow s cap).size + 1) j
      rw [World.size_alloc] at h2
      simpa [go_sem] using h2
    rw [Nat.zero_add, h1, bytesRow_at s cap j hj']
    simp only [Array.getElem?_toList, Array.getElem?_eq_getElem hj', Option.getD_some]
  have hcs : W0.drew.cell? ⟨w1.heap.size + 1 + 1, 0, none⟩ = some (.slice (some ⟨w1.heap.size + 1, 0, none⟩) s.size cap) := by rw [← hW]; simp [go_sem]
  have hcn : W0.drew.cell? ⟨w1.heap.size + 1 + 1 + 1, 0, none⟩ = some (.int .i64 256) := by rw [← hW]; simp [go_sem]
  have hge' := hge
  clear kc hW hge
  generalize hWd : W0.drew = W1 at *
  have hz1 : W1.heap.size = w1.heap.size + 4 := by rw [← hWd]; exact hz
  have hm : w.heap.size ≤ w1.heap.size := hb1.size
  clear hz hWd hb1 W0
  generalize w1.heap.size = m at *
  clear w1
  have hls : s.data.toList.length = s.size := by rw [Array.length_toList]; rfl
  generalize hL : s.data.toList = L at *
  have HL := Lib.hid hL
  have HLS := Lib.hid hls
  have HC := Lib.hid (And.intro c0 (And.intro c1 (And.intro c2 hby)))
  clear hL hls c0 c1 c2 hby
  refine wpIn_rangeFunc_ownF (F := Fence.wide) rfl (by omega) (gf := 28) (lb := #[.pointer (some ⟨m + 1 + 1, 0, none⟩), .pointer (some ⟨m + 1 + 1 + 1, 0, none⟩)]) rfl trivial (enters_of Try.func28 (by kernel_rfl) rfl)
    (encs := fun k => #[chunkV (m + 1) s.size k]) (Kp := Same2 (m + 1 + 1) (m + 1 + 1 + 1)) (S := fun ys => ys = chunks s.size) (Sp := fun _ => True) (N := (chunks s.size).length) (w0 := W1)
    (fun l J Jx W hWb hJ hJx hY h0 => chunk1_in 3 (by omega) l (m + 1 + 1) (m + 1 + 1 + 1) (m + 1) s.size cap hge' hs J Jx
      (fun p v hp => hJ p v v.drew none hp ⟨rfl, rfl, rfl, Nat.le_refl _, fun _ _ _ => rfl⟩ (by intro r hr; cases hr)) hY W
      ((hWb.cell (p := ⟨m + 1 + 1, 0, none⟩) (by rw [hz1]; simp)).trans hcs) ((hWb.cell (p := ⟨m + 1 + 1 + 1, 0, none⟩) (by rw [hz1]; simp)).trans hcn) h0)
    Same2.trans (fun W l o o' hl ho h1 h2 => ⟨by rw [World.putObj_heap_other (by omega)], by rw [World.putObj_heap_other (by omega)]⟩) (Below.refl _ _) (fun _ => rfl)
    (fun pre W => (W.cell? ⟨m, 0, none⟩ = some (.int .u64 (wfold L x pre).1) ∧ W.cell? ⟨m, 1, none⟩ = some (.int .u64 (wfold L x pre).2) ∧ (∃ z, W.cell? ⟨m, 2, none⟩ = some (.int .u64 z)) ∧
      W.frozen? ⟨m, 0, none⟩ = false ∧ W.frozen? ⟨m, 1, none⟩ = false ∧ W.frozen? ⟨m, 2, none⟩ = false ∧ bytesAt W (m + 1) 0 L) ∧ (m + 4 ≤ W.heap.size ∧ Below w.heap.size w W))
    (fun _ _ _ => False)
    ?own (fun _ _ _ _ _ hs _ _ => hs) ?start
    (fun k => { tmps := #[.int .u32 x, .string s, undef, undef, .int .u32 0, .pointer (some ⟨m, 0, none⟩), chunkV (m + 1) s.size k, .int .u32 x, .agg #[.int .u64 (x % 65536 % 65535), .int .u64 (x / 65536 % 65535), .int .u64 0], .string s,
      .slice (some ⟨m + 1, 0, none⟩) s.size cap, .func (.func 28) #[] #[.pointer (some ⟨m + 1 + 1, 0, none⟩), .pointer (some ⟨m + 1 + 1 + 1, 0, none⟩)], chunkV (m + 1) s.size k, undef, undef, undef, undef, undef, undef], defers := [] })
    ?assign ?body ?done ?stop
  case own =>
    refine OwnFrom.and (Own.from (fun p A B row hs hg hr => ⟨cell_kept hs.1 hg hr, cell_kept hs.2.1 hg hr, ?_, (frozen_kept hs.1 hg hr).trans hs.2.2.2.1, (frozen_kept hs.2.1 hg hr).trans hs.2.2.2.2.1, ?_, fun j hj => cell_kept (hs.2.2.2.2.2.2 j hj) hg hr⟩) _)
      (OwnFrom.and (fun p A B row hs hg _ => Nat.le_trans hs hg.size) (ownFrom_below (Nat.le_refl _) (by rw [hz1]; omega)))
    · obtain ⟨z, hz⟩ := hs.2.2.1
      exact ⟨z, cell_kept hz hg hr⟩
    · obtain ⟨z, hz⟩ := hs.2.2.1
      exact (frozen_kept hz hg hr).trans hs.2.2.2.2.2.1
  case start =>
    obtain ⟨c0, c1, c2, hby⟩ := HC.out
    exact ⟨⟨c0, c1, ⟨_, c2⟩, hf 0, hf 1, hf 2, hby⟩, by omega, hB⟩
  case assign =>
    intro l x W K hK
    gi_wp2
    exact hK
  case body =>
    rintro l pre k W ⟨⟨h0, h1, ⟨z, h2⟩, g0, g1, g2, hby⟩, hsz, hbe⟩ _
    have hbd := wfold_bd L x pre
    have hp1 := f1_piece L k
    have hp2 := f2_piece L k
    have hpl := piece_length L k
    have hmx : Try.prog.follows .mixedOrders = true := by kernel_rfl
    have cw := (CallsIn.inRound l (callsIn_wide.2 (weigh_piece (m + 1) L k W.drew (by simp; omega) hby) : CallsIn Fence.wide (4 - 1 - 1 - 1) Try.prog 24 _ _ _))
    rw [HLS.out] at cw
    have cb := fun w => (CallsIn.inRound l (callsIn_wide.2 (behind_any (wfold L x pre).1 (wfold L x pre).2 z (f1 (piece L k)) (f2 (piece L k)) (piece L k).length w (by omega) (by omega) (by omega) (by omega) (by omega) (by omega) (by omega) (by omega) (by omega) (by omega)) : CallsIn Fence.wide (4 - 1 - 1 - 1) Try.prog 23 _ _ _))
    clear hpl
    have CW := Lib.hid cw
    have CB := Lib.hid cb
    have HBY := Lib.hid hby
    clear hby cw cb
    unfold chunkV
    gi_wp2
    gi_region_with_o (first
      | (refine ⟨trivial, ?_⟩; gi_at_call 24; (with_reducible refine CW.out.mono ?_); rintro e w1 ⟨rfl, hb1⟩; have k0 := (hb1.cell (p := ⟨m, 0, none⟩) (by simp; omega)).trans h0; have k1 := (hb1.cell (p := ⟨m, 1, none⟩) (by simp; omega)).trans h1; have k2 := (hb1.cell (p := ⟨m, 2, none⟩) (by simp; omega)).trans h2; have j0 := (hb1.frozen (p := ⟨m, 0, none⟩) (by simp; omega)).trans g0; have j1 := (hb1.frozen (p := ⟨m, 1, none⟩) (by simp; omega)).trans g1; have j2 := (hb1.frozen (p := ⟨m, 2, none⟩) (by simp; omega)).trans g2; have zz := hb1.size; simp only [World.size_drew] at zz)
      | (refine ⟨trivial, ?_⟩; gi_at_call 23; (with_reducible refine (CB.out _).mono ?_); rintro e w2 ⟨rfl, hb2⟩; have k0 := (hb2.cell (p := ⟨m, 0, none⟩) (by simp; omega)).trans k0; have k1 := (hb2.cell (p := ⟨m, 1, none⟩) (by simp; omega)).trans k1; have k2 := (hb2.cell (p := ⟨m, 2, none⟩) (by simp; omega)).trans k2; have j0 := (hb2.frozen (p := ⟨m, 0, none⟩) (by simp; omega)).trans j0; have j1 := (hb2.frozen (p := ⟨m, 1, none⟩) (by simp; omega)).trans j1; have j2 := (hb2.frozen (p := ⟨m, 2, none⟩) (by simp; omega)).trans j2))
    all_goals gi_wp2
    all_goals exact body_end (c := ((piece L k).length : Int)) hbe hsz hb1 hb2 hm k0 k1 k2 j0 j1 j2 HBY.out _ (by rw [wfold_snoc]; rfl)
  case done =>
    rintro D ys W hD rfl ⟨⟨h0, h1, ⟨z, h2⟩, _, _, _, _⟩, hsz, hbe⟩ hK
    have hbd := wfold_bd L x (chunks s.size)
    gi_wp2_with (refine ⟨trivial, ?_⟩; gi_at_call 25; refine (callsIn_wide.2 (numb_any _ _ _ _ (by omega) (by omega) (by omega) (by omega))).mono ?_; rintro e w2 ⟨rfl, hb2⟩)
    have hK2 := (keeps_below hb2).same D _ hK rfl
    refine ⟨by simp, .inl ⟨_, _, rfl, run_takeDeferred hK2, ?_⟩⟩
    refine ⟨_, results_tmp rfl _ _ _, ?_, ?_⟩
    · rw [HL.out, ← wfold_all L x, HLS.out]; rfl
    · exact (hbe.trans (hb2.mono hbe.size)).trans (belowK_b (w := w) (Nat.le_refl _) w2 D _ _ (by omega) hK2 rfl rfl)
  case stop =>
    rintro D c pre W _ _ h _
    exact h.elim
end Go.Proofs.Ytmldoinenfpofaa
