/- strings.SplitSeq(s, "/"): what it hands over. -/
import Derived.Test.YtdhchmonmbppmaaDoorRange
import Derived.Test.YtdhchmonmbppmaaDoorShelf
import Derived.Lib.IndexLaws
import Derived.Test.YtdhchmonmbppmaaDoorCore
namespace Go.Proofs.YtdhchmonmbppmaaDoor.G
open Go.RowKit Go.Shelf Go.Lib
attribute [local go_sem] Oper.semAt_some
set_option linter.unusedVariables false

/-- The pieces of a text between its slashes. -/
def splitB : List UInt8 → List (List UInt8)
  | [] => [[]]
  | b :: r => if b = 47 then [] :: splitB r else match splitB r with
    | h :: t => (b :: h) :: t
    | [] => [[b]]
theorem splitB_ne (l : List UInt8) : splitB l ≠ [] := by
  cases l with
  | nil => simp [splitB]
  | cons b r =>
    unfold splitB
    split
    · simp
    · split <;> simp
theorem splitB_none : ∀ {l : List UInt8}, (∀ k : Nat, l[k]? ≠ some 47) → splitB l = [l]
  | [], _ => rfl
  | b :: r, h => by
    have hb : b ≠ 47 := fun e => h 0 (by simp [e])
    have ih := splitB_none (l := r) (fun k => by have := h (k + 1); simpa using this)
    rw [splitB, if_neg hb, ih]
theorem splitB_some : ∀ {l : List UInt8} {i : Nat}, l[i]? = some 47 → (∀ k : Nat, k < i → l[k]? ≠ some 47) → splitB l = l.take i :: splitB (l.drop (i + 1))
  | [], i, h, _ => by simp at h
  | b :: r, 0, h, _ => by
    obtain rfl : b = 47 := by simpa using h
    simp [splitB]
  | b :: r, i + 1, h, hk => by
    have hb : b ≠ 47 := fun e => hk 0 (by omega) (by simp [e])
    have ih := splitB_some (l := r) (i := i) (by simpa using h) (fun k hlt => by have := hk (k + 1) (by omega); simpa using this)
    rw [splitB, if_neg hb, ih]
    simp
def partsL (s : ByteArray) : List ByteArray := (splitB s.data.toList).map fun l => ⟨l.toArray⟩
theorem mk_data (s : ByteArray) : (⟨s.data.toList.toArray⟩ : ByteArray) = s := by
  apply ByteArray.ext
  simp
theorem partsL_none {s : ByteArray} (h : Lib.indexByte s.data.toList 47 = -1) : partsL s = [s] := by
  rw [partsL, splitB_none (Lib.indexByte_none h)]
  simp only [List.map_cons, List.map_nil, mk_data]
theorem partsL_some {s : ByteArray} {i : Nat} (h : Lib.indexByte s.data.toList 47 = i) : partsL s = s.extract 0 i :: partsL (s.extract (i + 1) s.size) := by
  obtain ⟨h1, h2⟩ := Lib.indexByte_some h
  have hi : i < s.data.toList.length := (List.getElem?_eq_some_iff.1 h1).1
  have hsz : s.data.toList.length = s.size := (Lib.size_eq s).symm
  rw [partsL, splitB_some h1 h2, List.map_cons]
  have e1 : (⟨(s.data.toList.take i).toArray⟩ : ByteArray) = s.extract 0 i := by
    apply ByteArray.ext
    rw [ByteArray.data_extract]
    apply Array.toList_inj.1
    rw [Array.toList_extract]
    show s.data.toList.take i = (s.data.toList.drop 0).take (i - 0)
    rw [List.drop_zero, Nat.sub_zero]
  have e2 : (s.extract (i + 1) s.size).data.toList = s.data.toList.drop (i + 1) := by
    rw [ByteArray.data_extract, Array.toList_extract]
    show (s.data.toList.drop (i + 1)).take (s.size - (i + 1)) = _
    rw [List.take_of_length_le]
    rw [List.length_drop]
    omega
  rw [e1, partsL, e2]
theorem index_lt {s : ByteArray} {i : Nat} (h : Lib.indexByte s.data.toList 47 = i) : i < s.size := by
  obtain ⟨h1, _⟩ := Lib.indexByte_some h
  have := (List.getElem?_eq_some_iff.1 h1).1
  rw [Lib.size_eq]
  exact this

/-- The three cells that the iterator holds. -/
def Caught (W : World) (bp bs bq : Nat) (s : ByteArray) : Prop := Boxed W bp 9 (.string ⟨#[47]⟩) ∧ Boxed W bs 9 (.string s) ∧ Boxed W bq 3 (.int .i64 0)
noncomputable def leftOf (W : World) (bs : Nat) : Nat := match W.cell? ⟨bs, 0, none⟩ with | some (.string s) => s.size | _ => 0

set_option maxHeartbeats 4000000 in
set_option maxRecDepth 100000 in
theorem split_in (n l bp bs bq : Nat) (hps : bp ≠ bs) (hqs : bq ≠ bs) (s0 : ByteArray) (hs0 : s0.size ≤ 1099511627776) (J Jx : List ByteArray → World → Prop) (hJ : StepT (· = bs) J) (hJx : StepT (· = bs) Jx)
    (hY : ∀ pre x W1, J pre W1 → (pre ++ [x]) <+: partsL s0 → YieldAt Fence.wide (n - 1) Tryd.prog l #[.string x] W1 fun e W' =>
      (e = .returned (.bool true) ∧ J (pre ++ [x]) W' ∧ (∀ k, (k = bp ∨ k = bs ∨ k = bq) → W'.heap[k]? = W1.heap[k]?)) ∨ (e = .returned (.bool false) ∧ Jx (pre ++ [x]) W'))
    (W : World) (hc : Caught W bp bs bq s0) (h0 : J [] W) :
    CallsIn Fence.wide n Tryd.prog 65 #[.func (.yield l) #[] #[], .pointer (some ⟨bp, 0, none⟩), .pointer (some ⟨bs, 0, none⟩), .pointer (some ⟨bq, 0, none⟩)] W fun e W' => (∃ v, e = .returned v) ∧
      (J (partsL s0) W' ∨ (∃ pre, pre <+: partsL s0 ∧ Jx pre W')) := by
  refine callsIn_of_wp Tryd.func65 rfl trivial ?_ rfl
  simp only [Tryd.ntmps65, List.size_toArray, List.length_cons, List.length_nil, Nat.reduceAdd, Nat.reduceSub, Array.replicate_succ, Array.replicate_zero, List.push_toArray, List.append_toArray, List.nil_append, List.cons_append]
  have c1 := hc.1.cell
  have c2 := hc.2.1.cell
  have c3 := hc.2.2.cell
  gi_wp2
  gi_loopw [7] (fun _ wr => ∃ (pre : List ByteArray) (s : ByteArray), Caught wr bp bs bq s ∧ Hid (partsL s0 = pre ++ partsL s) ∧ s.size ≤ s0.size ∧ J pre wr) (fun _ wr => leftOf wr bs)
  case atStart => exact ⟨[], s0, hc, Lib.hid rfl, Nat.le_refl _, h0⟩
  case round =>
    obtain ⟨pre, s, hcs, HP, hle, hJs⟩ := hrel
    clear c1 c2 c3 hc h0
    have c1 := hcs.1.cell
    have c2 := hcs.2.1.cell
    have c3 := hcs.2.2.cell
    have f2 := hcs.2.1.frozen
    have hge := Lib.indexByte_ge s.data.toList 47
    have HI := Lib.hid (fun W => Tryd.strings_Index_one s 47 W)
    have hcase : Lib.indexByte s.data.toList 47 = -1 ∨ ∃ i : Nat, Lib.indexByte s.data.toList 47 = i := by
      rcases Int.lt_or_le (Lib.indexByte s.data.toList 47) 0 with h | h
      · exact .inl (by omega)
      · exact .inr ⟨(Lib.indexByte s.data.toList 47).toNat, by omega⟩
    rcases hcase with hi | ⟨i, hi⟩
    · have HS := Lib.hid (partsL_none hi)
      rw [hi] at HI
      clear hi hge
      obtain ⟨fn, tmps, assign, body, hy, hR⟩ := hY pre s wr hJs (by rw [HP.out, HS.out]; exact List.prefix_refl _)
      gi_wp2
      refine ⟨trivial, (fun h => by cases h), ?_⟩
      refine (callsIn_wide.2 (HI.out _)).mono ?_
      rintro e w1 ⟨rfl, hw1⟩
      rw [hw1]
      gi_wp2
      refine ⟨(fun h => by cases h), hR.mono ?_⟩
      rintro e W' (⟨rfl, hJ', hk⟩ | ⟨rfl, hJx'⟩)
      · gi_wp2
        go_end0
        exact ⟨⟨_, rfl⟩, .inl (by rw [HP.out, HS.out]; exact hJ')⟩
      · gi_wp2
        go_end0
        exact ⟨⟨_, rfl⟩, .inr ⟨pre ++ [s], by rw [HP.out, HS.out]; exact List.prefix_refl _, hJx'⟩⟩
    · have HS := Lib.hid (partsL_some hi)
      have hil := index_lt hi
      rw [hi] at HI
      have hi2 : i ≤ s.size := by omega
      have hi3 : i + 1 ≤ s.size := by omega
      have hnn : ((i : Int) < 0) = False := by simp
      clear hi hge
      obtain ⟨fn, tmps, assign, body, hy, hR⟩ := hY pre (s.extract 0 i) wr hJs (by rw [HP.out, HS.out]; exact ⟨partsL (s.extract (i + 1) s.size), by simp⟩)
      gi_wp2
      refine ⟨trivial, (fun h => by cases h), ?_⟩
      refine (callsIn_wide.2 (HI.out _)).mono ?_
      rintro e w1 ⟨rfl, hw1⟩
      rw [hw1]
      gi_wp2
      refine ⟨(fun h => by cases h), hR.mono ?_⟩
      rintro e W' (⟨rfl, hJ', hk⟩ | ⟨rfl, hJx'⟩)
      · have b1 : Boxed W' bp 9 (.string ⟨#[47]⟩) := (hk bp (.inl rfl)).trans hcs.1
        have b2 : Boxed W' bs 9 (.string s) := (hk bs (.inr (.inl rfl))).trans hcs.2.1
        have b3 : Boxed W' bq 3 (.int .i64 0) := (hk bq (.inr (.inr rfl))).trans hcs.2.2
        clear c1 c2 c3 f2
        have c1 := b1.cell
        have c2 := b2.cell
        have c3 := b3.cell
        have f2 := b2.frozen
        gi_wp2
        go_roundw
        case rel => exact ⟨pre ++ [s.extract 0 i], s.extract (i + 1) s.size, ⟨b1.other hps _, b2.set _, b3.other hqs _⟩, Lib.hid (by rw [HP.out, HS.out]; simp), by rw [ByteArray.size_extract]; omega, hJ _ _ _ _ hJ' (grownBy_setCell' _ _ _) (fun r e => by cases e; rfl)⟩
        case measure =>
          have m1 : (W'.setCell ⟨bs, 0, none⟩ (.string (s.extract (i + 1) s.size))).cell? ⟨bs, 0, none⟩ = some (.string (s.extract (i + 1) s.size)) := (b2.set _).cell
          have m2 : wr.cell? ⟨bs, 0, none⟩ = some (.string s) := hcs.2.1.cell
          simp only [leftOf, m1, m2, ByteArray.size_extract]
          omega
      · gi_wp2
        refine bodyPost_ret (results_none rfl _ _ _) rfl ?_
        exact ⟨⟨_, rfl⟩, .inr ⟨pre ++ [s.extract 0 i], by rw [HP.out, HS.out]; exact ⟨partsL (s.extract (i + 1) s.size), by simp⟩, hJx'⟩⟩
/-- strings.SplitSeq(s, "/"): three boxes, and the function over them. -/
def splitWorld (w : World) (s : ByteArray) : World := ((w.alloc (.cells #[.string s] 9)).alloc (.cells #[.string ⟨#[47]⟩] 9)).alloc (.cells #[.int .i64 0] 3)
def splitLb (n : Nat) : Array Value := #[.pointer (some ⟨n + 1, 0, none⟩), .pointer (some ⟨n, 0, none⟩), .pointer (some ⟨n + 2, 0, none⟩)]
theorem splitWorld_size (w : World) (s : ByteArray) : (splitWorld w s).heap.size = w.heap.size + 3 := by simp [splitWorld]
theorem split_caught (w : World) (s : ByteArray) : Caught (splitWorld w s) (w.heap.size + 1) w.heap.size (w.heap.size + 2) s := by
  unfold splitWorld
  have h1 := Boxed.new w 9 (.string s)
  have h2 := Boxed.new (w.alloc (.cells #[.string s] 9)) 9 (.string ⟨#[47]⟩)
  have h3 := Boxed.new ((w.alloc (.cells #[.string s] 9)).alloc (.cells #[.string ⟨#[47]⟩] 9)) 3 (.int .i64 0)
  simp only [World.size_alloc] at h2 h3
  exact ⟨h2.alloc _, (h1.alloc _).alloc _, h3⟩
theorem splitSeq_calls (s : ByteArray) (w : World) :
    Calls Tryd.prog 33 #[.string s, .string ⟨#[47]⟩] w fun e w' => e = .returned (.func (.func 65) #[] (splitLb w.heap.size)) ∧ w' = splitWorld w s := by
  go_enter Tryd.func33, Tryd.ntmps33
  go_wp2
  go_ret
  exact ⟨rfl, rfl⟩
/-- What the range over it gives. -/
theorem split_gives (n : Nat) (w w0 : World) (s : ByteArray) (k : Nat) (hc : Caught w (k + 1) k (k + 2) s) (hs : s.size ≤ 1099511627776) :
    GivesT Tryd.prog n 65 (splitLb k) (fun x : ByteArray => #[Value.string x]) (fun b => b = k + 1 ∨ b = k ∨ b = k + 2) (partsL s) w := by
  intro l J Jx W hW hJ hJx hY h0
  exact split_in n l (k + 1) k (k + 2) (by omega) (by omega) s hs J Jx (fun s X Y row h1 h2 h3 => hJ s X Y row h1 h2 (fun r e => .inr (.inl (h3 r e)))) (fun s X Y row h1 h2 h3 => hJx s X Y row h1 h2 (fun r e => .inr (.inl (h3 r e)))) hY W
    ⟨(hW _ (.inl rfl)).trans hc.1, (hW _ (.inr (.inl rfl))).trans hc.2.1, (hW _ (.inr (.inr rfl))).trans hc.2.2⟩ h0
end Go.Proofs.YtdhchmonmbppmaaDoor.G
