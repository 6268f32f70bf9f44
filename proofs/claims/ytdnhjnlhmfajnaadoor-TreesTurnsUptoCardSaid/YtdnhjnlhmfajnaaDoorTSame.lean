/- trees.Same. -/
import Derived.Test.YtdnhjnlhmfajnaaDoorTRSame
namespace Go.Proofs.YtdnhjnlhmfajnaaDoor.G
open Go.RowKit Go.Lib Go.Proofs.YtdnhjnlhmfajnaaDoorW.PrintWords Go.Proofs.YtdnhjnlhmfajnaaDoorW.PrintLast
set_option linter.unusedVariables false

open Classical in
noncomputable def sameLT (a b : List File) : Bool := decide (a = b)
theorem sameLT_self (a : List File) : sameLT a a = true := by simp [sameLT]
theorem sameLT_ne {a b : List File} (h : a ≠ b) : sameLT a b = false := by simp [sameLT, h]

set_option maxHeartbeats 8000000 in
set_option maxRecDepth 100000 in
theorem equalFunc_calls (af bf : List File) (A : Option Addr) (c : Nat) (B : Option Addr) (d : Nat) (w : World) (hr : FileK.C w A af.length af) (hc : af.length ≤ c) (hs : FileK.C w B bf.length bf) (hd : bf.length ≤ d) (hal : af.length ≤ 1099511627776)
    (HI : Hid (∀ x ∈ af, ∀ (y : File) A c B d W, FileK.C W A x.files.length x.files → x.files.length ≤ c → FileK.C W B y.files.length y.files → y.files.length ≤ d → Calls Tryd.prog 18 #[fileV x A c, fileV y B d] W fun e w' => e = .returned (.bool (sameT x y)) ∧ Below W.heap.size W w')) :
    Calls Tryd.prog 47 #[.slice A af.length c, .slice B bf.length d, .func (.func 18) #[] #[]] w fun e w' => e = .returned (.bool (sameLT af bf)) ∧ Below w.heap.size w w' := by
  have HR := Lib.hid hr
  have HS := Lib.hid hs
  clear hr hs
  by_cases hl : af.length = bf.length
  · have hz1 : ((af.length : Int) != (bf.length : Int)) = false := by simp [hl]
    have HL := Lib.hid hl
    clear hl
    go_enter Tryd.func47, Tryd.ntmps47
    go_wp2_with fail
    go_loopw [17] (fun i wr => ∃ k : Nat, k ≤ af.length ∧ i = .int .i64 k ∧ Below w.heap.size w wr ∧ Hid (∀ j (h1 : j < af.length) (h2 : j < bf.length), j < k → af[j] = bf[j])) (fun i _ => af.length - (RowKit.intOf i).toNat)
    case atStart => exact ⟨0, by omega, rfl, Below.refl _ _, Lib.hid (fun j _ _ h => by omega)⟩
    case round =>
      obtain ⟨k, hk, rfl, hb, HE⟩ := hrel
      by_cases hlt : k < af.length
      · have hlt2 : k < bf.length := by have := HL.out; omega
        obtain ⟨aad, A', c', rfl, p1, p2, p3, p4, hc', hC'⟩ := file_at HR.out k hlt
        obtain ⟨bad, B', d', rfl, q1, q2, q3, q4, hd', hD'⟩ := file_at HS.out k hlt2
        have mv : ∀ {p : Addr} {v : Value}, w.cell? p = some v → wr.cell? p = some v := fun h => (hb.cell (World.block_lt_of_cell? w _ h)).trans h
        have p1' := mv p1
        have p2' := mv p2
        have p3' := mv p3
        have p4' := mv p4
        have q1' := mv q1
        have q2' := mv q2
        have q3' := mv q3
        have q4' := mv q4
        have HC := Lib.hid (fun W (h : Below wr.heap.size wr W) => (show Calls Tryd.prog 18 #[.agg #[.string af[k].name, .int .u8 af[k].kind, .string af[k].data, .slice A' af[k].files.length c'], .agg #[.string bf[k].name, .int .u8 bf[k].kind, .string bf[k].data, .slice B' bf[k].files.length d']] W _ from HI.out af[k] (List.getElem_mem hlt) bf[k] A' c' B' d' W (Kd.C_below hC' (hb.trans (h.mono hb.size))) hc' (Kd.C_below hD' (hb.trans (h.mono hb.size))) hd').mono (R' := fun e w' => e = .returned (.bool (sameT af[k] bf[k])) ∧ Below wr.heap.size wr w') fun e w' ⟨he, hb2⟩ => ⟨he, h.trans (hb2.mono h.size)⟩)
        have HB : Hid (∀ r, sameT af[k] bf[k] = r → (r = true → ∀ j (h1 : j < af.length) (h2 : j < bf.length), j < k + 1 → af[j] = bf[j]) ∧ (r = false → af ≠ bf)) := Lib.hid (by
          intro r hr
          refine ⟨fun e j h1 h2 h3 => ?_, fun e he => ?_⟩
          · by_cases hj : j < k
            · exact HE.out j h1 h2 hj
            · obtain rfl : j = k := by omega
              subst e
              exact sameT_eq hr
          · subst he
            rw [sameT_self] at hr
            subst hr
            cases e)
        clear p1 p2 p3 p4 q1 q2 q3 q4 mv hC' hD' HE
        generalize sameT af[k] bf[k] = sb at *
        generalize af[k] = x at *
        generalize bf[k] = y at *
        have g1 : (k : Int) < (af.length : Int) := by omega
        have g2 : (k : Int) < (bf.length : Int) := by omega
        have mv2 : ∀ {p : Addr} {v : Value}, wr.cell? p = some v → (wr.alloc (.cells #[.string x.name, .int .u8 x.kind, .string x.data, .slice A' x.files.length c'] 25)).cell? p = some v := fun h => ((below_alloc (Below.refl wr.heap.size wr) _).cell (World.block_lt_of_cell? wr _ h)).trans h
        have r1 := mv2 q1'
        have r2 := mv2 q2'
        have r3 := mv2 q3'
        have r4 := mv2 q4'
        clear mv2 q1' q2' q3' q4' HI
        go_wp2_with fail
        refine (HC.out _ (((Below.refl _ _).alloc (Nat.le_refl _) _).alloc (by simp) _)).mono ?_
        rintro e w1 ⟨rfl, hb1⟩
        have hb2 := bstep hb hb.size hb1
        clear r1 r2 r3 r4 p1' p2' p3' p4'
        cases sb
        · go_wp2_with fail
          go_ret
          exact ⟨by rw [sameLT_ne ((HB.out _ rfl).2 rfl)]; rfl, hb2⟩
        · go_wp2_with fail
          go_roundw
          case rel => exact ⟨k + 1, by omega, by go_num, hb2, Lib.hid ((HB.out _ rfl).1 rfl)⟩
          case measure => simp [RowKit.intOf]; omega
      · obtain rfl : k = af.length := by omega
        have he : af = bf := List.ext_getElem HL.out (fun j h1 h2 => HE.out j h1 h2 h1)
        clear hlt HE
        go_wp2_with fail
        go_ret
        exact ⟨by rw [he, sameLT_self]; rfl, hb⟩
  · have h5 : ((af.length : Int) != (bf.length : Int)) = true := by rw [bne_iff_ne]; omega
    rw [sameLT_ne (fun h => hl (by rw [h]))]
    go_enter Tryd.func47, Tryd.ntmps47
    go_wp2_with fail
    go_ret
    exact ⟨rfl, Below.refl _ _⟩

set_option maxHeartbeats 8000000 in
set_option maxRecDepth 100000 in
theorem same_file : ∀ (n : Nat) (a b : File) (A : Option Addr) (c : Nat) (B : Option Addr) (d : Nat) (w : World), a.bulk ≤ n → a.bulk ≤ 1099511627776 → FileK.C w A a.files.length a.files → a.files.length ≤ c → FileK.C w B b.files.length b.files → b.files.length ≤ d →
    Calls Tryd.prog 18 #[fileV a A c, fileV b B d] w fun e w' => e = .returned (.bool (sameT a b)) ∧ Below w.heap.size w w' := by
  intro n
  induction n with
  | zero => intro a b A c B d w h; have := bulk_eq a; omega
  | succ n ih =>
  intro a b A c B d w hn hbk hr hc hs hd
  have HI : Hid (∀ x ∈ a.files, ∀ (y : File) A c B d W, FileK.C W A x.files.length x.files → x.files.length ≤ c → FileK.C W B y.files.length y.files → y.files.length ≤ d → Calls Tryd.prog 18 #[fileV x A c, fileV y B d] W fun e w' => e = .returned (.bool (sameT x y)) ∧ Below W.heap.size W w') :=
    Lib.hid (fun x hx y A c B d W => by have := bulk_child hx; exact ih x y A c B d W (by omega) (by omega))
  have hlen := bulkL_len a.files
  have hbe := bulk_eq a
  have HE := Lib.hid (fun W h => equalFunc_calls a.files b.files A c B d W (Kd.C_below hr h) hc (Kd.C_below hs h) hd (by omega) HI)
  clear ih HI hr hs hbe hlen hn hbk
  obtain ⟨an, ak, ad, af⟩ := a
  obtain ⟨bn, bk, bd, bf⟩ := b
  change af.length ≤ c at hc
  change bf.length ≤ d at hd
  change Hid (∀ W, Below w.heap.size w W → Calls Tryd.prog 47 #[.slice A af.length c, .slice B bf.length d, .func (.func 18) #[] #[]] W fun e w' => e = .returned (.bool (sameLT af bf)) ∧ Below W.heap.size W w') at HE
  by_cases hne : an = bn ∧ ak = bk ∧ ad = bd
  · obtain ⟨rfl, rfl, rfl⟩ := hne
    have hS : sameT ⟨an, ak, ad, af⟩ ⟨an, ak, ad, bf⟩ = sameLT af bf := by
      by_cases h : af = bf
      · rw [h, sameT_self, sameLT_self]
      · rw [sameT_ne (fun e => h (by injection e)), sameLT_ne h]
    rw [hS]
    generalize sameLT af bf = sb at *
    clear hS
    go_enter Tryd.func18, Tryd.ntmps18
    unfold fileV
    go_wp2_with fail
    refine (HE.out _ (((Below.refl _ _).alloc (Nat.le_refl _) _).alloc (by simp) _)).mono ?_
    rintro e w1 ⟨rfl, hb1⟩
    have hb2 : Below w.heap.size w w1 := bstep (((Below.refl _ _).alloc (Nat.le_refl _) _).alloc (by simp) _) (by simp; omega) hb1
    go_wp2_with fail
    go_ret
    exact ⟨rfl, hb2⟩
  · have hf : sameT ⟨an, ak, ad, af⟩ ⟨bn, bk, bd, bf⟩ = false := sameT_ne (fun h => hne (by injection h with h1 h2 h3 h4; exact ⟨h1, h2, h3⟩))
    rw [hf]
    clear HE hf
    go_enter Tryd.func18, Tryd.ntmps18
    unfold fileV
    by_cases h1 : an = bn
    · subst h1
      by_cases h2 : ak = bk
      · subst h2
        have h3 : ¬ ad = bd := fun h => hne ⟨rfl, rfl, h⟩
        have h5 : (ad.toList == bd.toList) = false := by rw [beq_eq_false_iff_ne]; exact fun h => h3 (toList_inj.1 h)
        go_wp2_with fail
        go_ret
        exact ⟨rfl, ((Below.refl _ _).alloc (Nat.le_refl _) _).alloc (by simp) _⟩
      · have h5 : (ak == bk) = false := beq_eq_false_iff_ne.2 h2
        go_wp2_with fail
        go_ret
        exact ⟨rfl, ((Below.refl _ _).alloc (Nat.le_refl _) _).alloc (by simp) _⟩
    · have h5 : (an.toList == bn.toList) = false := by rw [beq_eq_false_iff_ne]; exact fun h => h1 (toList_inj.1 h)
      go_wp2_with fail
      go_ret
      exact ⟨rfl, ((Below.refl _ _).alloc (Nat.le_refl _) _).alloc (by simp) _⟩
end Go.Proofs.YtdnhjnlhmfajnaaDoor.G
