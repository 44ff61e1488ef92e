/- 'append(s, xs...)' onto a row of the call's own, the source nil, empty or not (no program in sight). -/
import Derived.Test.YtpjfidmapnnbkaaOwn
namespace Go.Proofs.Ytpjfidmapnnbkaa
open Go.RowKit

/-- Nothing is appended: the nil slice. -/
theorem run_cat_nil {P : Program} (w : World) (base : Nat) (t ty e : TypeId) (i : TypeInfo) (size : Nat) (ht : P.underlying t = some (.slice e)) (hi : P.info? e = some i)
    (v : Value) (n : Nat) (xs : List Value) (hown : w.ownsRow base e size v n xs) (c : Nat) : (Builtin.append_ #[t, t] ty #[v, .slice none 0 c]).run P w = .ok v w := by
  obtain ⟨_, ⟨rfl, rfl⟩ | ⟨g, cap, cur, rfl, _, _, hcap, _⟩⟩ := hown
  · simp [Builtin.append_, run_underlying ht, sizeOf, typeInfo, hi, Builtin.lenOf, Builtin.firstCells]
  · simp [Builtin.append_, run_underlying ht, sizeOf, typeInfo, hi, Builtin.lenOf, Builtin.firstCells, hcap, storeCells]

theorem addr_add (b o j : Nat) : ((⟨b, o, none⟩ : Addr).add j) = ⟨b, o + j, none⟩ := by unfold Addr.add; by_cases h : j = 0 <;> simp [h]

theorem wp_cat {P : Program} {o : Oper} {a : Act} {w : World} {K : Act → World → Prop} {Q : Exit → Act → World → Prop} (s x : Operand) (t : TypeId)
    (ho : o.op = .call { callee := .builtin .append, args := #[s, x], argTypes := #[t, t] })
    (e : TypeId) (z : Value) (k bytes : Nat) (ht : P.underlying t = some (.slice e)) (hinfo : (P.info? e).map (fun i => (i.zero, i.size, i.bytes)) = some (some z, k, bytes)) (hzs : z.cells.size = k) (hsz : 0 < k) (hby : bytes ≤ 1000)
    (B : Nat) (v : Value) (n : Nat) (xs : List Value) (hs : a.eval s = v) (hown : Hid (w.ownsRow B e k v n xs))
    (S : Nat) (A : Option Addr) (m c : Nat) (cs : List Value) (hx : a.eval x = .slice A m c) (hr : Hid (SlcR w S k A m cs)) (h1 : ∀ u ∈ cs, u.oneCell' = true)
    (hn : n + m ≤ 1000000000) (hbase : B ≤ w.heap.size)
    (h : ∀ v' w', Hid (w'.ownsRow B e k v' (n + m) (xs ++ cs)) → w.grownBy w' v.ownBlock → Below B w w' → (v'.ownBlock = v.ownBlock ∨ v'.ownBlock = some w.heap.size) → K (a.put o.dst v') w') : o.wp P a w K Q := by
  obtain ⟨i, hi, hz, hs', hb⟩ := info_parts hinfo
  have hbytes : (n + m) * bytes ≤ 140737488355328 := by have := Nat.mul_le_mul hn hby; omega
  have fin : ∀ v' w', (Builtin.append_ #[t, t] o.type #[v, .slice A m c]).run P w = .ok v' w' → w'.ownsRow B e k v' (n + m) (xs ++ cs) → w.grownBy w' v.ownBlock → (v'.ownBlock = v.ownBlock ∨ v'.ownBlock = some w.heap.size) → o.wp P a w K Q := by
    intro v' w' hrun h2 h3 h4
    unfold Oper.wp execOp
    simp only [ho, resolve, invoke, builtin, Sem.run_bind, Sem.run_pure, Result.andThen_ok, List.map_toArray, List.map_cons, List.map_nil, hs, hx, hrun]
    exact h v' w' h2 h3 ((Below.refl B w).grown h3 hbase (fun j hj => (hown.out.lt j hj).1)) h4
  rcases Nat.eq_zero_or_pos m with h0 | h0
  · subst h0
    have hc0 : cs = [] := List.eq_nil_of_length_eq_zero (by simpa using hr.out.len)
    subst hc0
    rcases A with _ | ad
    · exact fin v w (run_cat_nil w B t o.type e i k ht hi v n xs hown.out c) (by simpa using hown.out) (World.grownBy.refl w _) (.inl rfl)
    · obtain ⟨v', w', hrun, h2, h3, _, h5⟩ := run_append_own_at (P := P) w B t o.type e i z k bytes ht hi hz hs' hb hzs hsz v n xs hown.out ad 0 c [] (by simp) (by simp) (by simp) (by unfold maxLen; omega) hbytes hbase
      exact fin v' w' hrun h2 h3 h5
  · obtain ⟨b, off, rfl, hlt, hcell⟩ := hr.out.at_ h0
    obtain ⟨v', w', hrun, h2, h3, _, h5⟩ := run_append_own_at (P := P) w B t o.type e i z k bytes ht hi hz hs' hb hzs hsz v n xs hown.out ⟨b, off, none⟩ m c cs hr.out.len (fun j u hu => by rw [addr_add]; exact hcell j u hu) h1 (by unfold maxLen; omega) hbytes hbase
    exact fin v' w' hrun h2 h3 h5

theorem wpList_cat {P : Program} {ops : Array Oper} {rest : List Oper} {o : Oper} {a : Act} {w : World} {Q : Exit → Act → World → Prop} (hgd : o.guard = none) (s x : Operand) (t : TypeId)
    (ho : o.op = .call { callee := .builtin .append, args := #[s, x], argTypes := #[t, t] })
    (e : TypeId) (z : Value) (k bytes : Nat) (ht : P.underlying t = some (.slice e)) (hinfo : (P.info? e).map (fun i => (i.zero, i.size, i.bytes)) = some (some z, k, bytes)) (hzs : z.cells.size = k) (hsz : 0 < k) (hby : bytes ≤ 1000)
    (B : Nat) (v : Value) (n : Nat) (xs : List Value) (hs : a.eval s = v) (hown : Hid (w.ownsRow B e k v n xs))
    (S : Nat) (A : Option Addr) (m c : Nat) (cs : List Value) (hx : a.eval x = .slice A m c) (hr : Hid (SlcR w S k A m cs)) (h1 : ∀ u ∈ cs, u.oneCell' = true)
    (hn : n + m ≤ 1000000000) (hbase : B ≤ w.heap.size)
    (h : ∀ v' w', Hid (w'.ownsRow B e k v' (n + m) (xs ++ cs)) → w.grownBy w' v.ownBlock → Below B w w' → (v'.ownBlock = v.ownBlock ∨ v'.ownBlock = some w.heap.size) → wpList P ops Q rest (a.put o.dst v') w') : wpList P ops Q (o :: rest) a w :=
  wpList_plain hgd fun _ hK => wp_cat s x t ho e z k bytes ht hinfo hzs hsz hby B v n xs hs hown S A m c cs hx hr h1 hn hbase fun v' w' h2 h3 h4 h5 => hK _ _ (h v' w' h2 h3 h4 h5)

/-- A slice made by the text itself, of no element. -/
theorem owns_empty {w : World} {B g : Nat} {e : TypeId} {k : Nat} (h : Lies w g e []) (hB : B ≤ g) : w.ownsRow B e k (.slice (some ⟨g, 0, none⟩) 0 0) 0 [] := h.own hB (by simp) (by unfold maxLen; omega)
theorem ints_one {l : List Int} : ∀ u ∈ (l.map (Value.int .i64)), u.oneCell' = true := by
  intro u hu; obtain ⟨n, _, rfl⟩ := List.mem_map.1 hu; rfl
end Go.Proofs.Ytpjfidmapnnbkaa
