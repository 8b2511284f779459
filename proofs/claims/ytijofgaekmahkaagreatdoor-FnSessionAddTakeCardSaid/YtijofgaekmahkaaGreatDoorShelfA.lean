/- The contracts of the library's functions are in one text here. Conditions: none. -/
import Derived.Test.YtijofgaekmahkaaGreatDoorShelf
